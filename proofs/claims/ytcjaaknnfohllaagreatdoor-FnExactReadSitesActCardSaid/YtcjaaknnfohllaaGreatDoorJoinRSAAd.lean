/- Both SitesActOk compute one plain function; to, sz, eq of SitesAct. -/
import Derived.Test.YtcjaaknnfohllaaGreatDoorJoinRSAAb
import Derived.Test.YtcjaaknnfohllaaGreatDoorJoinRSAAc
import Derived.Test.YtcjaaknnfohllaaGreatDoorJoinRSAAa
namespace Go.Proofs.YtcjaaknnfohllaaGreatDoor
open Go.RowKit

def zeroB (x : Act) : Bool := decide (x.k = 0) && decide (x.a = 0) && decide (x.r.size = 0) && decide (x.l.size = 0) && decide (x.args.length = 0) && decide (x.input.length = 0) && decide (x.keep.length = 0)

/-- What SitesActOk says. -/
def sitesB (kind at_ : Int) (x : Act) : Bool :=
  if kind = 1 then decide (at_ = 0) && actB x
  else if kind = 3 ∨ kind = 4 ∨ kind = 5 then inB at_ 0 11 && zeroB x
  else if kind = 2 ∨ kind = 6 ∨ kind = 7 then decide (at_ = 0) && zeroB x
  else false

def SActR (w : World) (lo hi : Nat) (v : Value) (kind at_ : Int) (x : Act) : Prop :=
  ∃ A c B d C e, v = .agg #[.int .i64 kind, .int .i64 at_, .int .i64 x.k, .int .i64 x.a, .string x.r, .string x.l, .slice A x.args.length c, .slice B x.input.length d, .slice C x.keep.length e] ∧
    StrR w lo hi A x.args.length x.args ∧ StrR w lo hi B x.input.length x.input ∧ IntR w lo hi C x.keep.length x.keep

theorem SActR.below {w w' : World} {lo hi B : Nat} {v : Value} {kind at_ : Int} {x : Act} (h : SActR w lo hi v kind at_ x) (hb : Below B w w') (hB : hi ≤ B) : SActR w' lo hi v kind at_ x := by
  obtain ⟨A, c, B', d, C, e, hv, h1, h2, h3⟩ := h
  exact ⟨A, c, B', d, C, e, hv, h1.below hb hB, h2.below hb hB, h3.below hb hB⟩

set_option maxHeartbeats 4000000 in
set_option maxRecDepth 100000 in
theorem l33Zero_any (x : Act) (v : Value) (lo hi : Nat) (w : World) (hx : ActR w lo hi v x) (hs : ActSmall x) :
    Calls Tryz.prog 79 #[v] w fun e w' => e = .returned (.bool (zeroB x)) ∧ Below w.heap.size w w' := by
  obtain ⟨k, a, r, l, xargs, xin, xkeep⟩ := x
  obtain ⟨A, c, B, d, C, e, rfl, hA, hB, hC⟩ := hx
  obtain ⟨hs1, hs2, hs3, hs4, hs5, hs6, hs7⟩ := hs
  dsimp only at *
  clear hA hB hC hs6 hs7
  have HD := Lib.hid (fun o => (Below.refl w.heap.size w).alloc (Nat.le_refl _) o)
  have HD2 := Lib.hid (fun o o' => ((Below.refl w.heap.size w).alloc (Nat.le_refl _) o).alloc (by simp) o')
  have hc : (k ≠ 0) ∨ (k = 0 ∧ a ≠ 0) ∨ (k = 0 ∧ a = 0 ∧ r.size ≠ 0) ∨ (k = 0 ∧ a = 0 ∧ r.size = 0 ∧ l.size ≠ 0) ∨ (k = 0 ∧ a = 0 ∧ r.size = 0 ∧ l.size = 0 ∧ xargs.length ≠ 0) ∨
      (k = 0 ∧ a = 0 ∧ r.size = 0 ∧ l.size = 0 ∧ xargs.length = 0 ∧ xin.length ≠ 0) ∨ (k = 0 ∧ a = 0 ∧ r.size = 0 ∧ l.size = 0 ∧ xargs.length = 0 ∧ xin.length = 0 ∧ xkeep.length ≠ 0) ∨
      (k = 0 ∧ a = 0 ∧ r.size = 0 ∧ l.size = 0 ∧ xargs.length = 0 ∧ xin.length = 0 ∧ xkeep.length = 0) := by omega
  rcases hc with q0 | ⟨q0, q1⟩ | ⟨q0, q1, q2⟩ | ⟨q0, q1, q2, q3⟩ | ⟨q0, q1, q2, q3, q4⟩ | ⟨q0, q1, q2, q3, q4, q5⟩ | ⟨q0, q1, q2, q3, q4, q5, q6⟩ | ⟨q0, q1, q2, q3, q4, q5, q6⟩
  · have ek : (k == 0) = false := by rw [beq_eq_false_iff_ne]; exact q0
    rw [show zeroB ⟨k, a, r, l, xargs, xin, xkeep⟩ = false by simp [zeroB, q0]]
    go_enter Tryz.func79, Tryz.ntmps79
    go_wp2
    go_ret
    exact ⟨by first | rfl | (simp; done), by first | exact HD.out _ | exact HD2.out _ _⟩
  all_goals
    subst q0
  · have ea : (a == 0) = false := by rw [beq_eq_false_iff_ne]; exact q1
    rw [show zeroB ⟨0, a, r, l, xargs, xin, xkeep⟩ = false by simp [zeroB, q1]]
    go_enter Tryz.func79, Tryz.ntmps79
    go_wp2
    go_ret
    exact ⟨by first | rfl | (simp; done), by first | exact HD.out _ | exact HD2.out _ _⟩
  all_goals
    subst q1
  · have er := isEmpty_false q2
    rw [show zeroB ⟨0, 0, r, l, xargs, xin, xkeep⟩ = false by simp [zeroB, q2]]
    go_enter Tryz.func79, Tryz.ntmps79
    go_wp2
    go_ret
    exact ⟨by first | rfl | (simp; done), by first | exact HD.out _ | exact HD2.out _ _⟩
  all_goals
    have er := isEmpty_true q2
    have Q2 := Lib.hid q2
    clear q2
  · have el := isEmpty_false q3
    rw [show zeroB ⟨0, 0, r, l, xargs, xin, xkeep⟩ = false by simp [zeroB, q3]]
    go_enter Tryz.func79, Tryz.ntmps79
    go_wp2
    go_ret
    exact ⟨by first | rfl | (simp; done), by first | exact HD.out _ | exact HD2.out _ _⟩
  all_goals
    have el := isEmpty_true q3
    have Q3 := Lib.hid q3
    clear q3
  · have z4 : ((xargs.length : Int) == 0) = false := by rw [beq_eq_false_iff_ne]; omega
    rw [show zeroB ⟨0, 0, r, l, xargs, xin, xkeep⟩ = false by simp [zeroB, q4]]
    go_enter Tryz.func79, Tryz.ntmps79
    go_wp2
    go_ret
    exact ⟨by first | rfl | (simp; done), by first | exact HD.out _ | exact HD2.out _ _⟩
  all_goals
    have z4 : ((xargs.length : Int) == 0) = true := by rw [beq_iff_eq]; omega
    have Q4 := Lib.hid q4
    clear q4
  · have z5 : ((xin.length : Int) == 0) = false := by rw [beq_eq_false_iff_ne]; omega
    rw [show zeroB ⟨0, 0, r, l, xargs, xin, xkeep⟩ = false by simp [zeroB, q5]]
    go_enter Tryz.func79, Tryz.ntmps79
    go_wp2
    go_ret
    exact ⟨by first | rfl | (simp; done), by first | exact HD.out _ | exact HD2.out _ _⟩
  all_goals
    have z5 : ((xin.length : Int) == 0) = true := by rw [beq_iff_eq]; omega
    have Q5 := Lib.hid q5
    clear q5
  · have z6 : ((xkeep.length : Int) == 0) = false := by rw [beq_eq_false_iff_ne]; omega
    rw [show zeroB ⟨0, 0, r, l, xargs, xin, xkeep⟩ = false by simp [zeroB, q6]]
    go_enter Tryz.func79, Tryz.ntmps79
    go_wp2
    go_ret
    exact ⟨by first | rfl | (simp; done), by first | exact HD.out _ | exact HD2.out _ _⟩
  · have z6 : ((xkeep.length : Int) == 0) = true := by rw [beq_iff_eq]; omega
    rw [show zeroB ⟨0, 0, r, l, xargs, xin, xkeep⟩ = true by simp [zeroB, Q2.out, Q3.out, Q4.out, Q5.out, q6]]
    have Q6 := Lib.hid q6
    clear q6
    go_enter Tryz.func79, Tryz.ntmps79
    go_wp2
    go_ret
    exact ⟨by first | rfl | (simp; done), by first | exact HD.out _ | exact HD2.out _ _⟩

set_option maxHeartbeats 4000000 in
set_option maxRecDepth 100000 in
theorem isZeroAct_any (x : Act) (v : Value) (lo hi : Nat) (w : World) (hx : ActR w lo hi v x) (hs : ActSmall x) :
    Calls Tryz.prog 86 #[v] w fun e w' => e = .returned (.bool (zeroB x)) ∧ Below w.heap.size w w' := by
  obtain ⟨k, a, r, l, xargs, xin, xkeep⟩ := x
  obtain ⟨A, c, B, d, C, e, rfl, hA, hB, hC⟩ := hx
  obtain ⟨hs1, hs2, hs3, hs4, hs5, hs6, hs7⟩ := hs
  dsimp only at *
  clear hA hB hC hs6 hs7
  have HD := Lib.hid (fun o => (Below.refl w.heap.size w).alloc (Nat.le_refl _) o)
  have HD2 := Lib.hid (fun o o' => ((Below.refl w.heap.size w).alloc (Nat.le_refl _) o).alloc (by simp) o')
  have hc : (k ≠ 0) ∨ (k = 0 ∧ a ≠ 0) ∨ (k = 0 ∧ a = 0 ∧ r.size ≠ 0) ∨ (k = 0 ∧ a = 0 ∧ r.size = 0 ∧ l.size ≠ 0) ∨ (k = 0 ∧ a = 0 ∧ r.size = 0 ∧ l.size = 0 ∧ xargs.length ≠ 0) ∨
      (k = 0 ∧ a = 0 ∧ r.size = 0 ∧ l.size = 0 ∧ xargs.length = 0 ∧ xin.length ≠ 0) ∨ (k = 0 ∧ a = 0 ∧ r.size = 0 ∧ l.size = 0 ∧ xargs.length = 0 ∧ xin.length = 0 ∧ xkeep.length ≠ 0) ∨
      (k = 0 ∧ a = 0 ∧ r.size = 0 ∧ l.size = 0 ∧ xargs.length = 0 ∧ xin.length = 0 ∧ xkeep.length = 0) := by omega
  rcases hc with q0 | ⟨q0, q1⟩ | ⟨q0, q1, q2⟩ | ⟨q0, q1, q2, q3⟩ | ⟨q0, q1, q2, q3, q4⟩ | ⟨q0, q1, q2, q3, q4, q5⟩ | ⟨q0, q1, q2, q3, q4, q5, q6⟩ | ⟨q0, q1, q2, q3, q4, q5, q6⟩
  · have ek : (k == 0) = false := by rw [beq_eq_false_iff_ne]; exact q0
    rw [show zeroB ⟨k, a, r, l, xargs, xin, xkeep⟩ = false by simp [zeroB, q0]]
    go_enter Tryz.func86, Tryz.ntmps86
    go_wp2
    go_ret
    exact ⟨by first | rfl | (simp; done), by first | exact HD.out _ | exact HD2.out _ _⟩
  all_goals
    subst q0
  · have ea : (a == 0) = false := by rw [beq_eq_false_iff_ne]; exact q1
    rw [show zeroB ⟨0, a, r, l, xargs, xin, xkeep⟩ = false by simp [zeroB, q1]]
    go_enter Tryz.func86, Tryz.ntmps86
    go_wp2
    go_ret
    exact ⟨by first | rfl | (simp; done), by first | exact HD.out _ | exact HD2.out _ _⟩
  all_goals
    subst q1
  · have er := isEmpty_false q2
    rw [show zeroB ⟨0, 0, r, l, xargs, xin, xkeep⟩ = false by simp [zeroB, q2]]
    go_enter Tryz.func86, Tryz.ntmps86
    go_wp2
    go_ret
    exact ⟨by first | rfl | (simp; done), by first | exact HD.out _ | exact HD2.out _ _⟩
  all_goals
    have er := isEmpty_true q2
    have Q2 := Lib.hid q2
    clear q2
  · have el := isEmpty_false q3
    rw [show zeroB ⟨0, 0, r, l, xargs, xin, xkeep⟩ = false by simp [zeroB, q3]]
    go_enter Tryz.func86, Tryz.ntmps86
    go_wp2
    go_ret
    exact ⟨by first | rfl | (simp; done), by first | exact HD.out _ | exact HD2.out _ _⟩
  all_goals
    have el := isEmpty_true q3
    have Q3 := Lib.hid q3
    clear q3
  · have z4 : ((xargs.length : Int) == 0) = false := by rw [beq_eq_false_iff_ne]; omega
    rw [show zeroB ⟨0, 0, r, l, xargs, xin, xkeep⟩ = false by simp [zeroB, q4]]
    go_enter Tryz.func86, Tryz.ntmps86
    go_wp2
    go_ret
    exact ⟨by first | rfl | (simp; done), by first | exact HD.out _ | exact HD2.out _ _⟩
  all_goals
    have z4 : ((xargs.length : Int) == 0) = true := by rw [beq_iff_eq]; omega
    have Q4 := Lib.hid q4
    clear q4
  · have z5 : ((xin.length : Int) == 0) = false := by rw [beq_eq_false_iff_ne]; omega
    rw [show zeroB ⟨0, 0, r, l, xargs, xin, xkeep⟩ = false by simp [zeroB, q5]]
    go_enter Tryz.func86, Tryz.ntmps86
    go_wp2
    go_ret
    exact ⟨by first | rfl | (simp; done), by first | exact HD.out _ | exact HD2.out _ _⟩
  all_goals
    have z5 : ((xin.length : Int) == 0) = true := by rw [beq_iff_eq]; omega
    have Q5 := Lib.hid q5
    clear q5
  · have z6 : ((xkeep.length : Int) == 0) = false := by rw [beq_eq_false_iff_ne]; omega
    rw [show zeroB ⟨0, 0, r, l, xargs, xin, xkeep⟩ = false by simp [zeroB, q6]]
    go_enter Tryz.func86, Tryz.ntmps86
    go_wp2
    go_ret
    exact ⟨by first | rfl | (simp; done), by first | exact HD.out _ | exact HD2.out _ _⟩
  · have z6 : ((xkeep.length : Int) == 0) = true := by rw [beq_iff_eq]; omega
    rw [show zeroB ⟨0, 0, r, l, xargs, xin, xkeep⟩ = true by simp [zeroB, Q2.out, Q3.out, Q4.out, Q5.out, q6]]
    have Q6 := Lib.hid q6
    clear q6
    go_enter Tryz.func86, Tryz.ntmps86
    go_wp2
    go_ret
    exact ⟨by first | rfl | (simp; done), by first | exact HD.out _ | exact HD2.out _ _⟩

set_option maxHeartbeats 4000000 in
set_option maxRecDepth 100000 in
theorem specSitesActOk_any (x : Act) (kind at_ : Int) (v : Value) (lo hi : Nat) (w : World) (hx : SActR w lo hi v kind at_ x) (hhi : hi ≤ w.heap.size) (hs : ActSmall x) :
    Calls Tryz.prog 27 #[v] w fun e w' => e = .returned (.bool (sitesB kind at_ x)) ∧ Below w.heap.size w w' := by
  obtain ⟨A, c, B, d, C, e, rfl, hA, hB, hC⟩ := hx
  have hbo := fun o => (Below.refl w.heap.size w).alloc (Nat.le_refl _) o
  have HX := Lib.hid (show ∀ o, ActR (w.alloc o) lo hi (.agg #[.int .i64 x.k, .int .i64 x.a, .string x.r, .string x.l, .slice A x.args.length c, .slice B x.input.length d, .slice C x.keep.length e]) x from fun o => ⟨A, c, B, d, C, e, rfl, hA.below (hbo o) hhi, hB.below (hbo o) hhi, hC.below (hbo o) hhi⟩)
  have HH := Lib.hid (fun o => Nat.le_trans hhi (hbo o).size)
  have HD := Lib.hid hbo
  have HDD := Lib.hid (fun o w1 (hb1 : Below (w.alloc o).heap.size (w.alloc o) w1) => (hbo o).trans (hb1.mono (hbo o).size))
  have HS := Lib.hid hs
  clear hA hB hC hbo hs
  by_cases k1 : kind = 1
  · subst k1
    rw [show sitesB 1 at_ x = (decide (at_ = 0) && actB x) from rfl]
    by_cases h0 : at_ = 0
    · have e0 : (at_ == 0) = true := by rw [beq_iff_eq]; exact h0
      rw [decide_eq_true h0, Bool.true_and]
      clear h0
      go_enter Tryz.func27, Tryz.ntmps27
      go_wp2_with (first | (go_at_call 77; refine (specSiteActOk_any x _ lo hi _ (HX.out _) (HH.out _) HS.out).mono ?_; rintro e1 w1 ⟨rfl, hb1⟩) | (go_at_call 79; refine (l33Zero_any x _ lo hi _ (HX.out _) HS.out).mono ?_; rintro e1 w1 ⟨rfl, hb1⟩) | (go_at_call 78; refine (l00In_any _ _ _ _).mono ?_; rintro e' w' ⟨rfl, rfl⟩))
      go_ret
      exact ⟨by first | rfl | (simp; done), by first | exact HD.out _ | exact HDD.out _ _ hb1⟩
    · have e0 : (at_ == 0) = false := by rw [beq_eq_false_iff_ne]; exact h0
      rw [decide_eq_false h0, Bool.false_and]
      clear h0
      go_enter Tryz.func27, Tryz.ntmps27
      go_wp2_with (first | (go_at_call 77; refine (specSiteActOk_any x _ lo hi _ (HX.out _) (HH.out _) HS.out).mono ?_; rintro e1 w1 ⟨rfl, hb1⟩) | (go_at_call 79; refine (l33Zero_any x _ lo hi _ (HX.out _) HS.out).mono ?_; rintro e1 w1 ⟨rfl, hb1⟩) | (go_at_call 78; refine (l00In_any _ _ _ _).mono ?_; rintro e' w' ⟨rfl, rfl⟩))
      go_ret
      exact ⟨by first | rfl | (simp; done), by first | exact HD.out _ | exact HDD.out _ _ hb1⟩
  have f1 : (kind == 1) = false := by rw [beq_eq_false_iff_ne]; exact k1
  by_cases k3 : kind = 3 ∨ kind = 4 ∨ kind = 5
  · rw [show sitesB kind at_ x = (inB at_ 0 11 && zeroB x) by simp [sitesB, k1, k3]]
    rcases k3 with k3 | k3 | k3
    all_goals
      subst k3
      cases hin : inB at_ 0 11
      all_goals
        simp only [Bool.true_and, Bool.false_and]
        go_enter Tryz.func27, Tryz.ntmps27
        go_wp2_with (first | (go_at_call 77; refine (specSiteActOk_any x _ lo hi _ (HX.out _) (HH.out _) HS.out).mono ?_; rintro e1 w1 ⟨rfl, hb1⟩) | (go_at_call 79; refine (l33Zero_any x _ lo hi _ (HX.out _) HS.out).mono ?_; rintro e1 w1 ⟨rfl, hb1⟩) | (go_at_call 78; refine (l00In_any _ _ _ _).mono ?_; rintro e' w' ⟨rfl, rfl⟩))
        go_ret
        exact ⟨by first | rfl | (simp; done), by first | exact HD.out _ | exact HDD.out _ _ hb1⟩
  have f3 : (kind == 3) = false := by rw [beq_eq_false_iff_ne]; omega
  have f4 : (kind == 4) = false := by rw [beq_eq_false_iff_ne]; omega
  have f5 : (kind == 5) = false := by rw [beq_eq_false_iff_ne]; omega
  by_cases k2 : kind = 2 ∨ kind = 6 ∨ kind = 7
  · rw [show sitesB kind at_ x = (decide (at_ = 0) && zeroB x) by simp [sitesB, k1, k3, k2]]
    have hat : (at_ = 0 ∧ (at_ == 0) = true) ∨ (at_ ≠ 0 ∧ (at_ == 0) = false) := by
      by_cases h : at_ = 0
      · exact .inl ⟨h, by rw [beq_iff_eq]; exact h⟩
      · exact .inr ⟨h, by rw [beq_eq_false_iff_ne]; exact h⟩
    clear k3
    rcases k2 with k2 | k2 | k2
    all_goals
      subst k2
      rcases hat with ⟨h0, e0⟩ | ⟨h0, e0⟩
      all_goals
        first | rw [decide_eq_true h0, Bool.true_and] | rw [decide_eq_false h0, Bool.false_and]
        clear h0
        go_enter Tryz.func27, Tryz.ntmps27
        go_wp2_with (first | (go_at_call 77; refine (specSiteActOk_any x _ lo hi _ (HX.out _) (HH.out _) HS.out).mono ?_; rintro e1 w1 ⟨rfl, hb1⟩) | (go_at_call 79; refine (l33Zero_any x _ lo hi _ (HX.out _) HS.out).mono ?_; rintro e1 w1 ⟨rfl, hb1⟩) | (go_at_call 78; refine (l00In_any _ _ _ _).mono ?_; rintro e' w' ⟨rfl, rfl⟩))
        go_ret
        exact ⟨by first | rfl | (simp; done), by first | exact HD.out _ | exact HDD.out _ _ hb1⟩
  · have f2 : (kind == 2) = false := by rw [beq_eq_false_iff_ne]; omega
    have f6 : (kind == 6) = false := by rw [beq_eq_false_iff_ne]; omega
    have f7 : (kind == 7) = false := by rw [beq_eq_false_iff_ne]; omega
    rw [show sitesB kind at_ x = false by simp [sitesB, k1, k3, k2]]
    clear k1 k2 k3
    go_enter Tryz.func27, Tryz.ntmps27
    go_wp2_with (first | (go_at_call 77; refine (specSiteActOk_any x _ lo hi _ (HX.out _) (HH.out _) HS.out).mono ?_; rintro e1 w1 ⟨rfl, hb1⟩) | (go_at_call 79; refine (l33Zero_any x _ lo hi _ (HX.out _) HS.out).mono ?_; rintro e1 w1 ⟨rfl, hb1⟩) | (go_at_call 78; refine (l00In_any _ _ _ _).mono ?_; rintro e' w' ⟨rfl, rfl⟩))
    go_ret
    exact ⟨by first | rfl | (simp; done), by first | exact HD.out _ | exact HDD.out _ _ hb1⟩

set_option maxHeartbeats 4000000 in
set_option maxRecDepth 100000 in
theorem implSitesActOk_any (x : Act) (kind at_ : Int) (v : Value) (lo hi : Nat) (w : World) (hx : SActR w lo hi v kind at_ x) (hhi : hi ≤ w.heap.size) (hs : ActSmall x) :
    Calls Tryz.prog 31 #[v] w fun e w' => e = .returned (.bool (sitesB kind at_ x)) ∧ Below w.heap.size w w' := by
  obtain ⟨A, c, B, d, C, e, rfl, hA, hB, hC⟩ := hx
  have hbo := fun o => (Below.refl w.heap.size w).alloc (Nat.le_refl _) o
  have HX := Lib.hid (show ∀ o, ActR (w.alloc o) lo hi (.agg #[.int .i64 x.k, .int .i64 x.a, .string x.r, .string x.l, .slice A x.args.length c, .slice B x.input.length d, .slice C x.keep.length e]) x from fun o => ⟨A, c, B, d, C, e, rfl, hA.below (hbo o) hhi, hB.below (hbo o) hhi, hC.below (hbo o) hhi⟩)
  have HH := Lib.hid (fun o => Nat.le_trans hhi (hbo o).size)
  have HD := Lib.hid hbo
  have HDD := Lib.hid (fun o w1 (hb1 : Below (w.alloc o).heap.size (w.alloc o) w1) => (hbo o).trans (hb1.mono (hbo o).size))
  have HS := Lib.hid hs
  clear hA hB hC hbo hs
  by_cases k1 : kind = 1
  · subst k1
    rw [show sitesB 1 at_ x = (decide (at_ = 0) && actB x) from rfl]
    by_cases h0 : at_ = 0
    · have e0 : (at_ == 0) = true := by rw [beq_iff_eq]; exact h0
      rw [decide_eq_true h0, Bool.true_and]
      clear h0
      go_enter Tryz.func31, Tryz.ntmps31
      go_wp2_with (first | (go_at_call 84; refine (implSiteActOk_any x _ lo hi _ (HX.out _) (HH.out _) HS.out).mono ?_; rintro e1 w1 ⟨rfl, hb1⟩) | (go_at_call 86; refine (isZeroAct_any x _ lo hi _ (HX.out _) HS.out).mono ?_; rintro e1 w1 ⟨rfl, hb1⟩) | (go_at_call 85; refine (within_any _ _ _ _).mono ?_; rintro e' w' ⟨rfl, rfl⟩))
      go_ret
      exact ⟨by first | rfl | (simp; done), by first | exact HD.out _ | exact HDD.out _ _ hb1⟩
    · have e0 : (at_ == 0) = false := by rw [beq_eq_false_iff_ne]; exact h0
      rw [decide_eq_false h0, Bool.false_and]
      clear h0
      go_enter Tryz.func31, Tryz.ntmps31
      go_wp2_with (first | (go_at_call 84; refine (implSiteActOk_any x _ lo hi _ (HX.out _) (HH.out _) HS.out).mono ?_; rintro e1 w1 ⟨rfl, hb1⟩) | (go_at_call 86; refine (isZeroAct_any x _ lo hi _ (HX.out _) HS.out).mono ?_; rintro e1 w1 ⟨rfl, hb1⟩) | (go_at_call 85; refine (within_any _ _ _ _).mono ?_; rintro e' w' ⟨rfl, rfl⟩))
      go_ret
      exact ⟨by first | rfl | (simp; done), by first | exact HD.out _ | exact HDD.out _ _ hb1⟩
  have f1 : (kind == 1) = false := by rw [beq_eq_false_iff_ne]; exact k1
  by_cases k3 : kind = 3 ∨ kind = 4 ∨ kind = 5
  · rw [show sitesB kind at_ x = (inB at_ 0 11 && zeroB x) by simp [sitesB, k1, k3]]
    rcases k3 with k3 | k3 | k3
    all_goals
      subst k3
      cases hin : inB at_ 0 11
      all_goals
        simp only [Bool.true_and, Bool.false_and]
        go_enter Tryz.func31, Tryz.ntmps31
        go_wp2_with (first | (go_at_call 84; refine (implSiteActOk_any x _ lo hi _ (HX.out _) (HH.out _) HS.out).mono ?_; rintro e1 w1 ⟨rfl, hb1⟩) | (go_at_call 86; refine (isZeroAct_any x _ lo hi _ (HX.out _) HS.out).mono ?_; rintro e1 w1 ⟨rfl, hb1⟩) | (go_at_call 85; refine (within_any _ _ _ _).mono ?_; rintro e' w' ⟨rfl, rfl⟩))
        go_ret
        exact ⟨by first | rfl | (simp; done), by first | exact HD.out _ | exact HDD.out _ _ hb1⟩
  have f3 : (kind == 3) = false := by rw [beq_eq_false_iff_ne]; omega
  have f4 : (kind == 4) = false := by rw [beq_eq_false_iff_ne]; omega
  have f5 : (kind == 5) = false := by rw [beq_eq_false_iff_ne]; omega
  by_cases k2 : kind = 2 ∨ kind = 6 ∨ kind = 7
  · rw [show sitesB kind at_ x = (decide (at_ = 0) && zeroB x) by simp [sitesB, k1, k3, k2]]
    have hat : (at_ = 0 ∧ (at_ == 0) = true) ∨ (at_ ≠ 0 ∧ (at_ == 0) = false) := by
      by_cases h : at_ = 0
      · exact .inl ⟨h, by rw [beq_iff_eq]; exact h⟩
      · exact .inr ⟨h, by rw [beq_eq_false_iff_ne]; exact h⟩
    clear k3
    rcases k2 with k2 | k2 | k2
    all_goals
      subst k2
      rcases hat with ⟨h0, e0⟩ | ⟨h0, e0⟩
      all_goals
        first | rw [decide_eq_true h0, Bool.true_and] | rw [decide_eq_false h0, Bool.false_and]
        clear h0
        go_enter Tryz.func31, Tryz.ntmps31
        go_wp2_with (first | (go_at_call 84; refine (implSiteActOk_any x _ lo hi _ (HX.out _) (HH.out _) HS.out).mono ?_; rintro e1 w1 ⟨rfl, hb1⟩) | (go_at_call 86; refine (isZeroAct_any x _ lo hi _ (HX.out _) HS.out).mono ?_; rintro e1 w1 ⟨rfl, hb1⟩) | (go_at_call 85; refine (within_any _ _ _ _).mono ?_; rintro e' w' ⟨rfl, rfl⟩))
        go_ret
        exact ⟨by first | rfl | (simp; done), by first | exact HD.out _ | exact HDD.out _ _ hb1⟩
  · have f2 : (kind == 2) = false := by rw [beq_eq_false_iff_ne]; omega
    have f6 : (kind == 6) = false := by rw [beq_eq_false_iff_ne]; omega
    have f7 : (kind == 7) = false := by rw [beq_eq_false_iff_ne]; omega
    rw [show sitesB kind at_ x = false by simp [sitesB, k1, k3, k2]]
    clear k1 k2 k3
    go_enter Tryz.func31, Tryz.ntmps31
    go_wp2_with (first | (go_at_call 84; refine (implSiteActOk_any x _ lo hi _ (HX.out _) (HH.out _) HS.out).mono ?_; rintro e1 w1 ⟨rfl, hb1⟩) | (go_at_call 86; refine (isZeroAct_any x _ lo hi _ (HX.out _) HS.out).mono ?_; rintro e1 w1 ⟨rfl, hb1⟩) | (go_at_call 85; refine (within_any _ _ _ _).mono ?_; rintro e' w' ⟨rfl, rfl⟩))
    go_ret
    exact ⟨by first | rfl | (simp; done), by first | exact HD.out _ | exact HDD.out _ _ hb1⟩

set_option maxHeartbeats 1000000 in
set_option maxRecDepth 100000 in
theorem szSitesAct_any (x : Act) (kind at_ : Int) (v : Value) (lo hi : Nat) (left : Int) (w : World) (hx : SActR w lo hi v kind at_ x) (hhi : hi ≤ w.heap.size) (hr : ActReach x) (hl0 : 0 ≤ left) (hl : left ≤ 1048576) :
    Calls Tryz.prog 7 #[v, .int .i64 left] w fun e w' => ∃ m, e = .returned (.int .i64 m) ∧ Left left (costAct x) m ∧ Below w.heap.size w w' := by
  obtain ⟨A, c, B, d, C, e, rfl, hA, hB, hC⟩ := hx
  have hbo := fun o => (Below.refl w.heap.size w).alloc (Nat.le_refl _) o
  have HX := Lib.hid (show ∀ o, ActR (w.alloc o) lo hi (.agg #[.int .i64 x.k, .int .i64 x.a, .string x.r, .string x.l, .slice A x.args.length c, .slice B x.input.length d, .slice C x.keep.length e]) x from fun o => ⟨A, c, B, d, C, e, rfl, hA.below (hbo o) hhi, hB.below (hbo o) hhi, hC.below (hbo o) hhi⟩)
  have HH := Lib.hid (fun o => Nat.le_trans hhi (hbo o).size)
  have HDD := Lib.hid (fun o w1 (hb1 : Below (w.alloc o).heap.size (w.alloc o) w1) => (hbo o).trans (hb1.mono (hbo o).size))
  have HR := Lib.hid hr
  clear hA hB hC hbo hr
  go_enter Tryz.func7, Tryz.ntmps7
  go_wp2_with fail
  refine (szSiteAct_any x _ lo hi left _ (HX.out _) (HH.out _) HR.out hl0 hl).mono ?_
  rintro e1 w1 ⟨m, rfl, hm, hb1⟩
  have HB := Lib.hid (HDD.out _ _ hb1)
  clear hb1
  rcases hm with rfl | ⟨hm0, hm1⟩
  · go_wp2_with fail
    go_ret
    exact ⟨_, rfl, .inl rfl, HB.out⟩
  · have HM := Lib.hid hm1; clear hm1
    have nm : ¬ (m < 0) := by omega
    go_wp2_with fail
    go_ret
    exact ⟨_, rfl, .inr ⟨hm0, HM.out⟩, HB.out⟩

set_option maxHeartbeats 1000000 in
set_option maxRecDepth 100000 in
theorem eqSitesAct_same (x : Act) (kind at_ : Int) (v v' : Value) (lo hi lo' hi' : Nat) (w : World) (hx : SActR w lo hi v kind at_ x) (hx' : SActR w lo' hi' v' kind at_ x) (hhi : hi ≤ w.heap.size) (hhi' : hi' ≤ w.heap.size) (hs : ActSmall x) :
    Calls Tryz.prog 11 #[v, v'] w fun e w' => e = .returned (.bool true) ∧ Below w.heap.size w w' := by
  obtain ⟨A, c, B, d, C, e, rfl, hA, hB, hC⟩ := hx
  obtain ⟨A', c', B', d', C', e', rfl, hA', hB', hC'⟩ := hx'
  have hb2 := fun o o' => ((Below.refl w.heap.size w).alloc (Nat.le_refl _) o).alloc (by simp) o'
  have HX := Lib.hid (show ∀ o o', ActR ((w.alloc o).alloc o') lo hi (.agg #[.int .i64 x.k, .int .i64 x.a, .string x.r, .string x.l, .slice A x.args.length c, .slice B x.input.length d, .slice C x.keep.length e]) x from fun o o' => ⟨A, c, B, d, C, e, rfl, hA.below (hb2 o o') hhi, hB.below (hb2 o o') hhi, hC.below (hb2 o o') hhi⟩)
  have HX' := Lib.hid (show ∀ o o', ActR ((w.alloc o).alloc o') lo' hi' (.agg #[.int .i64 x.k, .int .i64 x.a, .string x.r, .string x.l, .slice A' x.args.length c', .slice B' x.input.length d', .slice C' x.keep.length e']) x from fun o o' => ⟨A', c', B', d', C', e', rfl, hA'.below (hb2 o o') hhi', hB'.below (hb2 o o') hhi', hC'.below (hb2 o o') hhi'⟩)
  have HH := Lib.hid (fun o o' => Nat.le_trans hhi (hb2 o o').size)
  have HH' := Lib.hid (fun o o' => Nat.le_trans hhi' (hb2 o o').size)
  have HDD := Lib.hid (fun o o' w1 (hb1 : Below ((w.alloc o).alloc o').heap.size ((w.alloc o).alloc o') w1) => (hb2 o o').trans (hb1.mono (hb2 o o').size))
  have HS := Lib.hid hs
  clear hA hB hC hA' hB' hC' hb2 hs
  go_enter Tryz.func11, Tryz.ntmps11
  go_wp2_with fail
  refine (eqSiteAct_same x _ _ lo hi lo' hi' _ (HX.out _ _) (HX'.out _ _) (HH.out _ _) (HH'.out _ _) HS.out).mono ?_
  rintro e1 w1 ⟨rfl, hb1⟩
  have HB := Lib.hid (HDD.out _ _ _ hb1)
  clear hb1
  go_wp2_with fail
  go_ret
  exact ⟨rfl, HB.out⟩

theorem RowR.set_far {α : Type} {enc : α → Value} {d : α} {w : World} {lo hi : Nat} {A : Option Addr} {n : Nat} {xs : List α} (h : RowR enc d w lo hi A n xs) {p : Addr} (hp : p.block < lo) (u : Value) : RowR enc d (w.setCell p u) lo hi A n xs :=
  h.keep fun b h1 _ => Below.heap_setCell w p u b (by omega)

set_option maxHeartbeats 1000000 in
set_option maxRecDepth 100000 in
theorem toSitesAct_any (x : Act) (kind at_ : Int) (v : Value) (lo hi : Nat) (w : World) (hx : SActR w lo hi v kind at_ x) (hhi : hi ≤ w.heap.size) (hs : ActSmall x) :
    Calls Tryz.prog 9 #[v] w fun e w' => ∃ v', e = .returned v' ∧ SActR w' w.heap.size w'.heap.size v' kind at_ x ∧ Below w.heap.size w w' := by
  obtain ⟨A, c, B, d, C, e, rfl, hA, hB, hC⟩ := hx
  have HA := Lib.hid hA; have HB := Lib.hid hB; have HC := Lib.hid hC; have HS := Lib.hid hs
  clear hA hB hC hs
  go_enter Tryz.func9, Tryz.ntmps9
  go_wp2_with fail
  have T0 := Three.start w 27 32 32 #[.int .i64 kind, .int .i64 at_, .int .i64 x.k, .int .i64 x.a, .string x.r, .string x.l, .slice A x.args.length c, .slice B x.input.length d, .slice C x.keep.length e]
    #[.int .i64 0, .int .i64 0, .int .i64 0, .int .i64 0, .string ⟨#[]⟩, .string ⟨#[]⟩, .slice none 0 0, .slice none 0 0, .slice none 0 0] #[.int .i64 kind, .int .i64 at_, .int .i64 0, .int .i64 0, .string ⟨#[]⟩, .string ⟨#[]⟩, .slice none 0 0, .slice none 0 0, .slice none 0 0]
  refine (toSiteAct_any x _ lo hi _ ⟨A, c, B, d, C, e, rfl, HA.out.below T0.2.2.2 hhi, HB.out.below T0.2.2.2 hhi, HC.out.below T0.2.2.2 hhi⟩ (Nat.le_trans hhi T0.2.2.2.size) HS.out).mono ?_
  rintro e1 w1 ⟨v1, rfl, ⟨A4, c4, B4', d4, C4, e4', rfl, hA4, hB4, hC4⟩, hb1⟩
  have T1 := T0.call hb1
  have l1 := T0.2.2.1.lt
  clear T0 hb1
  have f1 := T1.2.1.cell
  have z1 := T1.2.1.frozen
  have f2 := T1.2.2.1.cell
  have z2 := T1.2.2.1.frozen
  have TT := Lib.hid T1; clear T1
  have hl3 := Nat.le_refl (w.heap.size + 1 + 1 + 1)
  have KA := Lib.hid (hA4.more (lo' := w.heap.size + 1 + 1 + 1) (by simp) (Nat.le_refl _))
  have KB := Lib.hid (hB4.more (lo' := w.heap.size + 1 + 1 + 1) (by simp) (Nat.le_refl _))
  have KC := Lib.hid (hC4.more (lo' := w.heap.size + 1 + 1 + 1) (by simp) (Nat.le_refl _))
  clear hA4 hB4 hC4 l1
  go_wp2_with fail
  refine bodyPost_ret (v := .agg #[.int .i64 kind, .int .i64 at_, .int .i64 x.k, .int .i64 x.a, .string x.r, .string x.l, .slice A4 x.args.length c4, .slice B4' x.input.length d4, .slice C4 x.keep.length e4']) (by simp [results, Tryz.results9, go_sem, f1]) rfl ⟨_, rfl, ⟨A4, c4, B4', d4, C4, e4', rfl, ?_, ?_, ?_⟩, ?_⟩
  · refine RowR.more (lo := w.heap.size + 1 + 1 + 1) (hi := w1.heap.size) ?_ (by omega) (by simp [World.setCell])
    iterate 16 (with_reducible refine RowR.set_far ?_ (by simp; try omega) _)
    exact KA.out
  · refine RowR.more (lo := w.heap.size + 1 + 1 + 1) (hi := w1.heap.size) ?_ (by omega) (by simp [World.setCell])
    iterate 16 (with_reducible refine RowR.set_far ?_ (by simp; try omega) _)
    exact KB.out
  · refine RowR.more (lo := w.heap.size + 1 + 1 + 1) (hi := w1.heap.size) ?_ (by omega) (by simp [World.setCell])
    iterate 16 (with_reducible refine RowR.set_far ?_ (by simp; try omega) _)
    exact KC.out
  · iterate 16 (with_reducible refine Below.setCell ?_ (by simp; try omega) _)
    exact TT.out.2.2.2

end Go.Proofs.YtcjaaknnfohllaaGreatDoor

/- Words for the walk of a law: facts that lie in a range of blocks, and how they are kept. Over any program. -/
namespace Go.Proofs.YtcjaaknnfohllaaGreatDoor
open Go.RowKit

/-- Only blocks from lo up to, not including, hi have changed; there may be new ones. -/
structure Within (lo hi : Nat) (w w' : World) : Prop where
  os : w'.os = w.os
  tape : w'.tape = w.tape
  output : w'.output = w.output
  size : w.heap.size ≤ w'.heap.size
  block : ∀ k, k < w.heap.size → (k < lo ∨ hi ≤ k) → w'.heap[k]? = w.heap[k]?

theorem Within.below {lo hi : Nat} {w w' : World} (h : Within lo hi w w') (hlo : lo ≤ w.heap.size) : Below lo w w' := ⟨h.os, h.tape, h.output, h.size, fun k hk => h.block k (by omega) (.inl hk)⟩
theorem Within.of_grown {w w' : World} {row : Option Nat} {lo hi : Nat} (hg : w.grownBy w' row) (hr : ∀ g, row = some g → lo ≤ g ∧ g < hi) : Within lo hi w w' :=
  ⟨hg.os, hg.tape, hg.output, hg.size, fun k hk h => hg.block k hk (fun e => by have := hr k e.symm; omega)⟩
theorem Within.trans {lo hi : Nat} {w w1 w2 : World} (h : Within lo hi w w1) (k : Within lo hi w1 w2) : Within lo hi w w2 :=
  ⟨k.os.trans h.os, k.tape.trans h.tape, k.output.trans h.output, Nat.le_trans h.size k.size, fun i hi h' => (k.block i (Nat.lt_of_lt_of_le hi h.size) h').trans (h.block i hi h')⟩
theorem Within.of_below {lo hi : Nat} {w w' : World} (h : Below w.heap.size w w') : Within lo hi w w' := ⟨h.os, h.tape, h.output, h.size, fun k hk _ => h.block k hk⟩
theorem Within.more {lo hi lo' hi' : Nat} {w w' : World} (h : Within lo hi w w') (h1 : lo' ≤ lo) (h2 : hi ≤ hi') : Within lo' hi' w w' :=
  ⟨h.os, h.tape, h.output, h.size, fun k hk hd => h.block k hk (by omega)⟩

/-- A fact that hangs on the blocks from lo up to, not including, hi alone. -/
def Loc (lo hi : Nat) (F : World → Prop) : Prop := ∀ w w' : World, (∀ b, lo ≤ b → b < hi → w'.heap[b]? = w.heap[b]?) → F w → F w'

theorem loc_blk (g : Nat) (t : TypeId) (cs : Array Value) : Loc g (g + 1) (fun w => Blk w g t cs) := fun _ _ hk h => (hk g (Nat.le_refl _) (by omega)).trans h

abbrev Facts := List (Nat × Nat × (World → Prop))

/-- What lay in w0 is as it was, and all the facts stand. -/
def Stand (w0 : World) (Fs : Facts) (w : World) : Prop := Below w0.heap.size w0 w ∧ ∀ f ∈ Fs, Loc f.1 f.2.1 f.2.2 ∧ f.2.1 ≤ w.heap.size ∧ f.2.2 w

section
variable {w0 w w' : World} {Fs : Facts}
theorem Stand.nil (w : World) : Stand w [] w := ⟨Below.refl _ _, fun f hf => by simp at hf⟩
theorem Stand.below (h : Stand w0 Fs w) (hb : Below w.heap.size w w') : Stand w0 Fs w' := ⟨h.1.trans (hb.mono h.1.size), fun f hf => by
  obtain ⟨h1, h2, h3⟩ := h.2 f hf
  exact ⟨h1, Nat.le_trans h2 hb.size, h1 w w' (fun b _ hb' => hb.block b (by omega)) h3⟩⟩
theorem Stand.alloc (h : Stand w0 Fs w) (o : Obj) : Stand w0 Fs (w.alloc o) := h.below ((Below.refl _ _).alloc (Nat.le_refl _) o)
theorem Stand.drew (h : Stand w0 Fs w) : Stand w0 Fs w.drew := h.below (below_drewN' w 1)
theorem Stand.within {a b : Nat} (h : Stand w0 Fs w) (hw : Within a b w w') (h0 : w0.heap.size ≤ a) (hd : ∀ f ∈ Fs, f.2.1 ≤ a ∨ b ≤ f.1) : Stand w0 Fs w' :=
  ⟨h.1.trans ⟨hw.os, hw.tape, hw.output, hw.size, fun k hk => hw.block k (by have := h.1.size; omega) (.inl (by omega))⟩, fun f hf => by
    obtain ⟨h1, h2, h3⟩ := h.2 f hf
    have := hd f hf
    exact ⟨h1, Nat.le_trans h2 hw.size, h1 w w' (fun k hk1 hk2 => hw.block k (by omega) (by omega)) h3⟩⟩
theorem Stand.add (h : Stand w0 Fs w) (lo hi : Nat) (F : World → Prop) (L : Loc lo hi F) (hh : hi ≤ w.heap.size) (hF : F w) : Stand w0 ((lo, hi, F) :: Fs) w := ⟨h.1, fun f hf => by
  rcases List.mem_cons.1 hf with rfl | hf
  · exact ⟨L, hh, hF⟩
  · exact h.2 f hf⟩
theorem Stand.get (h : Stand w0 Fs w) (i : Nat) {lo hi : Nat} {F : World → Prop} (hi' : Fs[i]? = some (lo, hi, F)) : F w :=
  (h.2 (lo, hi, F) (List.mem_of_getElem? hi')).2.2
theorem Stand.le (h : Stand w0 Fs w) (i : Nat) {lo hi : Nat} {F : World → Prop} (hi' : Fs[i]? = some (lo, hi, F)) : hi ≤ w.heap.size :=
  (h.2 (lo, hi, F) (List.mem_of_getElem? hi')).2.1
/-- Some of the facts alone, chosen by their places. -/
theorem Stand.only (h : Stand w0 Fs w) (ks : List Nat) : Stand w0 (ks.filterMap (Fs[·]?)) w := ⟨h.1, fun f hf => by
  obtain ⟨k, _, hk⟩ := List.mem_filterMap.1 hf
  exact h.2 f (List.mem_of_getElem? hk)⟩
/-- The newest block, known whole. -/
theorem Stand.box (h : Stand w0 Fs w) (t : TypeId) (cs : Array Value) : Stand w0 ((w.heap.size, w.heap.size + 1, fun W => Blk W w.heap.size t cs) :: Fs) (w.alloc (.cells cs t)) :=
  (h.alloc _).add _ _ _ (loc_blk _ _ _) (by simp) (Blk.new w t cs)
/-- The list of facts under one name, with what is wanted of it. -/
theorem Stand.pack (h : Stand w0 Fs w) (P : World → Prop) (hP : ∀ W, Stand w0 Fs W → P W) : ∃ FS, Stand w0 FS w ∧ (∀ W, Stand w0 FS W → P W) ∧ (∀ W, Stand w0 FS W → Stand w0 Fs W) := ⟨Fs, h, hP, fun _ h => h⟩
/-- Two blocks' cells beside the facts, as a region that draws its order wants them. -/
theorem Stand.show2 {g g' : Nat} {t t' : TypeId} {cs cs' : Array Value} (hP : ∀ W, Stand w0 Fs W → Blk W g t cs ∧ Blk W g' t' cs') (h : Stand w0 Fs w) :
    (∀ i, w.cell? ⟨g, i, none⟩ = cs[i]?) ∧ (∀ i, w.cell? ⟨g', i, none⟩ = cs'[i]?) ∧ Stand w0 Fs w := ⟨(hP w h).1.cell, (hP w h).2.cell, h⟩
theorem Stand.of2 {A B : Prop} (h : A ∧ B ∧ Stand w0 Fs w) : Stand w0 Fs w := h.2.2
theorem Stand.show1 {g : Nat} {t : TypeId} {cs : Array Value} (hP : ∀ W, Stand w0 Fs W → Blk W g t cs) (h : Stand w0 Fs w) :
    (∀ i, w.cell? ⟨g, i, none⟩ = cs[i]?) ∧ Stand w0 Fs w := ⟨(hP w h).cell, h⟩
theorem Stand.of1 {A : Prop} (h : A ∧ Stand w0 Fs w) : Stand w0 Fs w := h.2
end

theorem own_keep {w w' : World} {base hi : Nat} {e : TypeId} {size : Nat} {v : Value} {n : Nat} {xs : List Value} (h : w.ownsRow base e size v n xs) (hh : ∀ g, v.ownBlock = some g → g < hi)
    (hk : ∀ b, base ≤ b → b < hi → w'.heap[b]? = w.heap[b]?) : w'.ownsRow base e size v n xs := by
  refine ⟨h.1, ?_⟩
  rcases h.2 with h2 | ⟨g, cap, cur, h1, hg, hc, r⟩
  · exact .inl h2
  · refine .inr ⟨g, cap, cur, h1, hg, ?_, r⟩
    rw [hk g hg (hh g (by rw [h1]; rfl))]
    exact hc

end Go.Proofs.YtcjaaknnfohllaaGreatDoor

/- Nodes: their values; walks of szNode, toNode, eqNode. -/
namespace Go.Proofs.YtcjaaknnfohllaaGreatDoor
open Go.RowKit

structure Nod where
  name : ByteArray
  subs : List ByteArray
  value : ByteArray
def nodD : Nod := ⟨ByteArray.empty, [], ByteArray.empty⟩

/-- The value v of a node reads as x. -/
def NodR (w : World) (lo hi : Nat) (v : Value) (x : Nod) : Prop :=
  ∃ A c, v = .agg #[.string x.name, .slice A x.subs.length c, .string x.value] ∧ StrR w lo hi A x.subs.length x.subs
theorem NodR.keep {w w' : World} {lo hi : Nat} {v : Value} {x : Nod} (h : NodR w lo hi v x) (hk : ∀ b, lo ≤ b → b < hi → w'.heap[b]? = w.heap[b]?) : NodR w' lo hi v x := by
  obtain ⟨A, c, hv, h1⟩ := h
  exact ⟨A, c, hv, h1.keep hk⟩
theorem NodR.below {w w' : World} {lo hi B : Nat} {v : Value} {x : Nod} (h : NodR w lo hi v x) (hb : Below B w w') (hB : hi ≤ B) : NodR w' lo hi v x :=
  h.keep fun b _ h2 => hb.block b (by omega)
theorem NodR.more {w : World} {lo hi lo' hi' : Nat} {v : Value} {x : Nod} (h : NodR w lo hi v x) (h1 : lo' ≤ lo) (h2 : hi ≤ hi') : NodR w lo' hi' v x := by
  obtain ⟨A, c, hv, h3⟩ := h
  exact ⟨A, c, hv, h3.more h1 h2⟩
theorem loc_nodR (lo hi : Nat) (v : Value) (x : Nod) : Loc lo hi (fun w => NodR w lo hi v x) := fun _ _ hk h => h.keep hk
theorem loc_strN (lo hi : Nat) (A : Option Addr) (n : Nat) (xs : List ByteArray) : Loc lo hi (fun w => StrR w lo hi A n xs) := fun _ _ hk h => h.keep hk
theorem heap_size_allocN (w : World) (o : Obj) : (w.alloc o).heap.size = w.heap.size + 1 := by simp

def costNod (x : Nod) : Nat := x.name.size + costStrs x.subs + x.value.size
def NodReach (x : Nod) : Prop := x.name.size ≤ 9223372036854775807 ∧ x.value.size ≤ 9223372036854775807 ∧ x.subs.length ≤ 9223372036854775807 ∧ ∀ y ∈ x.subs, y.size ≤ 9223372036854775807
def NodSmall (x : Nod) : Prop := x.name.size ≤ 1048576 ∧ x.value.size ≤ 1048576 ∧ x.subs.length ≤ 1048576 ∧ ∀ y ∈ x.subs, y.size ≤ 1048576
theorem NodSmall.of_cost {x : Nod} (h : costNod x ≤ 1048576) : NodSmall x := by
  unfold costNod costStrs at h
  exact ⟨by omega, by omega, by omega, fun y hy => by have := mem_le_sizeAll hy; omega⟩

theorem szStrs_n (A : Option Addr) (n c lo hi : Nat) (left : Int) (xs : List ByteArray) (w : World) (ha : StrR w lo hi A n xs) (hn : n ≤ 9223372036854775807) (hl0 : 0 ≤ left) (hl : left ≤ 1048576) (hb : ∀ x ∈ xs, x.size ≤ 9223372036854775807) :
    Calls Tryz.prog 75 #[.slice A n c, .int .i64 left] w fun e w' => ∃ m, e = .returned (.int .i64 m) ∧ Left left (costStrs xs) m ∧ w = w' := by
  obtain ⟨k, rfl⟩ := Int.eq_ofNat_of_zero_le hl0
  refine (szStringS_any A n c lo hi k xs w ha hn (by omega) hb).mono fun e w' ⟨he, hw⟩ => ⟨_, he, ?_, hw.symm⟩
  unfold leftStrs Left costStrs
  split
  · right; omega
  · left; rfl

/-- What toNode gives, as a reading. -/
theorem NodR.of_own {w : World} {base : Nat} {x : Nod} {A : Option Addr} {c : Nat} (h : w.ownsRow base 9 1 (.slice A x.subs.length c) x.subs.length (x.subs.map Value.string)) :
    NodR w base w.heap.size (.agg #[.string x.name, .slice A x.subs.length c, .string x.value]) x := ⟨A, c, rfl, StrR.of_own h⟩

set_option maxHeartbeats 1000000 in
/-- Two values of one node: eqNode says yes. -/
theorem eqNode_same (x : Nod) (v v' : Value) (lo hi lo' hi' : Nat) (w : World) (hx : NodR w lo hi v x) (hx' : NodR w lo' hi' v' x) (hhi : hi ≤ w.heap.size) (hhi' : hi' ≤ w.heap.size) (hs : x.subs.length ≤ 1048576) :
    Calls Tryz.prog 14 #[v, v'] w fun e w' => e = .returned (.bool true) ∧ Below w.heap.size w w' := by
  obtain ⟨name, subs, value⟩ := x
  obtain ⟨A, c, rfl, hA⟩ := hx
  obtain ⟨A', c', rfl, hA'⟩ := hx'
  dsimp only at *
  have R1 := (((((Stand.nil w).add lo hi _ (loc_strN lo hi A _ subs) hhi hA).add lo' hi' _ (loc_strN lo' hi' A' _ subs) hhi' hA').box 37 #[.string name, .slice A subs.length c, .string value])).box 37 #[.string name, .slice A' subs.length c', .string value]
  rw [heap_size_allocN] at R1
  have HR1 := Lib.hid R1
  clear hA hA' R1
  go_enter Tryz.func14, Tryz.ntmps14
  go_wp2_with fail
  refine (eqStringS_b _ _ _ _ _ _ lo hi lo' hi' subs subs _ (HR1.out.get 3 rfl) (HR1.out.get 2 rfl) (by omega) (by omega)).mono ?_
  rintro e1 w1 ⟨rfl, hb1⟩
  rw [decide_eq_true rfl]
  have HR2 := Lib.hid (HR1.out.below hb1)
  have f1 := (HR2.out.get 1 rfl).cell
  have f0 := (HR2.out.get 0 rfl).cell
  clear hb1 HR1
  go_wp2_with fail
  go_ret
  exact ⟨rfl, HR2.out.1⟩
end Go.Proofs.YtcjaaknnfohllaaGreatDoor
