/- Both SitesActOk compute one plain function; to, sz, eq of SitesAct. -/
import Derived.Test.YtcjaaknnfohllaaGreatDoorActTo
import Derived.Test.YtcjaaknnfohllaaGreatDoorSiteActI
namespace Go.Proofs.YtcjaaknnfohllaaGreatDoor
open Go.RowKit

def zeroB (x : Act) : Bool := decide (x.k = 0) && decide (x.a = 0) && decide (x.r.size = 0) && decide (x.l.size = 0) && decide (x.args.length = 0) && decide (x.input.length = 0) && decide (x.keep.length = 0)

/-- What SitesActOk says. -/
def sitesB (kind at_ : Int) (x : Act) : Bool :=
  if kind = 1 then decide (at_ = 0) && actB x
  else if kind = 3 ∨ kind = 4 ∨ kind = 5 then inB at_ 0 11 && zeroB x
  else if kind = 2 ∨ kind = 6 ∨ kind = 7 then decide (at_ = 0) && zeroB x
  else false

def SActR (w : World) (lo hi : Nat) (v : Value) (kind at_ : Int) (x : Act) : Prop :=
  ∃ A c B d C e, v = .agg #[.int .i64 kind, .int .i64 at_, .int .i64 x.k, .int .i64 x.a, .string x.r, .string x.l, .slice A x.args.length c, .slice B x.input.length d, .slice C x.keep.length e] ∧
    StrR w lo hi A x.args.length x.args ∧ StrR w lo hi B x.input.length x.input ∧ IntR w lo hi C x.keep.length x.keep

theorem SActR.below {w w' : World} {lo hi B : Nat} {v : Value} {kind at_ : Int} {x : Act} (h : SActR w lo hi v kind at_ x) (hb : Below B w w') (hB : hi ≤ B) : SActR w' lo hi v kind at_ x := by
  obtain ⟨A, c, B', d, C, e, hv, h1, h2, h3⟩ := h
  exact ⟨A, c, B', d, C, e, hv, h1.below hb hB, h2.below hb hB, h3.below hb hB⟩

set_option maxHeartbeats 4000000 in
set_option maxRecDepth 100000 in
theorem l33Zero_any (x : Act) (v : Value) (lo hi : Nat) (w : World) (hx : ActR w lo hi v x) (hs : ActSmall x) :
    Calls Tryz.prog 79 #[v] w fun e w' => e = .returned (.bool (zeroB x)) ∧ Below w.heap.size w w' := by
  obtain ⟨k, a, r, l, xargs, xin, xkeep⟩ := x
  obtain ⟨A, c, B, d, C, e, rfl, hA, hB, hC⟩ := hx
  obtain ⟨hs1, hs2, hs3, hs4, hs5, hs6, hs7⟩ := hs
  dsimp only at *
  clear hA hB hC hs6 hs7
  have HD := Lib.hid (fun o => (Below.refl w.heap.size w).alloc (Nat.le_refl _) o)
  have HD2 := Lib.hid (fun o o' => ((Below.refl w.heap.size w).alloc (Nat.le_refl _) o).alloc (by simp) o')
  have hc : (k ≠ 0) ∨ (k = 0 ∧ a ≠ 0) ∨ (k = 0 ∧ a = 0 ∧ r.size ≠ 0) ∨ (k = 0 ∧ a = 0 ∧ r.size = 0 ∧ l.size ≠ 0) ∨ (k = 0 ∧ a = 0 ∧ r.size = 0 ∧ l.size = 0 ∧ xargs.length ≠ 0) ∨
      (k = 0 ∧ a = 0 ∧ r.size = 0 ∧ l.size = 0 ∧ xargs.length = 0 ∧ xin.length ≠ 0) ∨ (k = 0 ∧ a = 0 ∧ r.size = 0 ∧ l.size = 0 ∧ xargs.length = 0 ∧ xin.length = 0 ∧ xkeep.length ≠ 0) ∨
      (k = 0 ∧ a = 0 ∧ r.size = 0 ∧ l.size = 0 ∧ xargs.length = 0 ∧ xin.length = 0 ∧ xkeep.length = 0) := by omega
  rcases hc with q0 | ⟨q0, q1⟩ | ⟨q0, q1, q2⟩ | ⟨q0, q1, q2, q3⟩ | ⟨q0, q1, q2, q3, q4⟩ | ⟨q0, q1, q2, q3, q4, q5⟩ | ⟨q0, q1, q2, q3, q4, q5, q6⟩ | ⟨q0, q1, q2, q3, q4, q5, q6⟩
  · have ek : (k == 0) = false := by rw [beq_eq_false_iff_ne]; exact q0
    rw [show zeroB ⟨k, a, r, l, xargs, xin, xkeep⟩ = false by simp [zeroB, q0]]
    go_enter Tryz.func79, Tryz.ntmps79
    go_wp2
    go_ret
    exact ⟨by first | rfl | (simp; done), by first | exact HD.out _ | exact HD2.out _ _⟩
  all_goals
    subst q0
  · have ea : (a == 0) = false := by rw [beq_eq_false_iff_ne]; exact q1
    rw [show zeroB ⟨0, a, r, l, xargs, xin, xkeep⟩ = false by simp [zeroB, q1]]
    go_enter Tryz.func79, Tryz.ntmps79
    go_wp2
    go_ret
    exact ⟨by first | rfl | (simp; done), by first | exact HD.out _ | exact HD2.out _ _⟩
  all_goals
    subst q1
  · have er := isEmpty_false q2
    rw [show zeroB ⟨0, 0, r, l, xargs, xin, xkeep⟩ = false by simp [zeroB, q2]]
    go_enter Tryz.func79, Tryz.ntmps79
    go_wp2
    go_ret
    exact ⟨by first | rfl | (simp; done), by first | exact HD.out _ | exact HD2.out _ _⟩
  all_goals
    have er := isEmpty_true q2
    have Q2 := Lib.hid q2
    clear q2
  · have el := isEmpty_false q3
    rw [show zeroB ⟨0, 0, r, l, xargs, xin, xkeep⟩ = false by simp [zeroB, q3]]
    go_enter Tryz.func79, Tryz.ntmps79
    go_wp2
    go_ret
    exact ⟨by first | rfl | (simp; done), by first | exact HD.out _ | exact HD2.out _ _⟩
  all_goals
    have el := isEmpty_true q3
    have Q3 := Lib.hid q3
    clear q3
  · have z4 : ((xargs.length : Int) == 0) = false := by rw [beq_eq_false_iff_ne]; omega
    rw [show zeroB ⟨0, 0, r, l, xargs, xin, xkeep⟩ = false by simp [zeroB, q4]]
    go_enter Tryz.func79, Tryz.ntmps79
    go_wp2
    go_ret
    exact ⟨by first | rfl | (simp; done), by first | exact HD.out _ | exact HD2.out _ _⟩
  all_goals
    have z4 : ((xargs.length : Int) == 0) = true := by rw [beq_iff_eq]; omega
    have Q4 := Lib.hid q4
    clear q4
  · have z5 : ((xin.length : Int) == 0) = false := by rw [beq_eq_false_iff_ne]; omega
    rw [show zeroB ⟨0, 0, r, l, xargs, xin, xkeep⟩ = false by simp [zeroB, q5]]
    go_enter Tryz.func79, Tryz.ntmps79
    go_wp2
    go_ret
    exact ⟨by first | rfl | (simp; done), by first | exact HD.out _ | exact HD2.out _ _⟩
  all_goals
    have z5 : ((xin.length : Int) == 0) = true := by rw [beq_iff_eq]; omega
    have Q5 := Lib.hid q5
    clear q5
  · have z6 : ((xkeep.length : Int) == 0) = false := by rw [beq_eq_false_iff_ne]; omega
    rw [show zeroB ⟨0, 0, r, l, xargs, xin, xkeep⟩ = false by simp [zeroB, q6]]
    go_enter Tryz.func79, Tryz.ntmps79
    go_wp2
    go_ret
    exact ⟨by first | rfl | (simp; done), by first | exact HD.out _ | exact HD2.out _ _⟩
  · have z6 : ((xkeep.length : Int) == 0) = true := by rw [beq_iff_eq]; omega
    rw [show zeroB ⟨0, 0, r, l, xargs, xin, xkeep⟩ = true by simp [zeroB, Q2.out, Q3.out, Q4.out, Q5.out, q6]]
    have Q6 := Lib.hid q6
    clear q6
    go_enter Tryz.func79, Tryz.ntmps79
    go_wp2
    go_ret
    exact ⟨by first | rfl | (simp; done), by first | exact HD.out _ | exact HD2.out _ _⟩

set_option maxHeartbeats 4000000 in
set_option maxRecDepth 100000 in
theorem isZeroAct_any (x : Act) (v : Value) (lo hi : Nat) (w : World) (hx : ActR w lo hi v x) (hs : ActSmall x) :
    Calls Tryz.prog 86 #[v] w fun e w' => e = .returned (.bool (zeroB x)) ∧ Below w.heap.size w w' := by
  obtain ⟨k, a, r, l, xargs, xin, xkeep⟩ := x
  obtain ⟨A, c, B, d, C, e, rfl, hA, hB, hC⟩ := hx
  obtain ⟨hs1, hs2, hs3, hs4, hs5, hs6, hs7⟩ := hs
  dsimp only at *
  clear hA hB hC hs6 hs7
  have HD := Lib.hid (fun o => (Below.refl w.heap.size w).alloc (Nat.le_refl _) o)
  have HD2 := Lib.hid (fun o o' => ((Below.refl w.heap.size w).alloc (Nat.le_refl _) o).alloc (by simp) o')
  have hc : (k ≠ 0) ∨ (k = 0 ∧ a ≠ 0) ∨ (k = 0 ∧ a = 0 ∧ r.size ≠ 0) ∨ (k = 0 ∧ a = 0 ∧ r.size = 0 ∧ l.size ≠ 0) ∨ (k = 0 ∧ a = 0 ∧ r.size = 0 ∧ l.size = 0 ∧ xargs.length ≠ 0) ∨
      (k = 0 ∧ a = 0 ∧ r.size = 0 ∧ l.size = 0 ∧ xargs.length = 0 ∧ xin.length ≠ 0) ∨ (k = 0 ∧ a = 0 ∧ r.size = 0 ∧ l.size = 0 ∧ xargs.length = 0 ∧ xin.length = 0 ∧ xkeep.length ≠ 0) ∨
      (k = 0 ∧ a = 0 ∧ r.size = 0 ∧ l.size = 0 ∧ xargs.length = 0 ∧ xin.length = 0 ∧ xkeep.length = 0) := by omega
  rcases hc with q0 | ⟨q0, q1⟩ | ⟨q0, q1, q2⟩ | ⟨q0, q1, q2, q3⟩ | ⟨q0, q1, q2, q3, q4⟩ | ⟨q0, q1, q2, q3, q4, q5⟩ | ⟨q0, q1, q2, q3, q4, q5, q6⟩ | ⟨q0, q1, q2, q3, q4, q5, q6⟩
  · have ek : (k == 0) = false := by rw [beq_eq_false_iff_ne]; exact q0
    rw [show zeroB ⟨k, a, r, l, xargs, xin, xkeep⟩ = false by simp [zeroB, q0]]
    go_enter Tryz.func86, Tryz.ntmps86
    go_wp2
    go_ret
    exact ⟨by first | rfl | (simp; done), by first | exact HD.out _ | exact HD2.out _ _⟩
  all_goals
    subst q0
  · have ea : (a == 0) = false := by rw [beq_eq_false_iff_ne]; exact q1
    rw [show zeroB ⟨0, a, r, l, xargs, xin, xkeep⟩ = false by simp [zeroB, q1]]
    go_enter Tryz.func86, Tryz.ntmps86
    go_wp2
    go_ret
    exact ⟨by first | rfl | (simp; done), by first | exact HD.out _ | exact HD2.out _ _⟩
  all_goals
    subst q1
  · have er := isEmpty_false q2
    rw [show zeroB ⟨0, 0, r, l, xargs, xin, xkeep⟩ = false by simp [zeroB, q2]]
    go_enter Tryz.func86, Tryz.ntmps86
    go_wp2
    go_ret
    exact ⟨by first | rfl | (simp; done), by first | exact HD.out _ | exact HD2.out _ _⟩
  all_goals
    have er := isEmpty_true q2
    have Q2 := Lib.hid q2
    clear q2
  · have el := isEmpty_false q3
    rw [show zeroB ⟨0, 0, r, l, xargs, xin, xkeep⟩ = false by simp [zeroB, q3]]
    go_enter Tryz.func86, Tryz.ntmps86
    go_wp2
    go_ret
    exact ⟨by first | rfl | (simp; done), by first | exact HD.out _ | exact HD2.out _ _⟩
  all_goals
    have el := isEmpty_true q3
    have Q3 := Lib.hid q3
    clear q3
  · have z4 : ((xargs.length : Int) == 0) = false := by rw [beq_eq_false_iff_ne]; omega
    rw [show zeroB ⟨0, 0, r, l, xargs, xin, xkeep⟩ = false by simp [zeroB, q4]]
    go_enter Tryz.func86, Tryz.ntmps86
    go_wp2
    go_ret
    exact ⟨by first | rfl | (simp; done), by first | exact HD.out _ | exact HD2.out _ _⟩
  all_goals
    have z4 : ((xargs.length : Int) == 0) = true := by rw [beq_iff_eq]; omega
    have Q4 := Lib.hid q4
    clear q4
  · have z5 : ((xin.length : Int) == 0) = false := by rw [beq_eq_false_iff_ne]; omega
    rw [show zeroB ⟨0, 0, r, l, xargs, xin, xkeep⟩ = false by simp [zeroB, q5]]
    go_enter Tryz.func86, Tryz.ntmps86
    go_wp2
    go_ret
    exact ⟨by first | rfl | (simp; done), by first | exact HD.out _ | exact HD2.out _ _⟩
  all_goals
    have z5 : ((xin.length : Int) == 0) = true := by rw [beq_iff_eq]; omega
    have Q5 := Lib.hid q5
    clear q5
  · have z6 : ((xkeep.length : Int) == 0) = false := by rw [beq_eq_false_iff_ne]; omega
    rw [show zeroB ⟨0, 0, r, l, xargs, xin, xkeep⟩ = false by simp [zeroB, q6]]
    go_enter Tryz.func86, Tryz.ntmps86
    go_wp2
    go_ret
    exact ⟨by first | rfl | (simp; done), by first | exact HD.out _ | exact HD2.out _ _⟩
  · have z6 : ((xkeep.length : Int) == 0) = true := by rw [beq_iff_eq]; omega
    rw [show zeroB ⟨0, 0, r, l, xargs, xin, xkeep⟩ = true by simp [zeroB, Q2.out, Q3.out, Q4.out, Q5.out, q6]]
    have Q6 := Lib.hid q6
    clear q6
    go_enter Tryz.func86, Tryz.ntmps86
    go_wp2
    go_ret
    exact ⟨by first | rfl | (simp; done), by first | exact HD.out _ | exact HD2.out _ _⟩

set_option maxHeartbeats 4000000 in
set_option maxRecDepth 100000 in
theorem specSitesActOk_any (x : Act) (kind at_ : Int) (v : Value) (lo hi : Nat) (w : World) (hx : SActR w lo hi v kind at_ x) (hhi : hi ≤ w.heap.size) (hs : ActSmall x) :
    Calls Tryz.prog 27 #[v] w fun e w' => e = .returned (.bool (sitesB kind at_ x)) ∧ Below w.heap.size w w' := by
  obtain ⟨A, c, B, d, C, e, rfl, hA, hB, hC⟩ := hx
  have hbo := fun o => (Below.refl w.heap.size w).alloc (Nat.le_refl _) o
  have HX := Lib.hid (show ∀ o, ActR (w.alloc o) lo hi (.agg #[.int .i64 x.k, .int .i64 x.a, .string x.r, .string x.l, .slice A x.args.length c, .slice B x.input.length d, .slice C x.keep.length e]) x from fun o => ⟨A, c, B, d, C, e, rfl, hA.below (hbo o) hhi, hB.below (hbo o) hhi, hC.below (hbo o) hhi⟩)
  have HH := Lib.hid (fun o => Nat.le_trans hhi (hbo o).size)
  have HD := Lib.hid hbo
  have HDD := Lib.hid (fun o w1 (hb1 : Below (w.alloc o).heap.size (w.alloc o) w1) => (hbo o).trans (hb1.mono (hbo o).size))
  have HS := Lib.hid hs
  clear hA hB hC hbo hs
  by_cases k1 : kind = 1
  · subst k1
    rw [show sitesB 1 at_ x = (decide (at_ = 0) && actB x) from rfl]
    by_cases h0 : at_ = 0
    · have e0 : (at_ == 0) = true := by rw [beq_iff_eq]; exact h0
      rw [decide_eq_true h0, Bool.true_and]
      clear h0
      go_enter Tryz.func27, Tryz.ntmps27
      go_wp2_with (first | (go_at_call 77; refine (specSiteActOk_any x _ lo hi _ (HX.out _) (HH.out _) HS.out).mono ?_; rintro e1 w1 ⟨rfl, hb1⟩) | (go_at_call 79; refine (l33Zero_any x _ lo hi _ (HX.out _) HS.out).mono ?_; rintro e1 w1 ⟨rfl, hb1⟩) | (go_at_call 78; refine (l00In_any _ _ _ _).mono ?_; rintro e' w' ⟨rfl, rfl⟩))
      go_ret
      exact ⟨by first | rfl | (simp; done), by first | exact HD.out _ | exact HDD.out _ _ hb1⟩
    · have e0 : (at_ == 0) = false := by rw [beq_eq_false_iff_ne]; exact h0
      rw [decide_eq_false h0, Bool.false_and]
      clear h0
      go_enter Tryz.func27, Tryz.ntmps27
      go_wp2_with (first | (go_at_call 77; refine (specSiteActOk_any x _ lo hi _ (HX.out _) (HH.out _) HS.out).mono ?_; rintro e1 w1 ⟨rfl, hb1⟩) | (go_at_call 79; refine (l33Zero_any x _ lo hi _ (HX.out _) HS.out).mono ?_; rintro e1 w1 ⟨rfl, hb1⟩) | (go_at_call 78; refine (l00In_any _ _ _ _).mono ?_; rintro e' w' ⟨rfl, rfl⟩))
      go_ret
      exact ⟨by first | rfl | (simp; done), by first | exact HD.out _ | exact HDD.out _ _ hb1⟩
  have f1 : (kind == 1) = false := by rw [beq_eq_false_iff_ne]; exact k1
  by_cases k3 : kind = 3 ∨ kind = 4 ∨ kind = 5
  · rw [show sitesB kind at_ x = (inB at_ 0 11 && zeroB x) by simp [sitesB, k1, k3]]
    rcases k3 with k3 | k3 | k3
    all_goals
      subst k3
      cases hin : inB at_ 0 11
      all_goals
        simp only [Bool.true_and, Bool.false_and]
        go_enter Tryz.func27, Tryz.ntmps27
        go_wp2_with (first | (go_at_call 77; refine (specSiteActOk_any x _ lo hi _ (HX.out _) (HH.out _) HS.out).mono ?_; rintro e1 w1 ⟨rfl, hb1⟩) | (go_at_call 79; refine (l33Zero_any x _ lo hi _ (HX.out _) HS.out).mono ?_; rintro e1 w1 ⟨rfl, hb1⟩) | (go_at_call 78; refine (l00In_any _ _ _ _).mono ?_; rintro e' w' ⟨rfl, rfl⟩))
        go_ret
        exact ⟨by first | rfl | (simp; done), by first | exact HD.out _ | exact HDD.out _ _ hb1⟩
  have f3 : (kind == 3) = false := by rw [beq_eq_false_iff_ne]; omega
  have f4 : (kind == 4) = false := by rw [beq_eq_false_iff_ne]; omega
  have f5 : (kind == 5) = false := by rw [beq_eq_false_iff_ne]; omega
  by_cases k2 : kind = 2 ∨ kind = 6 ∨ kind = 7
  · rw [show sitesB kind at_ x = (decide (at_ = 0) && zeroB x) by simp [sitesB, k1, k3, k2]]
    have hat : (at_ = 0 ∧ (at_ == 0) = true) ∨ (at_ ≠ 0 ∧ (at_ == 0) = false) := by
      by_cases h : at_ = 0
      · exact .inl ⟨h, by rw [beq_iff_eq]; exact h⟩
      · exact .inr ⟨h, by rw [beq_eq_false_iff_ne]; exact h⟩
    clear k3
    rcases k2 with k2 | k2 | k2
    all_goals
      subst k2
      rcases hat with ⟨h0, e0⟩ | ⟨h0, e0⟩
      all_goals
        first | rw [decide_eq_true h0, Bool.true_and] | rw [decide_eq_false h0, Bool.false_and]
        clear h0
        go_enter Tryz.func27, Tryz.ntmps27
        go_wp2_with (first | (go_at_call 77; refine (specSiteActOk_any x _ lo hi _ (HX.out _) (HH.out _) HS.out).mono ?_; rintro e1 w1 ⟨rfl, hb1⟩) | (go_at_call 79; refine (l33Zero_any x _ lo hi _ (HX.out _) HS.out).mono ?_; rintro e1 w1 ⟨rfl, hb1⟩) | (go_at_call 78; refine (l00In_any _ _ _ _).mono ?_; rintro e' w' ⟨rfl, rfl⟩))
        go_ret
        exact ⟨by first | rfl | (simp; done), by first | exact HD.out _ | exact HDD.out _ _ hb1⟩
  · have f2 : (kind == 2) = false := by rw [beq_eq_false_iff_ne]; omega
    have f6 : (kind == 6) = false := by rw [beq_eq_false_iff_ne]; omega
    have f7 : (kind == 7) = false := by rw [beq_eq_false_iff_ne]; omega
    rw [show sitesB kind at_ x = false by simp [sitesB, k1, k3, k2]]
    clear k1 k2 k3
    go_enter Tryz.func27, Tryz.ntmps27
    go_wp2_with (first | (go_at_call 77; refine (specSiteActOk_any x _ lo hi _ (HX.out _) (HH.out _) HS.out).mono ?_; rintro e1 w1 ⟨rfl, hb1⟩) | (go_at_call 79; refine (l33Zero_any x _ lo hi _ (HX.out _) HS.out).mono ?_; rintro e1 w1 ⟨rfl, hb1⟩) | (go_at_call 78; refine (l00In_any _ _ _ _).mono ?_; rintro e' w' ⟨rfl, rfl⟩))
    go_ret
    exact ⟨by first | rfl | (simp; done), by first | exact HD.out _ | exact HDD.out _ _ hb1⟩

set_option maxHeartbeats 4000000 in
set_option maxRecDepth 100000 in
theorem implSitesActOk_any (x : Act) (kind at_ : Int) (v : Value) (lo hi : Nat) (w : World) (hx : SActR w lo hi v kind at_ x) (hhi : hi ≤ w.heap.size) (hs : ActSmall x) :
    Calls Tryz.prog 31 #[v] w fun e w' => e = .returned (.bool (sitesB kind at_ x)) ∧ Below w.heap.size w w' := by
  obtain ⟨A, c, B, d, C, e, rfl, hA, hB, hC⟩ := hx
  have hbo := fun o => (Below.refl w.heap.size w).alloc (Nat.le_refl _) o
  have HX := Lib.hid (show ∀ o, ActR (w.alloc o) lo hi (.agg #[.int .i64 x.k, .int .i64 x.a, .string x.r, .string x.l, .slice A x.args.length c, .slice B x.input.length d, .slice C x.keep.length e]) x from fun o => ⟨A, c, B, d, C, e, rfl, hA.below (hbo o) hhi, hB.below (hbo o) hhi, hC.below (hbo o) hhi⟩)
  have HH := Lib.hid (fun o => Nat.le_trans hhi (hbo o).size)
  have HD := Lib.hid hbo
  have HDD := Lib.hid (fun o w1 (hb1 : Below (w.alloc o).heap.size (w.alloc o) w1) => (hbo o).trans (hb1.mono (hbo o).size))
  have HS := Lib.hid hs
  clear hA hB hC hbo hs
  by_cases k1 : kind = 1
  · subst k1
    rw [show sitesB 1 at_ x = (decide (at_ = 0) && actB x) from rfl]
    by_cases h0 : at_ = 0
    · have e0 : (at_ == 0) = true := by rw [beq_iff_eq]; exact h0
      rw [decide_eq_true h0, Bool.true_and]
      clear h0
      go_enter Tryz.func31, Tryz.ntmps31
      go_wp2_with (first | (go_at_call 84; refine (implSiteActOk_any x _ lo hi _ (HX.out _) (HH.out _) HS.out).mono ?_; rintro e1 w1 ⟨rfl, hb1⟩) | (go_at_call 86; refine (isZeroAct_any x _ lo hi _ (HX.out _) HS.out).mono ?_; rintro e1 w1 ⟨rfl, hb1⟩) | (go_at_call 85; refine (within_any _ _ _ _).mono ?_; rintro e' w' ⟨rfl, rfl⟩))
      go_ret
      exact ⟨by first | rfl | (simp; done), by first | exact HD.out _ | exact HDD.out _ _ hb1⟩
    · have e0 : (at_ == 0) = false := by rw [beq_eq_false_iff_ne]; exact h0
      rw [decide_eq_false h0, Bool.false_and]
      clear h0
      go_enter Tryz.func31, Tryz.ntmps31
      go_wp2_with (first | (go_at_call 84; refine (implSiteActOk_any x _ lo hi _ (HX.out _) (HH.out _) HS.out).mono ?_; rintro e1 w1 ⟨rfl, hb1⟩) | (go_at_call 86; refine (isZeroAct_any x _ lo hi _ (HX.out _) HS.out).mono ?_; rintro e1 w1 ⟨rfl, hb1⟩) | (go_at_call 85; refine (within_any _ _ _ _).mono ?_; rintro e' w' ⟨rfl, rfl⟩))
      go_ret
      exact ⟨by first | rfl | (simp; done), by first | exact HD.out _ | exact HDD.out _ _ hb1⟩
  have f1 : (kind == 1) = false := by rw [beq_eq_false_iff_ne]; exact k1
  by_cases k3 : kind = 3 ∨ kind = 4 ∨ kind = 5
  · rw [show sitesB kind at_ x = (inB at_ 0 11 && zeroB x) by simp [sitesB, k1, k3]]
    rcases k3 with k3 | k3 | k3
    all_goals
      subst k3
      cases hin : inB at_ 0 11
      all_goals
        simp only [Bool.true_and, Bool.false_and]
        go_enter Tryz.func31, Tryz.ntmps31
        go_wp2_with (first | (go_at_call 84; refine (implSiteActOk_any x _ lo hi _ (HX.out _) (HH.out _) HS.out).mono ?_; rintro e1 w1 ⟨rfl, hb1⟩) | (go_at_call 86; refine (isZeroAct_any x _ lo hi _ (HX.out _) HS.out).mono ?_; rintro e1 w1 ⟨rfl, hb1⟩) | (go_at_call 85; refine (within_any _ _ _ _).mono ?_; rintro e' w' ⟨rfl, rfl⟩))
        go_ret
        exact ⟨by first | rfl | (simp; done), by first | exact HD.out _ | exact HDD.out _ _ hb1⟩
  have f3 : (kind == 3) = false := by rw [beq_eq_false_iff_ne]; omega
  have f4 : (kind == 4) = false := by rw [beq_eq_false_iff_ne]; omega
  have f5 : (kind == 5) = false := by rw [beq_eq_false_iff_ne]; omega
  by_cases k2 : kind = 2 ∨ kind = 6 ∨ kind = 7
  · rw [show sitesB kind at_ x = (decide (at_ = 0) && zeroB x) by simp [sitesB, k1, k3, k2]]
    have hat : (at_ = 0 ∧ (at_ == 0) = true) ∨ (at_ ≠ 0 ∧ (at_ == 0) = false) := by
      by_cases h : at_ = 0
      · exact .inl ⟨h, by rw [beq_iff_eq]; exact h⟩
      · exact .inr ⟨h, by rw [beq_eq_false_iff_ne]; exact h⟩
    clear k3
    rcases k2 with k2 | k2 | k2
    all_goals
      subst k2
      rcases hat with ⟨h0, e0⟩ | ⟨h0, e0⟩
      all_goals
        first | rw [decide_eq_true h0, Bool.true_and] | rw [decide_eq_false h0, Bool.false_and]
        clear h0
        go_enter Tryz.func31, Tryz.ntmps31
        go_wp2_with (first | (go_at_call 84; refine (implSiteActOk_any x _ lo hi _ (HX.out _) (HH.out _) HS.out).mono ?_; rintro e1 w1 ⟨rfl, hb1⟩) | (go_at_call 86; refine (isZeroAct_any x _ lo hi _ (HX.out _) HS.out).mono ?_; rintro e1 w1 ⟨rfl, hb1⟩) | (go_at_call 85; refine (within_any _ _ _ _).mono ?_; rintro e' w' ⟨rfl, rfl⟩))
        go_ret
        exact ⟨by first | rfl | (simp; done), by first | exact HD.out _ | exact HDD.out _ _ hb1⟩
  · have f2 : (kind == 2) = false := by rw [beq_eq_false_iff_ne]; omega
    have f6 : (kind == 6) = false := by rw [beq_eq_false_iff_ne]; omega
    have f7 : (kind == 7) = false := by rw [beq_eq_false_iff_ne]; omega
    rw [show sitesB kind at_ x = false by simp [sitesB, k1, k3, k2]]
    clear k1 k2 k3
    go_enter Tryz.func31, Tryz.ntmps31
    go_wp2_with (first | (go_at_call 84; refine (implSiteActOk_any x _ lo hi _ (HX.out _) (HH.out _) HS.out).mono ?_; rintro e1 w1 ⟨rfl, hb1⟩) | (go_at_call 86; refine (isZeroAct_any x _ lo hi _ (HX.out _) HS.out).mono ?_; rintro e1 w1 ⟨rfl, hb1⟩) | (go_at_call 85; refine (within_any _ _ _ _).mono ?_; rintro e' w' ⟨rfl, rfl⟩))
    go_ret
    exact ⟨by first | rfl | (simp; done), by first | exact HD.out _ | exact HDD.out _ _ hb1⟩

set_option maxHeartbeats 1000000 in
set_option maxRecDepth 100000 in
theorem szSitesAct_any (x : Act) (kind at_ : Int) (v : Value) (lo hi : Nat) (left : Int) (w : World) (hx : SActR w lo hi v kind at_ x) (hhi : hi ≤ w.heap.size) (hr : ActReach x) (hl0 : 0 ≤ left) (hl : left ≤ 1048576) :
    Calls Tryz.prog 7 #[v, .int .i64 left] w fun e w' => ∃ m, e = .returned (.int .i64 m) ∧ Left left (costAct x) m ∧ Below w.heap.size w w' := by
  obtain ⟨A, c, B, d, C, e, rfl, hA, hB, hC⟩ := hx
  have hbo := fun o => (Below.refl w.heap.size w).alloc (Nat.le_refl _) o
  have HX := Lib.hid (show ∀ o, ActR (w.alloc o) lo hi (.agg #[.int .i64 x.k, .int .i64 x.a, .string x.r, .string x.l, .slice A x.args.length c, .slice B x.input.length d, .slice C x.keep.length e]) x from fun o => ⟨A, c, B, d, C, e, rfl, hA.below (hbo o) hhi, hB.below (hbo o) hhi, hC.below (hbo o) hhi⟩)
  have HH := Lib.hid (fun o => Nat.le_trans hhi (hbo o).size)
  have HDD := Lib.hid (fun o w1 (hb1 : Below (w.alloc o).heap.size (w.alloc o) w1) => (hbo o).trans (hb1.mono (hbo o).size))
  have HR := Lib.hid hr
  clear hA hB hC hbo hr
  go_enter Tryz.func7, Tryz.ntmps7
  go_wp2_with fail
  refine (szSiteAct_any x _ lo hi left _ (HX.out _) (HH.out _) HR.out hl0 hl).mono ?_
  rintro e1 w1 ⟨m, rfl, hm, hb1⟩
  have HB := Lib.hid (HDD.out _ _ hb1)
  clear hb1
  rcases hm with rfl | ⟨hm0, hm1⟩
  · go_wp2_with fail
    go_ret
    exact ⟨_, rfl, .inl rfl, HB.out⟩
  · have HM := Lib.hid hm1; clear hm1
    have nm : ¬ (m < 0) := by omega
    go_wp2_with fail
    go_ret
    exact ⟨_, rfl, .inr ⟨hm0, HM.out⟩, HB.out⟩

set_option maxHeartbeats 1000000 in
set_option maxRecDepth 100000 in
theorem eqSitesAct_same (x : Act) (kind at_ : Int) (v v' : Value) (lo hi lo' hi' : Nat) (w : World) (hx : SActR w lo hi v kind at_ x) (hx' : SActR w lo' hi' v' kind at_ x) (hhi : hi ≤ w.heap.size) (hhi' : hi' ≤ w.heap.size) (hs : ActSmall x) :
    Calls Tryz.prog 11 #[v, v'] w fun e w' => e = .returned (.bool true) ∧ Below w.heap.size w w' := by
  obtain ⟨A, c, B, d, C, e, rfl, hA, hB, hC⟩ := hx
  obtain ⟨A', c', B', d', C', e', rfl, hA', hB', hC'⟩ := hx'
  have hb2 := fun o o' => ((Below.refl w.heap.size w).alloc (Nat.le_refl _) o).alloc (by simp) o'
  have HX := Lib.hid (show ∀ o o', ActR ((w.alloc o).alloc o') lo hi (.agg #[.int .i64 x.k, .int .i64 x.a, .string x.r, .string x.l, .slice A x.args.length c, .slice B x.input.length d, .slice C x.keep.length e]) x from fun o o' => ⟨A, c, B, d, C, e, rfl, hA.below (hb2 o o') hhi, hB.below (hb2 o o') hhi, hC.below (hb2 o o') hhi⟩)
  have HX' := Lib.hid (show ∀ o o', ActR ((w.alloc o).alloc o') lo' hi' (.agg #[.int .i64 x.k, .int .i64 x.a, .string x.r, .string x.l, .slice A' x.args.length c', .slice B' x.input.length d', .slice C' x.keep.length e']) x from fun o o' => ⟨A', c', B', d', C', e', rfl, hA'.below (hb2 o o') hhi', hB'.below (hb2 o o') hhi', hC'.below (hb2 o o') hhi'⟩)
  have HH := Lib.hid (fun o o' => Nat.le_trans hhi (hb2 o o').size)
  have HH' := Lib.hid (fun o o' => Nat.le_trans hhi' (hb2 o o').size)
  have HDD := Lib.hid (fun o o' w1 (hb1 : Below ((w.alloc o).alloc o').heap.size ((w.alloc o).alloc o') w1) => (hb2 o o').trans (hb1.mono (hb2 o o').size))
  have HS := Lib.hid hs
  clear hA hB hC hA' hB' hC' hb2 hs
  go_enter Tryz.func11, Tryz.ntmps11
  go_wp2_with fail
  refine (eqSiteAct_same x _ _ lo hi lo' hi' _ (HX.out _ _) (HX'.out _ _) (HH.out _ _) (HH'.out _ _) HS.out).mono ?_
  rintro e1 w1 ⟨rfl, hb1⟩
  have HB := Lib.hid (HDD.out _ _ _ hb1)
  clear hb1
  go_wp2_with fail
  go_ret
  exact ⟨rfl, HB.out⟩

theorem RowR.set_far {α : Type} {enc : α → Value} {d : α} {w : World} {lo hi : Nat} {A : Option Addr} {n : Nat} {xs : List α} (h : RowR enc d w lo hi A n xs) {p : Addr} (hp : p.block < lo) (u : Value) : RowR enc d (w.setCell p u) lo hi A n xs :=
  h.keep fun b h1 _ => Below.heap_setCell w p u b (by omega)

set_option maxHeartbeats 1000000 in
set_option maxRecDepth 100000 in
theorem toSitesAct_any (x : Act) (kind at_ : Int) (v : Value) (lo hi : Nat) (w : World) (hx : SActR w lo hi v kind at_ x) (hhi : hi ≤ w.heap.size) (hs : ActSmall x) :
    Calls Tryz.prog 9 #[v] w fun e w' => ∃ v', e = .returned v' ∧ SActR w' w.heap.size w'.heap.size v' kind at_ x ∧ Below w.heap.size w w' := by
  obtain ⟨A, c, B, d, C, e, rfl, hA, hB, hC⟩ := hx
  have HA := Lib.hid hA; have HB := Lib.hid hB; have HC := Lib.hid hC; have HS := Lib.hid hs
  clear hA hB hC hs
  go_enter Tryz.func9, Tryz.ntmps9
  go_wp2_with fail
  have T0 := Three.start w 27 32 32 #[.int .i64 kind, .int .i64 at_, .int .i64 x.k, .int .i64 x.a, .string x.r, .string x.l, .slice A x.args.length c, .slice B x.input.length d, .slice C x.keep.length e]
    #[.int .i64 0, .int .i64 0, .int .i64 0, .int .i64 0, .string ⟨#[]⟩, .string ⟨#[]⟩, .slice none 0 0, .slice none 0 0, .slice none 0 0] #[.int .i64 kind, .int .i64 at_, .int .i64 0, .int .i64 0, .string ⟨#[]⟩, .string ⟨#[]⟩, .slice none 0 0, .slice none 0 0, .slice none 0 0]
  refine (toSiteAct_any x _ lo hi _ ⟨A, c, B, d, C, e, rfl, HA.out.below T0.2.2.2 hhi, HB.out.below T0.2.2.2 hhi, HC.out.below T0.2.2.2 hhi⟩ (Nat.le_trans hhi T0.2.2.2.size) HS.out).mono ?_
  rintro e1 w1 ⟨v1, rfl, ⟨A4, c4, B4', d4, C4, e4', rfl, hA4, hB4, hC4⟩, hb1⟩
  have T1 := T0.call hb1
  have l1 := T0.2.2.1.lt
  clear T0 hb1
  have f1 := T1.2.1.cell
  have z1 := T1.2.1.frozen
  have f2 := T1.2.2.1.cell
  have z2 := T1.2.2.1.frozen
  have TT := Lib.hid T1; clear T1
  have hl3 := Nat.le_refl (w.heap.size + 1 + 1 + 1)
  have KA := Lib.hid (hA4.more (lo' := w.heap.size + 1 + 1 + 1) (by simp) (Nat.le_refl _))
  have KB := Lib.hid (hB4.more (lo' := w.heap.size + 1 + 1 + 1) (by simp) (Nat.le_refl _))
  have KC := Lib.hid (hC4.more (lo' := w.heap.size + 1 + 1 + 1) (by simp) (Nat.le_refl _))
  clear hA4 hB4 hC4 l1
  go_wp2_with fail
  refine bodyPost_ret (v := .agg #[.int .i64 kind, .int .i64 at_, .int .i64 x.k, .int .i64 x.a, .string x.r, .string x.l, .slice A4 x.args.length c4, .slice B4' x.input.length d4, .slice C4 x.keep.length e4']) (by simp [results, Tryz.results9, go_sem, f1]) rfl ⟨_, rfl, ⟨A4, c4, B4', d4, C4, e4', rfl, ?_, ?_, ?_⟩, ?_⟩
  · refine RowR.more (lo := w.heap.size + 1 + 1 + 1) (hi := w1.heap.size) ?_ (by omega) (by simp [World.setCell])
    iterate 16 (with_reducible refine RowR.set_far ?_ (by simp; try omega) _)
    exact KA.out
  · refine RowR.more (lo := w.heap.size + 1 + 1 + 1) (hi := w1.heap.size) ?_ (by omega) (by simp [World.setCell])
    iterate 16 (with_reducible refine RowR.set_far ?_ (by simp; try omega) _)
    exact KB.out
  · refine RowR.more (lo := w.heap.size + 1 + 1 + 1) (hi := w1.heap.size) ?_ (by omega) (by simp [World.setCell])
    iterate 16 (with_reducible refine RowR.set_far ?_ (by simp; try omega) _)
    exact KC.out
  · iterate 16 (with_reducible refine Below.setCell ?_ (by simp; try omega) _)
    exact TT.out.2.2.2

end Go.Proofs.YtcjaaknnfohllaaGreatDoor
