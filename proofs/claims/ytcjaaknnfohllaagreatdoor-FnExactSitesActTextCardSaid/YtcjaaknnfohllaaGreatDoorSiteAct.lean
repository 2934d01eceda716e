/- Both SiteActOk compute one plain function. -/
import Derived.Test.YtcjaaknnfohllaaGreatDoorActs
import Derived.Test.YtcjaaknnfohllaaGreatDoorActDef
namespace Go.Proofs.YtcjaaknnfohllaaGreatDoor
open Go.RowKit

/-- What SiteActOk says. -/
def actB (x : Act) : Bool :=
  if x.k = 1 then decide (x.keep.length = 0) && decide (x.a = 0) && nameB x.r && nameB x.l && textsB 5 x.args && textsB 8 x.input
  else if x.r.size ≠ 0 ∨ x.l.size ≠ 0 ∨ x.args.length ≠ 0 ∨ x.input.length ≠ 0 then false
  else if x.k ≠ 7 ∧ x.keep.length ≠ 0 then false
  else if x.k = 2 then inB x.a 1 4
  else if x.k = 3 ∨ x.k = 4 ∨ x.k = 6 then decide (x.a = 0)
  else if x.k = 5 then inB x.a 0 64
  else if x.k = 7 then inB x.a (-1) 1700 && keepB x.keep
  else false

theorem isEmpty_size {x : ByteArray} : x.toList.isEmpty = decide (x.size = 0) := by
  rw [ByteArray.toList_eq]
  cases x with | mk a => cases a with | mk l => cases l <;> simp [ByteArray.size]
theorem isEmpty_true {x : ByteArray} (h : x.size = 0) : x.toList.isEmpty = true := by rw [isEmpty_size]; simp [h]
theorem isEmpty_false {x : ByteArray} (h : x.size ≠ 0) : x.toList.isEmpty = false := by rw [isEmpty_size]; simp [h]

set_option maxHeartbeats 8000000 in
set_option maxRecDepth 100000 in
theorem specSiteActOk_any (x : Act) (v : Value) (lo hi : Nat) (w : World) (hx : ActR w lo hi v x) (hhi : hi ≤ w.heap.size) (hs : ActSmall x) :
    Calls Tryz.prog 77 #[v] w fun e w' => e = .returned (.bool (actB x)) ∧ Below w.heap.size w w' := by
  obtain ⟨k, a, r, l, xargs, xin, xkeep⟩ := x
  obtain ⟨A, c, B, d, C, e, rfl, hA, hB, hC⟩ := hx
  obtain ⟨hs1, hs2, hs3, hs4, hs5, hs6, hs7⟩ := hs
  dsimp only at *
  have hbo := fun o => (Below.refl w.heap.size w).alloc (Nat.le_refl _) o
  have hbo2 := fun o o' => ((Below.refl w.heap.size w).alloc (Nat.le_refl _) o).alloc (by simp) o'
  have HA := Lib.hid (fun o => hA.below (hbo o) hhi)
  have HB := Lib.hid (fun o => hB.below (hbo o) hhi)
  have HBq := Lib.hid (fun o q => (hB.below (hbo o) hhi).drewN q)
  have HC := Lib.hid (fun o => hC.below (hbo o) hhi)
  have HC2 := Lib.hid (fun o o' => hC.below (hbo2 o o') hhi)
  have HD := Lib.hid hbo
  have HD2 := Lib.hid hbo2
  have HDq := Lib.hid (fun o q => (hbo o).trans ((below_drewN' (w.alloc o) q).mono (by simp)))
  have HDqq := Lib.hid (fun o q q' => ((hbo o).trans ((below_drewN' (w.alloc o) q).mono (by simp))).trans ((below_drewN' ((w.alloc o).drewN q) q').mono (by show w.heap.size ≤ (w.alloc o).heap.size; simp)))
  have HD2q := Lib.hid (fun o o' q => (hbo2 o o').trans ((below_drewN' ((w.alloc o).alloc o') q).mono (by simp; omega)))
  have HSA := Lib.hid hs6
  have HSI := Lib.hid hs7
  clear hA hB hC hbo hbo2 hs6 hs7
  by_cases hk : k = 1
  · subst hk
    have hc : (xkeep.length ≠ 0) ∨ (xkeep.length = 0 ∧ a ≠ 0) ∨ (xkeep.length = 0 ∧ a = 0 ∧ nameB r = false) ∨ (xkeep.length = 0 ∧ a = 0 ∧ nameB r = true ∧ nameB l = false) ∨
        (xkeep.length = 0 ∧ a = 0 ∧ nameB r = true ∧ nameB l = true ∧ textsB 5 xargs = false) ∨ (xkeep.length = 0 ∧ a = 0 ∧ nameB r = true ∧ nameB l = true ∧ textsB 5 xargs = true ∧ True) := by
      by_cases q1 : xkeep.length = 0 <;> by_cases q2 : a = 0 <;> cases nameB r <;> cases nameB l <;> cases textsB 5 xargs <;> simp [q1, q2]
    have HV := Lib.hid (show actB ⟨1, a, r, l, xargs, xin, xkeep⟩ = (decide (xkeep.length = 0) && decide (a = 0) && nameB r && nameB l && textsB 5 xargs && textsB 8 xin) from rfl)
    rw [HV.out]
    rcases hc with hc | ⟨hc, hc2⟩ | ⟨hc, hc2, hc3⟩ | ⟨hc, hc2, hc3, hc4⟩ | ⟨hc, hc2, hc3, hc4, hc5⟩ | ⟨hc, hc2, hc3, hc4, hc5, _⟩
    · have hz : decide (0 < xkeep.length) = true := decide_eq_true (by omega)
      have hzp : 0 < xkeep.length := by omega
      have hz2 : ((xkeep.length : Int) == 0) = false := by rw [beq_eq_false_iff_ne]; omega
      rw [decide_eq_false hc, Bool.false_and, Bool.false_and, Bool.false_and, Bool.false_and, Bool.false_and]
      by_cases ha : (a == 0) = true
      all_goals
        try simp only [Bool.not_eq_true] at ha
        go_enter Tryz.func77, Tryz.ntmps77
        go_wp2_with (first | (go_at_call 137; refine (specNameOk_any _ _ (by omega)).mono ?_; rintro e w' ⟨rfl, rfl⟩) | (go_at_call 138; refine (l32Texts_any _ _ _ lo hi 5 xargs _ (HA.out _) (by omega) (by omega) (by omega) HSA.out).mono ?_; rintro e w' ⟨rfl, rfl⟩) | (go_at_call 139; refine (l27Input_any _ _ _ lo hi xin _ (HB.out _) (by omega) HSI.out).mono ?_; rintro e w' ⟨rfl, rfl⟩) | (go_at_call 78; refine (l00In_any _ _ _ _).mono ?_; rintro e w' ⟨rfl, rfl⟩) | (go_at_call 141; refine (l32Keep_any _ _ _ lo hi xkeep _ (HC.out _) (by omega)).mono ?_; rintro e w' ⟨rfl, q, rfl⟩) | go_in)
        go_ret
        refine ⟨?_, ?_⟩
        · first | rfl | (simp; done) | (refine congrArg (fun b => Ending.returned (.bool b)) ?_; rw [Bool.eq_iff_iff]; simp; done)
        · first | exact HD.out _ | exact HDq.out _ _ | exact HD2.out _ _ | exact HD2q.out _ _ _ | exact HDqq.out _ _ _
    all_goals
      have hz : decide (0 < xkeep.length) = false := decide_eq_false (by omega)
      have hzp : xkeep.length ≤ 0 := by omega
      have hz2 : ((xkeep.length : Int) == 0) = true := by rw [beq_iff_eq]; omega
      rw [decide_eq_true hc, Bool.true_and]
      have HC0 := Lib.hid hc; clear hc
    · have ha : (a == 0) = false := by rw [beq_eq_false_iff_ne]; exact hc2
      rw [decide_eq_false hc2, Bool.false_and, Bool.false_and, Bool.false_and, Bool.false_and]
      clear hc2
      go_enter Tryz.func77, Tryz.ntmps77
      go_wp2_with (first | (go_at_call 137; refine (specNameOk_any _ _ (by omega)).mono ?_; rintro e w' ⟨rfl, rfl⟩) | (go_at_call 138; refine (l32Texts_any _ _ _ lo hi 5 xargs _ (HA.out _) (by omega) (by omega) (by omega) HSA.out).mono ?_; rintro e w' ⟨rfl, rfl⟩) | (go_at_call 139; refine (l27Input_any _ _ _ lo hi xin _ (HB.out _) (by omega) HSI.out).mono ?_; rintro e w' ⟨rfl, rfl⟩) | (go_at_call 78; refine (l00In_any _ _ _ _).mono ?_; rintro e w' ⟨rfl, rfl⟩) | (go_at_call 141; refine (l32Keep_any _ _ _ lo hi xkeep _ (HC.out _) (by omega)).mono ?_; rintro e w' ⟨rfl, q, rfl⟩) | go_in)
      go_ret
      refine ⟨?_, ?_⟩
      · first | rfl | (simp; done) | (refine congrArg (fun b => Ending.returned (.bool b)) ?_; rw [Bool.eq_iff_iff]; simp; done)
      · first | exact HD.out _ | exact HDq.out _ _ | exact HD2.out _ _ | exact HD2q.out _ _ _ | exact HDqq.out _ _ _
    all_goals
      have ha : (a == 0) = true := by rw [beq_iff_eq]; exact hc2
      rw [decide_eq_true hc2, Bool.true_and]
      clear hc2
    · rw [hc3, Bool.false_and, Bool.false_and, Bool.false_and]
      go_enter Tryz.func77, Tryz.ntmps77
      go_wp2_with (first | (go_at_call 137; refine (specNameOk_any _ _ (by omega)).mono ?_; rintro e w' ⟨rfl, rfl⟩) | (go_at_call 138; refine (l32Texts_any _ _ _ lo hi 5 xargs _ (HA.out _) (by omega) (by omega) (by omega) HSA.out).mono ?_; rintro e w' ⟨rfl, rfl⟩) | (go_at_call 139; refine (l27Input_any _ _ _ lo hi xin _ (HB.out _) (by omega) HSI.out).mono ?_; rintro e w' ⟨rfl, rfl⟩) | (go_at_call 78; refine (l00In_any _ _ _ _).mono ?_; rintro e w' ⟨rfl, rfl⟩) | (go_at_call 141; refine (l32Keep_any _ _ _ lo hi xkeep _ (HC.out _) (by omega)).mono ?_; rintro e w' ⟨rfl, q, rfl⟩) | go_in)
      go_ret
      refine ⟨?_, ?_⟩
      · first | rfl | (simp; done) | (refine congrArg (fun b => Ending.returned (.bool b)) ?_; rw [Bool.eq_iff_iff]; simp; done)
      · first | exact HD.out _ | exact HDq.out _ _ | exact HD2.out _ _ | exact HD2q.out _ _ _ | exact HDqq.out _ _ _
    · rw [hc3, hc4, Bool.true_and, Bool.false_and, Bool.false_and]
      go_enter Tryz.func77, Tryz.ntmps77
      go_wp2_with (first | (go_at_call 137; refine (specNameOk_any _ _ (by omega)).mono ?_; rintro e w' ⟨rfl, rfl⟩) | (go_at_call 138; refine (l32Texts_any _ _ _ lo hi 5 xargs _ (HA.out _) (by omega) (by omega) (by omega) HSA.out).mono ?_; rintro e w' ⟨rfl, rfl⟩) | (go_at_call 139; refine (l27Input_any _ _ _ lo hi xin _ (HB.out _) (by omega) HSI.out).mono ?_; rintro e w' ⟨rfl, rfl⟩) | (go_at_call 78; refine (l00In_any _ _ _ _).mono ?_; rintro e w' ⟨rfl, rfl⟩) | (go_at_call 141; refine (l32Keep_any _ _ _ lo hi xkeep _ (HC.out _) (by omega)).mono ?_; rintro e w' ⟨rfl, q, rfl⟩) | go_in)
      go_ret
      refine ⟨?_, ?_⟩
      · first | rfl | (simp; done) | (refine congrArg (fun b => Ending.returned (.bool b)) ?_; rw [Bool.eq_iff_iff]; simp; done)
      · first | exact HD.out _ | exact HDq.out _ _ | exact HD2.out _ _ | exact HD2q.out _ _ _ | exact HDqq.out _ _ _
    · rw [hc3, hc4, hc5, Bool.true_and, Bool.true_and, Bool.false_and]
      go_enter Tryz.func77, Tryz.ntmps77
      go_wp2_with (first | (go_at_call 137; refine (specNameOk_any _ _ (by omega)).mono ?_; rintro e w' ⟨rfl, rfl⟩) | (go_at_call 138; refine (l32Texts_any _ _ _ lo hi 5 xargs _ (HA.out _) (by omega) (by omega) (by omega) HSA.out).mono ?_; rintro e w' ⟨rfl, rfl⟩) | (go_at_call 139; refine (l27Input_any _ _ _ lo hi xin _ (HB.out _) (by omega) HSI.out).mono ?_; rintro e w' ⟨rfl, rfl⟩) | (go_at_call 78; refine (l00In_any _ _ _ _).mono ?_; rintro e w' ⟨rfl, rfl⟩) | (go_at_call 141; refine (l32Keep_any _ _ _ lo hi xkeep _ (HC.out _) (by omega)).mono ?_; rintro e w' ⟨rfl, q, rfl⟩) | go_in)
      go_ret
      refine ⟨?_, ?_⟩
      · first | rfl | (simp; done) | (refine congrArg (fun b => Ending.returned (.bool b)) ?_; rw [Bool.eq_iff_iff]; simp; done)
      · first | exact HD.out _ | exact HDq.out _ _ | exact HD2.out _ _ | exact HD2q.out _ _ _ | exact HDqq.out _ _ _
    · rw [hc3, hc4, hc5, Bool.true_and, Bool.true_and, Bool.true_and]
      go_enter Tryz.func77, Tryz.ntmps77
      go_wp2_with (first | (go_at_call 137; refine (specNameOk_any _ _ (by omega)).mono ?_; rintro e w' ⟨rfl, rfl⟩) | (go_at_call 138; refine (l32Texts_any _ _ _ lo hi 5 xargs _ (HA.out _) (by omega) (by omega) (by omega) HSA.out).mono ?_; rintro e w' ⟨rfl, rfl⟩) | (go_at_call 139; refine (l27Input_any _ _ _ lo hi xin _ (HB.out _) (by omega) HSI.out).mono ?_; rintro e w' ⟨rfl, rfl⟩) | (go_at_call 78; refine (l00In_any _ _ _ _).mono ?_; rintro e w' ⟨rfl, rfl⟩) | (go_at_call 141; refine (l32Keep_any _ _ _ lo hi xkeep _ (HC.out _) (by omega)).mono ?_; rintro e w' ⟨rfl, q, rfl⟩) | go_in)
      go_ret
      refine ⟨?_, ?_⟩
      · first | rfl | (simp; done) | (refine congrArg (fun b => Ending.returned (.bool b)) ?_; rw [Bool.eq_iff_iff]; simp; done)
      · first | exact HD.out _ | exact HDq.out _ _ | exact HD2.out _ _ | exact HD2q.out _ _ _ | exact HDqq.out _ _ _
  · have ek1 : (k == 1) = false := by rw [beq_eq_false_iff_ne]; exact hk
    have nk1 : (k != 1) = true := by rw [bne_iff_ne]; exact hk
    have hc : (r.size ≠ 0) ∨ (r.size = 0 ∧ l.size ≠ 0) ∨ (r.size = 0 ∧ l.size = 0 ∧ xargs.length ≠ 0) ∨ (r.size = 0 ∧ l.size = 0 ∧ xargs.length = 0 ∧ xin.length ≠ 0) ∨
        (r.size = 0 ∧ l.size = 0 ∧ xargs.length = 0 ∧ xin.length = 0 ∧ k ≠ 7 ∧ xkeep.length ≠ 0) ∨ (r.size = 0 ∧ l.size = 0 ∧ xargs.length = 0 ∧ xin.length = 0 ∧ k = 7) ∨
        (r.size = 0 ∧ l.size = 0 ∧ xargs.length = 0 ∧ xin.length = 0 ∧ k ≠ 7 ∧ xkeep.length = 0) := by omega
    rcases hc with q1 | ⟨q1, q2⟩ | ⟨q1, q2, q3⟩ | ⟨q1, q2, q3, q4⟩ | ⟨q1, q2, q3, q4, q5, q6⟩ | ⟨q1, q2, q3, q4, q5⟩ | ⟨q1, q2, q3, q4, q5, q6⟩
    · have HV := Lib.hid (show actB ⟨k, a, r, l, xargs, xin, xkeep⟩ = false by simp [actB, hk, q1])
      rw [HV.out]
      have er := isEmpty_false q1
      have er2 : (!r.toList.isEmpty) = true := by rw [er]; rfl
      go_enter Tryz.func77, Tryz.ntmps77
      go_wp2_with (first | (go_at_call 137; refine (specNameOk_any _ _ (by omega)).mono ?_; rintro e w' ⟨rfl, rfl⟩) | (go_at_call 138; refine (l32Texts_any _ _ _ lo hi 5 xargs _ (HA.out _) (by omega) (by omega) (by omega) HSA.out).mono ?_; rintro e w' ⟨rfl, rfl⟩) | (go_at_call 139; refine (l27Input_any _ _ _ lo hi xin _ (HB.out _) (by omega) HSI.out).mono ?_; rintro e w' ⟨rfl, rfl⟩) | (go_at_call 78; refine (l00In_any _ _ _ _).mono ?_; rintro e w' ⟨rfl, rfl⟩) | (go_at_call 141; refine (l32Keep_any _ _ _ lo hi xkeep _ (HC.out _) (by omega)).mono ?_; rintro e w' ⟨rfl, q, rfl⟩) | go_in)
      go_ret
      refine ⟨?_, ?_⟩
      · first | rfl | (simp; done) | (refine congrArg (fun b => Ending.returned (.bool b)) ?_; rw [Bool.eq_iff_iff]; simp; done)
      · first | exact HD.out _ | exact HDq.out _ _ | exact HD2.out _ _ | exact HD2q.out _ _ _ | exact HDqq.out _ _ _
    · have HV := Lib.hid (show actB ⟨k, a, r, l, xargs, xin, xkeep⟩ = false by simp [actB, hk, q1, q2])
      rw [HV.out]
      have er := isEmpty_true q1
      have er2 : (!r.toList.isEmpty) = false := by rw [er]; rfl
      have el := isEmpty_false q2
      have el2 : (!l.toList.isEmpty) = true := by rw [el]; rfl
      have Q1 := Lib.hid q1; clear q1
      go_enter Tryz.func77, Tryz.ntmps77
      go_wp2_with (first | (go_at_call 137; refine (specNameOk_any _ _ (by omega)).mono ?_; rintro e w' ⟨rfl, rfl⟩) | (go_at_call 138; refine (l32Texts_any _ _ _ lo hi 5 xargs _ (HA.out _) (by omega) (by omega) (by omega) HSA.out).mono ?_; rintro e w' ⟨rfl, rfl⟩) | (go_at_call 139; refine (l27Input_any _ _ _ lo hi xin _ (HB.out _) (by omega) HSI.out).mono ?_; rintro e w' ⟨rfl, rfl⟩) | (go_at_call 78; refine (l00In_any _ _ _ _).mono ?_; rintro e w' ⟨rfl, rfl⟩) | (go_at_call 141; refine (l32Keep_any _ _ _ lo hi xkeep _ (HC.out _) (by omega)).mono ?_; rintro e w' ⟨rfl, q, rfl⟩) | go_in)
      go_ret
      refine ⟨?_, ?_⟩
      · first | rfl | (simp; done) | (refine congrArg (fun b => Ending.returned (.bool b)) ?_; rw [Bool.eq_iff_iff]; simp; done)
      · first | exact HD.out _ | exact HDq.out _ _ | exact HD2.out _ _ | exact HD2q.out _ _ _ | exact HDqq.out _ _ _
    all_goals
      have er := isEmpty_true q1
      have er2 : (!r.toList.isEmpty) = false := by rw [er]; rfl
      have el := isEmpty_true q2
      have el2 : (!l.toList.isEmpty) = false := by rw [el]; rfl
      have Q1 := Lib.hid q1
      have Q2 := Lib.hid q2
      clear q1 q2
    · have HV := Lib.hid (show actB ⟨k, a, r, l, xargs, xin, xkeep⟩ = false by simp [actB, hk, Q1.out, Q2.out, q3])
      rw [HV.out]
      have p3 : 0 < xargs.length := by omega
      have d3 : decide (0 < xargs.length) = true := decide_eq_true p3
      have z3 : ((xargs.length : Int) == 0) = false := by rw [beq_eq_false_iff_ne]; omega
      go_enter Tryz.func77, Tryz.ntmps77
      go_wp2_with (first | (go_at_call 137; refine (specNameOk_any _ _ (by omega)).mono ?_; rintro e w' ⟨rfl, rfl⟩) | (go_at_call 138; refine (l32Texts_any _ _ _ lo hi 5 xargs _ (HA.out _) (by omega) (by omega) (by omega) HSA.out).mono ?_; rintro e w' ⟨rfl, rfl⟩) | (go_at_call 139; refine (l27Input_any _ _ _ lo hi xin _ (HB.out _) (by omega) HSI.out).mono ?_; rintro e w' ⟨rfl, rfl⟩) | (go_at_call 78; refine (l00In_any _ _ _ _).mono ?_; rintro e w' ⟨rfl, rfl⟩) | (go_at_call 141; refine (l32Keep_any _ _ _ lo hi xkeep _ (HC.out _) (by omega)).mono ?_; rintro e w' ⟨rfl, q, rfl⟩) | go_in)
      go_ret
      refine ⟨?_, ?_⟩
      · first | rfl | (simp; done) | (refine congrArg (fun b => Ending.returned (.bool b)) ?_; rw [Bool.eq_iff_iff]; simp; done)
      · first | exact HD.out _ | exact HDq.out _ _ | exact HD2.out _ _ | exact HD2q.out _ _ _ | exact HDqq.out _ _ _
    all_goals
      have p3 : xargs.length ≤ 0 := by omega
      have d3 : decide (0 < xargs.length) = false := decide_eq_false (by omega)
      have z3 : ((xargs.length : Int) == 0) = true := by rw [beq_iff_eq]; omega
      have Q3 := Lib.hid q3
      clear q3
    · have HV := Lib.hid (show actB ⟨k, a, r, l, xargs, xin, xkeep⟩ = false by simp [actB, hk, Q1.out, Q2.out, Q3.out, q4])
      rw [HV.out]
      have p4 : 0 < xin.length := by omega
      have d4 : decide (0 < xin.length) = true := decide_eq_true p4
      have z4 : ((xin.length : Int) == 0) = false := by rw [beq_eq_false_iff_ne]; omega
      go_enter Tryz.func77, Tryz.ntmps77
      go_wp2_with (first | (go_at_call 137; refine (specNameOk_any _ _ (by omega)).mono ?_; rintro e w' ⟨rfl, rfl⟩) | (go_at_call 138; refine (l32Texts_any _ _ _ lo hi 5 xargs _ (HA.out _) (by omega) (by omega) (by omega) HSA.out).mono ?_; rintro e w' ⟨rfl, rfl⟩) | (go_at_call 139; refine (l27Input_any _ _ _ lo hi xin _ (HB.out _) (by omega) HSI.out).mono ?_; rintro e w' ⟨rfl, rfl⟩) | (go_at_call 78; refine (l00In_any _ _ _ _).mono ?_; rintro e w' ⟨rfl, rfl⟩) | (go_at_call 141; refine (l32Keep_any _ _ _ lo hi xkeep _ (HC.out _) (by omega)).mono ?_; rintro e w' ⟨rfl, q, rfl⟩) | go_in)
      go_ret
      refine ⟨?_, ?_⟩
      · first | rfl | (simp; done) | (refine congrArg (fun b => Ending.returned (.bool b)) ?_; rw [Bool.eq_iff_iff]; simp; done)
      · first | exact HD.out _ | exact HDq.out _ _ | exact HD2.out _ _ | exact HD2q.out _ _ _ | exact HDqq.out _ _ _
    all_goals
      have p4 : xin.length ≤ 0 := by omega
      have d4 : decide (0 < xin.length) = false := decide_eq_false (by omega)
      have z4 : ((xin.length : Int) == 0) = true := by rw [beq_iff_eq]; omega
      have Q4 := Lib.hid q4
      clear q4
    · have HV := Lib.hid (show actB ⟨k, a, r, l, xargs, xin, xkeep⟩ = false by simp [actB, hk, Q1.out, Q2.out, Q3.out, Q4.out, q5, q6])
      rw [HV.out]
      have e7 : (k == 7) = false := by rw [beq_eq_false_iff_ne]; exact q5
      have n7 : (k != 7) = true := by rw [bne_iff_ne]; exact q5
      have p5 : 0 < xkeep.length := by omega
      have d5 : decide (0 < xkeep.length) = true := decide_eq_true p5
      go_enter Tryz.func77, Tryz.ntmps77
      go_wp2_with (first | (go_at_call 137; refine (specNameOk_any _ _ (by omega)).mono ?_; rintro e w' ⟨rfl, rfl⟩) | (go_at_call 138; refine (l32Texts_any _ _ _ lo hi 5 xargs _ (HA.out _) (by omega) (by omega) (by omega) HSA.out).mono ?_; rintro e w' ⟨rfl, rfl⟩) | (go_at_call 139; refine (l27Input_any _ _ _ lo hi xin _ (HB.out _) (by omega) HSI.out).mono ?_; rintro e w' ⟨rfl, rfl⟩) | (go_at_call 78; refine (l00In_any _ _ _ _).mono ?_; rintro e w' ⟨rfl, rfl⟩) | (go_at_call 141; refine (l32Keep_any _ _ _ lo hi xkeep _ (HC.out _) (by omega)).mono ?_; rintro e w' ⟨rfl, q, rfl⟩) | go_in)
      go_ret
      refine ⟨?_, ?_⟩
      · first | rfl | (simp; done) | (refine congrArg (fun b => Ending.returned (.bool b)) ?_; rw [Bool.eq_iff_iff]; simp; done)
      · first | exact HD.out _ | exact HDq.out _ _ | exact HD2.out _ _ | exact HD2q.out _ _ _ | exact HDqq.out _ _ _
    · subst q5
      have HV := Lib.hid (show actB ⟨7, a, r, l, xargs, xin, xkeep⟩ = (inB a (-1) 1700 && keepB xkeep) by simp [actB, Q1.out, Q2.out, Q3.out, Q4.out])
      rw [HV.out]
      cases hin : inB a (-1) 1700
      all_goals
        simp only [Bool.true_and, Bool.false_and]
        go_enter Tryz.func77, Tryz.ntmps77
        go_wp2_with (first | (go_at_call 137; refine (specNameOk_any _ _ (by omega)).mono ?_; rintro e w' ⟨rfl, rfl⟩) | (go_at_call 138; refine (l32Texts_any _ _ _ lo hi 5 xargs _ (HA.out _) (by omega) (by omega) (by omega) HSA.out).mono ?_; rintro e w' ⟨rfl, rfl⟩) | (go_at_call 139; refine (l27Input_any _ _ _ lo hi xin _ (HB.out _) (by omega) HSI.out).mono ?_; rintro e w' ⟨rfl, rfl⟩) | (go_at_call 78; refine (l00In_any _ _ _ _).mono ?_; rintro e w' ⟨rfl, rfl⟩) | (go_at_call 141; refine (l32Keep_any _ _ _ lo hi xkeep _ (HC.out _) (by omega)).mono ?_; rintro e w' ⟨rfl, q, rfl⟩) | go_in)
        go_ret
        refine ⟨?_, ?_⟩
        · first | rfl | (simp; done) | (refine congrArg (fun b => Ending.returned (.bool b)) ?_; rw [Bool.eq_iff_iff]; simp; done)
        · first | exact HD.out _ | exact HDq.out _ _ | exact HD2.out _ _ | exact HD2q.out _ _ _ | exact HDqq.out _ _ _
    · have e7 : (k == 7) = false := by rw [beq_eq_false_iff_ne]; exact q5
      have n7 : (k != 7) = true := by rw [bne_iff_ne]; exact q5
      have p5 : xkeep.length ≤ 0 := by omega
      have d5 : decide (0 < xkeep.length) = false := decide_eq_false (by omega)
      have hv : actB ⟨k, a, r, l, xargs, xin, xkeep⟩ = if k = 2 then inB a 1 4 else if k = 3 ∨ k = 4 ∨ k = 6 then decide (a = 0) else if k = 5 then inB a 0 64 else false := by
        simp [actB, hk, Q1.out, Q2.out, Q3.out, Q4.out, q5, q6]
      rw [hv]
      clear hv
      have HV := Lib.hid (show a = 0 ∨ a ≠ 0 by omega)
      by_cases k2 : k = 2
      · subst k2
        rw [if_pos rfl]
        go_enter Tryz.func77, Tryz.ntmps77
        go_wp2_with (first | (go_at_call 137; refine (specNameOk_any _ _ (by omega)).mono ?_; rintro e w' ⟨rfl, rfl⟩) | (go_at_call 138; refine (l32Texts_any _ _ _ lo hi 5 xargs _ (HA.out _) (by omega) (by omega) (by omega) HSA.out).mono ?_; rintro e w' ⟨rfl, rfl⟩) | (go_at_call 139; refine (l27Input_any _ _ _ lo hi xin _ (HB.out _) (by omega) HSI.out).mono ?_; rintro e w' ⟨rfl, rfl⟩) | (go_at_call 78; refine (l00In_any _ _ _ _).mono ?_; rintro e w' ⟨rfl, rfl⟩) | (go_at_call 141; refine (l32Keep_any _ _ _ lo hi xkeep _ (HC.out _) (by omega)).mono ?_; rintro e w' ⟨rfl, q, rfl⟩) | go_in)
        go_ret
        refine ⟨?_, ?_⟩
        · first | rfl | (simp; done) | (refine congrArg (fun b => Ending.returned (.bool b)) ?_; rw [Bool.eq_iff_iff]; simp; done)
        · first | exact HD.out _ | exact HDq.out _ _ | exact HD2.out _ _ | exact HD2q.out _ _ _ | exact HDqq.out _ _ _
      have f2 : (k == 2) = false := by rw [beq_eq_false_iff_ne]; exact k2
      rw [if_neg k2]
      by_cases k3 : k = 3
      · subst k3
        rw [if_pos (by omega)]
        go_enter Tryz.func77, Tryz.ntmps77
        go_wp2_with (first | (go_at_call 137; refine (specNameOk_any _ _ (by omega)).mono ?_; rintro e w' ⟨rfl, rfl⟩) | (go_at_call 138; refine (l32Texts_any _ _ _ lo hi 5 xargs _ (HA.out _) (by omega) (by omega) (by omega) HSA.out).mono ?_; rintro e w' ⟨rfl, rfl⟩) | (go_at_call 139; refine (l27Input_any _ _ _ lo hi xin _ (HB.out _) (by omega) HSI.out).mono ?_; rintro e w' ⟨rfl, rfl⟩) | (go_at_call 78; refine (l00In_any _ _ _ _).mono ?_; rintro e w' ⟨rfl, rfl⟩) | (go_at_call 141; refine (l32Keep_any _ _ _ lo hi xkeep _ (HC.out _) (by omega)).mono ?_; rintro e w' ⟨rfl, q, rfl⟩) | go_in)
        go_ret
        refine ⟨?_, ?_⟩
        · first | rfl | (simp; done) | (refine congrArg (fun b => Ending.returned (.bool b)) ?_; rw [Bool.eq_iff_iff]; simp; done)
        · first | exact HD.out _ | exact HDq.out _ _ | exact HD2.out _ _ | exact HD2q.out _ _ _ | exact HDqq.out _ _ _
      have f3 : (k == 3) = false := by rw [beq_eq_false_iff_ne]; exact k3
      by_cases k4 : k = 4
      · subst k4
        rw [if_pos (by omega)]
        go_enter Tryz.func77, Tryz.ntmps77
        go_wp2_with (first | (go_at_call 137; refine (specNameOk_any _ _ (by omega)).mono ?_; rintro e w' ⟨rfl, rfl⟩) | (go_at_call 138; refine (l32Texts_any _ _ _ lo hi 5 xargs _ (HA.out _) (by omega) (by omega) (by omega) HSA.out).mono ?_; rintro e w' ⟨rfl, rfl⟩) | (go_at_call 139; refine (l27Input_any _ _ _ lo hi xin _ (HB.out _) (by omega) HSI.out).mono ?_; rintro e w' ⟨rfl, rfl⟩) | (go_at_call 78; refine (l00In_any _ _ _ _).mono ?_; rintro e w' ⟨rfl, rfl⟩) | (go_at_call 141; refine (l32Keep_any _ _ _ lo hi xkeep _ (HC.out _) (by omega)).mono ?_; rintro e w' ⟨rfl, q, rfl⟩) | go_in)
        go_ret
        refine ⟨?_, ?_⟩
        · first | rfl | (simp; done) | (refine congrArg (fun b => Ending.returned (.bool b)) ?_; rw [Bool.eq_iff_iff]; simp; done)
        · first | exact HD.out _ | exact HDq.out _ _ | exact HD2.out _ _ | exact HD2q.out _ _ _ | exact HDqq.out _ _ _
      have f4 : (k == 4) = false := by rw [beq_eq_false_iff_ne]; exact k4
      by_cases k6 : k = 6
      · subst k6
        rw [if_pos (by omega)]
        go_enter Tryz.func77, Tryz.ntmps77
        go_wp2_with (first | (go_at_call 137; refine (specNameOk_any _ _ (by omega)).mono ?_; rintro e w' ⟨rfl, rfl⟩) | (go_at_call 138; refine (l32Texts_any _ _ _ lo hi 5 xargs _ (HA.out _) (by omega) (by omega) (by omega) HSA.out).mono ?_; rintro e w' ⟨rfl, rfl⟩) | (go_at_call 139; refine (l27Input_any _ _ _ lo hi xin _ (HB.out _) (by omega) HSI.out).mono ?_; rintro e w' ⟨rfl, rfl⟩) | (go_at_call 78; refine (l00In_any _ _ _ _).mono ?_; rintro e w' ⟨rfl, rfl⟩) | (go_at_call 141; refine (l32Keep_any _ _ _ lo hi xkeep _ (HC.out _) (by omega)).mono ?_; rintro e w' ⟨rfl, q, rfl⟩) | go_in)
        go_ret
        refine ⟨?_, ?_⟩
        · first | rfl | (simp; done) | (refine congrArg (fun b => Ending.returned (.bool b)) ?_; rw [Bool.eq_iff_iff]; simp; done)
        · first | exact HD.out _ | exact HDq.out _ _ | exact HD2.out _ _ | exact HD2q.out _ _ _ | exact HDqq.out _ _ _
      have f6 : (k == 6) = false := by rw [beq_eq_false_iff_ne]; exact k6
      rw [if_neg (by omega)]
      by_cases k5 : k = 5
      · subst k5
        rw [if_pos rfl]
        go_enter Tryz.func77, Tryz.ntmps77
        go_wp2_with (first | (go_at_call 137; refine (specNameOk_any _ _ (by omega)).mono ?_; rintro e w' ⟨rfl, rfl⟩) | (go_at_call 138; refine (l32Texts_any _ _ _ lo hi 5 xargs _ (HA.out _) (by omega) (by omega) (by omega) HSA.out).mono ?_; rintro e w' ⟨rfl, rfl⟩) | (go_at_call 139; refine (l27Input_any _ _ _ lo hi xin _ (HB.out _) (by omega) HSI.out).mono ?_; rintro e w' ⟨rfl, rfl⟩) | (go_at_call 78; refine (l00In_any _ _ _ _).mono ?_; rintro e w' ⟨rfl, rfl⟩) | (go_at_call 141; refine (l32Keep_any _ _ _ lo hi xkeep _ (HC.out _) (by omega)).mono ?_; rintro e w' ⟨rfl, q, rfl⟩) | go_in)
        go_ret
        refine ⟨?_, ?_⟩
        · first | rfl | (simp; done) | (refine congrArg (fun b => Ending.returned (.bool b)) ?_; rw [Bool.eq_iff_iff]; simp; done)
        · first | exact HD.out _ | exact HDq.out _ _ | exact HD2.out _ _ | exact HD2q.out _ _ _ | exact HDqq.out _ _ _
      have f5 : (k == 5) = false := by rw [beq_eq_false_iff_ne]; exact k5
      rw [if_neg k5]
      go_enter Tryz.func77, Tryz.ntmps77
      go_wp2_with (first | (go_at_call 137; refine (specNameOk_any _ _ (by omega)).mono ?_; rintro e w' ⟨rfl, rfl⟩) | (go_at_call 138; refine (l32Texts_any _ _ _ lo hi 5 xargs _ (HA.out _) (by omega) (by omega) (by omega) HSA.out).mono ?_; rintro e w' ⟨rfl, rfl⟩) | (go_at_call 139; refine (l27Input_any _ _ _ lo hi xin _ (HB.out _) (by omega) HSI.out).mono ?_; rintro e w' ⟨rfl, rfl⟩) | (go_at_call 78; refine (l00In_any _ _ _ _).mono ?_; rintro e w' ⟨rfl, rfl⟩) | (go_at_call 141; refine (l32Keep_any _ _ _ lo hi xkeep _ (HC.out _) (by omega)).mono ?_; rintro e w' ⟨rfl, q, rfl⟩) | go_in)
      go_ret
      refine ⟨?_, ?_⟩
      · first | rfl | (simp; done) | (refine congrArg (fun b => Ending.returned (.bool b)) ?_; rw [Bool.eq_iff_iff]; simp; done)
      · first | exact HD.out _ | exact HDq.out _ _ | exact HD2.out _ _ | exact HD2q.out _ _ _ | exact HDqq.out _ _ _

end Go.Proofs.YtcjaaknnfohllaaGreatDoor
