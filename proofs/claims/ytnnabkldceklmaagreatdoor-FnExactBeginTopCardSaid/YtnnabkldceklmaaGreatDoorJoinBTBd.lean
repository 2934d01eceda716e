/- The program's KeyPlace walked. -/
import Derived.Test.YtnnabkldceklmaaGreatDoorJoinBTBb
import Derived.Test.YtnnabkldceklmaaGreatDoorShelfA
import Derived.Test.YtnnabkldceklmaaGreatDoorJoinBTAy
set_option maxHeartbeats 16000000
set_option maxRecDepth 100000
namespace Go.Proofs.YtnnabkldceklmaaGreatDoor
open Go.RowKit
theorem cut1_any (s : ByteArray) (hs : s.size ≤ 1048576) (W : World) (hm : ∃ m', W.cell? ⟨0, 0, none⟩ = some (.int .i64 m')) :
  Calls Tryz.prog 227 #[.string s, .string ⟨#[1]⟩] W fun e w' => (∃ F R b, e = .returned (.tuple #[.string F, .string R, .bool b]) ∧ F.size ≤ 1048576 ∧ R.size ≤ s.size ∧
   ((b = true ∧ s.data.toList = F.data.toList ++ 1 :: R.data.toList ∧ ∀ c ∈ F.data.toList, c ≠ 1) ∨ (b = false ∧ ∀ c ∈ s.data.toList, c ≠ 1))) ∧ Below W.heap.size W w' := by
 obtain ⟨m0, hm0⟩ := hm
 have hlen : s.data.toList.length = s.size := by simp
 refine (Tryz.strings_Cut s ⟨#[1]⟩ m0 W (by omega) hm0).mono ?_
 rintro e w' ⟨he, k, rfl⟩
 have he' : e = .returned (.tuple #[.string ⟨(Lib.cut s.data.toList [1]).1.toArray⟩, .string ⟨(Lib.cut s.data.toList [1]).2.1.toArray⟩, .bool (Lib.cut s.data.toList [1]).2.2]) := he
 refine ⟨?_, below_drewN' W k⟩
 by_cases h1 : (1 : UInt8) ∈ s.data.toList
 ·have el := cut_at1 _ h1
  have ha : ∀ c ∈ s.data.toList.takeWhile fun c => c != 1, c ≠ 1 := fun c hc => by
   have := mem_takeWhile_dig _ _ c hc
   simpa using this
  have hc := cut_app (s.data.toList.takeWhile fun c => c != 1) (s.data.toList.drop ((s.data.toList.takeWhile fun c => c != 1).length + 1)) 1 ha
  rw [show s.data.toList.takeWhile (fun c => c != 1) ++ 1 :: s.data.toList.drop ((s.data.toList.takeWhile fun c => c != 1).length + 1) = s.data.toList from el.symm] at hc
  rw [hc] at he'
  have := congrArg List.length el
  rw [hlen, List.length_append, List.length_cons] at this
  exact ⟨_, _, _, he', by show (List.takeWhile _ _).length ≤ _; change _ = (List.takeWhile _ _).length + _ at this; omega, by show (List.drop _ _).length ≤ _; omega, .inl ⟨rfl, el, ha⟩⟩
 ·have hn : ∀ c ∈ s.data.toList, c ≠ 1 := fun c hc e => h1 (e ▸ hc)
  have hc : Lib.cut s.data.toList [1] = (s.data.toList, [], false) := by
   unfold Lib.cut
   rw [index_none s.data.toList 1 hn]
   rfl
  rw [hc] at he'
  exact ⟨_, _, _, he', by show s.data.toList.length ≤ _; omega, by show 0 ≤ _; omega, .inr ⟨rfl, hn⟩⟩
theorem placeP_cut {l : List UInt8} {F R : ByteArray} (h : l = F.data.toList ++ 1 :: R.data.toList) (hF : ∀ c ∈ F.data.toList, c ≠ 1) : placeP l = match getP R.data.toList with
  | none => none
  | some xs => if nameB F then some (F, xs) else none := by
 have ht : l.takeWhile (fun c => c != 1) = F.data.toList := by
  rw [h]
  exact takeWhile_stop _ _ _ (fun x hx => by have := hF x hx; simpa using this) (by rfl)
 have hd : l.drop (F.data.toList.length + 1) = R.data.toList := by
  rw [h, ← List.drop_drop, List.drop_left]; rfl
 unfold placeP
 rw [if_pos (by rw [h]; simp), ht, hd, mkB_self]
 cases getP R.data.toList <;> rfl
theorem placeP_not {l : List UInt8} (h : ∀ c ∈ l, c ≠ 1) : placeP l = none := by
 unfold placeP
 rw [if_neg fun h1 => h 1 h1 rfl]
theorem keyPlace_any (s : ByteArray) (hs : s.size ≤ 1048576) (w : World) (hE : EnvIn w) :
  Calls Tryz.prog 214 #[.string s] w fun e w' => ∃ nm v, e = .returned (.tuple #[.string nm, v, .bool (placeP s.data.toList).isSome]) ∧ (placeP s.data.toList = none → nm = ⟨#[]⟩ ∧ v = .slice none 0 0) ∧
   (∀ name xs, placeP s.data.toList = some (name, xs) → nm = name ∧ OwnStrs w' w.heap.size 9 v xs) ∧ Below w.heap.size w w' := by
 have HC := hd_ (cut1_any s (by omega) w hE.2)
 have HE := hd_ hE
 clear hE
 go_enter Tryz.func214, Tryz.ntmps214
 go_wp2_with fail
 refine HC.out.mono ?_; rintro e1 w1 ⟨⟨F, R, b, rfl, hF, hR, hcut⟩, hb1⟩
 have HB1 := hd_ hb1
 have hs1 := hb1.size
 have HG := hd_ (getSubs_any R (by omega) w1 (HE.out.below hb1))
 clear hb1 HC
 go_wp2_with fail
 refine HG.out.mono ?_; rintro e2 w2 ⟨v, rfl, hv0, hv1, hb2⟩
 have HV0 := hd_ hv0; have HV1 := hd_ hv1
 have HB2 := hd_ (HB1.out.trans (hb2.mono hs1))
 clear hv0 hv1 hb2 HG HB1
 rcases hcut with ⟨rfl, hl, hn⟩ | ⟨rfl, hn⟩
 ·have hP := placeP_cut hl hn
  cases hg : getP R.data.toList with
  | none =>
   rw [hg] at hP
   have HP := hd_ (show placeP s.data.toList = none from hP)
   clear hP hl hn hg
   go_wp2_with fail
   go_ret3
   rw [HP.out]
   exact ⟨_, _, rfl, fun _ => ⟨rfl, rfl⟩, fun _ _ h => (by cases h), HB2.out⟩
  | some xs =>
   rw [hg] at hP
   have HN := hd_ (implNameOk_any F w2 (by omega))
   cases hnb : nameB F with
   | false =>
    have HP := hd_ (show placeP s.data.toList = none from by rw [hP]; exact if_neg (by rw [hnb]; exact Bool.false_ne_true))
    rw [hnb] at HN
    clear hP hl hn hg hnb
    go_wp2_with fail
    refine HN.out.mono ?_; rintro e3 w3 ⟨rfl, rfl⟩
    go_wp2_with fail
    go_ret3
    rw [HP.out]
    exact ⟨_, _, rfl, fun _ => ⟨rfl, rfl⟩, fun _ _ h => (by cases h), HB2.out⟩
   | true =>
    have HP := hd_ (show placeP s.data.toList = some (F, xs) from by rw [hP]; exact if_pos hnb)
    have HO := hd_ (HV1.out xs hg)
    rw [hnb] at HN
    clear hP hl hn hg hnb
    go_wp2_with fail
    refine HN.out.mono ?_; rintro e3 w3 ⟨rfl, rfl⟩
    go_wp2_with fail
    go_ret3
    rw [HP.out]
    refine ⟨_, _, rfl, fun h => (by cases h), fun name ys h => ?_, HB2.out⟩
    injection h with h
    obtain ⟨h2, h3⟩ := Prod.mk.inj h
    subst h2 h3
    exact ⟨rfl, HO.out.1, own_mono HO.out.2 hs1⟩
 ·have HP := hd_ (placeP_not hn)
  clear hn
  go_wp2_with fail
  go_ret3
  rw [HP.out]
  exact ⟨_, _, rfl, fun _ => ⟨rfl, rfl⟩, fun _ _ h => (by cases h), HB2.out⟩
end Go.Proofs.YtnnabkldceklmaaGreatDoor
/- The program's TopOk, isZeroTop, hasSlot, CacheOk$1, allWithin walked. -/
namespace Go.Proofs.YtnnabkldceklmaaGreatDoor
open Go.RowKit
theorem topOk_any (t : TyTop) (vs : List Value) (lo hi : Nat) (w : World) (h : shTop.R w lo hi vs t) (hhi : hi ≤ w.heap.size) (hn : t.2.2.2.length ≤ 1048576) :
  Calls Tryz.prog 108 #[.agg vs.toArray] w fun e w' => e = .returned (.bool (topP t)) ∧ Below w.heap.size w w' := by
 obtain ⟨x0, x1, x2, x3⟩ := t
 obtain ⟨A3, c3, rfl, _⟩ := shTop_R.1 h
 have HIN := hd_ (fun a lo hi W => withinP_any a lo hi W)
 obtain ⟨ANS, hANS⟩ : ∃ b, b = topP (x0, x1, x2, x3) := ⟨_, rfl⟩
 rw [← hANS]
 unfold topP at hANS
 dsimp only at hANS hn
 have hb0 := (Below.refl w.heap.size w).alloc (Nat.le_refl _) (.cells #[.int .i64 x0, .int .i64 x1, .int .i64 x2, .slice A3 x3.length c3] 42)
 have HR := hd_ ((Sh.row 88 shSeat).R_below (shTop_f3 h) hb0 hhi)
 have HB0 := hd_ hb0
 have HBK := hd_ (Blk.new w 42 #[.int .i64 x0, .int .i64 x1, .int .i64 x2, .slice A3 x3.length c3])
 have hz0 : (w.alloc (.cells #[.int .i64 x0, .int .i64 x1, .int .i64 x2, .slice A3 x3.length c3] 42)).heap.size = w.heap.size + 1 := by simp
 clear h hb0
 go_enter Tryz.func108, Tryz.ntmps108
 go_upto_region 1 with fail
 generalize (w.alloc (.cells #[.int .i64 x0, .int .i64 x1, .int .i64 x2, .slice A3 x3.length c3] 42)) = w1 at *
 have f0 := HBK.out.cell 0; have f1 := HBK.out.cell 1; have f2 := HBK.out.cell 2; have f3 := HBK.out.cell 3
 simp only [List.getElem?_toArray, List.getElem?_cons_zero, List.getElem?_cons_succ] at f0 f1 f2 f3
 clear HBK
 by_cases q0 : inB x0 1 2000000000 = true
 rotate_left
 ·have q0 := Bool.eq_false_iff.2 q0
  have HA := hd_ (show ANS = false by rw [hANS, q0]; rfl)
  clear hANS
  go_wp2_with (first | fail | (refine (HIN.out _ _ _ _).mono ?_; rintro e1 w2 ⟨rfl, rfl⟩; first | rw [q0]))
  go_ret
  exact ⟨by rw [HA.out]; rfl, HB0.out⟩
 by_cases q1 : inB x1 1 64 = true
 rotate_left
 ·have q1 := Bool.eq_false_iff.2 q1
  have HA := hd_ (show ANS = false by rw [hANS, q1, Bool.and_false]; rfl)
  clear hANS
  go_wp2_with (first | fail | (refine (HIN.out _ _ _ _).mono ?_; rintro e1 w2 ⟨rfl, rfl⟩; first | rw [q0] | rw [q1]))
  go_ret
  exact ⟨by rw [HA.out]; rfl, HB0.out⟩
 by_cases q2 : inB x2 0 2000000000 = true
 rotate_left
 ·have q2 := Bool.eq_false_iff.2 q2
  have HA := hd_ (show ANS = false by rw [hANS, q2, Bool.and_false]; rfl)
  clear hANS
  go_wp2_with (first | fail | (refine (HIN.out _ _ _ _).mono ?_; rintro e1 w2 ⟨rfl, rfl⟩; first | rw [q0] | rw [q1] | rw [q2]))
  go_ret
  exact ⟨by rw [HA.out]; rfl, HB0.out⟩
 have HA := hd_ (show ANS = seatsP x3 by rw [hANS, q0, q1, q2]; rfl)
 have HS := hd_ (seatsOk_any A3 c3 x3 lo hi w1 HR.out (by omega) hn)
 clear hANS
 go_wp2_with (first | fail | (refine (HIN.out _ _ _ _).mono ?_; rintro e1 w2 ⟨rfl, rfl⟩; first | rw [q0] | rw [q1] | rw [q2]) | (refine HS.out.mono ?_; rintro e1 w2 ⟨rfl, hb2⟩))
 have HB2 := hd_ (HB0.out.trans (hb2.mono (by omega)))
 go_ret
 exact ⟨by rw [HA.out]; rfl, HB2.out⟩
theorem eqSeat0 (A : Option Addr) (n c : Nat) (hn : n ≤ 1048576) (w : World) :
  Calls Tryz.prog 199 #[.slice A n c, .slice none 0 0] w fun e w' => e = .returned (.bool (decide (n = 0))) ∧ w = w' := by
 by_cases h : n = 0
 ·subst h
  go_enter Tryz.func199, Tryz.ntmps199
  go_wp2_with fail
  go_loopw [5, 13] (fun _ i wr => i = .int .i64 0 ∧ wr = w) (fun _ _ _ => 0)
  case atStart => exact ⟨rfl, rfl⟩
  case round =>
   obtain ⟨rfl, rfl⟩ := hrel
   go_wp2_with fail
   go_ret
   exact ⟨rfl, rfl⟩
 ·rw [decide_eq_false h]
  have h2 : ((n : Int) != 0) = true := by simp; omega
  have h3 : (n : Int) ≠ 0 := by omega
  have h4 : decide ((n : Int) = 0) = false := decide_eq_false h3
  have h5 : ((n : Int) == 0) = false := by simp; omega
  go_enter Tryz.func199, Tryz.ntmps199
  go_wp2_with fail
  go_ret
  exact ⟨rfl, rfl⟩
theorem sameTop0_any (x0 x1 x2 : Int) (A : Option Addr) (n c : Nat) (hn : n ≤ 1048576) (w : World) :
  Calls Tryz.prog 163 #[.agg #[.int .i64 x0, .int .i64 x1, .int .i64 x2, .slice A n c], .agg zz8] w fun e w' => e = .returned (.bool (decide (x0 = 0) && decide (x1 = 0) && decide (x2 = 0) && decide (n = 0))) ∧ Below w.heap.size w w' := by
 have HE := hd_ (fun W => eqSeat0 A n c hn W)
 obtain ⟨ANS, hANS⟩ : ∃ b, b = (decide (x0 = 0) && decide (x1 = 0) && decide (x2 = 0) && decide (n = 0)) := ⟨_, rfl⟩
 rw [← hANS]
 have hb0 := ((Below.refl w.heap.size w).alloc (Nat.le_refl _) (.cells #[.int .i64 x0, .int .i64 x1, .int .i64 x2, .slice A n c] 42)).alloc (by simp) (.cells zz8 42)
 have HB0 := hd_ hb0
 have BA := hd_ ((Blk.new w 42 #[.int .i64 x0, .int .i64 x1, .int .i64 x2, .slice A n c]).alloc (.cells zz8 42))
 have BB := hd_ (Blk.new (w.alloc (.cells #[.int .i64 x0, .int .i64 x1, .int .i64 x2, .slice A n c] 42)) 42 zz8)
 have hz : (w.alloc (.cells #[.int .i64 x0, .int .i64 x1, .int .i64 x2, .slice A n c] 42)).heap.size = w.heap.size + 1 := by simp
 rw [hz] at BB
 clear hb0 hz
 go_enter Tryz.func163, Tryz.ntmps163
 go_upto_region 1 with fail
 generalize ((w.alloc (.cells #[.int .i64 x0, .int .i64 x1, .int .i64 x2, .slice A n c] 42)).alloc (.cells zz8 42)) = w1 at *
 have f0 := BA.out.cell 0; have f1 := BA.out.cell 1; have f2 := BA.out.cell 2; have f3 := BA.out.cell 3
 have g0 := BB.out.cell 0; have g1 := BB.out.cell 1; have g2 := BB.out.cell 2; have g3 := BB.out.cell 3
 simp only [List.getElem?_toArray, List.getElem?_cons_zero, List.getElem?_cons_succ] at f0 f1 f2 f3 g0 g1 g2 g3
 clear BA BB
 by_cases q0 : x0 = 0
 rotate_left
 ·have HA := hd_ (show ANS = false by rw [hANS, decide_eq_false q0]; rfl)
  have h5 : (x0 == 0) = false := by simpa using q0
  clear hANS q0
  go_wp2_with fail
  go_ret
  exact ⟨by rw [HA.out]; rfl, HB0.out⟩
 by_cases q1 : x1 = 0
 rotate_left
 ·have HA := hd_ (show ANS = false by rw [hANS, decide_eq_false q1, Bool.and_false]; rfl)
  have h5 : (x1 == 0) = false := by simpa using q1
  subst q0
  clear hANS q1
  go_wp2_with fail
  go_ret
  exact ⟨by rw [HA.out]; rfl, HB0.out⟩
 by_cases q2 : x2 = 0
 rotate_left
 ·have HA := hd_ (show ANS = false by rw [hANS, decide_eq_false q2, Bool.and_false]; rfl)
  have h5 : (x2 == 0) = false := by simpa using q2
  subst q0 q1
  clear hANS q2
  go_wp2_with fail
  go_ret
  exact ⟨by rw [HA.out]; rfl, HB0.out⟩
 subst q0 q1 q2
 have HA := hd_ (show ANS = decide (n = 0) by rw [hANS]; rfl)
 clear hANS
 go_wp2_with (first | fail | (refine (HE.out _).mono ?_; rintro e1 w2 ⟨rfl, rfl⟩))
 go_ret
 exact ⟨by rw [HA.out]; rfl, HB0.out⟩
theorem isZeroTop_any (t : TyTop) (vs : List Value) (lo hi : Nat) (w : World) (h : shTop.R w lo hi vs t) (_ : hi ≤ w.heap.size) (hn : t.2.2.2.length ≤ 1048576) :
  Calls Tryz.prog 109 #[.agg vs.toArray] w fun e w' => e = .returned (.bool (zeroT t)) ∧ Below w.heap.size w w' := by
 obtain ⟨x0, x1, x2, x3⟩ := t
 obtain ⟨A3, c3, rfl, _⟩ := shTop_R.1 h
 dsimp only at hn
 have HS := hd_ (fun W => sameTop0_any x0 x1 x2 A3 x3.length c3 hn W)
 have HE := hd_ (show zeroT (x0, x1, x2, x3) = (decide (x0 = 0) && decide (x1 = 0) && decide (x2 = 0) && decide (x3.length = 0)) from rfl)
 rw [HE.out]
 clear HE
 generalize (decide (x0 = 0) && decide (x1 = 0) && decide (x2 = 0) && decide (x3.length = 0)) = ANS at *
 have hb0 := (Below.refl w.heap.size w).alloc (Nat.le_refl _) (.cells #[.int .i64 x0, .int .i64 x1, .int .i64 x2, .slice A3 x3.length c3] 42)
 have HB0 := hd_ hb0
 have HBK := hd_ (Blk.new w 42 #[.int .i64 x0, .int .i64 x1, .int .i64 x2, .slice A3 x3.length c3])
 have hz0 : (w.alloc (.cells #[.int .i64 x0, .int .i64 x1, .int .i64 x2, .slice A3 x3.length c3] 42)).heap.size = w.heap.size + 1 := by simp
 clear h hb0
 go_enter Tryz.func109, Tryz.ntmps109
 go_upto_region 1 with fail
 generalize (w.alloc (.cells #[.int .i64 x0, .int .i64 x1, .int .i64 x2, .slice A3 x3.length c3] 42)) = w1 at *
 have f0 := HBK.out.cell 0; have f1 := HBK.out.cell 1; have f2 := HBK.out.cell 2; have f3 := HBK.out.cell 3
 simp only [List.getElem?_toArray, List.getElem?_cons_zero, List.getElem?_cons_succ] at f0 f1 f2 f3
 clear HBK
 go_wp2_with (first | fail | (refine (HS.out _).mono ?_; rintro e1 w2 ⟨rfl, hb2⟩))
 go_ret
 exact ⟨rfl, HB0.out.trans (hb2.mono (by omega))⟩
theorem hasSlot1_any (x : TySeat) (b : Nat) (slot : Int) (w : World) (hb : b < w.heap.size) (hc : w.cell? ⟨b, 0, none⟩ = some (.int .i64 slot)) :
  Calls Tryz.prog 166 #[.agg #[.int .i64 x.1, .int .i64 x.2], .pointer (some ⟨b, 0, none⟩)] w fun e w' => e = .returned (.bool (decide (x.2 = slot))) ∧ Below w.heap.size w w' := by
 obtain ⟨x0, x1⟩ := x
 dsimp only
 have hb0 := (Below.refl w.heap.size w).alloc (Nat.le_refl _) (.cells #[.int .i64 x0, .int .i64 x1] 88)
 have f0 : (w.alloc (.cells #[.int .i64 x0, .int .i64 x1] 88)).cell? ⟨b, 0, none⟩ = some (.int .i64 slot) := (hb0.cell (p := ⟨b, 0, none⟩) hb).trans hc
 have HB0 := hd_ hb0
 clear hb0 hc
 have hq : (x1 == slot) = decide (x1 = slot) := by by_cases h : x1 = slot <;> simp [h]
 go_enter Tryz.func166, Tryz.ntmps166
 go_wp2_with fail
 go_ret
 exact ⟨by first | rfl | rw [hq], HB0.out⟩
theorem hasSlot_any (A : Option Addr) (c : Nat) (xs : List TySeat) (slot : Int) (lo hi : Nat) (w : World) (h : (Sh.row 88 shSeat).R w lo hi [.slice A xs.length c] xs) (hhi : hi ≤ w.heap.size) (hn : xs.length ≤ 1048576) :
  Calls Tryz.prog 115 #[.slice A xs.length c, .int .i64 slot] w fun e w' => e = .returned (.bool (slotIn xs slot)) ∧ Below w.heap.size w w' := by
 have hb0 := (Below.refl w.heap.size w).alloc (Nat.le_refl _) (.cells #[.int .i64 slot] 2)
 have hz0 : (w.alloc (.cells #[.int .i64 slot] 2)).heap.size = w.heap.size + 1 := by simp
 have hc := (Blk.new w 2 #[.int .i64 slot]).cell 0
 have HC := hd_ (cfnSeat 166 #[.pointer (some ⟨w.heap.size, 0, none⟩)] (fun s => decide (s.2 = slot)) (enters_of Tryz.func166 (by kernel_rfl) rfl) A c xs lo hi (w.alloc (.cells #[.int .i64 slot] 2)) ((Sh.row 88 shSeat).R_below h hb0 hhi) (by omega) hn
  (fun W x _ hW => hasSlot1_any x w.heap.size slot W (by have := hW.size; omega) ((hW.cell (p := ⟨w.heap.size, 0, none⟩) (by show w.heap.size < _; omega)).trans hc)))
 have HB0 := hd_ hb0
 clear h hb0 hc
 have HE := hd_ (show slotIn xs slot = xs.any (fun s => decide (s.2 = slot)) from rfl)
 rw [HE.out]
 clear HE
 generalize (xs.any (fun s => decide (s.2 = slot))) = ANS at *
 go_enter Tryz.func115, Tryz.ntmps115
 go_wp2_with (first | fail | (refine HC.out.mono ?_; rintro e1 w2 ⟨rfl, hb2⟩))
 go_ret
 exact ⟨rfl, HB0.out.trans (hb2.mono (by omega))⟩
theorem within1_pays (lo hi : Int) (a b : Nat) (w : World) (ha : a < w.heap.size) (hb : b < w.heap.size) (hc : w.cell? ⟨a, 0, none⟩ = some (.int .i64 lo)) (hd : w.cell? ⟨b, 0, none⟩ = some (.int .i64 hi)) :
  PredAt Tryz.prog 168 #[.pointer (some ⟨a, 0, none⟩), .pointer (some ⟨b, 0, none⟩)] (Value.int .i64) (fun x : Int => !inB x lo hi) w := by
 intro W x hw
 unfold FnGives
 have f0 : W.cell? ⟨a, 0, none⟩ = some (.int .i64 lo) := (hw.cell (p := ⟨a, 0, none⟩) ha).trans hc
 have f1 : W.cell? ⟨b, 0, none⟩ = some (.int .i64 hi) := (hw.cell (p := ⟨b, 0, none⟩) hb).trans hd
 have HIN := hd_ (withinP_any x lo hi W)
 clear hc hd hw
 go_enter Tryz.func168, Tryz.ntmps168
 go_wp2_with (first | fail | (refine HIN.out.mono ?_; rintro e1 w2 ⟨rfl, rfl⟩))
 go_ret
 exact ⟨rfl, 0, rfl⟩
theorem pageOk1_pays (w : World) : PredAt Tryz.prog 172 #[] (Value.int .i64) (fun x : Int => !inB x 1 64) w := by
 intro W x hw
 unfold FnGives
 have HIN := hd_ (withinP_any x 1 64 W)
 clear hw
 go_enter Tryz.func172, Tryz.ntmps172
 go_wp2_with (first | fail | (refine HIN.out.mono ?_; rintro e1 w2 ⟨rfl, rfl⟩))
 go_ret
 exact ⟨rfl, 0, rfl⟩
theorem cfnI (g : Nat) (lb : Array Value) (p : Int → Bool) (eg : ∀ args w, (callFunc g args).run Tryz.prog w = .ok (.enter g args) w) (A : Option Addr) (c : Nat) (xs : List Int) (lo hi : Nat) (w : World) (h : (Sh.row 2 shI).R w lo hi [.slice A xs.length c] xs) (hn : xs.length ≤ 1048576) (hp : PredAt Tryz.prog g lb (Value.int .i64) p w) :
  Calls Tryz.prog 167 #[.slice A xs.length c, .func (.func g) #[] lb] w fun e w' => e = .returned (.bool (xs.any p)) ∧ Below w.heap.size w w' := by
 by_cases h0 : 0 < xs.length
 ·obtain ⟨b, off, rfl, hb1, hb2, hc⟩ := (rowR_of h).2 h0
  refine (Tryz.slices_ContainsFuncI (Value.int .i64) p g lb eg b off xs.length c xs w hp (Nat.le_refl _) (by omega) (fun j hj => by rw [hc j hj, List.getD_eq_getElem?_getD, List.getElem?_eq_getElem hj]; simp [hj])).mono ?_
  rintro e w' ⟨rfl, q, rfl⟩
  exact ⟨by rw [List.take_length], below_drewN' w q⟩
 ·have hx : xs = [] := List.eq_nil_of_length_eq_zero (by omega)
  subst hx
  refine (Tryz.slices_ContainsFuncI_empty (α := Int) A c (.func (.func g) #[] lb) w).mono ?_
  rintro e w' ⟨rfl, rfl⟩
  exact ⟨rfl, Below.refl _ _⟩
theorem allWithinP_any (A : Option Addr) (c : Nat) (xs : List Int) (l u : Int) (lo hi : Nat) (w : World) (h : (Sh.row 2 shI).R w lo hi [.slice A xs.length c] xs) (hhi : hi ≤ w.heap.size) (hn : xs.length ≤ 1048576) :
  Calls Tryz.prog 117 #[.slice A xs.length c, .int .i64 l, .int .i64 u] w fun e w' => e = .returned (.bool (xs.all fun n => inB n l u)) ∧ Below w.heap.size w w' := by
 have hb0 := ((Below.refl w.heap.size w).alloc (Nat.le_refl _) (.cells #[.int .i64 l] 2)).alloc (by simp) (.cells #[.int .i64 u] 2)
 have hz0 : ((w.alloc (.cells #[.int .i64 l] 2)).alloc (.cells #[.int .i64 u] 2)).heap.size = w.heap.size + 1 + 1 := by simp
 have c0 := ((Blk.new w 2 #[.int .i64 l]).alloc (.cells #[.int .i64 u] 2)).cell 0
 have c1 := (Blk.new (w.alloc (.cells #[.int .i64 l] 2)) 2 #[.int .i64 u]).cell 0
 rw [show (w.alloc (.cells #[.int .i64 l] 2)).heap.size = w.heap.size + 1 by simp] at c1
 have HC := hd_ (cfnI 168 #[.pointer (some ⟨w.heap.size, 0, none⟩), .pointer (some ⟨w.heap.size + 1, 0, none⟩)] (fun x => !inB x l u) (enters_of Tryz.func168 (by kernel_rfl) rfl) A c xs lo hi _ ((Sh.row 2 shI).R_below h hb0 hhi) hn
  (within1_pays l u w.heap.size (w.heap.size + 1) _ (by rw [hz0]; omega) (by rw [hz0]; omega) c0 c1))
 rw [any_notP] at HC
 have HB0 := hd_ hb0
 clear h hb0 c0 c1
 generalize (xs.all fun n => inB n l u) = ANS at *
 go_enter Tryz.func117, Tryz.ntmps117
 go_wp2_with (first | fail | (refine HC.out.mono ?_; rintro e1 w2 ⟨rfl, hb2⟩))
 go_ret
 exact ⟨by cases ANS <;> rfl, HB0.out.trans (hb2.mono (by rw [hz0]; omega))⟩
end Go.Proofs.YtnnabkldceklmaaGreatDoor
/- The program's isKey, keysOk, long walked. -/
namespace Go.Proofs.YtnnabkldceklmaaGreatDoor
open Go.RowKit
theorem isKey_any (s : ByteArray) (hs : s.size ≤ 1048576) (w : World) (hE : EnvIn w) :
  Calls Tryz.prog 201 #[.string s] w fun e w' => e = .returned (.bool (placeP s.data.toList).isSome) ∧ Below w.heap.size w w' := by
 have HK := hd_ (keyPlace_any s hs w hE)
 clear hE
 generalize (placeP s.data.toList).isSome = B at *
 go_enter Tryz.func201, Tryz.ntmps201
 go_wp2_with (first | fail | (refine HK.out.mono ?_; rintro e1 w1 ⟨nm, v, rfl, -, -, hb1⟩))
 go_ret
 exact ⟨rfl, hb1⟩
theorem keysOkP_any (A : Option Addr) (c lo hi : Nat) (xs : List ByteArray) (w : World) (ha : StrR w lo hi A xs.length xs) (hhi : hi ≤ w.heap.size) (hn : xs.length ≤ 1048576) (hx : ∀ x ∈ xs, x.size ≤ 1048576) (hE : EnvIn w) :
  Calls Tryz.prog 169 #[.slice A xs.length c] w fun e w' => e = .returned (.bool (keysAll xs)) ∧ Below w.heap.size w w' := by
 have HA := hd_ ha
 have HX := hd_ hx
 have HE := hd_ hE
 clear ha hx hE
 obtain ⟨ANS, hANS⟩ : ∃ b, b = keysAll xs := ⟨_, rfl⟩
 rw [← hANS]
 have HANS := hd_ (show ANS = keysTo xs xs.length from hANS)
 clear hANS
 go_enter Tryz.func169, Tryz.ntmps169
 go_wp2_with fail
 go_loopw [7] (fun i wr => ∃ k : Nat, k ≤ xs.length ∧ i = .int .i64 k ∧ Hid (keysTo xs k = true) ∧ Below w.heap.size w wr) (fun i _ => xs.length - (intOf i).toNat)
 case atStart => exact ⟨0, Nat.zero_le _, rfl, hd_ rfl, Below.refl _ _⟩
 case round =>
  obtain ⟨k, hk, rfl, hkt, hb⟩ := hrel
  have hsz := hb.size
  have HB := hd_ hb
  by_cases hlt : k < xs.length
  ·obtain ⟨b, off, rfl, hb1, hb2, hcell⟩ := (HA.out.below hb hhi).at_ hlt
   have i1 : (k : Int) < (xs.length : Int) := by omega
   have HKP := hd_ (isKey_any (xs.getD k bD) (HX.out _ (by rw [List.getD_eq_getElem?_getD, List.getElem?_eq_getElem hlt]; exact List.getElem_mem hlt)) wr (HE.out.below hb))
   have HAT := hd_ (show keyAtB xs k = ((placeP (xs.getD k bD).data.toList).isSome && (decide (k = 0) || ltS (xs.getD (k - 1) bD) (xs.getD k bD))) from rfl)
   have HNX := hd_ (keysTo_next xs k)
   have HM := hd_ (fun (h : keyAtB xs k = false) => show ANS = false from by
    rw [HANS.out, Bool.eq_false_iff]; intro h2; rw [keysTo_at h2 hlt] at h; cases h)
   have hpc : 0 < k → ∀ W, Below wr.heap.size wr W → W.cell? ⟨b, off + (k - 1), none⟩ = some (.string (xs.getD (k - 1) bD)) := fun hk0 W hW => by
    obtain ⟨b', off', e, _, hb2', hc'⟩ := ((HA.out.below hb hhi).below hW (by omega)).at_ (show k - 1 < xs.length by omega)
    injection e with e; injection e with e1 e2 e3; subst e1 e2
    exact hc'
   have HPC := hd_ hpc
   clear hpc hb
   generalize xs.getD k bD = X at *
   generalize xs.getD (k - 1) bD = Y at *
   cases hpl : (placeP X.data.toList).isSome with
   | false =>
    rw [hpl] at HAT HKP
    have HF := hd_ (HM.out HAT.out)
    clear hpl HM HNX HAT
    go_wp2_with (first | fail | (refine HKP.out.mono ?_; rintro e1 w1 ⟨rfl, hb1'⟩))
    go_ret
    exact ⟨by rw [HF.out]; rfl, HB.out.trans (hb1'.mono hsz)⟩
   | true =>
    rw [hpl] at HKP
    rw [hpl, Bool.true_and] at HAT
    clear hpl
    by_cases h00 : k = 0
    ·have HKN := hd_ (show keysTo xs (k + 1) = true from by rw [HNX.out, hkt.out, HAT.out, decide_eq_true h00]; rfl)
     have i0 : ¬ (0 : Int) < (k : Int) := by omega
     have k8 : decide ((0 : Int) < (k : Int)) = false := by rw [decide_eq_false_iff_not]; omega
     have k9 : decide (0 < k) = false := by rw [decide_eq_false_iff_not]; omega
     clear HM HNX HAT HPC h00
     go_wp2_with (first | fail | (refine HKP.out.mono ?_; rintro e1 w1 ⟨rfl, hb1'⟩))
     go_roundw
     case rel => exact ⟨k + 1, by omega, by go_num, hd_ HKN.out, HB.out.trans (hb1'.mono hsz)⟩
     case measure => simp [intOf]; omega
    ·have hk0 : 0 < k := by omega
     have i0 : (0 : Int) < (k : Int) := by omega
     have k1 : IntKind.i64.wrap ((k : Int) - 1) = (k : Int) - 1 := IntWalk.i64_in _ (by omega)
     have k2 : ((k : Int) - 1).toNat = k - 1 := by omega
     have k3 : (0 : Int) ≤ (k : Int) - 1 := by omega
     have k6 : 1 ≤ k := by omega
     have k7 : (1 : Int) ≤ (k : Int) := by omega
     have k8 : decide ((0 : Int) < (k : Int)) = true := by rw [decide_eq_true_iff]; omega
     have k9 : decide (0 < k) = true := by rw [decide_eq_true_iff]; omega
     have k4 : (k : Int) - 1 < (xs.length : Int) := by omega
     rw [decide_eq_false (by omega : ¬ k = 0), Bool.false_or] at HAT
     unfold ltS at HAT
     cases hL : Op.bytesLess Y.toList X.toList <;> rw [hL] at HAT
     ·have HF := hd_ (HM.out HAT.out)
      clear HM HNX HAT
      go_wp2_with fail
      refine HKP.out.mono ?_; rintro e1 w1 ⟨rfl, hb1'⟩
      have hy := HPC.out hk0 _ hb1'
      have HB1 := hd_ (HB.out.trans (hb1'.mono hsz))
      clear hb1' HPC HKP
      go_wp2_with fail
      go_ret
      exact ⟨by rw [HF.out]; rfl, HB1.out⟩
     ·have HKN := hd_ (show keysTo xs (k + 1) = true from by rw [HNX.out, hkt.out, HAT.out]; rfl)
      clear HM HNX HAT
      go_wp2_with fail
      refine HKP.out.mono ?_; rintro e1 w1 ⟨rfl, hb1'⟩
      have hy := HPC.out hk0 _ hb1'
      have HB1 := hd_ (HB.out.trans (hb1'.mono hsz))
      clear hb1' HPC HKP
      go_wp2_with fail
      go_roundw
      case rel => exact ⟨k + 1, by omega, by go_num, hd_ HKN.out, HB1.out⟩
      case measure => simp [intOf]; omega
  ·obtain rfl : k = xs.length := by omega
   have i1 : ¬ (xs.length : Int) < (xs.length : Int) := by omega
   have HF := hd_ (show ANS = true by rw [HANS.out, hkt.out])
   clear HANS hkt hb
   go_wp2_with fail
   go_ret
   exact ⟨by rw [HF.out]; rfl, HB.out⟩
theorem longP_pays (w : World) : PredAt Tryz.prog 202 #[] Value.string (fun x : ByteArray => decide (64 < x.size)) w := by
 intro W x hb
 unfold FnGives
 by_cases h : 64 < x.size
 ·go_enter Tryz.func202, Tryz.ntmps202
  go_wp2
  go_ret
  exact ⟨by simp [h]; omega, 0, rfl⟩
 ·go_enter Tryz.func202, Tryz.ntmps202
  go_wp2
  go_ret
  exact ⟨by simp [h]; omega, 0, rfl⟩
theorem any_long (xs : List ByteArray) : (xs.any fun x => decide (64 < x.size)) = !(xs.all fun v => decide (v.size ≤ 64)) := by
 induction xs with
 | nil => rfl
 | cons x xs ih =>
  rw [List.any_cons, List.all_cons, ih, Bool.not_and]
  congr 1
  by_cases h : x.size ≤ 64
  ·rw [decide_eq_true h, decide_eq_false (by omega)]; rfl
  ·rw [decide_eq_false h, decide_eq_true (by omega)]; rfl
theorem longP_any (A : Option Addr) (c : Nat) (xs : List ByteArray) (lo hi : Nat) (w : World) (h : StrR w lo hi A xs.length xs) (hn : xs.length ≤ 1048576) :
  Calls Tryz.prog 170 #[.slice A xs.length c] w fun e w' => e = .returned (.bool (!(xs.all fun v => decide (v.size ≤ 64)))) ∧ Below w.heap.size w w' := by
 have HC : Calls Tryz.prog 159 #[.slice A xs.length c, .func (.func 202) #[] #[]] w fun e w' => e = .returned (.bool (xs.any fun x => decide (64 < x.size))) ∧ Below w.heap.size w w' := by
  by_cases h0 : 0 < xs.length
  ·obtain ⟨b, off, rfl, hb1, hb2, hc⟩ := h.2 h0
   refine (Tryz.slices_ContainsFunc Value.string (fun x : ByteArray => decide (64 < x.size)) 202 #[] (enters_of Tryz.func202 (by kernel_rfl) rfl) b off xs.length c xs w (longP_pays w) (Nat.le_refl _) (by omega) (fun j hj => by rw [hc j hj, List.getD_eq_getElem?_getD, List.getElem?_eq_getElem hj]; simp [hj])).mono ?_
   rintro e w' ⟨rfl, q, rfl⟩
   exact ⟨by rw [List.take_length], below_drewN' w q⟩
  ·have hx : xs = [] := List.eq_nil_of_length_eq_zero (by omega)
   subst hx
   refine (Tryz.slices_ContainsFunc_empty (α := ByteArray) A c (.func (.func 202) #[] #[]) w).mono ?_
   rintro e w' ⟨rfl, rfl⟩
   exact ⟨rfl, Below.refl _ _⟩
 rw [any_long] at HC
 have HC := hd_ HC
 clear h
 generalize (xs.all fun v => decide (v.size ≤ 64)) = B at *
 go_enter Tryz.func170, Tryz.ntmps170
 go_wp2_with (first | fail | (refine HC.out.mono ?_; rintro e1 w1 ⟨rfl, hb1⟩))
 go_ret
 exact ⟨rfl, hb1⟩
end Go.Proofs.YtnnabkldceklmaaGreatDoor
/- The program's PageOk walked. -/
namespace Go.Proofs.YtnnabkldceklmaaGreatDoor
open Go.RowKit
theorem pageOkP_any (x0 : Bool) (x1 x2 : List ByteArray) (x3 : List Int) (A1 : Option Addr) (c1 : Nat) (A2 : Option Addr) (c2 : Nat) (A3 : Option Addr) (c3 lo hi : Nat) (w : World) (h : shPage.R w lo hi [.bool x0, .slice A1 x1.length c1, .slice A2 x2.length c2, .slice A3 x3.length c3] (x0, x1, x2, x3)) (hhi : hi ≤ w.heap.size) (hf : shPage.fit 1048576 (x0, x1, x2, x3)) (hE : EnvIn w) :
  Calls Tryz.prog 118 #[.agg #[.bool x0, .slice A1 x1.length c1, .slice A2 x2.length c2, .slice A3 x3.length c3]] w fun e w' => e = .returned (.bool (pageP (x0, x1, x2, x3))) ∧ Below w.heap.size w w' := by
 obtain ⟨_, ⟨hn1, ht1⟩, ⟨hn2, ht2⟩, ⟨hn3, _⟩⟩ := (shPage_fit x0 x1 x2 x3).1 hf
 have hx1 : ∀ x ∈ x1, x.size ≤ 1048576 := fun x hx => ht1 x hx
 clear hf ht1 ht2
 have hb0 := (Below.refl w.heap.size w).alloc (Nat.le_refl _) (.cells #[.bool x0, .slice A1 x1.length c1, .slice A2 x2.length c2, .slice A3 x3.length c3] 83)
 have hz0 : (w.alloc (.cells #[.bool x0, .slice A1 x1.length c1, .slice A2 x2.length c2, .slice A3 x3.length c3] 83)).heap.size = w.heap.size + 1 := by simp
 have HBK := hd_ (Blk.new w 83 #[.bool x0, .slice A1 x1.length c1, .slice A2 x2.length c2, .slice A3 x3.length c3])
 have HR1 := hd_ (rowR_of ((Sh.row 9 shS).R_below (shPage_f1 h) hb0 hhi))
 have HR2 := hd_ (rowR_of ((Sh.row 9 shS).R_below (shPage_f2 h) hb0 hhi))
 have HR3 := hd_ ((Sh.row 2 shI).R_below (shPage_f3 h) hb0 hhi)
 have HE := hd_ (hE.below hb0)
 have HB0 := hd_ hb0
 have HX1 := hd_ hx1
 obtain ⟨ANS, hANS⟩ : ∃ b, b = pageP (x0, x1, x2, x3) := ⟨_, rfl⟩
 rw [← hANS]
 have HANS := hd_ (show ANS = (keysAll x1 && if x0 then decide (x1.length ≤ 6) && decide (x2.length = x1.length) && (x2.all fun v => decide (v.size ≤ 64)) && decide (x3.length = 0)
  else decide (2 ≤ x3.length) && decide (x3.length ≤ 6) && decide (x1.length + 1 = x3.length) && decide (x2.length = 0) && kidsOk x3) from hANS)
 clear hANS h hE hb0 hx1
 go_enter Tryz.func118, Tryz.ntmps118
 go_upto_region 1 with fail
 generalize (w.alloc (.cells #[.bool x0, .slice A1 x1.length c1, .slice A2 x2.length c2, .slice A3 x3.length c3] 83)) = w1 at *
 have HF := hd_ (show ∀ W, Below w1.heap.size w1 W → ∀ i, W.cell? ⟨w.heap.size, i, none⟩ = (#[.bool x0, .slice A1 x1.length c1, .slice A2 x2.length c2, .slice A3 x3.length c3] : Array Value)[i]? from fun W hW => (HBK.out.below hW (by omega)).cell)
 have HK := hd_ (keysOkP_any A1 c1 lo hi x1 w1 HR1.out (by omega) hn1 HX1.out HE.out)
 have f := HF.out w1 (Below.refl _ _)
 clear HBK
 go_wp2_with fail
 refine HK.out.mono ?_; rintro e1 w2 ⟨rfl, hb2⟩
 have HB2 := hd_ hb2
 have hs2 := hb2.size
 clear f HK hb2
 have f := HF.out _ HB2.out
 have HBB := hd_ (HB0.out.trans (HB2.out.mono (by omega)))
 cases hk : keysAll x1 with
 | false =>
  have HA := hd_ (show ANS = false by rw [HANS.out, hk, Bool.false_and])
  go_wp2_with fail
  go_ret
  exact ⟨by rw [HA.out]; rfl, HBB.out⟩
 | true =>
 rw [hk, Bool.true_and] at HANS
 clear hk
 cases x0 with
 | true =>
  rw [if_pos rfl] at HANS
  by_cases h1 : x1.length ≤ 6
  rotate_left
  ·have HA := hd_ (show ANS = false by rw [HANS.out, decide_eq_false h1]; rfl)
   have i1 : ¬ (x1.length : Int) ≤ 6 := by omega
   clear h1
   go_wp2_with fail
   go_ret
   exact ⟨by rw [HA.out]; rfl, HBB.out⟩
  have i1 : (x1.length : Int) ≤ 6 := by omega
  by_cases h2 : x2.length = x1.length
  rotate_left
  ·have HA := hd_ (show ANS = false by rw [HANS.out, decide_eq_false h2, Bool.and_false]; rfl)
   have i2 : ((x2.length : Int) == (x1.length : Int)) = false := by rw [beq_eq_false_iff_ne]; omega
   have i3 : (x2.length == x1.length) = false := by rw [beq_eq_false_iff_ne]; exact h2
   have i4 := h2
   clear h2
   go_wp2_with fail
   go_ret
   exact ⟨by rw [HA.out]; rfl, HBB.out⟩
  have i2 : ((x2.length : Int) == (x1.length : Int)) = true := by rw [beq_iff_eq]; omega
  have i3 : (x2.length == x1.length) = true := by rw [beq_iff_eq]; exact h2
  have HL := hd_ (longP_any A2 c2 x2 lo hi w2 (HR2.out.below HB2.out (by omega)) hn2)
  rw [decide_eq_true h1, decide_eq_true h2, Bool.true_and, Bool.true_and] at HANS
  have H2 := hd_ h2
  clear h2
  cases ha : (x2.all fun v => decide (v.size ≤ 64)) with
  | false =>
   rw [ha] at HL HANS
   have HA := hd_ (show ANS = false by rw [HANS.out]; rfl)
   clear HANS
   go_wp2_with (first | fail | (refine HL.out.mono ?_; rintro e2 w3 ⟨rfl, hb3⟩))
   go_ret
   exact ⟨by rw [HA.out]; rfl, HBB.out.trans (hb3.mono (by omega))⟩
  | true =>
   rw [ha, Bool.true_and] at HANS
   rw [ha] at HL
   go_wp2_with fail
   refine HL.out.mono ?_; rintro e2 w3 ⟨rfl, hb3⟩
   have HB3 := hd_ (HBB.out.trans (hb3.mono (by omega)))
   have hb4 := HB2.out.trans (hb3.mono hs2)
   clear f HL
   have f := HF.out _ hb4
   clear hb3 hb4
   by_cases h3 : x3.length = 0
   ·have HA := hd_ (show ANS = true by rw [HANS.out, decide_eq_true h3])
    have i5 : ((x3.length : Int) == 0) = true := by rw [beq_iff_eq]; omega
    have i6 : (x3.length == 0) = true := by rw [beq_iff_eq]; omega
    have i7 : (x3.length : Int) = 0 := by omega
    have H3 := hd_ h3; clear h3
    go_wp2_with fail
    go_ret
    exact ⟨by rw [HA.out]; first | rfl | simp [H3.out], HB3.out⟩
   ·have HA := hd_ (show ANS = false by rw [HANS.out, decide_eq_false h3])
    have i5 : ((x3.length : Int) == 0) = false := by rw [beq_eq_false_iff_ne]; omega
    have i6 : (x3.length == 0) = false := by rw [beq_eq_false_iff_ne]; omega
    have H3 := hd_ h3; clear h3
    go_wp2_with fail
    go_ret
    exact ⟨by rw [HA.out]; first | rfl | simp [H3.out] | simp [i5], HB3.out⟩
 | false =>
  rw [if_neg (by simp)] at HANS
  have HIN := hd_ (fun a lo hi W => withinP_any a lo hi W)
  have HCN := hd_ (fun W => cntI_any A3 x3.length c3 W)
  have i8 : IntKind.i64.wrap ((x3.length : Int) - 1) = (x3.length : Int) - 1 := IntWalk.i64_in _ (by omega)
  go_wp2_with fail
  refine (HCN.out _).mono ?_; rintro e3 w3 ⟨rfl, rfl⟩
  go_wp2_with fail
  refine (HIN.out _ _ _ _).mono ?_; rintro e4 w4 ⟨rfl, rfl⟩
  have HIN := 0; have HCN := 0; clear HIN HCN
  cases h1 : inB (x3.length : Int) 2 6 with
  | false =>
   have HA := hd_ (show ANS = false by
    have h2 : (decide (2 ≤ x3.length) && decide (x3.length ≤ 6)) = false := by rw [← h1]; unfold inB; congr 1 <;> exact decide_eq_decide.2 (by omega)
    rw [HANS.out, h2]; rfl)
   clear HANS
   go_wp2_with fail
   go_ret
   exact ⟨by rw [HA.out]; rfl, HBB.out⟩
  | true =>
  have h2 : (decide (2 ≤ x3.length) && decide (x3.length ≤ 6)) = true := by rw [← h1]; unfold inB; congr 1 <;> exact decide_eq_decide.2 (by omega)
  rw [h2, Bool.true_and] at HANS
  clear h2
  by_cases h3 : x1.length + 1 = x3.length
  rotate_left
  ·have HA := hd_ (show ANS = false by rw [HANS.out, decide_eq_false h3]; rfl)
   have i9 : ((x1.length : Int) != (x3.length : Int) - 1) = true := by rw [bne_iff_ne]; omega
   have HH3 := hd_ h3
   clear HANS h3
   go_wp2_with fail
   go_ret
   exact ⟨by rw [HA.out]; rfl, HBB.out⟩
  have i9 : ((x1.length : Int) != (x3.length : Int) - 1) = false := by rw [bne_eq_false_iff_eq]; omega
  rw [decide_eq_true h3, Bool.true_and] at HANS
  have HH3 := hd_ h3
  clear h3
  by_cases h4 : x2.length = 0
  rotate_left
  ·have HA := hd_ (show ANS = false by rw [HANS.out, decide_eq_false h4]; rfl)
   have j1 : ((x2.length : Int) != 0) = true := by rw [bne_iff_ne]; omega
   have j2 : (x2.length != 0) = true := by rw [bne_iff_ne]; omega
   have HH4 := hd_ h4
   clear HANS h4
   go_wp2_with fail
   go_ret
   exact ⟨by rw [HA.out]; rfl, HBB.out⟩
  have j1 : ((x2.length : Int) != 0) = false := by rw [bne_eq_false_iff_eq]; omega
  have j2 : (x2.length != 0) = false := by rw [bne_eq_false_iff_eq]; omega
  rw [decide_eq_true h4, Bool.true_and] at HANS
  have HH4 := hd_ h4
  clear h4
  have HCF := hd_ (cfnI 172 #[] (fun x => !inB x 1 64) (enters_of Tryz.func172 (by kernel_rfl) rfl) A3 c3 x3 lo hi w2 ((Sh.row 2 shI).R_below HR3.out HB2.out (by omega)) hn3 (pageOk1_pays w2))
  rw [any_notP] at HCF
  have HA := hd_ (show ANS = (x3.all fun x => inB x 1 64) from HANS.out)
  clear HANS
  generalize (x3.all fun x => inB x 1 64) = B at *
  go_wp2_with (first | fail | (refine HCF.out.mono ?_; rintro e4 w4 ⟨rfl, hb4⟩))
  go_ret
  exact ⟨by rw [HA.out]; cases B <;> rfl, HBB.out.trans (hb4.mono (by omega))⟩
end Go.Proofs.YtnnabkldceklmaaGreatDoor
