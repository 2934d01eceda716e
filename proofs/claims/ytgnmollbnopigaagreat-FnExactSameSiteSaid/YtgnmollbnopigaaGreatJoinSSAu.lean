/- Comparisons of rows of texts and numbers, both sides. Printed by gen_same.py. -/
import Derived.Test.YtgnmollbnopigaaGreatJoinSSAp
set_option maxHeartbeats 16000000
set_option maxRecDepth 100000
namespace Go.Proofs.YtgnmollbnopigaaGreat
open Go.RowKit
theorem eqlStr (A B : Option Addr) (c d : Nat) (xs ys : List ByteArray) (lo hi lo' hi' : Nat) (w : World) (h : (Sh.row 9 shS).R w lo hi [.slice A xs.length c] xs) (h' : (Sh.row 9 shS).R w lo' hi' [.slice B ys.length d] ys) (hhi : hi ≤ w.heap.size) (hhi' : hi' ≤ w.heap.size) (hn : xs.length ≤ 4294967296) (_hm : ys.length ≤ 4294967296) :
  Calls Tryz.prog 42 #[.slice A xs.length c, .slice B ys.length d] w fun e w' => e = .returned (.bool (sameB xs ys)) ∧ Below w.heap.size w w' := by
 by_cases hl : xs.length = ys.length
 ·have HA := Lib.hid h; have HA' := Lib.hid h'; have HL := Lib.hid hl
  rw [← hl] at HA' ⊢
  clear h h' _hm hl
  go_enter Tryz.func42, Tryz.ntmps42
  go_wp2_with fail
  go_loopw [5, 13] (fun _ i wr => ∃ k : Nat, k ≤ xs.length ∧ i = .int .i64 k ∧ Hid (xs.take k = ys.take k) ∧ Below w.heap.size w wr) (fun _ i _ => xs.length - (intOf i).toNat)
  case atStart => exact ⟨0, Nat.zero_le _, rfl, Lib.hid rfl, Below.refl _ _⟩
  case round =>
   obtain ⟨k, hk, rfl, htk, hb⟩ := hrel
   by_cases hlt : k < xs.length
   ·obtain ⟨b, off, rfl, hb1, hb2, us, hc, hX⟩ := row_at ((Sh.row 9 shS).R_below HA.out hb hhi) hlt
    obtain ⟨b', off', rfl, hb1', hb2', us', hc', hX'⟩ := row_at ((Sh.row 9 shS).R_below HA'.out hb hhi') hlt
    have HST := Lib.hid (fun he => take_step (d := shS.d) htk.out hlt HL.out he)
    have HNE := Lib.hid (fun he => ne_at (xs := xs) (ys := ys) (d := shS.d) (k := k) he)
    obtain rfl := (show us = [.string (xs.getD k shS.d)] from hX)
    obtain rfl := (show us' = [.string (ys.getD k shS.d)] from hX')
    have e1 := rng_one (rng_of hc); have e2 := rng_one (rng_of hc')
    simp only [show shS.k = 1 from rfl, Nat.mul_one] at e1 e2
    have HD := Lib.hid hb.drew
    clear hc hc' hX hX' htk
    generalize xs.getD k shS.d = X at *
    generalize ys.getD k shS.d = Y at *
    go_upto_region 6 with fail
    refine AnyT.region (fun _ => false) (fun W => W.cell? ⟨b, off + k, none⟩ = some (.string X) ∧ W.cell? ⟨b', off' + k, none⟩ = some (.string Y)) (by kernel_rfl) ⟨e1, e2⟩ (fun hHeld => ?_)
    generalize wr.drew = w4 at *
    clear e1 e2
    (refine AnyT.ta 0 16 ?_; simp only [Act.put, za, zb, zc])
    (refine AnyT.ta 1 17 ?_; simp only [Act.put, za, zb, zc])
    (refine AnyT.ta 2 18 ?_; simp only [Act.put, za, zb, zc])
    (refine AnyT.tk 3 19 ?_; simp only [Act.put, za, zb, zc])
    (refine AnyT.ta 4 20 ?_; simp only [Act.put, za, zb, zc])
    (refine AnyT.ta 5 21 ?_; simp only [Act.put, za, zb, zc])
    (refine AnyT.ta 6 22 ?_; simp only [Act.put, za, zb, zc])
    (refine AnyT.tk 7 23 ?_; simp only [Act.put, za, zb, zc])
    (refine AnyT.ta 8 24 ?_; simp only [Act.put, za, zb, zc])
    refine AnyT.done (by kernel_rfl) ?_ _
    clear hHeld
    by_cases hxy : X = Y
    ·subst hxy
     have hq : (!X.toList == X.toList) = false := by simp
     (try rw [hq])
     go_wp2_with fail
     go_roundw
     case rel => exact ⟨k + 1, by omega, by go_num, Lib.hid (HST.out rfl), HD.out⟩
     case measure => simp [intOf]; omega
    ·have hne := str_ne hxy
     have hne2 : (!X.toList == Y.toList) = true := by rw [hne]; rfl
     have HF := Lib.hid (same_f (HNE.out hxy))
     clear hxy HST HNE
     (try rw [hne2])
     go_wp2_with fail
     go_ret
     exact ⟨by rw [HF.out]; rfl, HD.out⟩
   ·obtain rfl : k = xs.length := by omega
    have HB := Lib.hid hb; have HT := Lib.hid (same_t (take_all htk.out HL.out)); clear hb htk
    go_wp2_with fail
    go_ret
    exact ⟨by rw [HT.out]; rfl, HB.out⟩
 ·have hf := Lib.hid (same_f (ne_of_len hl))
  have n1 : ((xs.length : Int) == (ys.length : Int)) = false := by rw [beq_eq_false_iff_ne]; omega
  have n2 : ((xs.length : Int) != (ys.length : Int)) = true := by rw [bne_iff_ne]; omega
  clear hl h h'
  go_enter Tryz.func42, Tryz.ntmps42
  go_wp2_with fail
  go_ret
  exact ⟨by rw [hf.out]; rfl, Below.refl _ _⟩
theorem eqlInt (A B : Option Addr) (c d : Nat) (xs ys : List Int) (lo hi lo' hi' : Nat) (w : World) (h : (Sh.row 2 shI).R w lo hi [.slice A xs.length c] xs) (h' : (Sh.row 2 shI).R w lo' hi' [.slice B ys.length d] ys) (hhi : hi ≤ w.heap.size) (hhi' : hi' ≤ w.heap.size) (hn : xs.length ≤ 4294967296) (_hm : ys.length ≤ 4294967296) :
  Calls Tryz.prog 153 #[.slice A xs.length c, .slice B ys.length d] w fun e w' => e = .returned (.bool (sameB xs ys)) ∧ Below w.heap.size w w' := by
 by_cases hl : xs.length = ys.length
 ·have HA := Lib.hid h; have HA' := Lib.hid h'; have HL := Lib.hid hl
  rw [← hl] at HA' ⊢
  clear h h' _hm hl
  go_enter Tryz.func153, Tryz.ntmps153
  go_wp2_with fail
  go_loopw [5, 13] (fun _ i wr => ∃ k : Nat, k ≤ xs.length ∧ i = .int .i64 k ∧ Hid (xs.take k = ys.take k) ∧ Below w.heap.size w wr) (fun _ i _ => xs.length - (intOf i).toNat)
  case atStart => exact ⟨0, Nat.zero_le _, rfl, Lib.hid rfl, Below.refl _ _⟩
  case round =>
   obtain ⟨k, hk, rfl, htk, hb⟩ := hrel
   by_cases hlt : k < xs.length
   ·obtain ⟨b, off, rfl, hb1, hb2, us, hc, hX⟩ := row_at ((Sh.row 2 shI).R_below HA.out hb hhi) hlt
    obtain ⟨b', off', rfl, hb1', hb2', us', hc', hX'⟩ := row_at ((Sh.row 2 shI).R_below HA'.out hb hhi') hlt
    have HST := Lib.hid (fun he => take_step (d := shI.d) htk.out hlt HL.out he)
    have HNE := Lib.hid (fun he => ne_at (xs := xs) (ys := ys) (d := shI.d) (k := k) he)
    obtain rfl := (show us = [.int .i64 (xs.getD k shI.d)] from hX)
    obtain rfl := (show us' = [.int .i64 (ys.getD k shI.d)] from hX')
    have e1 := rng_one (rng_of hc); have e2 := rng_one (rng_of hc')
    simp only [show shI.k = 1 from rfl, Nat.mul_one] at e1 e2
    have HD := Lib.hid hb.drew
    clear hc hc' hX hX' htk
    generalize xs.getD k shI.d = X at *
    generalize ys.getD k shI.d = Y at *
    go_upto_region 6 with fail
    refine AnyT.region (fun _ => false) (fun W => W.cell? ⟨b, off + k, none⟩ = some (.int .i64 X) ∧ W.cell? ⟨b', off' + k, none⟩ = some (.int .i64 Y)) (by kernel_rfl) ⟨e1, e2⟩ (fun hHeld => ?_)
    generalize wr.drew = w4 at *
    clear e1 e2
    (refine AnyT.ta 0 16 ?_; simp only [Act.put, za, zb, zc])
    (refine AnyT.ta 1 17 ?_; simp only [Act.put, za, zb, zc])
    (refine AnyT.ta 2 18 ?_; simp only [Act.put, za, zb, zc])
    (refine AnyT.tk 3 19 ?_; simp only [Act.put, za, zb, zc])
    (refine AnyT.ta 4 20 ?_; simp only [Act.put, za, zb, zc])
    (refine AnyT.ta 5 21 ?_; simp only [Act.put, za, zb, zc])
    (refine AnyT.ta 6 22 ?_; simp only [Act.put, za, zb, zc])
    (refine AnyT.tk 7 23 ?_; simp only [Act.put, za, zb, zc])
    (refine AnyT.ta 8 24 ?_; simp only [Act.put, za, zb, zc])
    refine AnyT.done (by kernel_rfl) ?_ _
    clear hHeld
    by_cases hxy : X = Y
    ·subst hxy
     have hq : (X != X) = false := by simp
     (try rw [hq])
     go_wp2_with fail
     go_roundw
     case rel => exact ⟨k + 1, by omega, by go_num, Lib.hid (HST.out rfl), HD.out⟩
     case measure => simp [intOf]; omega
    ·have hne := (beq_eq_false_iff_ne.2 hxy : (X == Y) = false)
     have hne2 : (X != Y) = true := by simp [hxy]
     have HF := Lib.hid (same_f (HNE.out hxy))
     clear hxy HST HNE
     (try rw [hne2])
     go_wp2_with fail
     go_ret
     exact ⟨by rw [HF.out]; rfl, HD.out⟩
   ·obtain rfl : k = xs.length := by omega
    have HB := Lib.hid hb; have HT := Lib.hid (same_t (take_all htk.out HL.out)); clear hb htk
    go_wp2_with fail
    go_ret
    exact ⟨by rw [HT.out]; rfl, HB.out⟩
 ·have hf := Lib.hid (same_f (ne_of_len hl))
  have n1 : ((xs.length : Int) == (ys.length : Int)) = false := by rw [beq_eq_false_iff_ne]; omega
  have n2 : ((xs.length : Int) != (ys.length : Int)) = true := by rw [bne_iff_ne]; omega
  clear hl h h'
  go_enter Tryz.func153, Tryz.ntmps153
  go_wp2_with fail
  go_ret
  exact ⟨by rw [hf.out]; rfl, Below.refl _ _⟩
theorem l02Same_r (A B : Option Addr) (c d : Nat) (xs ys : List ByteArray) (lo hi lo' hi' : Nat) (w : World) (h : (Sh.row 9 shS).R w lo hi [.slice A xs.length c] xs) (h' : (Sh.row 9 shS).R w lo' hi' [.slice B ys.length d] ys) (hhi : hi ≤ w.heap.size) (hhi' : hi' ≤ w.heap.size) (hn : xs.length ≤ 4294967296) (_hm : ys.length ≤ 4294967296) :
  Calls Tryz.prog 96 #[.slice A xs.length c, .slice B ys.length d] w fun e w' => e = .returned (.bool (sameB xs ys)) ∧ Below w.heap.size w w' := by
 by_cases hl : xs.length = ys.length
 ·have HA := Lib.hid h; have HA' := Lib.hid h'; have HL := Lib.hid hl
  rw [← hl] at HA' ⊢
  clear h h' _hm hl
  go_enter Tryz.func96, Tryz.ntmps96
  go_wp2_with fail
  go_loopw [5] (fun i wr => ∃ k : Nat, k ≤ xs.length ∧ i = .int .i64 k ∧ Hid (xs.take k = ys.take k) ∧ Below w.heap.size w wr) (fun i _ => xs.length - (intOf i).toNat)
  case atStart => exact ⟨0, Nat.zero_le _, rfl, Lib.hid rfl, Below.refl _ _⟩
  case round =>
   obtain ⟨k, hk, rfl, htk, hb⟩ := hrel
   by_cases hlt : k < xs.length
   ·obtain ⟨b, off, rfl, hb1, hb2, us, hc, hX⟩ := row_at ((Sh.row 9 shS).R_below HA.out hb hhi) hlt
    obtain ⟨b', off', rfl, hb1', hb2', us', hc', hX'⟩ := row_at ((Sh.row 9 shS).R_below HA'.out hb hhi') hlt
    have HST := Lib.hid (fun he => take_step (d := shS.d) htk.out hlt HL.out he)
    have HNE := Lib.hid (fun he => ne_at (xs := xs) (ys := ys) (d := shS.d) (k := k) he)
    obtain rfl := (show us = [.string (xs.getD k shS.d)] from hX)
    obtain rfl := (show us' = [.string (ys.getD k shS.d)] from hX')
    have e1 := rng_one (rng_of hc); have e2 := rng_one (rng_of hc')
    simp only [show shS.k = 1 from rfl, Nat.mul_one] at e1 e2
    have HD := Lib.hid hb.drew
    clear hc hc' hX hX' htk
    generalize xs.getD k shS.d = X at *
    generalize ys.getD k shS.d = Y at *
    go_upto_region 6 with fail
    refine AnyT.region (fun _ => false) (fun W => W.cell? ⟨b, off + k, none⟩ = some (.string X) ∧ W.cell? ⟨b', off' + k, none⟩ = some (.string Y)) (by kernel_rfl) ⟨e1, e2⟩ (fun hHeld => ?_)
    generalize wr.drew = w4 at *
    clear e1 e2
    (refine AnyT.ta 0 17 ?_; simp only [Act.put, za, zb, zc])
    (refine AnyT.ta 1 18 ?_; simp only [Act.put, za, zb, zc])
    (refine AnyT.ta 2 19 ?_; simp only [Act.put, za, zb, zc])
    (refine AnyT.tk 3 20 ?_; simp only [Act.put, za, zb, zc])
    (refine AnyT.ta 4 21 ?_; simp only [Act.put, za, zb, zc])
    (refine AnyT.ta 5 22 ?_; simp only [Act.put, za, zb, zc])
    (refine AnyT.ta 6 23 ?_; simp only [Act.put, za, zb, zc])
    (refine AnyT.tk 7 24 ?_; simp only [Act.put, za, zb, zc])
    (refine AnyT.ta 8 25 ?_; simp only [Act.put, za, zb, zc])
    refine AnyT.done (by kernel_rfl) ?_ _
    clear hHeld
    by_cases hxy : X = Y
    ·subst hxy
     have hq : (!X.toList == X.toList) = false := by simp
     (try rw [hq])
     go_wp2_with fail
     go_roundw
     case rel => exact ⟨k + 1, by omega, by go_num, Lib.hid (HST.out rfl), HD.out⟩
     case measure => simp [intOf]; omega
    ·have hne := str_ne hxy
     have hne2 : (!X.toList == Y.toList) = true := by rw [hne]; rfl
     have HF := Lib.hid (same_f (HNE.out hxy))
     clear hxy HST HNE
     (try rw [hne2])
     go_wp2_with fail
     go_ret
     exact ⟨by rw [HF.out]; rfl, HD.out⟩
   ·obtain rfl : k = xs.length := by omega
    have HB := Lib.hid hb; have HT := Lib.hid (same_t (take_all htk.out HL.out)); clear hb htk
    go_wp2_with fail
    go_ret
    exact ⟨by rw [HT.out]; rfl, HB.out⟩
 ·have hf := Lib.hid (same_f (ne_of_len hl))
  have n1 : ((xs.length : Int) == (ys.length : Int)) = false := by rw [beq_eq_false_iff_ne]; omega
  have n2 : ((xs.length : Int) != (ys.length : Int)) = true := by rw [bne_iff_ne]; omega
  clear hl h h'
  go_enter Tryz.func96, Tryz.ntmps96
  go_wp2_with fail
  go_ret
  exact ⟨by rw [hf.out]; rfl, Below.refl _ _⟩
theorem l00Same_r (A B : Option Addr) (c d : Nat) (xs ys : List Int) (lo hi lo' hi' : Nat) (w : World) (h : (Sh.row 2 shI).R w lo hi [.slice A xs.length c] xs) (h' : (Sh.row 2 shI).R w lo' hi' [.slice B ys.length d] ys) (hhi : hi ≤ w.heap.size) (hhi' : hi' ≤ w.heap.size) (hn : xs.length ≤ 4294967296) (_hm : ys.length ≤ 4294967296) :
  Calls Tryz.prog 121 #[.slice A xs.length c, .slice B ys.length d] w fun e w' => e = .returned (.bool (sameB xs ys)) ∧ Below w.heap.size w w' := by
 by_cases hl : xs.length = ys.length
 ·have HA := Lib.hid h; have HA' := Lib.hid h'; have HL := Lib.hid hl
  rw [← hl] at HA' ⊢
  clear h h' _hm hl
  go_enter Tryz.func121, Tryz.ntmps121
  go_wp2_with fail
  go_loopw [5] (fun i wr => ∃ k : Nat, k ≤ xs.length ∧ i = .int .i64 k ∧ Hid (xs.take k = ys.take k) ∧ Below w.heap.size w wr) (fun i _ => xs.length - (intOf i).toNat)
  case atStart => exact ⟨0, Nat.zero_le _, rfl, Lib.hid rfl, Below.refl _ _⟩
  case round =>
   obtain ⟨k, hk, rfl, htk, hb⟩ := hrel
   by_cases hlt : k < xs.length
   ·obtain ⟨b, off, rfl, hb1, hb2, us, hc, hX⟩ := row_at ((Sh.row 2 shI).R_below HA.out hb hhi) hlt
    obtain ⟨b', off', rfl, hb1', hb2', us', hc', hX'⟩ := row_at ((Sh.row 2 shI).R_below HA'.out hb hhi') hlt
    have HST := Lib.hid (fun he => take_step (d := shI.d) htk.out hlt HL.out he)
    have HNE := Lib.hid (fun he => ne_at (xs := xs) (ys := ys) (d := shI.d) (k := k) he)
    obtain rfl := (show us = [.int .i64 (xs.getD k shI.d)] from hX)
    obtain rfl := (show us' = [.int .i64 (ys.getD k shI.d)] from hX')
    have e1 := rng_one (rng_of hc); have e2 := rng_one (rng_of hc')
    simp only [show shI.k = 1 from rfl, Nat.mul_one] at e1 e2
    have HD := Lib.hid hb.drew
    clear hc hc' hX hX' htk
    generalize xs.getD k shI.d = X at *
    generalize ys.getD k shI.d = Y at *
    go_upto_region 6 with fail
    refine AnyT.region (fun _ => false) (fun W => W.cell? ⟨b, off + k, none⟩ = some (.int .i64 X) ∧ W.cell? ⟨b', off' + k, none⟩ = some (.int .i64 Y)) (by kernel_rfl) ⟨e1, e2⟩ (fun hHeld => ?_)
    generalize wr.drew = w4 at *
    clear e1 e2
    (refine AnyT.ta 0 17 ?_; simp only [Act.put, za, zb, zc])
    (refine AnyT.ta 1 18 ?_; simp only [Act.put, za, zb, zc])
    (refine AnyT.ta 2 19 ?_; simp only [Act.put, za, zb, zc])
    (refine AnyT.tk 3 20 ?_; simp only [Act.put, za, zb, zc])
    (refine AnyT.ta 4 21 ?_; simp only [Act.put, za, zb, zc])
    (refine AnyT.ta 5 22 ?_; simp only [Act.put, za, zb, zc])
    (refine AnyT.ta 6 23 ?_; simp only [Act.put, za, zb, zc])
    (refine AnyT.tk 7 24 ?_; simp only [Act.put, za, zb, zc])
    (refine AnyT.ta 8 25 ?_; simp only [Act.put, za, zb, zc])
    refine AnyT.done (by kernel_rfl) ?_ _
    clear hHeld
    by_cases hxy : X = Y
    ·subst hxy
     have hq : (X != X) = false := by simp
     (try rw [hq])
     go_wp2_with fail
     go_roundw
     case rel => exact ⟨k + 1, by omega, by go_num, Lib.hid (HST.out rfl), HD.out⟩
     case measure => simp [intOf]; omega
    ·have hne := (beq_eq_false_iff_ne.2 hxy : (X == Y) = false)
     have hne2 : (X != Y) = true := by simp [hxy]
     have HF := Lib.hid (same_f (HNE.out hxy))
     clear hxy HST HNE
     (try rw [hne2])
     go_wp2_with fail
     go_ret
     exact ⟨by rw [HF.out]; rfl, HD.out⟩
   ·obtain rfl : k = xs.length := by omega
    have HB := Lib.hid hb; have HT := Lib.hid (same_t (take_all htk.out HL.out)); clear hb htk
    go_wp2_with fail
    go_ret
    exact ⟨by rw [HT.out]; rfl, HB.out⟩
 ·have hf := Lib.hid (same_f (ne_of_len hl))
  have n1 : ((xs.length : Int) == (ys.length : Int)) = false := by rw [beq_eq_false_iff_ne]; omega
  have n2 : ((xs.length : Int) != (ys.length : Int)) = true := by rw [bne_iff_ne]; omega
  clear hl h h'
  go_enter Tryz.func121, Tryz.ntmps121
  go_wp2_with fail
  go_ret
  exact ⟨by rw [hf.out]; rfl, Below.refl _ _⟩
end Go.Proofs.YtgnmollbnopigaaGreat
