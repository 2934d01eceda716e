/- Comparisons, both sides. Printed by gen_same2.py. -/
import Derived.Test.YtgnmollbnopigaaGreatJoinSSAw
set_option maxHeartbeats 16000000
set_option maxRecDepth 100000
namespace Go.Proofs.YtgnmollbnopigaaGreat
open Go.RowKit
theorem equalSeat (x0 : Int) (x1 : Int) (y0 : Int) (y1 : Int) (W : World) : (Op.equalIn 10000 273 (.agg ([.int .i64 x0, .int .i64 x1] : List Value).toArray) (.agg ([.int .i64 y0, .int .i64 y1] : List Value).toArray)).run Tryz.prog W = .ok (sameB (x0, x1) (y0, y1)) W := by
 rw [run_equalIn_struct W 9999 273 _ _ (by kernel_rfl) (by kernel_rfl)]
 unfold Program.fieldsOf
 rw [Tryz.underlying273]
 by_cases h0 : x0 = y0
 ·subst h0
  by_cases h1 : x1 = y1
  ·subst h1
   rw [same_t rfl]
   go_simp
  ·have q1 : (x1 == y1) = false := beq_eq_false_iff_ne.2 h1
   rw [same_f (fun e => h1 (congrArg (fun X : TySeat => X.2) e))]
   go_simp
 ·have q0 : (x0 == y0) = false := beq_eq_false_iff_ne.2 h0
  rw [same_f (fun e => h0 (congrArg (fun X : TySeat => X.1) e))]
  go_simp
theorem eqlSeat (A B : Option Addr) (c d : Nat) (xs ys : List TySeat) (lo hi lo' hi' : Nat) (w : World) (h : (Sh.row 273 shSeat).R w lo hi [.slice A xs.length c] xs) (h' : (Sh.row 273 shSeat).R w lo' hi' [.slice B ys.length d] ys) (hhi : hi ≤ w.heap.size) (hhi' : hi' ≤ w.heap.size) (hn : xs.length ≤ 4294967296) (_hm : ys.length ≤ 4294967296) :
  Calls Tryz.prog 152 #[.slice A xs.length c, .slice B ys.length d] w fun e w' => e = .returned (.bool (sameB xs ys)) ∧ Below w.heap.size w w' := by
 obtain ⟨ANS, hANS⟩ : ∃ b, b = sameB xs ys := ⟨_, rfl⟩
 rw [← hANS]
 have HANS := Lib.hid hANS; clear hANS
 by_cases hl : xs.length = ys.length
 ·have HA := Lib.hid h; have HA' := Lib.hid h'; have HL := Lib.hid hl
  rw [← hl] at HA' ⊢
  clear h h' _hm hl
  go_enter Tryz.func152, Tryz.ntmps152
  go_wp2_with fail
  go_loopw [5, 13] (fun _ i wr => ∃ k : Nat, k ≤ xs.length ∧ i = .int .i64 k ∧ Hid (xs.take k = ys.take k) ∧ Below w.heap.size w wr) (fun _ i _ => xs.length - (intOf i).toNat)
  case atStart => exact ⟨0, Nat.zero_le _, rfl, Lib.hid rfl, Below.refl _ _⟩
  case round =>
   obtain ⟨k, hk, rfl, htk, hb⟩ := hrel
   by_cases hlt : k < xs.length
   ·obtain ⟨b, off, rfl, hb1, hb2, us, hc, hX⟩ := row_at ((Sh.row 273 shSeat).R_below HA.out hb hhi) hlt
    obtain ⟨b', off', rfl, hb1', hb2', us', hc', hX'⟩ := row_at ((Sh.row 273 shSeat).R_below HA'.out hb hhi') hlt
    have HST := Lib.hid (fun he => take_step (d := shSeat.d) htk.out hlt HL.out he)
    have HNE := Lib.hid (fun he => ne_at (xs := xs) (ys := ys) (d := shSeat.d) (k := k) he)
    generalize xs.getD k shSeat.d = X at *
    generalize ys.getD k shSeat.d = Y at *
    obtain ⟨x0, x1⟩ := X
    obtain ⟨y0, y1⟩ := Y
    obtain rfl : us = [.int .i64 x0, .int .i64 x1] := shSeat_R.1 hX
    obtain rfl : us' = [.int .i64 y0, .int .i64 y1] := shSeat_R.1 hX'
    have HC := Lib.hid (show wr.drew.rangeAt b (off + k * 2) [.int .i64 x0, .int .i64 x1] from rng_of hc); have HC' := Lib.hid (show wr.drew.rangeAt b' (off' + k * 2) [.int .i64 y0, .int .i64 y1] from rng_of hc')
    have HZ := slH sizeISeat hX; have HZ' := slH sizeISeat hX'
    have HD := Lib.hid hb.drew
    clear hc hc' hX hX' htk
    go_upto_region 6 with fail
    refine AnyT.region (fun _ => false) (fun W => W.rangeAt b (off + k * 2) [.int .i64 x0, .int .i64 x1] ∧ W.rangeAt b' (off' + k * 2) [.int .i64 y0, .int .i64 y1]) (by kernel_rfl) ⟨HC.out, HC'.out⟩ (fun hHeld => ?_)
    generalize wr.drew = w4 at *
    clear HC HC'
    (refine AnyT.ta 0 16 ?_; simp only [Act.put, za, zb, zc])
    (refine AnyT.ta 1 17 ?_; simp only [Act.put, za, zb, zc])
    (refine AnyT.ta 2 18 ?_; simp only [Act.put, za, zb, zc])
    refine AnyT.tx 3 19 (.agg ([.int .i64 x0, .int .i64 x1] : List Value).toArray) (fun W hS => exec_loadMid _ _ rfl b (off + k * 2) rfl _ hS.1 Tryz.underlying273 rfl HZ.out) ?_
    simp only [Act.put, za, zb, zc]
    (refine AnyT.ta 4 20 ?_; simp only [Act.put, za, zb, zc])
    (refine AnyT.ta 5 21 ?_; simp only [Act.put, za, zb, zc])
    (refine AnyT.ta 6 22 ?_; simp only [Act.put, za, zb, zc])
    refine AnyT.tx 7 23 (.agg ([.int .i64 y0, .int .i64 y1] : List Value).toArray) (fun W hS => exec_loadMid _ _ rfl b' (off' + k * 2) rfl _ hS.2 Tryz.underlying273 rfl HZ'.out) ?_
    simp only [Act.put, za, zb, zc]
    refine AnyT.takeAny 8 24 (.bool (!sameB (x0, x1) (y0, y1))) rfl (by kernel_rfl) (by kernel_rfl) (by kernel_rfl) rfl rfl (fun _ _ _ _ h => h) rfl (fun W => exec_neq rfl rfl rfl (by kernel_rfl) (fun w => equalSeat _ _ _ _ w)) (by assumption) ?_
    simp only [Act.put, za, zb, zc]
    refine AnyT.done (by kernel_rfl) ?_ _
    clear hHeld
    by_cases hxy : (x0, x1) = (y0, y1)
    ·have HS2 := Lib.hid (HST.out hxy)
     rw [same_t hxy]
     clear HST HNE hxy
     go_wp2_with fail
     go_roundw
     case rel => exact ⟨k + 1, by omega, by go_num, HS2, HD.out⟩
     case measure => simp [intOf]; omega
    ·have HFF := Lib.hid (HANS.out.trans (same_f (HNE.out hxy)))
     rw [same_f hxy]
     clear hxy HST HNE
     go_wp2_with fail
     go_ret
     exact ⟨by rw [HFF.out]; rfl, HD.out⟩
   ·obtain rfl : k = xs.length := by omega
    have HB := Lib.hid hb; have HT := Lib.hid (HANS.out.trans (same_t (take_all htk.out HL.out))); clear hb htk
    go_wp2_with fail
    go_ret
    exact ⟨by rw [HT.out]; rfl, HB.out⟩
 ·have HFF := Lib.hid (HANS.out.trans (same_f (ne_of_len hl)))
  have n1 : ((xs.length : Int) == (ys.length : Int)) = false := by rw [beq_eq_false_iff_ne]; omega
  have n2 : ((xs.length : Int) != (ys.length : Int)) = true := by rw [bne_iff_ne]; omega
  clear hl h h'
  go_enter Tryz.func152, Tryz.ntmps152
  go_wp2_with fail
  go_ret
  exact ⟨by rw [HFF.out]; rfl, Below.refl _ _⟩
theorem equalPut (x0 : Int) (x1 : ByteArray) (y0 : Int) (y1 : ByteArray) (W : World) : (Op.equalIn 10000 306 (.agg ([.int .i64 x0, .string x1] : List Value).toArray) (.agg ([.int .i64 y0, .string y1] : List Value).toArray)).run Tryz.prog W = .ok (sameB (x0, x1) (y0, y1)) W := by
 rw [run_equalIn_struct W 9999 306 _ _ (by kernel_rfl) (by kernel_rfl)]
 unfold Program.fieldsOf
 rw [Tryz.underlying306]
 by_cases h0 : x0 = y0
 ·subst h0
  by_cases h1 : x1 = y1
  ·subst h1
   rw [same_t rfl]
   go_simp
  ·have q1 : (x1.toList == y1.toList) = false := str_ne h1
   rw [same_f (fun e => h1 (congrArg (fun X : TyPut => X.2) e))]
   go_simp
 ·have q0 : (x0 == y0) = false := beq_eq_false_iff_ne.2 h0
  rw [same_f (fun e => h0 (congrArg (fun X : TyPut => X.1) e))]
  go_simp
theorem eqlPut (A B : Option Addr) (c d : Nat) (xs ys : List TyPut) (lo hi lo' hi' : Nat) (w : World) (h : (Sh.row 306 shPut).R w lo hi [.slice A xs.length c] xs) (h' : (Sh.row 306 shPut).R w lo' hi' [.slice B ys.length d] ys) (hhi : hi ≤ w.heap.size) (hhi' : hi' ≤ w.heap.size) (hn : xs.length ≤ 4294967296) (_hm : ys.length ≤ 4294967296) :
  Calls Tryz.prog 201 #[.slice A xs.length c, .slice B ys.length d] w fun e w' => e = .returned (.bool (sameB xs ys)) ∧ Below w.heap.size w w' := by
 obtain ⟨ANS, hANS⟩ : ∃ b, b = sameB xs ys := ⟨_, rfl⟩
 rw [← hANS]
 have HANS := Lib.hid hANS; clear hANS
 by_cases hl : xs.length = ys.length
 ·have HA := Lib.hid h; have HA' := Lib.hid h'; have HL := Lib.hid hl
  rw [← hl] at HA' ⊢
  clear h h' _hm hl
  go_enter Tryz.func201, Tryz.ntmps201
  go_wp2_with fail
  go_loopw [5, 13] (fun _ i wr => ∃ k : Nat, k ≤ xs.length ∧ i = .int .i64 k ∧ Hid (xs.take k = ys.take k) ∧ Below w.heap.size w wr) (fun _ i _ => xs.length - (intOf i).toNat)
  case atStart => exact ⟨0, Nat.zero_le _, rfl, Lib.hid rfl, Below.refl _ _⟩
  case round =>
   obtain ⟨k, hk, rfl, htk, hb⟩ := hrel
   by_cases hlt : k < xs.length
   ·obtain ⟨b, off, rfl, hb1, hb2, us, hc, hX⟩ := row_at ((Sh.row 306 shPut).R_below HA.out hb hhi) hlt
    obtain ⟨b', off', rfl, hb1', hb2', us', hc', hX'⟩ := row_at ((Sh.row 306 shPut).R_below HA'.out hb hhi') hlt
    have HST := Lib.hid (fun he => take_step (d := shPut.d) htk.out hlt HL.out he)
    have HNE := Lib.hid (fun he => ne_at (xs := xs) (ys := ys) (d := shPut.d) (k := k) he)
    generalize xs.getD k shPut.d = X at *
    generalize ys.getD k shPut.d = Y at *
    obtain ⟨x0, x1⟩ := X
    obtain ⟨y0, y1⟩ := Y
    obtain rfl : us = [.int .i64 x0, .string x1] := shPut_R.1 hX
    obtain rfl : us' = [.int .i64 y0, .string y1] := shPut_R.1 hX'
    have HC := Lib.hid (show wr.drew.rangeAt b (off + k * 2) [.int .i64 x0, .string x1] from rng_of hc); have HC' := Lib.hid (show wr.drew.rangeAt b' (off' + k * 2) [.int .i64 y0, .string y1] from rng_of hc')
    have HZ := slH sizeIPut hX; have HZ' := slH sizeIPut hX'
    have HD := Lib.hid hb.drew
    clear hc hc' hX hX' htk
    go_upto_region 6 with fail
    refine AnyT.region (fun _ => false) (fun W => W.rangeAt b (off + k * 2) [.int .i64 x0, .string x1] ∧ W.rangeAt b' (off' + k * 2) [.int .i64 y0, .string y1]) (by kernel_rfl) ⟨HC.out, HC'.out⟩ (fun hHeld => ?_)
    generalize wr.drew = w4 at *
    clear HC HC'
    (refine AnyT.ta 0 16 ?_; simp only [Act.put, za, zb, zc])
    (refine AnyT.ta 1 17 ?_; simp only [Act.put, za, zb, zc])
    (refine AnyT.ta 2 18 ?_; simp only [Act.put, za, zb, zc])
    refine AnyT.tx 3 19 (.agg ([.int .i64 x0, .string x1] : List Value).toArray) (fun W hS => exec_loadMid _ _ rfl b (off + k * 2) rfl _ hS.1 Tryz.underlying306 rfl HZ.out) ?_
    simp only [Act.put, za, zb, zc]
    (refine AnyT.ta 4 20 ?_; simp only [Act.put, za, zb, zc])
    (refine AnyT.ta 5 21 ?_; simp only [Act.put, za, zb, zc])
    (refine AnyT.ta 6 22 ?_; simp only [Act.put, za, zb, zc])
    refine AnyT.tx 7 23 (.agg ([.int .i64 y0, .string y1] : List Value).toArray) (fun W hS => exec_loadMid _ _ rfl b' (off' + k * 2) rfl _ hS.2 Tryz.underlying306 rfl HZ'.out) ?_
    simp only [Act.put, za, zb, zc]
    refine AnyT.takeAny 8 24 (.bool (!sameB (x0, x1) (y0, y1))) rfl (by kernel_rfl) (by kernel_rfl) (by kernel_rfl) rfl rfl (fun _ _ _ _ h => h) rfl (fun W => exec_neq rfl rfl rfl (by kernel_rfl) (fun w => equalPut _ _ _ _ w)) (by assumption) ?_
    simp only [Act.put, za, zb, zc]
    refine AnyT.done (by kernel_rfl) ?_ _
    clear hHeld
    by_cases hxy : (x0, x1) = (y0, y1)
    ·have HS2 := Lib.hid (HST.out hxy)
     rw [same_t hxy]
     clear HST HNE hxy
     go_wp2_with fail
     go_roundw
     case rel => exact ⟨k + 1, by omega, by go_num, HS2, HD.out⟩
     case measure => simp [intOf]; omega
    ·have HFF := Lib.hid (HANS.out.trans (same_f (HNE.out hxy)))
     rw [same_f hxy]
     clear hxy HST HNE
     go_wp2_with fail
     go_ret
     exact ⟨by rw [HFF.out]; rfl, HD.out⟩
   ·obtain rfl : k = xs.length := by omega
    have HB := Lib.hid hb; have HT := Lib.hid (HANS.out.trans (same_t (take_all htk.out HL.out))); clear hb htk
    go_wp2_with fail
    go_ret
    exact ⟨by rw [HT.out]; rfl, HB.out⟩
 ·have HFF := Lib.hid (HANS.out.trans (same_f (ne_of_len hl)))
  have n1 : ((xs.length : Int) == (ys.length : Int)) = false := by rw [beq_eq_false_iff_ne]; omega
  have n2 : ((xs.length : Int) != (ys.length : Int)) = true := by rw [bne_iff_ne]; omega
  clear hl h h'
  go_enter Tryz.func201, Tryz.ntmps201
  go_wp2_with fail
  go_ret
  exact ⟨by rw [HFF.out]; rfl, Below.refl _ _⟩
theorem equalIns (x0 : Int) (x1 : Int) (x2 : Int) (x3 : ByteArray) (y0 : Int) (y1 : Int) (y2 : Int) (y3 : ByteArray) (W : World) : (Op.equalIn 10000 226 (.agg ([.int .i64 x0, .int .i64 x1, .int .i64 x2, .string x3] : List Value).toArray) (.agg ([.int .i64 y0, .int .i64 y1, .int .i64 y2, .string y3] : List Value).toArray)).run Tryz.prog W = .ok (sameB (x0, x1, x2, x3) (y0, y1, y2, y3)) W := by
 rw [run_equalIn_struct W 9999 226 _ _ (by kernel_rfl) (by kernel_rfl)]
 unfold Program.fieldsOf
 rw [Tryz.underlying226]
 by_cases h0 : x0 = y0
 ·subst h0
  by_cases h1 : x1 = y1
  ·subst h1
   by_cases h2 : x2 = y2
   ·subst h2
    by_cases h3 : x3 = y3
    ·subst h3
     rw [same_t rfl]
     go_simp
    ·have q3 : (x3.toList == y3.toList) = false := str_ne h3
     rw [same_f (fun e => h3 (congrArg (fun X : TyIns => X.2.2.2) e))]
     go_simp
   ·have q2 : (x2 == y2) = false := beq_eq_false_iff_ne.2 h2
    rw [same_f (fun e => h2 (congrArg (fun X : TyIns => X.2.2.1) e))]
    go_simp
  ·have q1 : (x1 == y1) = false := beq_eq_false_iff_ne.2 h1
   rw [same_f (fun e => h1 (congrArg (fun X : TyIns => X.2.1) e))]
   go_simp
 ·have q0 : (x0 == y0) = false := beq_eq_false_iff_ne.2 h0
  rw [same_f (fun e => h0 (congrArg (fun X : TyIns => X.1) e))]
  go_simp
theorem eqlIns (A B : Option Addr) (c d : Nat) (xs ys : List TyIns) (lo hi lo' hi' : Nat) (w : World) (h : (Sh.row 226 shIns).R w lo hi [.slice A xs.length c] xs) (h' : (Sh.row 226 shIns).R w lo' hi' [.slice B ys.length d] ys) (hhi : hi ≤ w.heap.size) (hhi' : hi' ≤ w.heap.size) (hn : xs.length ≤ 4294967296) (_hm : ys.length ≤ 4294967296) :
  Calls Tryz.prog 136 #[.slice A xs.length c, .slice B ys.length d] w fun e w' => e = .returned (.bool (sameB xs ys)) ∧ Below w.heap.size w w' := by
 obtain ⟨ANS, hANS⟩ : ∃ b, b = sameB xs ys := ⟨_, rfl⟩
 rw [← hANS]
 have HANS := Lib.hid hANS; clear hANS
 by_cases hl : xs.length = ys.length
 ·have HA := Lib.hid h; have HA' := Lib.hid h'; have HL := Lib.hid hl
  rw [← hl] at HA' ⊢
  clear h h' _hm hl
  go_enter Tryz.func136, Tryz.ntmps136
  go_wp2_with fail
  go_loopw [5, 13] (fun _ i wr => ∃ k : Nat, k ≤ xs.length ∧ i = .int .i64 k ∧ Hid (xs.take k = ys.take k) ∧ Below w.heap.size w wr) (fun _ i _ => xs.length - (intOf i).toNat)
  case atStart => exact ⟨0, Nat.zero_le _, rfl, Lib.hid rfl, Below.refl _ _⟩
  case round =>
   obtain ⟨k, hk, rfl, htk, hb⟩ := hrel
   by_cases hlt : k < xs.length
   ·obtain ⟨b, off, rfl, hb1, hb2, us, hc, hX⟩ := row_at ((Sh.row 226 shIns).R_below HA.out hb hhi) hlt
    obtain ⟨b', off', rfl, hb1', hb2', us', hc', hX'⟩ := row_at ((Sh.row 226 shIns).R_below HA'.out hb hhi') hlt
    have HST := Lib.hid (fun he => take_step (d := shIns.d) htk.out hlt HL.out he)
    have HNE := Lib.hid (fun he => ne_at (xs := xs) (ys := ys) (d := shIns.d) (k := k) he)
    generalize xs.getD k shIns.d = X at *
    generalize ys.getD k shIns.d = Y at *
    obtain ⟨x0, x1, x2, x3⟩ := X
    obtain ⟨y0, y1, y2, y3⟩ := Y
    obtain rfl : us = [.int .i64 x0, .int .i64 x1, .int .i64 x2, .string x3] := shIns_R.1 hX
    obtain rfl : us' = [.int .i64 y0, .int .i64 y1, .int .i64 y2, .string y3] := shIns_R.1 hX'
    have HC := Lib.hid (show wr.drew.rangeAt b (off + k * 4) [.int .i64 x0, .int .i64 x1, .int .i64 x2, .string x3] from rng_of hc); have HC' := Lib.hid (show wr.drew.rangeAt b' (off' + k * 4) [.int .i64 y0, .int .i64 y1, .int .i64 y2, .string y3] from rng_of hc')
    have HZ := slH sizeIIns hX; have HZ' := slH sizeIIns hX'
    have HD := Lib.hid hb.drew
    clear hc hc' hX hX' htk
    go_upto_region 6 with fail
    refine AnyT.region (fun _ => false) (fun W => W.rangeAt b (off + k * 4) [.int .i64 x0, .int .i64 x1, .int .i64 x2, .string x3] ∧ W.rangeAt b' (off' + k * 4) [.int .i64 y0, .int .i64 y1, .int .i64 y2, .string y3]) (by kernel_rfl) ⟨HC.out, HC'.out⟩ (fun hHeld => ?_)
    generalize wr.drew = w4 at *
    clear HC HC'
    (refine AnyT.ta 0 16 ?_; simp only [Act.put, za, zb, zc])
    (refine AnyT.ta 1 17 ?_; simp only [Act.put, za, zb, zc])
    (refine AnyT.ta 2 18 ?_; simp only [Act.put, za, zb, zc])
    refine AnyT.tx 3 19 (.agg ([.int .i64 x0, .int .i64 x1, .int .i64 x2, .string x3] : List Value).toArray) (fun W hS => exec_loadMid _ _ rfl b (off + k * 4) rfl _ hS.1 Tryz.underlying226 rfl HZ.out) ?_
    simp only [Act.put, za, zb, zc]
    (refine AnyT.ta 4 20 ?_; simp only [Act.put, za, zb, zc])
    (refine AnyT.ta 5 21 ?_; simp only [Act.put, za, zb, zc])
    (refine AnyT.ta 6 22 ?_; simp only [Act.put, za, zb, zc])
    refine AnyT.tx 7 23 (.agg ([.int .i64 y0, .int .i64 y1, .int .i64 y2, .string y3] : List Value).toArray) (fun W hS => exec_loadMid _ _ rfl b' (off' + k * 4) rfl _ hS.2 Tryz.underlying226 rfl HZ'.out) ?_
    simp only [Act.put, za, zb, zc]
    refine AnyT.takeAny 8 24 (.bool (!sameB (x0, x1, x2, x3) (y0, y1, y2, y3))) rfl (by kernel_rfl) (by kernel_rfl) (by kernel_rfl) rfl rfl (fun _ _ _ _ h => h) rfl (fun W => exec_neq rfl rfl rfl (by kernel_rfl) (fun w => equalIns _ _ _ _ _ _ _ _ w)) (by assumption) ?_
    simp only [Act.put, za, zb, zc]
    refine AnyT.done (by kernel_rfl) ?_ _
    clear hHeld
    by_cases hxy : (x0, x1, x2, x3) = (y0, y1, y2, y3)
    ·have HS2 := Lib.hid (HST.out hxy)
     rw [same_t hxy]
     clear HST HNE hxy
     go_wp2_with fail
     go_roundw
     case rel => exact ⟨k + 1, by omega, by go_num, HS2, HD.out⟩
     case measure => simp [intOf]; omega
    ·have HFF := Lib.hid (HANS.out.trans (same_f (HNE.out hxy)))
     rw [same_f hxy]
     clear hxy HST HNE
     go_wp2_with fail
     go_ret
     exact ⟨by rw [HFF.out]; rfl, HD.out⟩
   ·obtain rfl : k = xs.length := by omega
    have HB := Lib.hid hb; have HT := Lib.hid (HANS.out.trans (same_t (take_all htk.out HL.out))); clear hb htk
    go_wp2_with fail
    go_ret
    exact ⟨by rw [HT.out]; rfl, HB.out⟩
 ·have HFF := Lib.hid (HANS.out.trans (same_f (ne_of_len hl)))
  have n1 : ((xs.length : Int) == (ys.length : Int)) = false := by rw [beq_eq_false_iff_ne]; omega
  have n2 : ((xs.length : Int) != (ys.length : Int)) = true := by rw [bne_iff_ne]; omega
  clear hl h h'
  go_enter Tryz.func136, Tryz.ntmps136
  go_wp2_with fail
  go_ret
  exact ⟨by rw [HFF.out]; rfl, Below.refl _ _⟩
end Go.Proofs.YtgnmollbnopigaaGreat
