/- Comparisons, both sides. Printed by gen_same2.py. -/
import Derived.Test.YtgnmollbnopigaaGreatJoinSSAw
set_option maxHeartbeats 16000000
set_option maxRecDepth 100000
namespace Go.Proofs.YtgnmollbnopigaaGreat
open Go.RowKit
theorem equalGiven (x0 : Bool) (x1 : ByteArray) (y0 : Bool) (y1 : ByteArray) (W : World) : (Op.equalIn 10000 322 (.agg ([.bool x0, .string x1] : List Value).toArray) (.agg ([.bool y0, .string y1] : List Value).toArray)).run Tryz.prog W = .ok (sameB (x0, x1) (y0, y1)) W := by
 rw [run_equalIn_struct W 9999 322 _ _ (by kernel_rfl) (by kernel_rfl)]
 unfold Program.fieldsOf
 rw [Tryz.underlying322]
 by_cases h0 : x0 = y0
 ·subst h0
  by_cases h1 : x1 = y1
  ·subst h1
   rw [same_t rfl]
   go_simp
  ·have q1 : (x1.toList == y1.toList) = false := str_ne h1
   rw [same_f (fun e => h1 (congrArg (fun X : TyGiven => X.2) e))]
   go_simp
 ·have q0 : (x0 == y0) = false := beq_eq_false_iff_ne.2 h0
  rw [same_f (fun e => h0 (congrArg (fun X : TyGiven => X.1) e))]
  go_simp
theorem eqlGiven (A B : Option Addr) (c d : Nat) (xs ys : List TyGiven) (lo hi lo' hi' : Nat) (w : World) (h : (Sh.row 322 shGiven).R w lo hi [.slice A xs.length c] xs) (h' : (Sh.row 322 shGiven).R w lo' hi' [.slice B ys.length d] ys) (hhi : hi ≤ w.heap.size) (hhi' : hi' ≤ w.heap.size) (hn : xs.length ≤ 4294967296) (_hm : ys.length ≤ 4294967296) :
  Calls Tryz.prog 197 #[.slice A xs.length c, .slice B ys.length d] w fun e w' => e = .returned (.bool (sameB xs ys)) ∧ Below w.heap.size w w' := by
 obtain ⟨ANS, hANS⟩ : ∃ b, b = sameB xs ys := ⟨_, rfl⟩
 rw [← hANS]
 have HANS := Lib.hid hANS; clear hANS
 by_cases hl : xs.length = ys.length
 ·have HA := Lib.hid h; have HA' := Lib.hid h'; have HL := Lib.hid hl
  rw [← hl] at HA' ⊢
  clear h h' _hm hl
  go_enter Tryz.func197, Tryz.ntmps197
  go_wp2_with fail
  go_loopw [5, 13] (fun _ i wr => ∃ k : Nat, k ≤ xs.length ∧ i = .int .i64 k ∧ Hid (xs.take k = ys.take k) ∧ Below w.heap.size w wr) (fun _ i _ => xs.length - (intOf i).toNat)
  case atStart => exact ⟨0, Nat.zero_le _, rfl, Lib.hid rfl, Below.refl _ _⟩
  case round =>
   obtain ⟨k, hk, rfl, htk, hb⟩ := hrel
   by_cases hlt : k < xs.length
   ·obtain ⟨b, off, rfl, hb1, hb2, us, hc, hX⟩ := row_at ((Sh.row 322 shGiven).R_below HA.out hb hhi) hlt
    obtain ⟨b', off', rfl, hb1', hb2', us', hc', hX'⟩ := row_at ((Sh.row 322 shGiven).R_below HA'.out hb hhi') hlt
    have HST := Lib.hid (fun he => take_step (d := shGiven.d) htk.out hlt HL.out he)
    have HNE := Lib.hid (fun he => ne_at (xs := xs) (ys := ys) (d := shGiven.d) (k := k) he)
    generalize xs.getD k shGiven.d = X at *
    generalize ys.getD k shGiven.d = Y at *
    obtain ⟨x0, x1⟩ := X
    obtain ⟨y0, y1⟩ := Y
    obtain rfl : us = [.bool x0, .string x1] := shGiven_R.1 hX
    obtain rfl : us' = [.bool y0, .string y1] := shGiven_R.1 hX'
    have HC := Lib.hid (show wr.drew.rangeAt b (off + k * 2) [.bool x0, .string x1] from rng_of hc); have HC' := Lib.hid (show wr.drew.rangeAt b' (off' + k * 2) [.bool y0, .string y1] from rng_of hc')
    have HZ := slH sizeIGiven hX; have HZ' := slH sizeIGiven hX'
    have HD := Lib.hid hb.drew
    clear hc hc' hX hX' htk
    go_upto_region 6 with fail
    refine AnyT.region (fun _ => false) (fun W => W.rangeAt b (off + k * 2) [.bool x0, .string x1] ∧ W.rangeAt b' (off' + k * 2) [.bool y0, .string y1]) (by kernel_rfl) ⟨HC.out, HC'.out⟩ (fun hHeld => ?_)
    generalize wr.drew = w4 at *
    clear HC HC'
    (refine AnyT.ta 0 16 ?_; simp only [Act.put, za, zb, zc])
    (refine AnyT.ta 1 17 ?_; simp only [Act.put, za, zb, zc])
    (refine AnyT.ta 2 18 ?_; simp only [Act.put, za, zb, zc])
    refine AnyT.tx 3 19 (.agg ([.bool x0, .string x1] : List Value).toArray) (fun W hS => exec_loadMid _ _ rfl b (off + k * 2) rfl _ hS.1 Tryz.underlying322 rfl HZ.out) ?_
    simp only [Act.put, za, zb, zc]
    (refine AnyT.ta 4 20 ?_; simp only [Act.put, za, zb, zc])
    (refine AnyT.ta 5 21 ?_; simp only [Act.put, za, zb, zc])
    (refine AnyT.ta 6 22 ?_; simp only [Act.put, za, zb, zc])
    refine AnyT.tx 7 23 (.agg ([.bool y0, .string y1] : List Value).toArray) (fun W hS => exec_loadMid _ _ rfl b' (off' + k * 2) rfl _ hS.2 Tryz.underlying322 rfl HZ'.out) ?_
    simp only [Act.put, za, zb, zc]
    refine AnyT.takeAny 8 24 (.bool (!sameB (x0, x1) (y0, y1))) rfl (by kernel_rfl) (by kernel_rfl) (by kernel_rfl) rfl rfl (fun _ _ _ _ h => h) rfl (fun W => exec_neq rfl rfl rfl (by kernel_rfl) (fun w => equalGiven _ _ _ _ w)) (by assumption) ?_
    simp only [Act.put, za, zb, zc]
    refine AnyT.done (by kernel_rfl) ?_ _
    clear hHeld
    by_cases hxy : (x0, x1) = (y0, y1)
    ·have HS2 := Lib.hid (HST.out hxy)
     rw [same_t hxy]
     clear HST HNE hxy
     go_wp2_with fail
     go_roundw
     case rel => exact ⟨k + 1, by omega, by go_num, HS2, HD.out⟩
     case measure => simp [intOf]; omega
    ·have HFF := Lib.hid (HANS.out.trans (same_f (HNE.out hxy)))
     rw [same_f hxy]
     clear hxy HST HNE
     go_wp2_with fail
     go_ret
     exact ⟨by rw [HFF.out]; rfl, HD.out⟩
   ·obtain rfl : k = xs.length := by omega
    have HB := Lib.hid hb; have HT := Lib.hid (HANS.out.trans (same_t (take_all htk.out HL.out))); clear hb htk
    go_wp2_with fail
    go_ret
    exact ⟨by rw [HT.out]; rfl, HB.out⟩
 ·have HFF := Lib.hid (HANS.out.trans (same_f (ne_of_len hl)))
  have n1 : ((xs.length : Int) == (ys.length : Int)) = false := by rw [beq_eq_false_iff_ne]; omega
  have n2 : ((xs.length : Int) != (ys.length : Int)) = true := by rw [bne_iff_ne]; omega
  clear hl h h'
  go_enter Tryz.func197, Tryz.ntmps197
  go_wp2_with fail
  go_ret
  exact ⟨by rw [HFF.out]; rfl, Below.refl _ _⟩
theorem equalLoop (x0 : ByteArray) (x1 : Int) (x2 : Int) (x3 : Bool) (x4 : Int) (x5 : Int) (y0 : ByteArray) (y1 : Int) (y2 : Int) (y3 : Bool) (y4 : Int) (y5 : Int) (W : World) : (Op.equalIn 10000 325 (.agg ([.string x0, .int .i64 x1, .int .i64 x2, .bool x3, .int .i64 x4, .int .i64 x5] : List Value).toArray) (.agg ([.string y0, .int .i64 y1, .int .i64 y2, .bool y3, .int .i64 y4, .int .i64 y5] : List Value).toArray)).run Tryz.prog W = .ok (sameB (x0, x1, x2, x3, x4, x5) (y0, y1, y2, y3, y4, y5)) W := by
 rw [run_equalIn_struct W 9999 325 _ _ (by kernel_rfl) (by kernel_rfl)]
 unfold Program.fieldsOf
 rw [Tryz.underlying325]
 by_cases h0 : x0 = y0
 ·subst h0
  by_cases h1 : x1 = y1
  ·subst h1
   by_cases h2 : x2 = y2
   ·subst h2
    by_cases h3 : x3 = y3
    ·subst h3
     by_cases h4 : x4 = y4
     ·subst h4
      by_cases h5 : x5 = y5
      ·subst h5
       rw [same_t rfl]
       go_simp
      ·have q5 : (x5 == y5) = false := beq_eq_false_iff_ne.2 h5
       rw [same_f (fun e => h5 (congrArg (fun X : TyLoop => X.2.2.2.2.2) e))]
       go_simp
     ·have q4 : (x4 == y4) = false := beq_eq_false_iff_ne.2 h4
      rw [same_f (fun e => h4 (congrArg (fun X : TyLoop => X.2.2.2.2.1) e))]
      go_simp
    ·have q3 : (x3 == y3) = false := beq_eq_false_iff_ne.2 h3
     rw [same_f (fun e => h3 (congrArg (fun X : TyLoop => X.2.2.2.1) e))]
     go_simp
   ·have q2 : (x2 == y2) = false := beq_eq_false_iff_ne.2 h2
    rw [same_f (fun e => h2 (congrArg (fun X : TyLoop => X.2.2.1) e))]
    go_simp
  ·have q1 : (x1 == y1) = false := beq_eq_false_iff_ne.2 h1
   rw [same_f (fun e => h1 (congrArg (fun X : TyLoop => X.2.1) e))]
   go_simp
 ·have q0 : (x0.toList == y0.toList) = false := str_ne h0
  rw [same_f (fun e => h0 (congrArg (fun X : TyLoop => X.1) e))]
  go_simp
theorem eqlLoop (A B : Option Addr) (c d : Nat) (xs ys : List TyLoop) (lo hi lo' hi' : Nat) (w : World) (h : (Sh.row 325 shLoop).R w lo hi [.slice A xs.length c] xs) (h' : (Sh.row 325 shLoop).R w lo' hi' [.slice B ys.length d] ys) (hhi : hi ≤ w.heap.size) (hhi' : hi' ≤ w.heap.size) (hn : xs.length ≤ 4294967296) (_hm : ys.length ≤ 4294967296) :
  Calls Tryz.prog 198 #[.slice A xs.length c, .slice B ys.length d] w fun e w' => e = .returned (.bool (sameB xs ys)) ∧ Below w.heap.size w w' := by
 obtain ⟨ANS, hANS⟩ : ∃ b, b = sameB xs ys := ⟨_, rfl⟩
 rw [← hANS]
 have HANS := Lib.hid hANS; clear hANS
 by_cases hl : xs.length = ys.length
 ·have HA := Lib.hid h; have HA' := Lib.hid h'; have HL := Lib.hid hl
  rw [← hl] at HA' ⊢
  clear h h' _hm hl
  go_enter Tryz.func198, Tryz.ntmps198
  go_wp2_with fail
  go_loopw [5, 13] (fun _ i wr => ∃ k : Nat, k ≤ xs.length ∧ i = .int .i64 k ∧ Hid (xs.take k = ys.take k) ∧ Below w.heap.size w wr) (fun _ i _ => xs.length - (intOf i).toNat)
  case atStart => exact ⟨0, Nat.zero_le _, rfl, Lib.hid rfl, Below.refl _ _⟩
  case round =>
   obtain ⟨k, hk, rfl, htk, hb⟩ := hrel
   by_cases hlt : k < xs.length
   ·obtain ⟨b, off, rfl, hb1, hb2, us, hc, hX⟩ := row_at ((Sh.row 325 shLoop).R_below HA.out hb hhi) hlt
    obtain ⟨b', off', rfl, hb1', hb2', us', hc', hX'⟩ := row_at ((Sh.row 325 shLoop).R_below HA'.out hb hhi') hlt
    have HST := Lib.hid (fun he => take_step (d := shLoop.d) htk.out hlt HL.out he)
    have HNE := Lib.hid (fun he => ne_at (xs := xs) (ys := ys) (d := shLoop.d) (k := k) he)
    generalize xs.getD k shLoop.d = X at *
    generalize ys.getD k shLoop.d = Y at *
    obtain ⟨x0, x1, x2, x3, x4, x5⟩ := X
    obtain ⟨y0, y1, y2, y3, y4, y5⟩ := Y
    obtain rfl : us = [.string x0, .int .i64 x1, .int .i64 x2, .bool x3, .int .i64 x4, .int .i64 x5] := shLoop_R.1 hX
    obtain rfl : us' = [.string y0, .int .i64 y1, .int .i64 y2, .bool y3, .int .i64 y4, .int .i64 y5] := shLoop_R.1 hX'
    have HC := Lib.hid (show wr.drew.rangeAt b (off + k * 6) [.string x0, .int .i64 x1, .int .i64 x2, .bool x3, .int .i64 x4, .int .i64 x5] from rng_of hc); have HC' := Lib.hid (show wr.drew.rangeAt b' (off' + k * 6) [.string y0, .int .i64 y1, .int .i64 y2, .bool y3, .int .i64 y4, .int .i64 y5] from rng_of hc')
    have HZ := slH sizeILoop hX; have HZ' := slH sizeILoop hX'
    have HD := Lib.hid hb.drew
    clear hc hc' hX hX' htk
    go_upto_region 6 with fail
    refine AnyT.region (fun _ => false) (fun W => W.rangeAt b (off + k * 6) [.string x0, .int .i64 x1, .int .i64 x2, .bool x3, .int .i64 x4, .int .i64 x5] ∧ W.rangeAt b' (off' + k * 6) [.string y0, .int .i64 y1, .int .i64 y2, .bool y3, .int .i64 y4, .int .i64 y5]) (by kernel_rfl) ⟨HC.out, HC'.out⟩ (fun hHeld => ?_)
    generalize wr.drew = w4 at *
    clear HC HC'
    (refine AnyT.ta 0 16 ?_; simp only [Act.put, za, zb, zc])
    (refine AnyT.ta 1 17 ?_; simp only [Act.put, za, zb, zc])
    (refine AnyT.ta 2 18 ?_; simp only [Act.put, za, zb, zc])
    refine AnyT.tx 3 19 (.agg ([.string x0, .int .i64 x1, .int .i64 x2, .bool x3, .int .i64 x4, .int .i64 x5] : List Value).toArray) (fun W hS => exec_loadMid _ _ rfl b (off + k * 6) rfl _ hS.1 Tryz.underlying325 rfl HZ.out) ?_
    simp only [Act.put, za, zb, zc]
    (refine AnyT.ta 4 20 ?_; simp only [Act.put, za, zb, zc])
    (refine AnyT.ta 5 21 ?_; simp only [Act.put, za, zb, zc])
    (refine AnyT.ta 6 22 ?_; simp only [Act.put, za, zb, zc])
    refine AnyT.tx 7 23 (.agg ([.string y0, .int .i64 y1, .int .i64 y2, .bool y3, .int .i64 y4, .int .i64 y5] : List Value).toArray) (fun W hS => exec_loadMid _ _ rfl b' (off' + k * 6) rfl _ hS.2 Tryz.underlying325 rfl HZ'.out) ?_
    simp only [Act.put, za, zb, zc]
    refine AnyT.takeAny 8 24 (.bool (!sameB (x0, x1, x2, x3, x4, x5) (y0, y1, y2, y3, y4, y5))) rfl (by kernel_rfl) (by kernel_rfl) (by kernel_rfl) rfl rfl (fun _ _ _ _ h => h) rfl (fun W => exec_neq rfl rfl rfl (by kernel_rfl) (fun w => equalLoop _ _ _ _ _ _ _ _ _ _ _ _ w)) (by assumption) ?_
    simp only [Act.put, za, zb, zc]
    refine AnyT.done (by kernel_rfl) ?_ _
    clear hHeld
    by_cases hxy : (x0, x1, x2, x3, x4, x5) = (y0, y1, y2, y3, y4, y5)
    ·have HS2 := Lib.hid (HST.out hxy)
     rw [same_t hxy]
     clear HST HNE hxy
     go_wp2_with fail
     go_roundw
     case rel => exact ⟨k + 1, by omega, by go_num, HS2, HD.out⟩
     case measure => simp [intOf]; omega
    ·have HFF := Lib.hid (HANS.out.trans (same_f (HNE.out hxy)))
     rw [same_f hxy]
     clear hxy HST HNE
     go_wp2_with fail
     go_ret
     exact ⟨by rw [HFF.out]; rfl, HD.out⟩
   ·obtain rfl : k = xs.length := by omega
    have HB := Lib.hid hb; have HT := Lib.hid (HANS.out.trans (same_t (take_all htk.out HL.out))); clear hb htk
    go_wp2_with fail
    go_ret
    exact ⟨by rw [HT.out]; rfl, HB.out⟩
 ·have HFF := Lib.hid (HANS.out.trans (same_f (ne_of_len hl)))
  have n1 : ((xs.length : Int) == (ys.length : Int)) = false := by rw [beq_eq_false_iff_ne]; omega
  have n2 : ((xs.length : Int) != (ys.length : Int)) = true := by rw [bne_iff_ne]; omega
  clear hl h h'
  go_enter Tryz.func198, Tryz.ntmps198
  go_wp2_with fail
  go_ret
  exact ⟨by rw [HFF.out]; rfl, Below.refl _ _⟩
theorem equalFrame (x0 : Int) (x1 : Bool) (x2 : Bool) (x3 : Int) (x4 : Int) (x5 : Int) (x6 : Int) (x7 : ByteArray) (x8 : ByteArray) (y0 : Int) (y1 : Bool) (y2 : Bool) (y3 : Int) (y4 : Int) (y5 : Int) (y6 : Int) (y7 : ByteArray) (y8 : ByteArray) (W : World) : (Op.equalIn 10000 328 (.agg ([.int .i64 x0, .bool x1, .bool x2, .int .i64 x3, .int .i64 x4, .int .i64 x5, .int .i64 x6, .string x7, .string x8] : List Value).toArray) (.agg ([.int .i64 y0, .bool y1, .bool y2, .int .i64 y3, .int .i64 y4, .int .i64 y5, .int .i64 y6, .string y7, .string y8] : List Value).toArray)).run Tryz.prog W = .ok (sameB (x0, x1, x2, x3, x4, x5, x6, x7, x8) (y0, y1, y2, y3, y4, y5, y6, y7, y8)) W := by
 rw [run_equalIn_struct W 9999 328 _ _ (by kernel_rfl) (by kernel_rfl)]
 unfold Program.fieldsOf
 rw [Tryz.underlying328]
 by_cases h0 : x0 = y0
 ·subst h0
  by_cases h1 : x1 = y1
  ·subst h1
   by_cases h2 : x2 = y2
   ·subst h2
    by_cases h3 : x3 = y3
    ·subst h3
     by_cases h4 : x4 = y4
     ·subst h4
      by_cases h5 : x5 = y5
      ·subst h5
       by_cases h6 : x6 = y6
       ·subst h6
        by_cases h7 : x7 = y7
        ·subst h7
         by_cases h8 : x8 = y8
         ·subst h8
          rw [same_t rfl]
          go_simp
         ·have q8 : (x8.toList == y8.toList) = false := str_ne h8
          rw [same_f (fun e => h8 (congrArg (fun X : TyFrame => X.2.2.2.2.2.2.2.2) e))]
          go_simp
        ·have q7 : (x7.toList == y7.toList) = false := str_ne h7
         rw [same_f (fun e => h7 (congrArg (fun X : TyFrame => X.2.2.2.2.2.2.2.1) e))]
         go_simp
       ·have q6 : (x6 == y6) = false := beq_eq_false_iff_ne.2 h6
        rw [same_f (fun e => h6 (congrArg (fun X : TyFrame => X.2.2.2.2.2.2.1) e))]
        go_simp
      ·have q5 : (x5 == y5) = false := beq_eq_false_iff_ne.2 h5
       rw [same_f (fun e => h5 (congrArg (fun X : TyFrame => X.2.2.2.2.2.1) e))]
       go_simp
     ·have q4 : (x4 == y4) = false := beq_eq_false_iff_ne.2 h4
      rw [same_f (fun e => h4 (congrArg (fun X : TyFrame => X.2.2.2.2.1) e))]
      go_simp
    ·have q3 : (x3 == y3) = false := beq_eq_false_iff_ne.2 h3
     rw [same_f (fun e => h3 (congrArg (fun X : TyFrame => X.2.2.2.1) e))]
     go_simp
   ·have q2 : (x2 == y2) = false := beq_eq_false_iff_ne.2 h2
    rw [same_f (fun e => h2 (congrArg (fun X : TyFrame => X.2.2.1) e))]
    go_simp
  ·have q1 : (x1 == y1) = false := beq_eq_false_iff_ne.2 h1
   rw [same_f (fun e => h1 (congrArg (fun X : TyFrame => X.2.1) e))]
   go_simp
 ·have q0 : (x0 == y0) = false := beq_eq_false_iff_ne.2 h0
  rw [same_f (fun e => h0 (congrArg (fun X : TyFrame => X.1) e))]
  go_simp
theorem eqlFrame (A B : Option Addr) (c d : Nat) (xs ys : List TyFrame) (lo hi lo' hi' : Nat) (w : World) (h : (Sh.row 328 shFrame).R w lo hi [.slice A xs.length c] xs) (h' : (Sh.row 328 shFrame).R w lo' hi' [.slice B ys.length d] ys) (hhi : hi ≤ w.heap.size) (hhi' : hi' ≤ w.heap.size) (hn : xs.length ≤ 4294967296) (_hm : ys.length ≤ 4294967296) :
  Calls Tryz.prog 199 #[.slice A xs.length c, .slice B ys.length d] w fun e w' => e = .returned (.bool (sameB xs ys)) ∧ Below w.heap.size w w' := by
 obtain ⟨ANS, hANS⟩ : ∃ b, b = sameB xs ys := ⟨_, rfl⟩
 rw [← hANS]
 have HANS := Lib.hid hANS; clear hANS
 by_cases hl : xs.length = ys.length
 ·have HA := Lib.hid h; have HA' := Lib.hid h'; have HL := Lib.hid hl
  rw [← hl] at HA' ⊢
  clear h h' _hm hl
  go_enter Tryz.func199, Tryz.ntmps199
  go_wp2_with fail
  go_loopw [5, 13] (fun _ i wr => ∃ k : Nat, k ≤ xs.length ∧ i = .int .i64 k ∧ Hid (xs.take k = ys.take k) ∧ Below w.heap.size w wr) (fun _ i _ => xs.length - (intOf i).toNat)
  case atStart => exact ⟨0, Nat.zero_le _, rfl, Lib.hid rfl, Below.refl _ _⟩
  case round =>
   obtain ⟨k, hk, rfl, htk, hb⟩ := hrel
   by_cases hlt : k < xs.length
   ·obtain ⟨b, off, rfl, hb1, hb2, us, hc, hX⟩ := row_at ((Sh.row 328 shFrame).R_below HA.out hb hhi) hlt
    obtain ⟨b', off', rfl, hb1', hb2', us', hc', hX'⟩ := row_at ((Sh.row 328 shFrame).R_below HA'.out hb hhi') hlt
    have HST := Lib.hid (fun he => take_step (d := shFrame.d) htk.out hlt HL.out he)
    have HNE := Lib.hid (fun he => ne_at (xs := xs) (ys := ys) (d := shFrame.d) (k := k) he)
    generalize xs.getD k shFrame.d = X at *
    generalize ys.getD k shFrame.d = Y at *
    obtain ⟨x0, x1, x2, x3, x4, x5, x6, x7, x8⟩ := X
    obtain ⟨y0, y1, y2, y3, y4, y5, y6, y7, y8⟩ := Y
    obtain rfl : us = [.int .i64 x0, .bool x1, .bool x2, .int .i64 x3, .int .i64 x4, .int .i64 x5, .int .i64 x6, .string x7, .string x8] := shFrame_R.1 hX
    obtain rfl : us' = [.int .i64 y0, .bool y1, .bool y2, .int .i64 y3, .int .i64 y4, .int .i64 y5, .int .i64 y6, .string y7, .string y8] := shFrame_R.1 hX'
    have HC := Lib.hid (show wr.drew.rangeAt b (off + k * 9) [.int .i64 x0, .bool x1, .bool x2, .int .i64 x3, .int .i64 x4, .int .i64 x5, .int .i64 x6, .string x7, .string x8] from rng_of hc); have HC' := Lib.hid (show wr.drew.rangeAt b' (off' + k * 9) [.int .i64 y0, .bool y1, .bool y2, .int .i64 y3, .int .i64 y4, .int .i64 y5, .int .i64 y6, .string y7, .string y8] from rng_of hc')
    have HZ := slH sizeIFrame hX; have HZ' := slH sizeIFrame hX'
    have HD := Lib.hid hb.drew
    clear hc hc' hX hX' htk
    go_upto_region 6 with fail
    refine AnyT.region (fun _ => false) (fun W => W.rangeAt b (off + k * 9) [.int .i64 x0, .bool x1, .bool x2, .int .i64 x3, .int .i64 x4, .int .i64 x5, .int .i64 x6, .string x7, .string x8] ∧ W.rangeAt b' (off' + k * 9) [.int .i64 y0, .bool y1, .bool y2, .int .i64 y3, .int .i64 y4, .int .i64 y5, .int .i64 y6, .string y7, .string y8]) (by kernel_rfl) ⟨HC.out, HC'.out⟩ (fun hHeld => ?_)
    generalize wr.drew = w4 at *
    clear HC HC'
    (refine AnyT.ta 0 16 ?_; simp only [Act.put, za, zb, zc])
    (refine AnyT.ta 1 17 ?_; simp only [Act.put, za, zb, zc])
    (refine AnyT.ta 2 18 ?_; simp only [Act.put, za, zb, zc])
    refine AnyT.tx 3 19 (.agg ([.int .i64 x0, .bool x1, .bool x2, .int .i64 x3, .int .i64 x4, .int .i64 x5, .int .i64 x6, .string x7, .string x8] : List Value).toArray) (fun W hS => exec_loadMid _ _ rfl b (off + k * 9) rfl _ hS.1 Tryz.underlying328 rfl HZ.out) ?_
    simp only [Act.put, za, zb, zc]
    (refine AnyT.ta 4 20 ?_; simp only [Act.put, za, zb, zc])
    (refine AnyT.ta 5 21 ?_; simp only [Act.put, za, zb, zc])
    (refine AnyT.ta 6 22 ?_; simp only [Act.put, za, zb, zc])
    refine AnyT.tx 7 23 (.agg ([.int .i64 y0, .bool y1, .bool y2, .int .i64 y3, .int .i64 y4, .int .i64 y5, .int .i64 y6, .string y7, .string y8] : List Value).toArray) (fun W hS => exec_loadMid _ _ rfl b' (off' + k * 9) rfl _ hS.2 Tryz.underlying328 rfl HZ'.out) ?_
    simp only [Act.put, za, zb, zc]
    refine AnyT.takeAny 8 24 (.bool (!sameB (x0, x1, x2, x3, x4, x5, x6, x7, x8) (y0, y1, y2, y3, y4, y5, y6, y7, y8))) rfl (by kernel_rfl) (by kernel_rfl) (by kernel_rfl) rfl rfl (fun _ _ _ _ h => h) rfl (fun W => exec_neq rfl rfl rfl (by kernel_rfl) (fun w => equalFrame _ _ _ _ _ _ _ _ _ _ _ _ _ _ _ _ _ _ w)) (by assumption) ?_
    simp only [Act.put, za, zb, zc]
    refine AnyT.done (by kernel_rfl) ?_ _
    clear hHeld
    by_cases hxy : (x0, x1, x2, x3, x4, x5, x6, x7, x8) = (y0, y1, y2, y3, y4, y5, y6, y7, y8)
    ·have HS2 := Lib.hid (HST.out hxy)
     rw [same_t hxy]
     clear HST HNE hxy
     go_wp2_with fail
     go_roundw
     case rel => exact ⟨k + 1, by omega, by go_num, HS2, HD.out⟩
     case measure => simp [intOf]; omega
    ·have HFF := Lib.hid (HANS.out.trans (same_f (HNE.out hxy)))
     rw [same_f hxy]
     clear hxy HST HNE
     go_wp2_with fail
     go_ret
     exact ⟨by rw [HFF.out]; rfl, HD.out⟩
   ·obtain rfl : k = xs.length := by omega
    have HB := Lib.hid hb; have HT := Lib.hid (HANS.out.trans (same_t (take_all htk.out HL.out))); clear hb htk
    go_wp2_with fail
    go_ret
    exact ⟨by rw [HT.out]; rfl, HB.out⟩
 ·have HFF := Lib.hid (HANS.out.trans (same_f (ne_of_len hl)))
  have n1 : ((xs.length : Int) == (ys.length : Int)) = false := by rw [beq_eq_false_iff_ne]; omega
  have n2 : ((xs.length : Int) != (ys.length : Int)) = true := by rw [bne_iff_ne]; omega
  clear hl h h'
  go_enter Tryz.func199, Tryz.ntmps199
  go_wp2_with fail
  go_ret
  exact ⟨by rw [HFF.out]; rfl, Below.refl _ _⟩
theorem equalBind (x0 : ByteArray) (x1 : Int) (y0 : ByteArray) (y1 : Int) (W : World) : (Op.equalIn 10000 359 (.agg ([.string x0, .int .i64 x1] : List Value).toArray) (.agg ([.string y0, .int .i64 y1] : List Value).toArray)).run Tryz.prog W = .ok (sameB (x0, x1) (y0, y1)) W := by
 rw [run_equalIn_struct W 9999 359 _ _ (by kernel_rfl) (by kernel_rfl)]
 unfold Program.fieldsOf
 rw [Tryz.underlying359]
 by_cases h0 : x0 = y0
 ·subst h0
  by_cases h1 : x1 = y1
  ·subst h1
   rw [same_t rfl]
   go_simp
  ·have q1 : (x1 == y1) = false := beq_eq_false_iff_ne.2 h1
   rw [same_f (fun e => h1 (congrArg (fun X : TyBind => X.2) e))]
   go_simp
 ·have q0 : (x0.toList == y0.toList) = false := str_ne h0
  rw [same_f (fun e => h0 (congrArg (fun X : TyBind => X.1) e))]
  go_simp
theorem eqlBind (A B : Option Addr) (c d : Nat) (xs ys : List TyBind) (lo hi lo' hi' : Nat) (w : World) (h : (Sh.row 359 shBind).R w lo hi [.slice A xs.length c] xs) (h' : (Sh.row 359 shBind).R w lo' hi' [.slice B ys.length d] ys) (hhi : hi ≤ w.heap.size) (hhi' : hi' ≤ w.heap.size) (hn : xs.length ≤ 4294967296) (_hm : ys.length ≤ 4294967296) :
  Calls Tryz.prog 235 #[.slice A xs.length c, .slice B ys.length d] w fun e w' => e = .returned (.bool (sameB xs ys)) ∧ Below w.heap.size w w' := by
 obtain ⟨ANS, hANS⟩ : ∃ b, b = sameB xs ys := ⟨_, rfl⟩
 rw [← hANS]
 have HANS := Lib.hid hANS; clear hANS
 by_cases hl : xs.length = ys.length
 ·have HA := Lib.hid h; have HA' := Lib.hid h'; have HL := Lib.hid hl
  rw [← hl] at HA' ⊢
  clear h h' _hm hl
  go_enter Tryz.func235, Tryz.ntmps235
  go_wp2_with fail
  go_loopw [5, 13] (fun _ i wr => ∃ k : Nat, k ≤ xs.length ∧ i = .int .i64 k ∧ Hid (xs.take k = ys.take k) ∧ Below w.heap.size w wr) (fun _ i _ => xs.length - (intOf i).toNat)
  case atStart => exact ⟨0, Nat.zero_le _, rfl, Lib.hid rfl, Below.refl _ _⟩
  case round =>
   obtain ⟨k, hk, rfl, htk, hb⟩ := hrel
   by_cases hlt : k < xs.length
   ·obtain ⟨b, off, rfl, hb1, hb2, us, hc, hX⟩ := row_at ((Sh.row 359 shBind).R_below HA.out hb hhi) hlt
    obtain ⟨b', off', rfl, hb1', hb2', us', hc', hX'⟩ := row_at ((Sh.row 359 shBind).R_below HA'.out hb hhi') hlt
    have HST := Lib.hid (fun he => take_step (d := shBind.d) htk.out hlt HL.out he)
    have HNE := Lib.hid (fun he => ne_at (xs := xs) (ys := ys) (d := shBind.d) (k := k) he)
    generalize xs.getD k shBind.d = X at *
    generalize ys.getD k shBind.d = Y at *
    obtain ⟨x0, x1⟩ := X
    obtain ⟨y0, y1⟩ := Y
    obtain rfl : us = [.string x0, .int .i64 x1] := shBind_R.1 hX
    obtain rfl : us' = [.string y0, .int .i64 y1] := shBind_R.1 hX'
    have HC := Lib.hid (show wr.drew.rangeAt b (off + k * 2) [.string x0, .int .i64 x1] from rng_of hc); have HC' := Lib.hid (show wr.drew.rangeAt b' (off' + k * 2) [.string y0, .int .i64 y1] from rng_of hc')
    have HZ := slH sizeIBind hX; have HZ' := slH sizeIBind hX'
    have HD := Lib.hid hb.drew
    clear hc hc' hX hX' htk
    go_upto_region 6 with fail
    refine AnyT.region (fun _ => false) (fun W => W.rangeAt b (off + k * 2) [.string x0, .int .i64 x1] ∧ W.rangeAt b' (off' + k * 2) [.string y0, .int .i64 y1]) (by kernel_rfl) ⟨HC.out, HC'.out⟩ (fun hHeld => ?_)
    generalize wr.drew = w4 at *
    clear HC HC'
    (refine AnyT.ta 0 16 ?_; simp only [Act.put, za, zb, zc])
    (refine AnyT.ta 1 17 ?_; simp only [Act.put, za, zb, zc])
    (refine AnyT.ta 2 18 ?_; simp only [Act.put, za, zb, zc])
    refine AnyT.tx 3 19 (.agg ([.string x0, .int .i64 x1] : List Value).toArray) (fun W hS => exec_loadMid _ _ rfl b (off + k * 2) rfl _ hS.1 Tryz.underlying359 rfl HZ.out) ?_
    simp only [Act.put, za, zb, zc]
    (refine AnyT.ta 4 20 ?_; simp only [Act.put, za, zb, zc])
    (refine AnyT.ta 5 21 ?_; simp only [Act.put, za, zb, zc])
    (refine AnyT.ta 6 22 ?_; simp only [Act.put, za, zb, zc])
    refine AnyT.tx 7 23 (.agg ([.string y0, .int .i64 y1] : List Value).toArray) (fun W hS => exec_loadMid _ _ rfl b' (off' + k * 2) rfl _ hS.2 Tryz.underlying359 rfl HZ'.out) ?_
    simp only [Act.put, za, zb, zc]
    refine AnyT.takeAny 8 24 (.bool (!sameB (x0, x1) (y0, y1))) rfl (by kernel_rfl) (by kernel_rfl) (by kernel_rfl) rfl rfl (fun _ _ _ _ h => h) rfl (fun W => exec_neq rfl rfl rfl (by kernel_rfl) (fun w => equalBind _ _ _ _ w)) (by assumption) ?_
    simp only [Act.put, za, zb, zc]
    refine AnyT.done (by kernel_rfl) ?_ _
    clear hHeld
    by_cases hxy : (x0, x1) = (y0, y1)
    ·have HS2 := Lib.hid (HST.out hxy)
     rw [same_t hxy]
     clear HST HNE hxy
     go_wp2_with fail
     go_roundw
     case rel => exact ⟨k + 1, by omega, by go_num, HS2, HD.out⟩
     case measure => simp [intOf]; omega
    ·have HFF := Lib.hid (HANS.out.trans (same_f (HNE.out hxy)))
     rw [same_f hxy]
     clear hxy HST HNE
     go_wp2_with fail
     go_ret
     exact ⟨by rw [HFF.out]; rfl, HD.out⟩
   ·obtain rfl : k = xs.length := by omega
    have HB := Lib.hid hb; have HT := Lib.hid (HANS.out.trans (same_t (take_all htk.out HL.out))); clear hb htk
    go_wp2_with fail
    go_ret
    exact ⟨by rw [HT.out]; rfl, HB.out⟩
 ·have HFF := Lib.hid (HANS.out.trans (same_f (ne_of_len hl)))
  have n1 : ((xs.length : Int) == (ys.length : Int)) = false := by rw [beq_eq_false_iff_ne]; omega
  have n2 : ((xs.length : Int) != (ys.length : Int)) = true := by rw [bne_iff_ne]; omega
  clear hl h h'
  go_enter Tryz.func235, Tryz.ntmps235
  go_wp2_with fail
  go_ret
  exact ⟨by rw [HFF.out]; rfl, Below.refl _ _⟩
end Go.Proofs.YtgnmollbnopigaaGreat
