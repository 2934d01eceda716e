/- The reference's writers of keys walked: l02Key, l02Put. -/
import Derived.Test.YtnnabkldceklmaaGreatDoorJoinBTBb
set_option maxHeartbeats 16000000
set_option maxRecDepth 100000
namespace Go.Proofs.YtnnabkldceklmaaGreatDoor
open Go.RowKit
theorem nulE_take (l : List UInt8) (k : Nat) (h : k < l.length) : nulE (l.take (k + 1)) = nulE (l.take k) ++ if l[k] = 0 then [0, 255] else [l[k]] := by
 unfold nulE
 rw [List.take_succ_eq_append_getElem h, List.flatMap_append]; simp
theorem nulE_takeLen (l : List UInt8) (k : Nat) : (nulE (l.take k)).length ≤ 2 * k := by
 have h1 := nulE_len (l.take k)
 have h2 : (l.take k).length ≤ k := by rw [List.length_take]; exact Nat.min_le_left _ _
 omega
theorem mkB_app (a b : List UInt8) : mkB (a ++ b) = mkB a ++ mkB b := by
 apply ByteArray.ext
 rw [ByteArray.data_append]
 show (a ++ b).toArray = a.toArray ++ b.toArray
 simp
theorem wpList_app2 {α : Type} {enc : α → Value} {P : Program} {ops : Array Oper} {rest : List Oper} {o : Oper} {a : Go.Act} {Q : Exit → Go.Act → World → Prop} (hgd : o.guard = none) (s x : Operand) (t e : TypeId)
  (ho : o.op = .call { callee := .builtin .append, args := #[s, x], argTypes := #[t, t] }) (ht : P.underlying t = some (.slice e))
  {z : Value} {by_ : Nat} (hzz : z.cells.size = 1) (hby : by_ ≤ 16) (hone : ∀ x : α, (enc x).oneCell' = true) (hinfo : (P.info? e).map (fun i => (i.zero, i.size, i.bytes)) = some (some z, 1, by_))
  (w : World) (base : Nat) (v : Value) (xs : List α) (y y2 : α) (hs : a.eval s = v) (hown : OwnR enc w base e v xs)
  (hx : a.eval x = .slice (some ⟨w.heap.size, 0, none⟩) 2 2) (hlen : xs.length ≤ 1000000000) (hbase : base ≤ w.heap.size)
  (h : ∀ v' w', OwnR enc w' base e v' (xs ++ [y, y2]) → Below base w w' → wpList P ops Q rest (a.put o.dst v') w') : wpList P ops Q (o :: rest) a (w.alloc (.cells #[enc y, enc y2] e)) := by
 obtain ⟨i0, hi0, hz0, hz1, hz2⟩ := info_parts hinfo
 refine wpList_append_own _ hgd s x t ho base e i0 _ 1 by_ ht hi0 hz0 hz1 hz2 hzz (by decide) v xs.length (xs.map enc) hs (hown.2.alloc _) ⟨w.heap.size, 0, none⟩ 2 2 [enc y, enc y2] hx rfl ?_ ?_ (by unfold maxLen; omega) (Nat.le_trans (Nat.mul_le_mul_left _ hby) (by omega)) (by simp; omega) ?_
 ·intro j u hj
  match j, hj with
  | 0, hj => simp at hj; subst hj; simp [Addr.add]
  | 1, hj => simp at hj; subst hj; simp [Addr.add]
 ·intro u hu; simp at hu; rcases hu with rfl | rfl; exact hone y; exact hone y2
 ·intro v' w' h1 h2 _
  have hB : Below base w w' := ((Below.refl base w).alloc hbase _).grown h2 (by simp; omega) (fun k hk => by
   have := hown.2.lt k hk
   omega)
  refine h v' w' ⟨?_, ?_⟩ hB
  ·rcases h1.2 with ⟨e1, e2⟩ | ⟨g, cap, cur, e1, _⟩
   ·omega
   ·exact ⟨some ⟨g, 0, none⟩, cap, by rw [e1]; simp⟩
  ·have e3 : (xs ++ [y, y2]).length = xs.length + 2 := by simp
   rw [e3, List.map_append]
   exact h1
theorem l02Key_any (s : ByteArray) (hs : s.size ≤ 65536) (w : World) :
  Calls Tryz.prog 238 #[.string s] w fun e w' => e = .returned (.string (mkB (putS s.data.toList))) ∧ Below w.heap.size w w' := by
 have hown0 : OwnR encB (w.alloc (.cells #[] 5)) w.heap.size 5 (.slice (some ⟨w.heap.size, 0, none⟩) 0 0) [] := OwnR.none_ _ _ _ (Nat.le_refl _)
 have HO0 := hd_ hown0
 have HB0 := hd_ ((Below.refl w.heap.size w).alloc (Nat.le_refl _) (.cells #[] 5))
 have HC := hd_ (fun W => l01Canon_any s (by omega) W)
 clear hown0
 cases hc : canonB s.data.toList with
 | true =>
  rw [hc] at HC
  have HP := hd_ (show putS s.data.toList = 1 :: beTo (numOf s.data.toList + encZ).toNat 8 by unfold putS; rw [if_pos hc])
  have hn := numOf_abs s.data.toList
  have HN := hd_ (fun W => l01Of_any s (by omega) W)
  obtain ⟨N, hN⟩ : ∃ N : Nat, N = (numOf s.data.toList + encZ).toNat := ⟨_, rfl⟩
  rw [← hN] at HP
  have hNi : numOf s.data.toList + 1000000000000000000 = (N : Int) := by unfold maxNum at hn; unfold encZ at hN; omega
  have hNb : N ≤ 2000000000000000000 := by unfold maxNum at hn; unfold encZ at hN; omega
  unfold maxNum at hn
  clear hN hc
  generalize numOf s.data.toList = z at *
  go_enter Tryz.func238, Tryz.ntmps238
  go_wp2_with fail
  refine (HC.out _).mono ?_; rintro e1 w1 ⟨rfl, hb1⟩
  have hs0 := HB0.out.size
  have HO1 := hd_ (HO0.out.below hb1)
  have HB1 := hd_ (HB0.out.trans (hb1.mono hs0))
  clear hb1 HC HO0 HB0
  go_wp2_with fail
  refine (HN.out _).mono ?_; rintro e2 w2 ⟨rfl, hb2⟩
  have hs1 := HB1.out.size
  have HO2 := HO1.out.below hb2
  have HB2 := hd_ (HB1.out.trans (hb2.mono hs1))
  have hs2 := HB2.out.size
  clear hb2 HN HO1 HB1
  go_wp2_with (first
   | fail
   | (at_builtin; refine wpList_app1 (enc := encB) rfl (.tmp 13) (.tmp 14) 182 5 rfl Tryz.underlying182 rfl (by omega) (fun _ => rfl) infoByte _ w.heap.size _ [] 1 rfl HO2 rfl (by simp) (by first | exact hs2 | simp) ?_; intro v4 w4 hown4 hb4))
  have HO4 := hd_ (show OwnR encB w4 w.heap.size 5 v4 (1 :: beTo N 0) from hown4)
  have HB4 := hd_ (HB2.out.trans hb4)
  clear hown4 hb4 HO2 HB2
  go_loopw [3, 5] (fun v i wr => ∃ k : Nat, k ≤ 8 ∧ i = .int .i64 (7 - (k : Int)) ∧ OwnR encB wr w.heap.size 5 v (1 :: beTo N k) ∧ Below w.heap.size w wr) (fun _ i _ => (intOf i + 1).toNat)
  case atStart => exact ⟨0, Nat.zero_le _, rfl, HO4.out, HB4.out⟩
  case round =>
   obtain ⟨k, hk, rfl, hown, hbr⟩ := hrel
   have hs3 := hbr.size
   by_cases hlt : k < 8
   ·have i1 : (0 : Int) ≤ 7 - (k : Int) := by omega
    have i2 : ((8 : Int) * (7 - (k : Int))).toNat = 56 - 8 * k := by omega
    have i3 : IntKind.i64.wrap ((8 : Int) * (7 - (k : Int))) = (8 : Int) * (7 - (k : Int)) := IntWalk.i64_in _ (by omega)
    have i4 : ¬ ((8 : Int) * (7 - (k : Int))) < 0 := by omega
    have hlk := beTo_len N k
    have HBY := hd_ (beByte N k)
    have HNX := hd_ (beTo_next N k)
    obtain ⟨y, hy⟩ : ∃ y : UInt8, y = UInt8.ofNat (N / 2 ^ (56 - 8 * k)) := ⟨_, rfl⟩
    rw [← hy] at HBY HNX
    have HB := hd_ hbr
    clear hbr hy
    generalize beTo N k = bs at *
    go_wp2_with (first
     | fail
     | (at_builtin; rw [← HBY.out]; refine wpList_app1 (enc := encB) rfl (.tmp 20) (.tmp 26) 182 5 rfl Tryz.underlying182 rfl (by omega) (fun _ => rfl) infoByte wr w.heap.size _ (1 :: bs) y rfl hown (by go_simp) (by simp; omega) hs3 ?_; intro v5 w5 hown5 hb5))
    go_roundw
    case rel => exact ⟨k + 1, by omega, by go_num, by rw [HNX.out]; exact hown5, HB.out.trans hb5⟩
    case measure => simp [intOf]; omega
   ·obtain rfl : k = 8 := by omega
    have hcv := convert_own hown
    have HB := hd_ hbr
    clear hbr
    go_wp2_with fail
    go_ret
    exact ⟨by rw [HP.out]; rfl, HB.out⟩
 | false =>
  rw [hc] at HC
  have HP := hd_ (show putS s.data.toList = 2 :: (nulE s.data.toList ++ [0, 0]) by unfold putS; rw [hc]; rfl)
  clear hc
  go_enter Tryz.func238, Tryz.ntmps238
  go_wp2_with fail
  refine (HC.out _).mono ?_; rintro e1 w1 ⟨rfl, hb1⟩
  have hs0 := HB0.out.size
  have HO1 := HO0.out.below hb1
  have HB1 := hd_ (HB0.out.trans (hb1.mono hs0))
  have hs2 := HB1.out.size
  clear hb1 HC HO0 HB0
  go_wp2_with (first
   | fail
   | (at_builtin; refine wpList_app1 (enc := encB) rfl (.tmp 30) (.tmp 31) 182 5 rfl Tryz.underlying182 rfl (by omega) (fun _ => rfl) infoByte _ w.heap.size _ [] 2 rfl HO1 rfl (by simp) (by first | exact hs2 | simp) ?_; intro v4 w4 hown4 hb4))
  have HO4 := hd_ (show OwnR encB w4 w.heap.size 5 v4 (2 :: nulE (s.data.toList.take 0)) from hown4)
  have HB4 := hd_ (HB1.out.trans hb4)
  clear hown4 hb4 HO1 HB1
  go_loopw [3, 6] (fun v i wr => ∃ k : Nat, k ≤ s.size ∧ i = .int .i64 k ∧ OwnR encB wr w.heap.size 5 v (2 :: nulE (s.data.toList.take k)) ∧ Below w.heap.size w wr) (fun _ i _ => s.size - (intOf i).toNat)
  case atStart => exact ⟨0, Nat.zero_le _, rfl, HO4.out, HB4.out⟩
  case round =>
   obtain ⟨k, hk, rfl, hown, hbr⟩ := hrel
   have hs3 := hbr.size
   have hle := nulE_takeLen s.data.toList k
   by_cases hlt : k < s.size
   ·have i1 : (k : Int) < (s.size : Int) := by omega
    have hgl : s.data.toList[k]'(by simpa using hlt) = s[k] := rfl
    have hnx := nulE_take s.data.toList k (by simpa using hlt)
    rw [hgl] at hnx
    have HB := hd_ hbr
    clear hbr hgl
    generalize nulE (s.data.toList.take k) = bs at *
    by_cases h0 : s[k] = 0
    ·rw [if_pos h0] at hnx
     have HNX := hd_ hnx
     have q0 : ((s[k].toNat : Int) == 0) = true := by rw [h0]; rfl
     have HK := hd_ (show (2 :: bs) ++ [0] ++ [255] = 2 :: (bs ++ [0, 255]) by simp)
     clear hnx
     go_wp2_with (first
      | fail
      | (at_builtin; refine wpList_app1 (enc := encB) rfl (.tmp 39) (.tmp 43) 182 5 rfl Tryz.underlying182 rfl (by omega) (fun _ => rfl) infoByte wr w.heap.size _ (2 :: bs) 0 rfl hown (by go_simp) (by simp; omega) hs3 ?_; intro v5 w5 hown5 hb5; have hs4 : w.heap.size ≤ w5.heap.size := Nat.le_trans hs3 hb5.size)
      | (at_builtin; refine wpList_app1 (enc := encB) rfl (.tmp 49) (.tmp 50) 182 5 rfl Tryz.underlying182 rfl (by omega) (fun _ => rfl) infoByte _ w.heap.size _ (2 :: bs ++ [0]) 255 rfl hown5 rfl (by simp; omega) hs4 ?_; intro v6 w6 hown6 hb6))
     go_roundw
     case rel => exact ⟨k + 1, by omega, by go_num, by rw [HNX.out, ← HK.out]; exact hown6, (HB.out.trans hb5).trans hb6⟩
     case measure => simp [intOf]; omega
    ·rw [if_neg h0] at hnx
     have HNX := hd_ hnx
     have q0 : ((s[k].toNat : Int) == 0) = false := by rw [beq_eq_false_iff_ne]; exact fun e => h0 (u8_eq (by have : s[k].toNat = 0 := (by omega); rw [this]; rfl))
     clear hnx h0
     go_wp2_with (first
      | fail
      | (at_builtin; refine wpList_app1 (enc := encB) rfl (.tmp 39) (.tmp 43) 182 5 rfl Tryz.underlying182 rfl (by omega) (fun _ => rfl) infoByte wr w.heap.size _ (2 :: bs) s[k] rfl hown (by go_simp) (by simp; omega) hs3 ?_; intro v5 w5 hown5 hb5))
     go_roundw
     case rel => exact ⟨k + 1, by omega, by go_num, by rw [HNX.out]; exact hown5, HB.out.trans hb5⟩
     case measure => simp [intOf]; omega
   ·obtain rfl : k = s.size := by omega
    have i1 : ¬ ((s.size : Nat) : Int) < ((s.size : Nat) : Int) := by omega
    have HB := hd_ hbr
    rw [List.take_of_length_le (by simp)] at hown
    have HK := hd_ (show (2 :: nulE s.data.toList) ++ [0, 0] = putS s.data.toList by rw [HP.out]; simp)
    clear hbr
    have hlen : (nulE s.data.toList).length ≤ 2 * s.size := by have := nulE_len s.data.toList; simpa using this
    generalize nulE s.data.toList = bs at *
    go_wp2_with (first
     | fail
     | (at_builtin; refine wpList_app2 (enc := encB) rfl (.tmp 52) (.tmp 53) 182 5 rfl Tryz.underlying182 rfl (by omega) (fun _ => rfl) infoByte wr w.heap.size _ (2 :: bs) 0 0 rfl hown rfl (by simp; omega) hs3 ?_; intro v5 w5 hown5 hb5; have hcv := convert_own hown5))
    go_ret
    exact ⟨by rw [← HK.out]; rfl, HB.out.trans hb5⟩
theorem l02Put_any (A : Option Addr) (n c lo hi : Nat) (xs : List ByteArray) (w : World) (ha : StrR w lo hi A n xs) (hhi : hi ≤ w.heap.size) (hn : n ≤ 1048576) (hx : ∀ x ∈ xs, x.size ≤ 24) :
  Calls Tryz.prog 224 #[.slice A n c] w fun e w' => e = .returned (.string (mkB (putAll xs))) ∧ Below w.heap.size w w' := by
 have hl := ha.1
 subst hl
 have HA := hd_ ha
 have HX := hd_ hx
 clear ha hx
 go_enter Tryz.func224, Tryz.ntmps224
 go_wp2_with fail
 go_loopw [3, 4] (fun t i wr => ∃ k : Nat, k ≤ xs.length ∧ i = .int .i64 k ∧ t = .string (mkB (putAll (xs.take k))) ∧ Below w.heap.size w wr) (fun _ i _ => xs.length - (intOf i).toNat)
 case atStart => exact ⟨0, Nat.zero_le _, rfl, rfl, Below.refl _ _⟩
 case round =>
  obtain ⟨k, hk, rfl, rfl, hbr⟩ := hrel
  by_cases hlt : k < xs.length
  ·obtain ⟨b, off, rfl, _, _, hcell⟩ := (HA.out.below hbr hhi).at_ hlt
   have k1 : (k : Int) < (xs.length : Int) := by omega
   have HN := hd_ (show mkB (putAll (xs.take k)) ++ mkB (putS (xs.getD k ByteArray.empty).data.toList) = mkB (putAll (xs.take (k + 1))) by
    rw [List.take_succ_eq_append_getElem hlt, putAll_snoc, List.getD_eq_getElem?_getD, List.getElem?_eq_getElem hlt, Option.getD_some]
    exact (mkB_app _ _).symm)
   have HW := hd_ (l02Key_any (xs.getD k ByteArray.empty) (by have := HX.out _ (getD_in (d := ByteArray.empty) hlt); omega) wr)
   have HBR := hd_ hbr
   have hsz := hbr.size
   have c1 : (mkB (putAll (xs.take k))).size ≤ 60000000 := by
    have h1 := putAll_len (xs.take k) fun x hx => HX.out x (List.mem_of_mem_take hx)
    have h2 : (xs.take k).length ≤ k := by rw [List.length_take]; exact Nat.min_le_left _ _
    show (putAll (xs.take k)).toArray.size ≤ _
    rw [List.size_toArray]; omega
   have c2 : (mkB (putS (xs.getD k ByteArray.empty).data.toList)).size ≤ 60 := by
    have h1 := putS_len (xs.getD k ByteArray.empty).data.toList
    have h2 := HX.out _ (getD_in (d := ByteArray.empty) hlt)
    have h3 : (xs.getD k ByteArray.empty).data.toList.length = (xs.getD k ByteArray.empty).size := by simp
    show (putS _).toArray.size ≤ _
    rw [List.size_toArray]; omega
   clear hbr
   generalize xs.getD k ByteArray.empty = X at *
   generalize mkB (putS X.data.toList) = QT at *
   generalize mkB (putAll (xs.take k)) = PT at *
   go_wp2_with fail
   refine HW.out.mono ?_; rintro e2 w2 ⟨rfl, hb2⟩
   have HB2 := hd_ (HBR.out.trans (hb2.mono hsz))
   clear hb2 HW HBR hcell
   go_wp2_with fail
   go_roundw
   case rel => exact ⟨k + 1, by omega, by go_num, by rw [← HN.out], HB2.out⟩
   case measure => simp [intOf]; omega
  ·obtain rfl : k = xs.length := by omega
   have k1 : ¬ ((xs.length : Nat) : Int) < ((xs.length : Nat) : Int) := by omega
   rw [List.take_length]
   go_wp2_with fail
   go_ret
   exact ⟨rfl, hbr⟩
end Go.Proofs.YtnnabkldceklmaaGreatDoor
/- The reference's readers of keys walked: l02Num, l02Take. -/
namespace Go.Proofs.YtnnabkldceklmaaGreatDoor
open Go.RowKit
theorem or_i64 (v c : Nat) (_ : v < 72057594037927936) (hc : c < 256) (x : Int) (hx : x % 18446744073709551616 = ((256 * v : Nat) : Int)) : Go.bits .or .i64 x (c : Int) = IntKind.i64.wrap ((256 * v + c : Nat) : Int) := by
 show IntKind.i64.wrap ((BitVec.ofInt 64 x ||| BitVec.ofInt 64 (c : Int)).toNat : Int) = _
 have h1 : (BitVec.ofInt 64 x ||| BitVec.ofInt 64 (c : Int)).toNat = 256 * v + c := by
  rw [BitVec.toNat_or, BitVec.toNat_ofInt, BitVec.toNat_ofInt]
  have e1 : (x % ((2 ^ 64 : Nat) : Int)).toNat = 256 * v := by
   have : ((2 ^ 64 : Nat) : Int) = 18446744073709551616 := by decide
   rw [this, hx]; rfl
  have e2 : ((c : Int) % ((2 ^ 64 : Nat) : Int)).toNat = c := by
   have : ((2 ^ 64 : Nat) : Int) = 18446744073709551616 := by decide
   rw [this]; omega
  rw [e1, e2]
  have e3 : 256 * v = v <<< 8 := by rw [Nat.shiftLeft_eq]; omega
  rw [e3, ← Nat.shiftLeft_add_eq_or_of_lt (by omega : c < 2 ^ 8)]
 rw [h1]
theorem l02Num_any (s : ByteArray) (hs : s.size = 8) (w : World) :
  Calls Tryz.prog 235 #[.string s] w fun e w' => e = .returned (.int .i64 (IntKind.i64.wrap ((val256 s.data.toList : Nat) : Int))) ∧ w' = w := by
 have hl : s.data.toList.length = s.size := by simp
 have hw : ∀ n : Nat, n < 9223372036854775808 → IntKind.i64.wrap (n : Int) = (n : Int) := fun n hn => IntWalk.i64_in _ (by omega)
 have HWR := hd_ hw
 have HT := hd_ (show s.data.toList.take 8 = s.data.toList from List.take_of_length_le (by omega))
 clear hw hl
 go_enter Tryz.func235, Tryz.ntmps235
 go_wp2_with fail
 go_loopw [3, 4] (fun z i wr => ∃ k : Nat, k ≤ 8 ∧ i = .int .i64 k ∧ z = .int .i64 (IntKind.i64.wrap ((val256 (s.data.toList.take k) : Nat) : Int)) ∧ w = wr) (fun _ i _ => 8 - (intOf i).toNat)
 case atStart => exact ⟨0, Nat.zero_le _, rfl, rfl, rfl⟩
 case round =>
  obtain ⟨k, hk, rfl, rfl, rfl⟩ := hrel
  by_cases hlt : k < 8
  ·have i1 : (k : Int) < 8 := by omega
   have hks : k < s.size := by omega
   have i2 : (k : Int) < (s.size : Int) := by omega
   have HN := hd_ (val256_at s k hks)
   have hv : val256 (s.data.toList.take k) ≤ 72057594037927935 := by
    have h1 := val256_lt k s.data.toList
    have h2 : 256 ^ k ≤ 256 ^ 7 := Nat.pow_le_pow_right (by decide) (by omega)
    have h3 : (256 : Nat) ^ 7 = 72057594037927936 := by decide
    omega
   have hc : s[k].toNat ≤ 255 := by have := s[k].toNat_lt; omega
   generalize val256 (s.data.toList.take k) = v at *
   rw [HWR.out v (by omega)]
   have hor : Hid (∀ x : Int, x % 18446744073709551616 = ((256 * v : Nat) : Int) → Go.bits .or .i64 x (s[k].toNat : Int) = IntKind.i64.wrap ((256 * v + s[k].toNat : Nat) : Int)) := hd_ (fun x hx => or_i64 v s[k].toNat (by omega) (by omega) x hx)
   go_wp2_with fail
   go_roundw
   case rel => exact ⟨k + 1, by omega, by go_num, by rw [HN.out]; rw [hor.out _ (by first | omega | (unfold RowKit.wrap64; omega))], by trivial⟩
   case measure => simp [intOf]; omega
  ·obtain rfl : k = 8 := by omega
   rw [HT.out]
   have i1 : ¬ ((8 : Nat) : Int) < 8 := by omega
   go_wp2_with fail
   go_ret
   exact ⟨rfl, rfl⟩
theorem takeS_num {l r : List UInt8} (hl : l = 1 :: r) (h8 : 8 ≤ r.length) : takeS l = if 1 ≤ val256 (r.take 8) ∧ val256 (r.take 8) ≤ 1999999999999999999 then some (numText ((val256 (r.take 8) : Int) - encZ), r.drop 8) else none := by
 subst hl; unfold takeS; dsimp only; rw [if_pos ⟨rfl, h8⟩]
theorem takeS_str {l r : List UInt8} (hl : l = 2 :: r) : takeS l = getStr [] r := by
 subst hl; unfold takeS; dsimp only; rw [if_neg (fun h => absurd h.1 (by decide)), if_pos rfl]
theorem takeS_not {l r : List UInt8} {c : UInt8} (hl : l = c :: r) (h1 : ¬ (c = 1 ∧ 8 ≤ r.length)) (h2 : c ≠ 2) : takeS l = none := by
 subst hl; unfold takeS; dsimp only; rw [if_neg h1, if_neg h2]
theorem wrap_range (V : Nat) (hV : V < 18446744073709551616) : (1 ≤ IntKind.i64.wrap (V : Int) ∧ IntKind.i64.wrap (V : Int) ≤ 1999999999999999999) ↔ (1 ≤ V ∧ V ≤ 1999999999999999999) := by
 by_cases h : V < 9223372036854775808
 ·rw [IntWalk.i64_in _ (by omega)]; omega
 ·have : IntKind.i64.wrap (V : Int) < 0 := by
   simp only [IntKind.wrap, IntKind.bits, IntKind.signed]; simp; omega
  omega
theorem l02Take_any (s : ByteArray) (hs : s.size ≤ 1048576) (h0 : 0 < s.size) (w : World) :
  Calls Tryz.prog 222 #[.string s] w fun e w' => e = .returned (pairV (takeS s.data.toList)) ∧ Below w.heap.size w w' := by
 have hsl : s.data.toList.length = s.size := by simp
 have hcons : s.data.toList = s[0] :: s.data.toList.drop 1 := by have := drop_at s 0 h0; rw [List.drop_zero] at this; exact this
 have hrl : (s.data.toList.drop 1).length = s.size - 1 := by rw [List.length_drop, hsl]
 have i0 : (0 : Int) < (s.size : Int) := by omega
 by_cases hnum : s[0] = 1 ∧ 9 ≤ s.size
 ·obtain ⟨h1, h9⟩ := hnum
  have q1 : ((s[0].toNat : Int) == 1) = true := by rw [h1]; rfl
  have i9 : (9 : Int) ≤ (s.size : Int) := by omega
  have hT := takeS_num (l := s.data.toList) (by rw [← h1]; exact hcons) (by omega)
  have hx : (s.extract 1 9).data.toList = (s.data.toList.drop 1).take 8 := by
   rw [ByteArray.data_extract, Array.toList_extract, List.extract_eq_take_drop]
  have hxs : (s.extract 1 9).size = 8 := by
   have : (s.extract 1 9).data.toList.length = (s.extract 1 9).size := by rw [Array.length_toList]; rfl
   rw [hx, List.length_take, hrl] at this; omega
  have HN := hd_ (fun W => l02Num_any (s.extract 1 9) hxs W)
  rw [hx] at HN
  have hV : val256 ((s.data.toList.drop 1).take 8) < 18446744073709551616 := by
   have := val256_lt 8 (s.data.toList.drop 1)
   have h3 : (256 : Nat) ^ 8 = 18446744073709551616 := by decide
   omega
  have hdd : (s.data.toList.drop 1).drop 8 = s.data.toList.drop 9 := by rw [List.drop_drop]
  rw [hdd] at hT
  generalize val256 ((s.data.toList.drop 1).take 8) = V at *
  have hrg := wrap_range V hV
  obtain ⟨n, hn⟩ : ∃ n, n = IntKind.i64.wrap (V : Int) := ⟨_, rfl⟩
  rw [← hn] at hrg HN
  have HIN := hd_ (fun W => l00InP_any n 1 1999999999999999999 W)
  by_cases hin : 1 ≤ n ∧ n ≤ 1999999999999999999
  ·have hVr := hrg.1 hin
   have hnV : n = (V : Int) := by rw [hn]; exact IntWalk.i64_in _ (by omega)
   rw [if_pos hVr, ← hnV] at hT
   have hb : inB n 1 1999999999999999999 = true := by unfold inB; rw [decide_eq_true hin.1, decide_eq_true hin.2]; rfl
   rw [hb] at HIN
   have k2 : IntKind.i64.wrap (n - 1000000000000000000) = n - 1000000000000000000 := IntWalk.i64_in _ (by omega)
   have HTX := hd_ (fun W => l01Text_any (n - 1000000000000000000) (by omega) W)
   have HR := hd_ hT
   have HX := hd_ (extn_drop s 9)
   clear hT hx hxs hV hrg hn hb hcons hrl hsl hdd hnV hVr h1
   go_enter Tryz.func222, Tryz.ntmps222
   go_wp2_with fail
   refine (HN.out _).mono ?_; rintro e1 w1 ⟨rfl, rfl⟩
   go_wp2_with fail
   refine (HIN.out _).mono ?_; rintro e2 w2 ⟨rfl, rfl⟩
   have HNT := hd_ (HTX.out w1.drew)
   clear HTX HN HIN
   go_upto_region 5 with fail
   refine AnyT.region (fun _ => false) (fun _ => True) (by kernel_rfl) trivial (fun hHeld => ?_)
   (refine tA 0 22 ?_; simp only [pz])
   (refine tA 1 23 ?_; simp only [pz])
   (refine tA 3 25 ?_; simp only [pz])
   (refine tA 4 26 ?_; simp only [pz])
   refine oNe 2 fun K hK => ?_
   go_simp
   refine HNT.out.mono ?_
   rintro e1 w2 ⟨rfl, hb1⟩
   go_simp
   have HB1 := hd_ (show Below w1.heap.size w1 w2 from (below_drewN' w1 1).trans hb1)
   refine hK.out _ _ trivial (fun hHeld => ?_)
   clear hK K hb1 HNT
   (try simp only [pz])
   (refine tA 5 2 ?_; simp only [pz])
   (refine tA 6 3 ?_; simp only [pz])
   (refine tA 7 4 ?_; simp only [pz])
   refine AnyT.done (by kernel_rfl) ?_ _
   clear hHeld
   go_wp2_with fail
   go_ret3
   exact ⟨by rw [HR.out, HX.out]; rfl, HB1.out⟩
  ·rw [if_neg (fun h => hin (hrg.2 h))] at hT
   have hb : inB n 1 1999999999999999999 = false := by
    unfold inB
    cases h : decide (1 ≤ n) with
    | false => rfl
    | true => cases h2 : decide (n ≤ 1999999999999999999) with
     | false => rfl
     | true => exact absurd ⟨of_decide_eq_true h, of_decide_eq_true h2⟩ hin
   rw [hb] at HIN
   have HR := hd_ hT
   clear hT hx hxs hV hrg hn hb hcons hrl hsl hdd hin h1
   go_enter Tryz.func222, Tryz.ntmps222
   go_wp2_with fail
   refine (HN.out _).mono ?_; rintro e1 w1 ⟨rfl, rfl⟩
   go_wp2_with fail
   refine (HIN.out _).mono ?_; rintro e2 w2 ⟨rfl, rfl⟩
   go_wp2_with fail
   go_ret3
   exact ⟨by rw [HR.out]; rfl, Below.refl _ _⟩
 ·-- no number
  have htest : ((s[0].toNat : Int) == 1) = false ∨ (((s[0].toNat : Int) == 1) = true ∧ ¬ (9 : Int) ≤ (s.size : Int)) := by
   by_cases h1 : s[0] = 1
   ·right; exact ⟨by rw [h1]; rfl, fun h => hnum ⟨h1, by omega⟩⟩
   ·left; rw [beq_eq_false_iff_ne]; exact fun e => h1 (u8_eq (by have : s[0].toNat = 1 := (by omega); rw [this]; rfl))
  have HTE := hd_ htest
  have HNO := hd_ (show ¬ (s[0] = 1 ∧ 8 ≤ (s.data.toList.drop 1).length) from fun h => hnum ⟨h.1, by have := h.2; omega⟩)
  clear htest hnum
  by_cases h2 : s[0] = 2
  ·have q2 : ((s[0].toNat : Int) == 2) = true := by rw [h2]; rfl
   have q1 : ((s[0].toNat : Int) == 1) = false := by rw [h2]; rfl
   have q3 : ((s[0].toNat : Int) != 2) = false := by rw [h2]; rfl
   have hT := takeS_str (l := s.data.toList) (by rw [← h2]; exact hcons)
   obtain ⟨R, hR⟩ : ∃ R, R = getStr [] (s.data.toList.drop 1) := ⟨_, rfl⟩
   rw [hT, ← hR]
   have HR := hd_ hR
   have HO0 := hd_ (OwnR.none_ (enc := encB) w w.heap.size 5 (Nat.le_refl _))
   have HB0 := hd_ ((Below.refl w.heap.size w).alloc (Nat.le_refl _) (.cells #[] 5))
   clear hT hR hcons hrl h2 HTE HNO
   go_enter Tryz.func222, Tryz.ntmps222
   go_wp2_with fail
   go_loopw [6, 7] (fun v i wr => ∃ (k : Nat) (b : List UInt8), 1 ≤ k ∧ k ≤ s.size ∧ i = .int .i64 k ∧ OwnR encB wr w.heap.size 5 v b ∧ b.length ≤ k ∧ Hid (getStr b (s.data.toList.drop k) = R) ∧ Below w.heap.size w wr) (fun _ i _ => s.size + 1 - (intOf i).toNat)
   case atStart => exact ⟨1, [], Nat.le_refl _, h0, rfl, HO0.out, by simp, hd_ HR.out.symm, HB0.out⟩
   case round =>
    obtain ⟨k, b, hk1, hk, rfl, hown, hln, hq, hb⟩ := hrel
    have HB := hd_ hb
    have hsz := hb.size
    have hq := hq.out
    clear hb
    by_cases hlt : k + 1 < s.size
    ·have i1 : (k : Int) + 1 < (s.size : Int) := by omega
     have i2 : (k : Int) < (s.size : Int) := by omega
     have j0 : (0 : Int) ≤ (k : Int) + 1 := by omega
     have j1 : ((k : Int) + 1).toNat = k + 1 := by omega
     rw [drop_at s k (by omega), drop_at s (k + 1) hlt] at hq
     by_cases hc : s[k] = 0
     ·have p0 : ((s[k].toNat : Int) == 0) = true := by rw [hc]; rfl
      have p1 : ((s[k].toNat : Int) != 0) = false := by rw [hc]; rfl
      rw [hc] at hq
      by_cases hd : s[k + 1] = 0
      ·have r0 : ((s[k + 1].toNat : Int) == 0) = true := by rw [hd]; rfl
       rw [hd, getStr_end] at hq
       have HQ := hd_ hq
       have HX := hd_ (extn_drop s (k + 1 + 1))
       have m1 : IntKind.i64.wrap ((k : Int) + 2) = (k : Int) + 2 := IntWalk.i64_in _ (by omega)
       have m2 : ((k : Int) + 2).toNat = k + 1 + 1 := by omega
       have m3 : ¬ (s.size : Int) < (k : Int) + 2 := by omega
       have m4 : (0 : Int) ≤ (k : Int) + 2 := by omega
       have HCV := hd_ (show (convert 182 9 u6).run Tryz.prog wr.drew = .ok (.string ⟨b.toArray⟩) wr.drew from convert_own (hown.below (below_drewN' wr 1)))
       clear hq hc hd
       go_upto_region 15 with fail
       refine AnyT.region (fun _ => false) (fun W => (convert 182 9 u6).run Tryz.prog W = .ok (.string ⟨b.toArray⟩) W) (by kernel_rfl) HCV.out (fun hHeld => ?_)
       (refine tA 0 53 ?_; simp only [pz])
       refine AnyT.take 1 54 (.string ⟨b.toArray⟩) rfl (by kernel_rfl) (by kernel_rfl) (by kernel_rfl) (by kernel_rfl) rfl (by kernel_rfl) rfl (fun _ _ _ _ h => h) rfl (fun W hS => by go_simp) (by assumption) ?_
       simp only [pz]
       (refine tA 2 55 ?_; simp only [pz])
       (refine tA 3 56 ?_; simp only [pz])
       (refine tA 4 57 ?_; simp only [pz])
       refine AnyT.takeAny 5 58 (.string (s.extract (k + 1 + 1) s.size)) rfl (by kernel_rfl) (by kernel_rfl) (by kernel_rfl) rfl rfl (fun _ _ _ _ h => h) rfl (fun W => by go_simp) (by assumption) ?_
       simp only [pz]
       (refine tA 6 2 ?_; simp only [pz])
       (refine tA 7 3 ?_; simp only [pz])
       (refine tA 8 4 ?_; simp only [pz])
       refine AnyT.done (by kernel_rfl) ?_ _
       clear hHeld
       go_wp2_with fail
       go_ret3
       exact ⟨by rw [← HQ.out, HX.out]; rfl, HB.out.drew⟩
      ·have r0 : ((s[k + 1].toNat : Int) == 0) = false := by rw [beq_eq_false_iff_ne]; exact fun e => hd (u8_eq (by have : s[k + 1].toNat = 0 := (by omega); rw [this]; rfl))
       by_cases h5 : s[k + 1] = 255
       ·have r1 : ((s[k + 1].toNat : Int) != 255) = false := by rw [h5]; rfl
        have r2 : ((s[k + 1].toNat : Int) == 255) = true := by rw [h5]; rfl
        rw [h5, getStr_nul] at hq
        have HQ := hd_ hq
        clear hq hc hd h5
        go_wp2_with (first
         | fail
         | (at_builtin; refine wpList_app1 (enc := encB) rfl (.tmp 64) (.tmp 65) 182 5 rfl Tryz.underlying182 rfl (by omega) (fun _ => rfl) infoByte wr w.heap.size _ b 0 rfl hown rfl (by omega) hsz ?_; intro v5 w5 hown5 hb5))
        go_roundw
        case rel => exact ⟨k + 2, b ++ [0], by omega, by omega, by go_num, hown5, by rw [List.length_append]; simp only [List.length_cons, List.length_nil]; omega, hd_ HQ.out, HB.out.trans hb5⟩
        case measure => simp [intOf]; omega
       ·have r1 : ((s[k + 1].toNat : Int) == 255) = false := by rw [beq_eq_false_iff_ne]; exact fun e => h5 (u8_eq (by have : s[k + 1].toNat = 255 := (by omega); rw [this]; rfl))
        have r2 : ((s[k + 1].toNat : Int) != 255) = true := by simp [bne, r1]
        rw [getStr_bad _ _ _ hd h5] at hq
        have HQ := hd_ hq
        clear hq hc hd h5
        go_wp2_with fail
        go_ret3
        exact ⟨by rw [← HQ.out]; rfl, HB.out⟩
     ·have p0 : ((s[k].toNat : Int) == 0) = false := by rw [beq_eq_false_iff_ne]; exact fun e => hc (u8_eq (by have : s[k].toNat = 0 := (by omega); rw [this]; rfl))
      have p1 : ((s[k].toNat : Int) != 0) = true := by simp [bne, p0]
      rw [getStr_go _ _ _ _ hc, ← drop_at s (k + 1) hlt] at hq
      have HQ := hd_ hq
      clear hq hc
      go_wp2_with (first
       | fail
       | (at_builtin; refine wpList_app1 (enc := encB) rfl (.tmp 42) (.tmp 46) 182 5 rfl Tryz.underlying182 rfl (by omega) (fun _ => rfl) infoByte wr w.heap.size _ b s[k] rfl hown (by go_simp) (by omega) hsz ?_; intro v5 w5 hown5 hb5))
      go_roundw
      case rel => exact ⟨k + 1, b ++ [s[k]], by omega, by omega, by go_num, hown5, by rw [List.length_append]; simp only [List.length_cons, List.length_nil]; omega, hd_ HQ.out, HB.out.trans hb5⟩
      case measure => simp [intOf]; omega
    ·have i1 : ¬ (k : Int) + 1 < (s.size : Int) := by omega
     rw [getStr_short _ _ (by rw [List.length_drop, Array.length_toList]; show s.size - k ≤ 1; omega)] at hq
     have HQ := hd_ hq
     clear hq
     go_wp2_with fail
     go_ret3
     exact ⟨by rw [← HQ.out]; rfl, HB.out⟩
  ·have q2 : ((s[0].toNat : Int) == 2) = false := by rw [beq_eq_false_iff_ne]; exact fun e => h2 (u8_eq (by have : s[0].toNat = 2 := (by omega); rw [this]; rfl))
   have q3 : ((s[0].toNat : Int) != 2) = true := by simp [bne, q2]
   have HR := hd_ (takeS_not hcons HNO.out h2)
   rw [HR.out]
   clear hcons hrl h2 HNO HR
   rcases HTE.out with q1 | ⟨q1, i9⟩
   ·go_enter Tryz.func222, Tryz.ntmps222
    go_wp2_with fail
    go_ret3
    exact ⟨rfl, Below.refl _ _⟩
   ·go_enter Tryz.func222, Tryz.ntmps222
    go_wp2_with fail
    go_ret3
    exact ⟨rfl, Below.refl _ _⟩
end Go.Proofs.YtnnabkldceklmaaGreatDoor
