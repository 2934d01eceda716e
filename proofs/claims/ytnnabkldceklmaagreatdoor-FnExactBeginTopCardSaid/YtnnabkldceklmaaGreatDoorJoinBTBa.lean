/- The program's writers of keys walked: putSub, PutSubs, KeyOf. -/
import Derived.WalkArith
import Derived.Test.YtnnabkldceklmaaGreatDoorJoinBTAx
set_option maxHeartbeats 16000000
set_option maxRecDepth 100000
namespace Go.Proofs.YtnnabkldceklmaaGreatDoor
open Go.RowKit
theorem beByte (n : Nat) (i : Nat) : (((UInt8.ofNat (n / 2 ^ (56 - 8 * i))).toNat : Nat) : Int) = (n : Int) / 2 ^ (56 - 8 * i) % 256 := by
 rw [show (UInt8.ofNat (n / 2 ^ (56 - 8 * i))).toNat = n / 2 ^ (56 - 8 * i) % 256 from rfl]
 generalize 56 - 8 * i = m
 rw [Int.natCast_emod, Int.natCast_ediv, Int.natCast_pow]
 rfl
theorem putSub_any (b : Nat) (bs : List UInt8) (s : ByteArray) (hs : s.size ≤ 65536) (w : World) (h : Bld w b bs) (hl : bs.length ≤ 1000000) (hb : b ≤ w.heap.size) (hE : ∀ W, Below b w W → EnvIn W) :
  Calls Tryz.prog 259 #[.pointer (some ⟨b, 0, none⟩), .string s] w fun e w' => e = .returned (.tuple #[]) ∧ Bld w' b (bs ++ putS s.data.toList) ∧ Below b w w' := by
 have HC := hd_ (implIsCanon_any s hs w (hE w (Below.refl _ _)).1)
 have HBL := hd_ h
 have HE := hd_ hE
 clear h hE
 cases hc : canonB s.data.toList with
 | true =>
  rw [hc] at HC
  have HP := hd_ (show putS s.data.toList = 1 :: beTo (numOf s.data.toList + encZ).toNat 8 by unfold putS; rw [if_pos hc])
  have hn := numOf_abs s.data.toList
  have HN := hd_ (fun W => numOf_any s hs W)
  obtain ⟨N, hN⟩ : ∃ N : Nat, N = (numOf s.data.toList + encZ).toNat := ⟨_, rfl⟩
  rw [← hN] at HP
  have hNi : numOf s.data.toList + 1000000000000000000 = (N : Int) := by unfold maxNum at hn; unfold encZ at hN; omega
  have hNb : N ≤ 2000000000000000000 := by unfold maxNum at hn; unfold encZ at hN; omega
  unfold maxNum at hn
  clear hN hc
  generalize numOf s.data.toList = z at *
  go_enter Tryz.func259, Tryz.ntmps259
  go_wp2_with fail
  refine HC.out.mono ?_; rintro e1 w1 ⟨rfl, hb1⟩
  have HB1 := hd_ (hb1.mono hb)
  have HBL1 := hd_ (bld_below HBL.out hb1)
  clear hb1 HC
  go_wp2_with fail
  refine (HN.out _).mono ?_; rintro e2 w2 ⟨rfl, hb2⟩
  have HB2 := hd_ (HB1.out.trans (hb2.mono (Nat.le_trans hb HB1.out.size)))
  have HBL2 := hd_ (bld_below HBL1.out hb2)
  clear hb2 HN HB1 HBL1
  have HW := hd_ (bldByte b bs 1 w2 HBL2.out (by omega) (Nat.le_trans hb HB2.out.size))
  go_wp2_with fail
  refine HW.out.mono ?_; rintro e3 w3 ⟨rfl, hbl3, hb3⟩
  have HBL3 := hd_ hbl3
  have HB3 := hd_ (HB2.out.trans hb3)
  clear hbl3 hb3 HW HBL2 HB2
  go_wp2_with fail
  go_loopw [5] (fun i wr => ∃ k : Nat, k ≤ 8 ∧ i = .int .i64 (56 - 8 * (k : Int)) ∧ Bld wr b (bs ++ 1 :: beTo N k) ∧ Below b w wr) (fun i _ => (intOf i + 8).toNat)
  case atStart => exact ⟨0, Nat.zero_le _, rfl, HBL3.out, HB3.out⟩
  case round =>
   obtain ⟨k, hk, rfl, hbl, hbr⟩ := hrel
   by_cases hlt : k < 8
   ·have i1 : decide ((0 : Int) ≤ 56 - 8 * (k : Int)) = true := by simp; omega
    have hlk := beTo_len N k
    have HW := hd_ (bldByte b (bs ++ 1 :: beTo N k) (UInt8.ofNat (N / 2 ^ (56 - 8 * k))) wr hbl (by rw [List.length_append, List.length_cons, hlk]; omega) (Nat.le_trans hb hbr.size))
    rw [beByte] at HW
    have HBR := hd_ hbr
    clear hbl hbr hlk
    go_wp2_with fail
    refine HW.out.mono ?_; rintro e4 w4 ⟨rfl, hbl4, hb4⟩
    have HBL4 := hd_ hbl4
    have HB4 := hd_ (HBR.out.trans hb4)
    clear hbl4 hb4 HW HBR
    go_wp2_with fail
    go_roundw
    case rel => exact ⟨k + 1, by omega, by go_num, by rw [beTo_next, ← List.cons_append, ← List.append_assoc]; exact HBL4.out, HB4.out⟩
    case measure => simp [intOf]; omega
   ·obtain rfl : k = 8 := by omega
    have i1 : decide ((0 : Int) ≤ 56 - 8 * ((8 : Nat) : Int)) = false := by simp
    have HBL := hd_ hbl; have HBR := hd_ hbr
    clear hbl hbr
    go_wp2_with fail
    (try simp only [Exit.inBlock, Exit.then])
    refine bodyPost_ret (results_none rfl _ _ _) rfl ?_
    exact ⟨rfl, by rw [HP.out]; exact HBL.out, HBR.out⟩
 | false =>
  rw [hc] at HC
  have HP := hd_ (show putS s.data.toList = 2 :: (nulE s.data.toList ++ [0, 0]) by unfold putS; rw [hc]; rfl)
  have hcn : Lib.countB s ⟨#[0]⟩ ≤ s.size := Lib.countB_le _ (by decide) _ s (Nat.le_refl _)
  have HR := hd_ (fun m W hm => Tryz.strings_ReplaceAll s ⟨#[0]⟩ ⟨#[0, 255]⟩ m W (by omega) hm (by decide) (by show s.size + _ * 2 ≤ _; omega))
  have hnl := nulE_len s.data.toList
  have hsl : s.data.toList.length = s.size := by simp
  clear hcn hc
  go_enter Tryz.func259, Tryz.ntmps259
  go_wp2_with fail
  refine HC.out.mono ?_; rintro e1 w1 ⟨rfl, hb1⟩
  have HB1 := hd_ (hb1.mono hb)
  have HBL1 := hd_ (bld_below HBL.out hb1)
  clear hb1 HC
  have HW := hd_ (bldByte b bs 2 w1 HBL1.out (by omega) (Nat.le_trans hb HB1.out.size))
  go_wp2_with fail
  refine HW.out.mono ?_; rintro e3 w3 ⟨rfl, hbl3, hb3⟩
  have HBL3 := hd_ hbl3
  have HB3 := hd_ (HB1.out.trans hb3)
  clear hbl3 hb3 HW HBL1 HB1
  obtain ⟨m, hm⟩ := (HE.out w3 HB3.out).2
  have HR3 := hd_ (HR.out m w3 hm)
  clear HR hm
  go_wp2_with fail
  refine HR3.out.mono ?_; rintro e4 w4 ⟨rfl, hb4⟩
  have HD := hd_ (show Go.Lib.replaceAll s.data.toList (⟨#[0]⟩ : ByteArray).data.toList (⟨#[0, 255]⟩ : ByteArray).data.toList = nulE s.data.toList from replaceAll_nul _)
  rw [HD.out]
  generalize nulE s.data.toList = D at *
  have HB4 := hd_ (HB3.out.trans (hb4.mono (Nat.le_trans hb HB3.out.size)))
  have HBL4 := hd_ (bld_below HBL3.out hb4)
  clear hb4 HBL3 HB3 HR3
  have HW := hd_ (bldString b (bs ++ [2]) ⟨D.toArray⟩ w4 HBL4.out (by rw [List.length_append]; show bs.length + 1 + D.toArray.size ≤ _; simp; omega) (Nat.le_trans hb HB4.out.size))
  go_wp2_with fail
  refine HW.out.mono ?_; rintro e5 w5 ⟨rfl, hbl5, hb5⟩
  have HBL5 := hd_ hbl5
  have HB5 := hd_ (HB4.out.trans hb5)
  clear hbl5 hb5 HW HBL4 HB4
  have HW := hd_ (bldString b (bs ++ [2] ++ D) ⟨#[0, 0]⟩ w5 HBL5.out (by rw [List.length_append, List.length_append]; show bs.length + 1 + D.length + 2 ≤ _; omega) (Nat.le_trans hb HB5.out.size))
  go_wp2_with fail
  refine HW.out.mono ?_; rintro e6 w6 ⟨rfl, hbl6, hb6⟩
  have HBL6 := hd_ (show Bld w6 b (bs ++ putS s.data.toList) by
   have h : bs ++ 2 :: (D ++ [0, 0]) = bs ++ [2] ++ D ++ [0, 0] := by simp
   rw [HP.out, h]; exact hbl6)
  have HB6 := hd_ (HB5.out.trans hb6)
  clear hbl6 hb6 HW HBL5 HB5
  go_wp2_with fail
  go_end0
  exact ⟨rfl, HBL6.out, HB6.out⟩
theorem putSubs_any (A : Option Addr) (n c lo hi : Nat) (xs : List ByteArray) (w : World) (ha : StrR w lo hi A n xs) (hhi : hi ≤ w.heap.size) (hn : n ≤ 1048576) (hE : EnvIn w) :
  Calls Tryz.prog 244 #[.slice A n c] w fun e w' => e = .returned (.string (mkB (putP xs))) ∧ Below w.heap.size w w' := by
 have hl := ha.1
 subst hl
 have HC := hd_ (implSubsOk_any A xs.length c lo hi xs w ha hn)
 have HA := hd_ ha
 have HE := hd_ hE
 clear ha hE
 cases hc : subsB xs with
 | false =>
  rw [hc] at HC
  have HP := hd_ (show putP xs = [] by unfold putP; rw [hc]; rfl)
  clear hc
  go_enter Tryz.func244, Tryz.ntmps244
  go_wp2_with fail
  refine HC.out.mono ?_; rintro e1 w1 ⟨rfl, q, rfl⟩
  go_wp2_with fail
  go_ret
  exact ⟨by rw [HP.out]; rfl, below_drewN' w q⟩
 | true =>
  rw [hc] at HC
  obtain ⟨h4, hx⟩ := subsB_all hc
  have HP := hd_ (show putP xs = putAll (xs.take xs.length) by unfold putP; rw [hc, List.take_length]; rfl)
  have HX := hd_ hx
  have HLE := hd_ (show ∀ k, (putAll (xs.take k)).length ≤ 228 from fun k => by
   have h1 := putAll_len (xs.take k) fun x hx' => (hx x (List.mem_of_mem_take hx')).2
   have h2 : (xs.take k).length ≤ 4 := by rw [List.length_take]; omega
   omega)
  clear hc hx
  go_enter Tryz.func244, Tryz.ntmps244
  go_wp2_with fail
  refine HC.out.mono ?_; rintro e1 w1 ⟨rfl, q, rfl⟩
  have HB1 := hd_ (below_drewN' w q)
  have HE1 := hd_ (HE.out.below HB1.out)
  have HA1 := hd_ (HA.out.below HB1.out hhi)
  have hs1 : w.heap.size ≤ (w.drewN q).heap.size := HB1.out.size
  clear HC HE HA
  generalize w.drewN q = w1 at *
  have HBL := hd_ (bld_new w1)
  have HB2 := hd_ ((Below.refl w1.heap.size w1).alloc (Nat.le_refl _) (.cells #[.pointer none, .slice none 0 0] 207))
  go_wp2_with fail
  go_loopw [11] (fun i wr => ∃ k : Nat, k ≤ xs.length ∧ i = .int .i64 k ∧ Bld wr w1.heap.size (putAll (xs.take k)) ∧ Below w1.heap.size w1 wr) (fun i _ => xs.length - (intOf i).toNat)
  case atStart => exact ⟨0, Nat.zero_le _, rfl, HBL.out, HB2.out⟩
  case round =>
   obtain ⟨k, hk, rfl, hbl, hbr⟩ := hrel
   by_cases hlt : k < xs.length
   ·obtain ⟨b, off, rfl, _, _, hcell⟩ := (HA1.out.below hbr (by omega)).at_ hlt
    have k1 : (k : Int) < (xs.length : Int) := by omega
    have hX := HX.out _ (getD_in (d := ByteArray.empty) hlt)
    have HN := hd_ (show putAll (xs.take k) ++ putS (xs.getD k ByteArray.empty).data.toList = putAll (xs.take (k + 1)) by
     rw [← putAll_snoc, List.take_succ_eq_append_getElem hlt, List.getD_eq_getElem?_getD, List.getElem?_eq_getElem hlt]; rfl)
    have hle := HLE.out k
    have HW := hd_ (putSub_any w1.heap.size (putAll (xs.take k)) (xs.getD k ByteArray.empty) (by omega) wr hbl (by omega) hbr.size (fun W h => HE1.out.below (hbr.trans h)))
    rw [HN.out] at HW
    have HBR := hd_ hbr
    clear hbl hbr hle HN
    generalize xs.getD k ByteArray.empty = X at *
    go_wp2_with fail
    refine HW.out.mono ?_; rintro e2 w2 ⟨rfl, hbl2, hb2⟩
    have HBL2 := hd_ hbl2
    have HB2 := hd_ (HBR.out.trans hb2)
    clear hbl2 hb2 HW HBR hcell
    go_wp2_with fail
    go_roundw
    case rel => exact ⟨k + 1, by omega, by go_num, HBL2.out, HB2.out⟩
    case measure => simp [intOf]; omega
   ·obtain rfl : k = xs.length := by omega
    have k1 : ¬ ((xs.length : Nat) : Int) < ((xs.length : Nat) : Int) := by omega
    rw [← HP.out] at hbl
    have HW := hd_ (bldText w1.heap.size (putP xs) wr hbl hbr.size)
    have HBR := hd_ hbr
    clear hbl hbr
    go_wp2_with fail
    refine HW.out.mono ?_; rintro e2 w2 ⟨rfl, hb2⟩
    have HB2 := hd_ (HB1.out.trans ((HBR.out.trans hb2).mono hs1))
    clear hb2 HW HBR
    go_wp2_with fail
    go_ret
    exact ⟨rfl, HB2.out⟩
def littleP (n k : Nat) : List UInt8 := (List.range k).map fun j => UInt8.ofNat (n / 256 ^ j)
theorem littleP_next (n k : Nat) : littleP n (k + 1) = littleP n k ++ [UInt8.ofNat (n / 256 ^ k)] := by
 unfold littleP; rw [List.range_succ, List.map_append]; rfl
theorem little_any (n k : Nat) (hn : n ≤ 9223372036854775807) (hk : k ≤ 8) (w : World) :
  Calls Tryz.prog 178 #[.int .i64 n, .int .i64 k] w fun e w' => e = .returned (.string (mkB (littleP n k))) ∧ Below w.heap.size w w' := by
 have hown0 : OwnR encB (w.alloc (.cells #[] 5)) w.heap.size 5 (.slice (some ⟨w.heap.size, 0, none⟩) 0 0) [] := OwnR.none_ _ _ _ (Nat.le_refl _)
 have HO0 := hd_ hown0
 have HB0 := hd_ ((Below.refl w.heap.size w).alloc (Nat.le_refl _) (.cells #[] 5))
 clear hown0
 go_enter Tryz.func178, Tryz.ntmps178
 go_wp2_with fail
 go_loopw [0, 5, 8] (fun z v i wr => ∃ (j : Nat), j ≤ k ∧ i = .int .i64 j ∧ z = .int .i64 (n / 256 ^ j : Nat) ∧ OwnR encB wr w.heap.size 5 v (littleP n j) ∧ Below w.heap.size w wr) (fun _ _ i _ => k - (intOf i).toNat)
 case atStart => exact ⟨0, Nat.zero_le _, rfl, by rw [Nat.pow_zero, Nat.div_one], HO0.out, HB0.out⟩
 case round =>
  obtain ⟨j, hj, rfl, rfl, hown, hb⟩ := hrel
  have hll : (littleP n j).length = j := by unfold littleP; simp
  have hs := hb.size
  by_cases hlt : j < k
  ·have i1 : (j : Int) < (k : Int) := by omega
   have hm : n / 256 ^ j ≤ n := Nat.div_le_self _ _
   have HN := hd_ (show n / 256 ^ j / 256 = n / 256 ^ (j + 1) by rw [Nat.pow_succ, Nat.div_div_eq_div_mul])
   have HNX := hd_ (littleP_next n j)
   have HB := hd_ hb
   clear hb
   generalize n / 256 ^ j = m at *
   obtain ⟨y, hy, hmod⟩ : ∃ y : UInt8, y = UInt8.ofNat m ∧ (m : Int) % 256 = (y.toNat : Int) := ⟨_, rfl, by rw [UInt8.toNat_ofNat']; omega⟩
   rw [← hy] at HNX
   clear hy
   have hmb : m ≤ 9223372036854775807 := by omega
   clear hm
   generalize littleP n j = bs at *
   go_wp2_with (first
    | fail
    | (at_builtin; refine wpList_app1 (enc := encB) rfl (.tmp 10) (.tmp 13) 182 5 rfl Tryz.underlying182 rfl (by omega) (fun _ => rfl) infoByte wr w.heap.size _ bs y rfl hown rfl (by omega) hs ?_; intro v4 w4 hown4 hb4))
   go_roundw
   case rel => exact ⟨j + 1, by omega, by go_num, by rw [← HN.out]; go_num, by rw [HNX.out]; exact hown4, HB.out.trans hb4⟩
   case measure => simp [intOf]; omega
  ·obtain rfl : j = k := by omega
   have i1 : ¬ (j : Int) < (j : Int) := by omega
   have hcv := convert_own hown
   have HB := hd_ hb
   clear hb
   go_wp2_with fail
   go_ret
   exact ⟨rfl, HB.out⟩
end Go.Proofs.YtnnabkldceklmaaGreatDoor
/- Keys as the reference reads them: the same as the program. Plain. -/
namespace Go.Proofs.YtnnabkldceklmaaGreatDoor
def takeS (l : List UInt8) : Option (List UInt8 × List UInt8) := match l with
 | [] => none
 | c :: r => if c = 1 ∧ 8 ≤ r.length then (if 1 ≤ val256 (r.take 8) ∧ val256 (r.take 8) ≤ 1999999999999999999 then some (numText ((val256 (r.take 8) : Int) - encZ), r.drop 8) else none)
  else if c = 2 then getStr [] r else none
def allS : Nat → List (List UInt8) → List UInt8 → Option (List (List UInt8) × List UInt8)
 | 0, acc, l => some (acc, l)
 | k + 1, acc, l => if l = [] then some (acc, l) else match takeS l with
  | none => none
  | some (x, r) => allS k (acc ++ [x]) r
def getS (l : List UInt8) : Option (List ByteArray) := match allS 5 [] l with
 | none => none
 | some (L, r) => if r = [] ∧ subsB (L.map mkB) ∧ putAll (L.map mkB) = l then some (L.map mkB) else none
theorem takeS_put (l r : List UInt8) : takeS (putS l ++ r) = some (l, r) := by
 unfold putS
 split
 ·rename_i h
  have hb := numOf_abs l
  have hl : (beTo (numOf l + encZ).toNat 8).length = 8 := beTo_len _ _
  have hv : val256 (beTo (numOf l + encZ).toNat 8) = (numOf l + encZ).toNat := val_beTo _ (by unfold maxNum at hb; unfold encZ; omega)
  show takeS (1 :: (beTo (numOf l + encZ).toNat 8 ++ r)) = _
  unfold takeS
  dsimp only
  rw [if_pos ⟨rfl, by rw [List.length_append, hl]; omega⟩, List.take_append_of_le_length (by omega), List.take_of_length_le (by omega), hv, if_pos (by unfold maxNum at hb; unfold encZ; omega), List.drop_append_of_le_length (by omega), List.drop_of_length_le (by omega), List.nil_append]
  have hn : ((numOf l + (encZ : Int)).toNat : Int) - (encZ : Int) = numOf l := by unfold maxNum at hb; unfold encZ; omega
  unfold canonB at h
  rw [decide_eq_true_eq] at h
  rw [hn, h]
 ·show takeS (2 :: (nulE l ++ [0, 0] ++ r)) = _
  unfold takeS
  dsimp only
  rw [if_neg (fun h => by have := h.1; revert this; decide), if_pos rfl, List.append_assoc]
  exact getStr_put l [] r
theorem allS_put : ∀ (xs : List ByteArray) (k : Nat) (acc : List (List UInt8)), xs.length < k → allS k acc (putAll xs) = some (acc ++ xs.map fun x => x.data.toList, [])
 | [], k + 1, acc, _ => by rw [putAll_nil, allS, if_pos rfl]; simp
 | x :: xs, k + 1, acc, h => by
  obtain ⟨c, t, hc⟩ := putS_ne x.data.toList
  rw [putAll_cons, allS, if_neg (by rw [hc]; simp), takeS_put]
  show allS k (acc ++ [x.data.toList]) (putAll xs) = _
  rw [allS_put xs k _ (by rw [List.length_cons] at h; omega)]
  simp
theorem getS_put {xs : List ByteArray} (h : subsB xs = true) : getS (putAll xs) = some xs := by
 have h1 := subsB_all h
 have e : (xs.map fun x => x.data.toList).map mkB = xs := by
  rw [List.map_map]
  conv => rhs; rw [← List.map_id xs]
  exact List.map_congr_left fun x _ => mkB_self x
 unfold getS
 rw [allS_put xs 5 [] (by omega), List.nil_append]
 show (if [] = [] ∧ subsB (List.map mkB _) ∧ putAll (List.map mkB _) = _ then some (List.map mkB _) else none) = _
 rw [e, if_pos ⟨rfl, h, rfl⟩]
theorem getS_some {l : List UInt8} {xs : List ByteArray} (h : getS l = some xs) : subsB xs = true ∧ putAll xs = l := by
 unfold getS at h
 split at h
 ·cases h
 ·split at h
  ·rename_i h1
   injection h with h
   subst h
   exact h1.2
  ·cases h
theorem getS_eq (l : List UInt8) : getS l = getP l := by
 cases h : getP l with
 | some xs =>
  obtain ⟨h1, h2⟩ := getP_some h
  rw [← h2]
  exact getS_put h1
 | none =>
  cases h2 : getS l with
  | none => rfl
  | some xs =>
   obtain ⟨h3, h4⟩ := getS_some h2
   rw [← h4, getP_put h3] at h
   cases h
theorem placeS_hit {l : List UInt8} {i : Nat} (h1 : 1 ≤ i) (hi : l[i]? = some 1) (hn : ∀ j, 1 ≤ j → j < i → l[j]? ≠ some 1) : placeP l = match getP (l.drop (i + 1)) with
  | none => none
  | some xs => if nameB (mkB (l.take i)) then some (mkB (l.take i), xs) else none := by
 cases l with
 | nil => cases hi
 | cons c t =>
  by_cases hc : c = 1
  ·-- the first byte is a 1: no name
   subst hc
   have hp : placeP (1 :: t) = none := by
    unfold placeP
    rw [if_pos (by simp)]
    have ht : (1 :: t).takeWhile (fun c => c != 1) = [] := by rw [List.takeWhile_cons]; rfl
    rw [ht]
    cases getP ((1 :: t).drop ([] : List UInt8).length.succ) with
    | none => rfl
    | some xs => rfl
   have hnm : nameB (mkB ((1 :: t).take i)) = false := by
    cases hb : nameB (mkB ((1 :: t).take i)) with
    | false => rfl
    | true =>
     have := name_no1 hb 1 (by show 1 ∈ (1 :: t).take i; obtain ⟨k, rfl⟩ : ∃ k, i = k + 1 := ⟨i - 1, by omega⟩; rw [List.take_succ_cons]; exact List.mem_cons_self ..)
     exact absurd rfl this
   rw [hp, hnm]
   cases getP ((1 :: t).drop (i + 1)) <;> rfl
  ·have hfree : ∀ x ∈ (c :: t).take i, x ≠ 1 := fun x hx e => by
    subst e
    obtain ⟨j, hj, e⟩ := List.mem_take_iff_getElem.1 hx
    have hj' : (c :: t)[j]? = some 1 := by rw [List.getElem?_eq_getElem (by omega), e]
    rcases Nat.eq_zero_or_pos j with rfl | hp
    ·exact hc (by simpa using hj')
    ·exact hn j hp (by omega) hj'
   have hsplit : c :: t = (c :: t).take i ++ 1 :: (c :: t).drop (i + 1) := by
    have hlt : i < (c :: t).length := by
     rcases Nat.lt_or_ge i (c :: t).length with h | h
     ·exact h
     ·rw [List.getElem?_eq_none h] at hi; cases hi
    have h2 : (c :: t)[i] = 1 := by rw [List.getElem?_eq_getElem hlt] at hi; injection hi
    rw [← h2, ← List.drop_eq_getElem_cons hlt, List.take_append_drop]
   have ht : (c :: t).takeWhile (fun c => c != 1) = (c :: t).take i := by
    conv => lhs; rw [hsplit]
    exact takeWhile_stop _ _ _ (fun x hx => by have := hfree x hx; simpa using this) (by rfl)
   have hlen : ((c :: t).take i).length = i := by
    rw [List.length_take]
    have hlt : i < (c :: t).length := by
     rcases Nat.lt_or_ge i (c :: t).length with h | h
     ·exact h
     ·rw [List.getElem?_eq_none h] at hi; cases hi
    omega
   unfold placeP
   rw [if_pos (List.mem_of_getElem? hi), ht, hlen]
   cases getP ((c :: t).drop (i + 1)) <;> rfl
theorem placeS_none {l : List UInt8} (hn : ∀ j, 1 ≤ j → j ≤ 8 → l[j]? ≠ some 1) : placeP l = none := by
 unfold placeP
 split
 ·rename_i h1
  have hnm : nameB (mkB (l.takeWhile fun c => c != 1)) = false := by
   cases hb : nameB (mkB (l.takeWhile fun c => c != 1)) with
   | false => rfl
   | true =>
    exfalso
    have hsz : 1 ≤ (l.takeWhile fun c => c != 1).length ∧ (l.takeWhile fun c => c != 1).length ≤ 8 := by
     unfold nameB at hb
     simp only [Bool.and_eq_true, decide_eq_true_eq] at hb
     have h2 : (mkB (l.takeWhile fun c => c != 1)).size = (l.takeWhile fun c => c != 1).length := List.size_toArray
     rw [h2] at hb
     exact hb.1
    have hs := cut_at1 l h1
    have hat : l[(l.takeWhile fun c => c != 1).length]? = some 1 := by
     have h5 : ((l.takeWhile fun c => c != 1) ++ 1 :: l.drop ((l.takeWhile fun c => c != 1).length + 1))[(l.takeWhile fun c => c != 1).length]? = some 1 := by
      rw [List.getElem?_append_right (Nat.le_refl _), Nat.sub_self]; rfl
     rw [show (l.takeWhile fun c => c != 1) ++ 1 :: l.drop ((l.takeWhile fun c => c != 1).length + 1) = l from hs.symm] at h5
     exact h5
    exact hn _ hsz.1 hsz.2 hat
  cases getP (l.drop ((l.takeWhile fun c => c != 1).length + 1)) with
  | none => rfl
  | some xs =>
   show (if nameB (mkB (l.takeWhile fun c => c != 1)) then _ else none) = none
   rw [hnm]; rfl
 ·rfl
end Go.Proofs.YtnnabkldceklmaaGreatDoor
/- The reference's l18Fix walked: a number's bytes, the lowest first. -/
namespace Go.Proofs.YtnnabkldceklmaaGreatDoor
open Go.RowKit
theorem and_255 (n : Nat) (hn : n ≤ 9223372036854775807) : Go.bits .and .i64 (n : Int) 255 = ((n % 256 : Nat) : Int) := by
 show IntKind.i64.wrap ((BitVec.ofInt 64 (n : Int) &&& BitVec.ofInt 64 (255 : Int)).toNat : Int) = _
 have h1 : (BitVec.ofInt 64 (n : Int) &&& BitVec.ofInt 64 (255 : Int)).toNat = n % 256 := by
  rw [BitVec.toNat_and, BitVec.toNat_ofInt, BitVec.toNat_ofInt]
  have e1 : ((n : Int) % ((2 ^ 64 : Nat) : Int)).toNat = n := by
   have : ((2 ^ 64 : Nat) : Int) = 18446744073709551616 := by decide
   rw [this]; omega
  have e2 : ((255 : Int) % ((2 ^ 64 : Nat) : Int)).toNat = 2 ^ 8 - 1 := by decide
  rw [e1, e2, Nat.and_two_pow_sub_one_eq_mod]
 rw [h1]
 exact IntWalk.i64_in _ (by omega)
theorem leB_next (n j : Nat) : leB n (j + 1) = leB n j ++ [UInt8.ofNat (n / 256 ^ j)] := by
 unfold leB; rw [List.range_succ, List.map_append]; rfl
theorem l18Fix_any (n k : Nat) (hn : n ≤ 9223372036854775807) (hk : k ≤ 8) (w : World) :
  Calls Tryz.prog 101 #[.int .i64 n, .int .i64 k] w fun e w' => e = .returned (.string (mkB (leB n k))) ∧ Below w.heap.size w w' := by
 have hown0 : OwnR encB (w.alloc (.cells #[] 5)) w.heap.size 5 (.slice (some ⟨w.heap.size, 0, none⟩) 0 0) [] := OwnR.none_ _ _ _ (Nat.le_refl _)
 have HO0 := hd_ hown0
 have HB0 := hd_ ((Below.refl w.heap.size w).alloc (Nat.le_refl _) (.cells #[] 5))
 clear hown0
 go_enter Tryz.func101, Tryz.ntmps101
 go_wp2_with fail
 go_loopw [0, 5, 6] (fun z v i wr => ∃ (j : Nat), j ≤ k ∧ i = .int .i64 j ∧ z = .int .i64 (n / 256 ^ j : Nat) ∧ OwnR encB wr w.heap.size 5 v (leB n j) ∧ Below w.heap.size w wr) (fun _ _ i _ => k - (intOf i).toNat)
 case atStart => exact ⟨0, Nat.zero_le _, rfl, by rw [Nat.pow_zero, Nat.div_one], HO0.out, HB0.out⟩
 case round =>
  obtain ⟨j, hj, rfl, rfl, hown, hb⟩ := hrel
  have hll : (leB n j).length = j := leB_len n j
  have hs := hb.size
  by_cases hlt : j < k
  ·have i1 : (j : Int) < (k : Int) := by omega
   have hm : n / 256 ^ j ≤ n := Nat.div_le_self _ _
   have HN := hd_ (show n / 256 ^ j / 256 = n / 256 ^ (j + 1) by rw [Nat.pow_succ, Nat.div_div_eq_div_mul])
   have HNX := hd_ (leB_next n j)
   have HB := hd_ hb
   clear hb
   generalize n / 256 ^ j = m at *
   obtain ⟨y, hy, hmod⟩ : ∃ y : UInt8, y = UInt8.ofNat m ∧ ((m % 256 : Nat) : Int) = (y.toNat : Int) := ⟨_, rfl, by rw [UInt8.toNat_ofNat']⟩
   rw [← hy] at HNX
   clear hy
   have hmb : m ≤ 9223372036854775807 := by omega
   have hand := and_255 m hmb
   rw [hmod] at hand
   have hyb : y.toNat ≤ 255 := by have := y.toNat_lt; omega
   clear hm hmod
   generalize leB n j = bs at *
   go_wp2_with (first
    | fail
    | (at_builtin; refine wpList_app1 (enc := encB) rfl (.tmp 13) (.tmp 17) 182 5 rfl Tryz.underlying182 rfl (by omega) (fun _ => rfl) infoByte wr w.heap.size _ bs y rfl hown rfl (by omega) hs ?_; intro v4 w4 hown4 hb4))
   go_roundw
   case rel => exact ⟨j + 1, by omega, by go_num, by rw [← HN.out]; go_num, by rw [HNX.out]; exact hown4, HB.out.trans hb4⟩
   case measure => simp [intOf]; omega
  ·obtain rfl : j = k := by omega
   have i1 : ¬ (j : Int) < (j : Int) := by omega
   have hcv := convert_own hown
   have HB := hd_ hb
   clear hb
   go_wp2_with fail
   go_ret
   exact ⟨rfl, HB.out⟩
end Go.Proofs.YtnnabkldceklmaaGreatDoor
/- The reference's Stamped walked, at a stamp of four bytes. -/
namespace Go.Proofs.YtnnabkldceklmaaGreatDoor
open Go.RowKit
theorem make_bytesF (n : Nat) (hn : n ≤ 1048576) (w : World) : (Instr.makeSlice 182 (.int .i64 (n : Int)) (.int .i64 (n : Int))).run Tryz.prog w = .ok (.slice (some ⟨w.heap.size, 0, none⟩) n n) (w.alloc (.cells (Array.replicate n (.int .u8 0)) 5)) :=
 by simpa [encB] using make_row (P := Tryz.prog) encB 0 182 5 Tryz.underlying182 (by omega) rfl (by kernel_rfl : (Tryz.prog.info? 5).map (fun i => (i.zero, i.size, i.bytes)) = some (some (.int .u8 0), 1, 1)) n hn w
theorem convert_madeF (n : Nat) (hn : n ≤ 1048576) (w : World) : (convert 182 9 (.slice (some ⟨w.heap.size, 0, none⟩) n n)).run Tryz.prog (w.alloc (.cells (Array.replicate n (.int .u8 0)) 5)) = .ok (.string (mkB (List.replicate n 0))) (w.alloc (.cells (Array.replicate n (.int .u8 0)) 5)) := by
 have h := convert_own (w := w.alloc (.cells (Array.replicate n (.int .u8 0)) 5)) (base := w.heap.size) (v := .slice (some ⟨w.heap.size, 0, none⟩) n n) (xs := List.replicate n (0 : UInt8)) ⟨⟨some ⟨w.heap.size, 0, none⟩, n, by simp⟩, ?_⟩
 ·exact h
 have := World.ownsRow_lit (base := w.heap.size) (e := 5) (size := 1) w (Array.replicate n (.int .u8 0)) n (Nat.le_refl _) (by unfold maxLen; omega) (by simp)
 simpa [encB] using this
theorem specStamped_any (s b : ByteArray) (hs : s.size = 4) (hb : b.size ≤ 1000) (w : World) :
  Calls Tryz.prog 102 #[.string s, .string b, .int .i64 1700] w fun e w' => e = .returned (.string (s ++ b ++ mkB (List.replicate (1692 - b.size) 0) ++ s)) ∧ Below w.heap.size w w' := by
 have HM := hd_ (make_bytesF (1692 - b.size) (by omega) w)
 have HC := hd_ (convert_madeF (1692 - b.size) (by omega) w)
 have hZ : (mkB (List.replicate (1692 - b.size) 0)).size = 1692 - b.size := by
  show (List.replicate (1692 - b.size) (0 : UInt8)).toArray.size = _
  rw [List.size_toArray, List.length_replicate]
 have hi : (1692 : Int) - (b.size : Int) = ((1692 - b.size : Nat) : Int) := by omega
 have hi2 : (1700 : Int) - 8 - (b.size : Int) = ((1692 - b.size : Nat) : Int) := by omega
 have hs4 : (s.size : Int) = 4 := by omega
 have HB := hd_ ((Below.refl w.heap.size w).alloc (Nat.le_refl _) (.cells (Array.replicate (1692 - b.size) (.int .u8 0)) 5))
 have hn : 1692 - b.size ≤ 1692 := by omega
 generalize 1692 - b.size = n at *
 generalize mkB (List.replicate n 0) = Z at *
 go_enter Tryz.func102, Tryz.ntmps102
 have hm := HM.out; have hc := HC.out
 go_wp2_with fail
 go_ret
 exact ⟨rfl, HB.out⟩
end Go.Proofs.YtnnabkldceklmaaGreatDoor
