/- The program's readers of keys walked: getNumber, getString, GetSubs, KeyPlace. -/
import Derived.Test.YtnnabkldceklmaaGreatDoorJoinBTBa
set_option maxHeartbeats 16000000
set_option maxRecDepth 100000
namespace Go.Proofs.YtnnabkldceklmaaGreatDoor
open Go.RowKit
theorem isNum_no (n : Int) (hn : maxNum < n.natAbs) (w : World) : Calls Tryz.prog 265 #[.int .i64 n] w fun e w' => e = .returned (.bool false) ∧ w = w' := by
 unfold maxNum at hn
 have HW := hd_ (show ∀ W : World, Calls Tryz.prog 52 #[.int .i64 n, .int .i64 (-999999999999999999), .int .i64 999999999999999999] W fun e w' => e = .returned (.bool false) ∧ W = w' from fun W => by
  by_cases h1 : -999999999999999999 ≤ n
  ·have h2 : ¬ n ≤ 999999999999999999 := by omega
   clear hn
   go_enter Tryz.func52, Tryz.ntmps52
   go_wp2_with fail
   go_ret
   exact ⟨rfl, rfl⟩
  ·clear hn
   go_enter Tryz.func52, Tryz.ntmps52
   go_wp2_with fail
   go_ret
   exact ⟨rfl, rfl⟩)
 clear hn
 go_enter Tryz.func265, Tryz.ntmps265
 go_wp2_with (first | fail | (refine (HW.out _).mono ?_; rintro e1 w1 ⟨rfl, rfl⟩))
 go_ret
 exact ⟨rfl, rfl⟩
theorem numTextI_any (n : Int) (w : World) (hT : TabsIn w) : Calls Tryz.prog 255 #[.int .i64 n] w fun e w' => e = .returned (.string (mkB (numI n))) ∧ Below w.heap.size w w' := by
 by_cases h : n.natAbs ≤ maxNum
 ·have e : numI n = numText n := by unfold numI; rw [if_pos h]
  rw [e]
  exact numText_any n h w hT
 ·have e : numI n = [] := by unfold numI; rw [if_neg h]
  rw [e]
  have HI := hd_ (fun W => isNum_no n (by omega) W)
  clear h e
  go_enter Tryz.func255, Tryz.ntmps255
  go_wp2_with fail
  refine (HI.out _).mono ?_; rintro e1 w1 ⟨rfl, rfl⟩
  go_wp2_with fail
  go_ret
  exact ⟨rfl, Below.refl _ _⟩
def pairV : Option (List UInt8 × List UInt8) → Value
 | some p => .tuple #[.string (mkB p.1), .string (mkB p.2), .bool true]
 | none => .tuple #[.string ⟨#[]⟩, .string ⟨#[]⟩, .bool false]
theorem extn_drop (s : ByteArray) (k : Nat) : s.extract k s.size = mkB (s.data.toList.drop k) := by
 have h := mkB_self (s.extract k s.size)
 rw [← h]
 congr 1
 rw [ByteArray.data_extract, Array.toList_extract, List.extract_eq_take_drop]
 refine List.take_of_length_le ?_
 rw [List.length_drop, Array.length_toList]
 exact Nat.le_refl _
theorem extn_take (s : ByteArray) (k : Nat) : s.extract 0 k = mkB (s.data.toList.take k) := by
 have h := mkB_self (s.extract 0 k)
 rw [← h]
 congr 1
 rw [ByteArray.data_extract, Array.toList_extract, List.extract_eq_take_drop, List.drop_zero, Nat.sub_zero]
theorem val256_lt : ∀ (k : Nat) (l : List UInt8), val256 (l.take k) < 256 ^ k
 | 0, l => by rw [List.take_zero]; exact Nat.one_pos
 | k + 1, l => by
  have ih := val256_lt k l
  rw [Nat.pow_succ]
  by_cases h : k < l.length
  ·rw [List.take_succ_eq_append_getElem h, val256_snoc]
   have := l[k].toNat_lt
   omega
  ·rw [List.take_of_length_le (by omega)]
   rw [List.take_of_length_le (by omega)] at ih
   omega
theorem val256_at (s : ByteArray) (k : Nat) (h : k < s.size) : val256 (s.data.toList.take (k + 1)) = 256 * val256 (s.data.toList.take k) + s[k].toNat := by
 have hl : k < s.data.toList.length := by simpa using h
 rw [List.take_succ_eq_append_getElem hl, val256_snoc]
 rfl
theorem getNumber_any (s : ByteArray) (hs : s.size ≤ 1000000000) (w : World) (hT : TabsIn w) :
  Calls Tryz.prog 241 #[.string s] w fun e w' => e = .returned (pairV (getNum s.data.toList)) ∧ Below w.heap.size w w' := by
 have hl : s.data.toList.length = s.size := by simp
 by_cases h8 : s.size < 8
 ·have i8 : (s.size : Int) < 8 := by omega
  have HQ := hd_ (show getNum s.data.toList = none by unfold getNum; rw [if_pos (by omega)])
  rw [HQ.out]
  clear hl h8
  go_enter Tryz.func241, Tryz.ntmps241
  go_wp2_with fail
  go_ret3
  exact ⟨rfl, Below.refl _ _⟩
 ·have i8 : ¬ (s.size : Int) < 8 := by omega
  obtain ⟨V, hV⟩ : ∃ V, V = val256 (s.data.toList.take 8) := ⟨_, rfl⟩
  have HV := hd_ hV
  have HQ := hd_ (show getNum s.data.toList = if 2 * encZ < V then none else some (numI ((V : Int) - encZ), s.data.toList.drop 8) by unfold getNum; rw [if_neg (by omega), ← hV])
  have HT := hd_ hT
  clear hl hV hT
  go_enter Tryz.func241, Tryz.ntmps241
  go_wp2_with fail
  go_loopw [5, 10] (fun z i wr => ∃ k : Nat, k ≤ 8 ∧ i = .int .i64 k ∧ z = .int .u64 (val256 (s.data.toList.take k) : Nat) ∧ w = wr) (fun _ i _ => 8 - (intOf i).toNat)
  case atStart => exact ⟨0, Nat.zero_le _, rfl, rfl, rfl⟩
  case round =>
   obtain ⟨k, hk, rfl, rfl, rfl⟩ := hrel
   by_cases hlt : k < 8
   ·have i1 : (k : Int) < 8 := by omega
    have hks : k < s.size := by omega
    have i2 : (k : Int) < (s.size : Int) := by omega
    have HN := hd_ (val256_at s k hks)
    have hv : val256 (s.data.toList.take k) ≤ 72057594037927935 := by
     have h1 := val256_lt k s.data.toList
     have h2 : 256 ^ k ≤ 256 ^ 7 := Nat.pow_le_pow_right (by decide) (by omega)
     have h3 : (256 : Nat) ^ 7 = 72057594037927936 := by decide
     omega
    have hc : s[k].toNat ≤ 255 := by have := s[k].toNat_lt; omega
    generalize val256 (s.data.toList.take k) = v at *
    go_wp2_with fail
    go_roundw
    case rel => exact ⟨k + 1, by omega, by go_num, by rw [HN.out]; go_num, by trivial⟩
    case measure => simp [intOf]; omega
   ·obtain rfl : k = 8 := by omega
    rw [← HV.out]
    have i1 : ¬ ((8 : Nat) : Int) < 8 := by omega
    by_cases hbig : 2000000000000000000 < V
    ·have i2 : (2000000000000000000 : Int) < (V : Int) := by omega
     have HR := hd_ (show getNum s.data.toList = none by rw [HQ.out, if_pos (by unfold encZ; omega)])
     go_wp2_with fail
     go_ret3
     exact ⟨by rw [HR.out]; rfl, Below.refl _ _⟩
    ·have i2 : ¬ (2000000000000000000 : Int) < (V : Int) := by omega
     have HR := hd_ (show getNum s.data.toList = some (numI ((V : Int) - 1000000000000000000), s.data.toList.drop 8) by rw [HQ.out, if_neg (by unfold encZ; omega)]; rfl)
     have HX := hd_ (extn_drop s 8)
     have HNT := hd_ (numTextI_any ((V : Int) - 1000000000000000000) w.drew HT.out)
     have hVn : (V : Int) ≤ 2000000000000000000 := by omega
     have k1 : IntKind.i64.wrap (V : Int) = (V : Int) := IntWalk.i64_in _ (by omega)
     have k2 : IntKind.i64.wrap ((V : Int) - 1000000000000000000) = (V : Int) - 1000000000000000000 := IntWalk.i64_in _ (by omega)
     go_upto_region 11 with fail
     refine AnyT.region (fun _ => false) (fun _ => True) (by kernel_rfl) trivial (fun hHeld => ?_)
     (refine tA 0 23 ?_; simp only [pz])
     (refine tA 1 24 ?_; simp only [pz])
     (refine tA 2 25 ?_; simp only [pz])
     (refine tA 4 27 ?_; simp only [pz])
     (refine tA 5 28 ?_; simp only [pz])
     refine oNe 3 fun K hK => ?_
     go_simp
     refine HNT.out.mono ?_
     rintro e1 w1 ⟨rfl, hb1⟩
     go_simp
     have HB1 := hd_ (show Below w.heap.size w w1 from (below_drewN' w 1).trans hb1)
     refine hK.out _ _ trivial (fun hHeld => ?_)
     clear hK K hb1 HNT
     (try simp only [pz])
     (refine tA 6 2 ?_; simp only [pz])
     (refine tA 7 3 ?_; simp only [pz])
     (refine tA 8 4 ?_; simp only [pz])
     refine AnyT.done (by kernel_rfl) ?_ _
     clear hHeld
     go_wp2_with fail
     go_ret3
     exact ⟨by rw [HR.out, HX.out]; rfl, HB1.out⟩
theorem getStr_go (acc : List UInt8) (c d : UInt8) (r : List UInt8) (h : c ≠ 0) : getStr acc (c :: d :: r) = getStr (acc ++ [c]) (d :: r) := by rw [getStr, if_pos h]
theorem getStr_end (acc : List UInt8) (r : List UInt8) : getStr acc (0 :: 0 :: r) = some (acc, r) := by rw [getStr, if_neg (by simp), if_pos rfl]
theorem getStr_nul (acc : List UInt8) (r : List UInt8) : getStr acc (0 :: 255 :: r) = getStr (acc ++ [0]) r := by rw [getStr, if_neg (by simp), if_neg (by decide), if_pos rfl]
theorem getStr_bad (acc : List UInt8) (d : UInt8) (r : List UInt8) (h0 : d ≠ 0) (h1 : d ≠ 255) : getStr acc (0 :: d :: r) = none := by rw [getStr, if_neg (by simp), if_neg h0, if_neg h1]
theorem getStr_short (acc l : List UInt8) (h : l.length ≤ 1) : getStr acc l = none := by
 rcases l with _ | ⟨c, _ | ⟨d, r⟩⟩
 ·rfl
 ·rfl
 ·simp at h
theorem getStr_len : ∀ (l acc : List UInt8) (p : List UInt8 × List UInt8), getStr acc l = some p → p.2.length < l.length ∧ p.1.length ≤ acc.length + l.length
 | [], acc, p, h => by cases h
 | [c], acc, p, h => by cases h
 | c :: d :: r, acc, p, h => by
  by_cases hc : c = 0
  ·subst hc
   by_cases h0 : d = 0
   ·subst h0
    rw [getStr_end] at h
    injection h with h
    subst h
    simp
    omega
   ·by_cases h1 : d = 255
    ·subst h1
     rw [getStr_nul] at h
     have := getStr_len r _ p h
     simp at this ⊢
     omega
    ·rw [getStr_bad _ _ _ h0 h1] at h
     cases h
  ·rw [getStr_go _ _ _ _ hc] at h
   have := getStr_len (d :: r) _ p h
   simp at this ⊢
   omega
theorem getString_any (s : ByteArray) (hs : s.size ≤ 1048576) (w : World) :
  Calls Tryz.prog 242 #[.string s] w fun e w' => e = .returned (pairV (getStr [] s.data.toList)) ∧ Below w.heap.size w w' := by
 obtain ⟨R, hR⟩ : ∃ R, R = getStr [] s.data.toList := ⟨_, rfl⟩
 rw [← hR]
 have HR := hd_ hR
 clear hR
 have hbn := hd_ (bld_new w)
 have HB0 := hd_ ((Below.refl w.heap.size w).alloc (Nat.le_refl _) (.cells #[.pointer none, .slice none 0 0] 207))
 go_enter Tryz.func242, Tryz.ntmps242
 go_wp2_with fail
 go_loopw [6] (fun i wr => ∃ (k : Nat) (b : List UInt8), k ≤ s.size ∧ i = .int .i64 k ∧ Bld wr w.heap.size b ∧ b.length ≤ k ∧ getStr b (s.data.toList.drop k) = R ∧ Below w.heap.size w wr) (fun i _ => s.size + 1 - (intOf i).toNat)
 case atStart => exact ⟨0, [], Nat.zero_le _, rfl, hbn.out, Nat.le_refl _, by rw [HR.out, List.drop_zero], HB0.out⟩
 case round =>
  obtain ⟨k, b, hk, rfl, hbl, hln, hq, hb⟩ := hrel
  have HBL := hd_ hbl; have HB := hd_ hb
  have hsz := hb.size
  clear hb hbl
  by_cases hlt : k + 1 < s.size
  ·have i1 : (k : Int) + 1 < (s.size : Int) := by omega
   have i0 : (k : Int) < (s.size : Int) := by omega
   have j0 : (0 : Int) ≤ (k : Int) + 1 := by omega
   have j1 : ((k : Int) + 1).toNat = k + 1 := by omega
   rw [drop_at s k (by omega), drop_at s (k + 1) hlt] at hq
   by_cases hc : s[k] = 0
   ·have q0 : ((s[k].toNat : Int) == 0) = true := by rw [hc]; rfl
    rw [hc] at hq
    by_cases h0 : s[k + 1] = 0
    ·have q1 : ((s[k + 1].toNat : Int) == 0) = true := by rw [h0]; rfl
     rw [h0, getStr_end] at hq
     have HQ := hd_ hq
     have HW := hd_ (bldText w.heap.size b wr.drew HBL.out (show w.heap.size ≤ wr.heap.size from hsz))
     have HX := hd_ (extn_drop s (k + 1 + 1))
     have m1 : IntKind.i64.wrap ((k : Int) + 2) = (k : Int) + 2 := IntWalk.i64_in _ (by omega)
     have m2 : ((k : Int) + 2).toNat = k + 1 + 1 := by omega
     have m3 : ¬ (s.size : Int) < (k : Int) + 2 := by omega
     have m4 : (0 : Int) ≤ (k : Int) + 2 := by omega
     clear hq hc h0
     go_upto_region 10 with fail
     refine AnyT.region (fun _ => false) (fun _ => True) (by kernel_rfl) trivial (fun hHeld => ?_)
     (refine tA 1 29 ?_; simp only [pz])
     (refine tA 2 30 ?_; simp only [pz])
     (refine tA 3 31 ?_; simp only [pz])
     refine AnyT.takeAny 4 32 (.string (s.extract (k + 1 + 1) s.size)) rfl (by kernel_rfl) (by kernel_rfl) (by kernel_rfl) rfl rfl (fun _ _ _ _ h => h) rfl (fun W => by go_simp) (by assumption) ?_
     simp only [pz]
     refine oNe 0 fun K hK => ?_
     go_simp
     refine HW.out.mono ?_
     rintro e1 w1 ⟨rfl, hb1⟩
     go_simp
     have HB1 := hd_ (show Below w.heap.size w w1 from HB.out.trans (((below_drewN' wr 1).mono hsz).trans hb1))
     refine hK.out _ _ trivial (fun hHeld => ?_)
     clear hK K hb1 HW
     (try simp only [pz])
     (refine tA 5 2 ?_; simp only [pz])
     (refine tA 6 3 ?_; simp only [pz])
     (refine tA 7 4 ?_; simp only [pz])
     refine AnyT.done (by kernel_rfl) ?_ _
     clear hHeld
     go_wp2_with fail
     go_ret3
     exact ⟨by rw [← HQ.out, HX.out]; rfl, HB1.out⟩
    ·have q1 : ((s[k + 1].toNat : Int) == 0) = false := by rw [beq_eq_false_iff_ne]; exact fun e => h0 (u8_eq (by have : s[k + 1].toNat = 0 := (by omega); rw [this]; rfl))
     by_cases h2 : s[k + 1] = 255
     ·have q2 : ((s[k + 1].toNat : Int) == 255) = true := by rw [h2]; rfl
      rw [h2, getStr_nul] at hq
      have HQ := hd_ hq
      have HW := hd_ (bldByte w.heap.size b 0 wr HBL.out (by omega) hsz)
      clear hq hc h0 h2
      go_wp2_with fail
      refine HW.out.mono ?_; rintro e1 w1 ⟨rfl, hb1, hbb⟩
      go_wp2_with fail
      go_roundw
      case rel => exact ⟨k + 2, b ++ [0], by omega, by go_num, hb1, by rw [List.length_append]; simp only [List.length_cons, List.length_nil]; omega, HQ.out, HB.out.trans hbb⟩
      case measure => simp [intOf]; omega
     ·have q2 : ((s[k + 1].toNat : Int) == 255) = false := by rw [beq_eq_false_iff_ne]; exact fun e => h2 (u8_eq (by have : s[k + 1].toNat = 255 := (by omega); rw [this]; rfl))
      rw [getStr_bad _ _ _ h0 h2] at hq
      have HQ := hd_ hq
      clear hq hc h0 h2
      go_wp2_with fail
      go_ret3
      exact ⟨by rw [← HQ.out]; rfl, HB.out⟩
   ·have q0 : ((s[k].toNat : Int) == 0) = false := by rw [beq_eq_false_iff_ne]; exact fun e => hc (u8_eq (by have : s[k].toNat = 0 := (by omega); rw [this]; rfl))
    rw [getStr_go _ _ _ _ hc, ← drop_at s (k + 1) hlt] at hq
    have HQ := hd_ hq
    have HW := hd_ (bldByte w.heap.size b s[k] wr HBL.out (by omega) hsz)
    clear hq hc
    go_wp2_with fail
    refine HW.out.mono ?_; rintro e1 w1 ⟨rfl, hb1, hbb⟩
    go_wp2_with fail
    go_roundw
    case rel => exact ⟨k + 1, b ++ [s[k]], by omega, by go_num, hb1, by rw [List.length_append]; simp only [List.length_cons, List.length_nil]; omega, HQ.out, HB.out.trans hbb⟩
    case measure => simp [intOf]; omega
  ·have i1 : ¬ (k : Int) + 1 < (s.size : Int) := by omega
   rw [getStr_short _ _ (by rw [List.length_drop, Array.length_toList]; show s.size - k ≤ 1; omega)] at hq
   have HQ := hd_ hq
   clear hq
   go_wp2_with fail
   go_ret3
   exact ⟨by rw [← HQ.out]; rfl, HB.out⟩
def lenV : Value → Nat
 | .slice _ n _ => n
 | _ => 0
theorem getNum_len {l : List UInt8} {p : List UInt8 × List UInt8} (h : getNum l = some p) : p.2.length ≤ l.length := by
 unfold getNum at h
 split at h
 ·cases h
 ·split at h
  ·cases h
  ·injection h with h
   subst h
   rw [List.length_drop]; omega
theorem getStr_len' {l : List UInt8} {p : List UInt8 × List UInt8} (h : getStr [] l = some p) : p.2.length ≤ l.length := by
 have := getStr_len l [] p h
 omega
theorem getP_none {l : List UInt8} {G : Option (List (List UInt8))} (hG : G = getAll 5 [] l) (h : G = none) : getP l = none := by
 unfold getP
 rw [← hG, h]
theorem getP_of {l : List UInt8} {G : Option (List (List UInt8))} {acc : List ByteArray} (hG : G = getAll 5 [] l) (h : G = some (acc.map fun x => x.data.toList)) : getP l = if subsB acc ∧ putAll acc = l then some acc else none := by
 have e : (acc.map fun x => x.data.toList).map mkB = acc := by
  rw [List.map_map]
  conv => rhs; rw [← List.map_id acc]
  exact List.map_congr_left fun x _ => mkB_self x
 unfold getP
 rw [← hG, h]
 show (if subsB (List.map mkB _) ∧ putAll (List.map mkB _) = _ then some (List.map mkB _) else none) = _
 rw [e]
theorem getAll_one (k : Nat) (acc : List (List UInt8)) (c : UInt8) (l : List UInt8) : getAll (k + 1) acc (c :: l) = match getOne (c :: l) with
  | none => none
  | some (x, r) => getAll k (acc ++ [x]) r := by
 rw [getAll, if_neg (by simp)]
 cases getOne (c :: l) <;> rfl
theorem exit_test (RB : ByteArray) (acc : List ByteArray) (h : ¬ (RB.data.toList ≠ [] ∧ acc.length < 5)) (ha : acc.length ≤ 5) : (RB.toList == []) = true ∨ ((RB.toList == []) = false ∧ acc.length = 5) := by
 by_cases h1 : RB.data.toList = []
 ·left
  rw [beq_iff_eq, ByteArray.toList_eq, h1]
 ·right
  refine ⟨?_, ?_⟩
  ·rw [beq_eq_false_iff_ne, ByteArray.toList_eq]; exact h1
  ·by_cases h2 : acc.length < 5
   ·exact absurd ⟨h1, h2⟩ h
   ·omega
theorem getSubs_any (s : ByteArray) (hs : s.size ≤ 1048576) (w : World) (hE : EnvIn w) :
  Calls Tryz.prog 228 #[.string s] w fun e w' => ∃ v, e = .returned (.tuple #[v, .bool (getP s.data.toList).isSome]) ∧ (getP s.data.toList = none → v = .slice none 0 0) ∧ (∀ xs, getP s.data.toList = some xs → OwnStrs w' w.heap.size 9 v xs) ∧ Below w.heap.size w w' := by
 obtain ⟨G, hG⟩ : ∃ G, G = getAll 5 [] s.data.toList := ⟨_, rfl⟩
 have HG := hd_ hG
 have HE := hd_ hE
 have hown0 : OwnStrs (w.alloc (.cells #[] 9)) w.heap.size 9 (.slice (some ⟨w.heap.size, 0, none⟩) 0 0) [] := OwnR.none_ (enc := Value.string) w w.heap.size 9 (Nat.le_refl _)
 have HO0 := hd_ hown0
 have HB0 := hd_ ((Below.refl w.heap.size w).alloc (Nat.le_refl _) (.cells #[] 9))
 clear hG hE hown0
 go_enter Tryz.func228, Tryz.ntmps228
 go_wp2_with fail
 go_loopw [4, 5] (fun v t wr => ∃ (acc : List ByteArray) (RB : ByteArray), acc.length ≤ 5 ∧ t = .string RB ∧ OwnStrs wr w.heap.size 9 v acc ∧ RB.size ≤ s.size ∧ Hid (getAll (5 - acc.length) (acc.map fun x => x.data.toList) RB.data.toList = G) ∧ Below w.heap.size w wr) (fun v _ _ => 5 - lenV v)
 case atStart => exact ⟨[], s, Nat.zero_le _, rfl, HO0.out, Nat.le_refl _, hd_ HG.out.symm, HB0.out⟩
 case round =>
  obtain ⟨acc, RB, ha5, rfl, hown, hrs, hG1, hb⟩ := hrel
  have hsz := hb.size
  have HB := hd_ hb
  have hlv : Hid (lenV u4 = acc.length) := by obtain ⟨⟨A4, c4, rfl⟩, _⟩ := hown; exact hd_ rfl
  clear hb
  obtain ⟨⟨AL, cL, rfl⟩, _⟩ := id hown
  by_cases hmore : RB.data.toList ≠ [] ∧ acc.length < 5
  ·obtain ⟨hne, h5⟩ := hmore
   obtain ⟨c, l', hcl⟩ : ∃ c l', RB.data.toList = c :: l' := by
    cases h : RB.data.toList with
    | nil => exact absurd h hne
    | cons c l => exact ⟨c, l, rfl⟩
   have hRl : RB.data.toList.length = RB.size := by simp
   have hR0 : 0 < RB.size := by rw [← hRl, hcl]; simp
   have hRc : RB[0] = c := by
    have := get_list RB 0 hR0
    rw [hcl] at this
    injection this with this
    exact this.symm
   have hl' : l'.length + 1 = RB.size := by rw [← hRl, hcl]; rfl
   have HX1 := hd_ (show (RB.extract 1 RB.size).data.toList = l' by rw [extn_drop]; show RB.data.toList.drop 1 = l'; rw [hcl]; rfl)
   have hXs : (RB.extract 1 RB.size).size ≤ 1048576 := by
    have h1 : (RB.extract 1 RB.size).data.toList.length = (RB.extract 1 RB.size).size := by simp
    rw [HX1.out] at h1; omega
   have hq := hG1.out
   rw [hcl, show 5 - acc.length = (4 - acc.length) + 1 by omega, getAll_one] at hq
   have i5 : (acc.length : Int) ≤ 4 := by omega
   have q0 : (RB.toList == []) = false := by
    rw [beq_eq_false_iff_ne]
    intro h
    apply hne
    have h1 := bytes_eq [] RB
    rw [h] at h1
    exact (of_decide_eq_true (h1.symm.trans (by decide +kernel))).symm
   have i0 : (0 : Int) < (RB.size : Int) := by omega
   clear hne hRl hcl hG1
   by_cases h1 : c = 1
   ·have q1 : ((RB[0].toNat : Int) == 1) = true := by rw [hRc, h1]; rfl
    subst h1
    rw [show getOne (1 :: l') = getNum l' by rw [getOne, if_pos rfl]] at hq
    have HW := hd_ (getNumber_any (RB.extract 1 RB.size) (by omega) wr (HE.out.below HB.out).1)
    rw [HX1.out] at HW
    clear hRc HX1 hXs
    cases hg : getNum l' with
    | none =>
     rw [hg] at HW hq
     have HQ := hd_ (getP_none HG.out (show G = none from hq.symm))
     change Hid (Calls _ _ _ _ fun e w' => e = .returned (.tuple #[.string ⟨#[]⟩, .string ⟨#[]⟩, .bool false]) ∧ _) at HW
     clear hq hg
     go_wp2_with fail
     refine HW.out.mono ?_; rintro e1 w1 ⟨rfl, hb1⟩
     have hs1 := Nat.le_trans hsz hb1.size
     have hown1 := hown.below hb1
     have HB1 := hd_ (HB.out.trans (hb1.mono hsz))
     clear hb1 HW hown
     go_wp2_with fail
     go_ret2
     rw [HQ.out]
     exact ⟨_, rfl, fun _ => rfl, fun xs h => (by cases h), HB1.out⟩
    | some p =>
     rw [hg] at HW hq
     have hpl : p.2.length ≤ l'.length := getNum_len hg
     have HQ := hd_ (show getAll (5 - (acc ++ [mkB p.1]).length) ((acc ++ [mkB p.1]).map fun x => x.data.toList) (mkB p.2).data.toList = G by
      rw [← hq, List.length_append, List.map_append, show 5 - (acc.length + [mkB p.1].length) = 4 - acc.length by simp only [List.length_cons, List.length_nil]; omega]; rfl)
     have hps : (mkB p.2).size ≤ s.size := by show p.2.toArray.size ≤ _; rw [List.size_toArray]; omega
     clear hq hg hpl
     change Hid (Calls _ _ _ _ fun e w' => e = .returned (.tuple #[.string (mkB p.1), .string (mkB p.2), .bool true]) ∧ _) at HW
     generalize mkB p.1 = X at *
     generalize mkB p.2 = R2 at *
     go_wp2_with fail
     refine HW.out.mono ?_; rintro e1 w1 ⟨rfl, hb1⟩
     have hs1 := Nat.le_trans hsz hb1.size
     have hown1 := hown.below hb1
     have HB1 := hd_ (HB.out.trans (hb1.mono hsz))
     clear hb1 HW hown
     go_wp2_with (first
      | fail
      | (at_builtin; refine wpList_app1 (enc := Value.string) rfl (.tmp 39) (.tmp 41) 22 9 rfl Tryz.underlying22 rfl (by omega) (fun _ => rfl) infoTxt w1 w.heap.size _ acc X rfl hown1 rfl (by omega) hs1 ?_; intro v4 w4 hown4 hb4))
     go_roundw
     case rel => exact ⟨acc ++ [X], R2, by rw [List.length_append]; simp only [List.length_cons, List.length_nil]; omega, rfl, hown4, hps, HQ, HB1.out.trans hb4⟩
     case measure => (obtain ⟨⟨A4, c4, rfl⟩, _⟩ := hown4; have h9 := hlv.out; simp only [lenV, List.length_append, List.length_cons, List.length_nil] at h9 ⊢; try omega)
   ·have q1 : ((RB[0].toNat : Int) == 1) = false := by rw [hRc, beq_eq_false_iff_ne]; exact fun e => h1 (u8_eq (by have : c.toNat = 1 := (by omega); rw [this]; rfl))
    by_cases h2 : c = 2
    ·have q2 : ((RB[0].toNat : Int) == 2) = true := by rw [hRc, h2]; rfl
     subst h2
     rw [show getOne (2 :: l') = getStr [] l' by rw [getOne, if_neg (by decide), if_pos rfl]] at hq
     have HW := hd_ (getString_any (RB.extract 1 RB.size) hXs wr)
     rw [HX1.out] at HW
     clear hRc HX1 hXs h1
     cases hg : getStr [] l' with
     | none =>
      rw [hg] at HW hq
      have HQ := hd_ (getP_none HG.out (show G = none from hq.symm))
      change Hid (Calls _ _ _ _ fun e w' => e = .returned (.tuple #[.string ⟨#[]⟩, .string ⟨#[]⟩, .bool false]) ∧ _) at HW
      clear hq hg
      go_wp2_with fail
      refine HW.out.mono ?_; rintro e1 w1 ⟨rfl, hb1⟩
      have hs1 := Nat.le_trans hsz hb1.size
      have hown1 := hown.below hb1
      have HB1 := hd_ (HB.out.trans (hb1.mono hsz))
      clear hb1 HW hown
      go_wp2_with fail
      go_ret2
      rw [HQ.out]
      exact ⟨_, rfl, fun _ => rfl, fun xs h => (by cases h), HB1.out⟩
     | some p =>
      rw [hg] at HW hq
      have hpl : p.2.length ≤ l'.length := getStr_len' hg
      have HQ := hd_ (show getAll (5 - (acc ++ [mkB p.1]).length) ((acc ++ [mkB p.1]).map fun x => x.data.toList) (mkB p.2).data.toList = G by
       rw [← hq, List.length_append, List.map_append, show 5 - (acc.length + [mkB p.1].length) = 4 - acc.length by simp only [List.length_cons, List.length_nil]; omega]; rfl)
      have hps : (mkB p.2).size ≤ s.size := by show p.2.toArray.size ≤ _; rw [List.size_toArray]; omega
      clear hq hg hpl
      change Hid (Calls _ _ _ _ fun e w' => e = .returned (.tuple #[.string (mkB p.1), .string (mkB p.2), .bool true]) ∧ _) at HW
      generalize mkB p.1 = X at *
      generalize mkB p.2 = R2 at *
      go_wp2_with fail
      refine HW.out.mono ?_; rintro e1 w1 ⟨rfl, hb1⟩
      have hs1 := Nat.le_trans hsz hb1.size
      have hown1 := hown.below hb1
      have HB1 := hd_ (HB.out.trans (hb1.mono hsz))
      clear hb1 HW hown
      go_wp2_with (first
       | fail
       | (at_builtin; refine wpList_app1 (enc := Value.string) rfl (.tmp 39) (.tmp 41) 22 9 rfl Tryz.underlying22 rfl (by omega) (fun _ => rfl) infoTxt w1 w.heap.size _ acc X rfl hown1 rfl (by omega) hs1 ?_; intro v4 w4 hown4 hb4))
      go_roundw
      case rel => exact ⟨acc ++ [X], R2, by rw [List.length_append]; simp only [List.length_cons, List.length_nil]; omega, rfl, hown4, hps, HQ, HB1.out.trans hb4⟩
      case measure => (obtain ⟨⟨A4, c4, rfl⟩, _⟩ := hown4; have h9 := hlv.out; simp only [lenV, List.length_append, List.length_cons, List.length_nil] at h9 ⊢; try omega)
    ·have q2 : ((RB[0].toNat : Int) == 2) = false := by rw [hRc, beq_eq_false_iff_ne]; exact fun e => h2 (u8_eq (by have : c.toNat = 2 := (by omega); rw [this]; rfl))
     rw [show getOne (c :: l') = none by rw [getOne, if_neg h1, if_neg h2]] at hq
     have HQ := hd_ (getP_none HG.out (show G = none from hq.symm))
     clear hq hRc h1 h2 HX1 hXs hown
     go_wp2_with fail
     go_ret2
     rw [HQ.out]
     exact ⟨_, rfl, fun _ => rfl, fun xs h => (by cases h), HB.out⟩
  ·have hsome : G = some (acc.map fun x => x.data.toList) := by
    rw [← hG1.out]
    by_cases h5 : acc.length < 5
    ·have hne : RB.data.toList = [] := by
      by_cases h : RB.data.toList = []
      ·exact h
      ·exact absurd ⟨h, h5⟩ hmore
     rw [hne, show 5 - acc.length = (4 - acc.length) + 1 by omega, getAll, if_pos rfl]
    ·rw [show 5 - acc.length = 0 by omega, getAll]
   have hP := getP_of HG.out hsome
   have HP := hd_ hP
   have hstr : StrR wr w.heap.size wr.heap.size AL acc.length acc := StrR.of_own hown.2
   have HC := hd_ (fun (W : World) (h : StrR W w.heap.size wr.heap.size AL acc.length acc) => implSubsOk_any AL acc.length cL w.heap.size wr.heap.size acc W h (by omega))
   have HSR := hd_ hstr
   have HOW := hd_ hown
   have HX := hd_ (exit_test RB acc hmore ha5)
   clear hG1 hP hown hstr hsome hmore hlv HO0 HB0
   rcases HX.out with q0 | ⟨q0, h5⟩
   ·cases hsb : subsB acc with
    | false =>
     have HPN := hd_ (show getP s.data.toList = none from by rw [HP.out, if_neg (by rw [hsb]; simp)])
     rw [hsb] at HC
     clear hsb
     go_wp2_with fail
     refine (HC.out _ HSR.out).mono ?_; rintro e1 w1 ⟨rfl, q, rfl⟩
     go_wp2_with fail
     go_ret2
     rw [HPN.out]
     exact ⟨_, rfl, fun _ => rfl, fun xs h => (by cases h), HB.out.trans ((below_drewN' wr q).mono hsz)⟩
    | true =>
     have hpp : putP acc = putAll acc := by unfold putP; rw [hsb, if_pos rfl]
     have HPS := hd_ (fun (W : World) (h : StrR W w.heap.size wr.heap.size AL acc.length acc) (h2 : wr.heap.size ≤ W.heap.size) (h3 : EnvIn W) => putSubs_any AL acc.length cL w.heap.size wr.heap.size acc W h h2 (by omega) h3)
     rw [hpp] at HPS
     rw [hsb] at HC
     have HEQ := hd_ (bytes_eq (putAll acc) s)
     generalize putAll acc = P at *
     clear hpp
     change Hid (((mkB P).toList == s.toList) = decide (P = s.data.toList)) at HEQ
     by_cases hp : P = s.data.toList
     ·skip
      have hq : ((mkB P).toList == s.toList) = true := by rw [HEQ.out]; exact decide_eq_true hp
      have HPN := hd_ (show getP s.data.toList = some acc from by rw [HP.out]; exact if_pos ⟨hsb, hp⟩)
      clear hp hsb HP
      generalize mkB P = PB at *
      go_wp2_with fail
      refine (HC.out _ HSR.out).mono ?_; rintro e1 w1 ⟨rfl, q, rfl⟩
      have HBQ := hd_ (HB.out.trans ((below_drewN' wr q).mono hsz))
      have HPU := hd_ (HPS.out (wr.drewN q) (HSR.out.below (below_drewN' wr q) (Nat.le_refl _)) (below_drewN' wr q).size (HE.out.below HBQ.out))
      have HOQ := hd_ (HOW.out.below (below_drewN' wr q))
      clear HPS HC HSR HOW
      generalize wr.drewN q = w1 at *
      go_wp2_with fail
      refine HPU.out.mono ?_; rintro e2 w2 ⟨rfl, hb2⟩
      have HO2 := hd_ (HOQ.out.below hb2)
      have HB2 := hd_ (HBQ.out.trans (hb2.mono HBQ.out.size))
      clear hb2 HPU HOQ HBQ
      go_wp2_with fail
      go_ret2
      rw [HPN.out]
      exact ⟨_, rfl, fun h => (by cases h), fun xs h => (by injection h with h; subst h; exact HO2.out), HB2.out⟩
     ·skip
      have hq : ((mkB P).toList == s.toList) = false := by rw [HEQ.out]; exact decide_eq_false hp
      have HPN := hd_ (show getP s.data.toList = none from by rw [HP.out]; exact if_neg fun h => hp h.2)
      clear hp hsb HP
      generalize mkB P = PB at *
      go_wp2_with fail
      refine (HC.out _ HSR.out).mono ?_; rintro e1 w1 ⟨rfl, q, rfl⟩
      have HBQ := hd_ (HB.out.trans ((below_drewN' wr q).mono hsz))
      have HPU := hd_ (HPS.out (wr.drewN q) (HSR.out.below (below_drewN' wr q) (Nat.le_refl _)) (below_drewN' wr q).size (HE.out.below HBQ.out))
      have HOQ := hd_ (HOW.out.below (below_drewN' wr q))
      clear HPS HC HSR HOW
      generalize wr.drewN q = w1 at *
      go_wp2_with fail
      refine HPU.out.mono ?_; rintro e2 w2 ⟨rfl, hb2⟩
      have HO2 := hd_ (HOQ.out.below hb2)
      have HB2 := hd_ (HBQ.out.trans (hb2.mono HBQ.out.size))
      clear hb2 HPU HOQ HBQ
      go_wp2_with fail
      go_ret2
      rw [HPN.out]
      exact ⟨_, rfl, fun _ => rfl, fun xs h => (by cases h), HB2.out⟩
   ·have hsb : subsB acc = false := by unfold subsB; rw [decide_eq_false (by omega)]; rfl
    have i5 : ¬ (acc.length : Int) ≤ 4 := by omega
    clear h5 HX
    have HPN := hd_ (show getP s.data.toList = none from by rw [HP.out, if_neg (by rw [hsb]; simp)])
    rw [hsb] at HC
    clear hsb
    go_wp2_with fail
    refine (HC.out _ HSR.out).mono ?_; rintro e1 w1 ⟨rfl, q, rfl⟩
    go_wp2_with fail
    go_ret2
    rw [HPN.out]
    exact ⟨_, rfl, fun _ => rfl, fun xs h => (by cases h), HB.out.trans ((below_drewN' wr q).mono hsz)⟩
end Go.Proofs.YtnnabkldceklmaaGreatDoor
