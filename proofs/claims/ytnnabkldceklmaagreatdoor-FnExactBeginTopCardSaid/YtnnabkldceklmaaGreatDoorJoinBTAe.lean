/- An operation of a site: its plain form, and how its value lies in memory. -/
import Derived.Test.YtnnabkldceklmaaGreatDoorJoinBTAb
import Derived.Test.YtnnabkldceklmaaGreatDoorJoinBTAc
import Derived.Lib.Replace
import Derived.Lib.SlTrimSet
import Derived.Lib.Bytealg
import Derived.Lib.IndexBytes
import Derived.Test.YtnnabkldceklmaaGreatDoorProg
import Derived.Lib.Split
import Derived.Lib.SplitLaws
import Derived.Deep.DeepCutAuto
import Derived.Deep.CutBlock
import Derived.Test.YtnnabkldceklmaaGreatDoorShelfM
import Derived.Test.YtnnabkldceklmaaGreatDoorShelfB
import Derived.Shelf.Strings.BuilderK
set_option maxHeartbeats 16000000
set_option maxRecDepth 100000
namespace Go.Proofs.YtnnabkldceklmaaGreatDoor
open Go.RowKit
structure Act where
 k : Int
 a : Int
 r : ByteArray
 l : ByteArray
 args : List ByteArray
 input : List ByteArray
 keep : List Int
def ActR (w : World) (lo hi : Nat) (v : Value) (x : Act) : Prop :=
 ∃ A c B d C e, v = .agg #[.int .i64 x.k, .int .i64 x.a, .string x.r, .string x.l, .slice A x.args.length c, .slice B x.input.length d, .slice C x.keep.length e] ∧
  StrR w lo hi A x.args.length x.args ∧ StrR w lo hi B x.input.length x.input ∧ IntR w lo hi C x.keep.length x.keep
theorem ActR.below {w w' : World} {lo hi B : Nat} {v : Value} {x : Act} (h : ActR w lo hi v x) (hb : Below B w w') (hB : hi ≤ B) : ActR w' lo hi v x := by
 obtain ⟨A, c, B', d, C, e, hv, h1, h2, h3⟩ := h
 exact ⟨A, c, B', d, C, e, hv, h1.below hb hB, h2.below hb hB, h3.below hb hB⟩
end Go.Proofs.YtnnabkldceklmaaGreatDoor
/- Walks: toSiteAct, szSiteAct, eqSiteAct. -/
namespace Go.Proofs.YtnnabkldceklmaaGreatDoor
open Go.RowKit
theorem szStringS_m (A : Option Addr) (n c lo hi : Nat) (left : Int) (xs : List ByteArray) (w : World) (ha : StrR w lo hi A n xs) (hn : n ≤ 9223372036854775807) (hl0 : 0 ≤ left) (hl : left ≤ 1048576) (hb : ∀ x ∈ xs, x.size ≤ 9223372036854775807) :
  Calls Tryz.prog 86 #[.slice A n c, .int .i64 left] w fun e w' => ∃ m, e = .returned (.int .i64 m) ∧ Left left (costStrs xs) m ∧ w = w' := by
 obtain ⟨k, rfl⟩ := Int.eq_ofNat_of_zero_le hl0
 refine (szStringS_any A n c lo hi k xs w ha hn (by omega) hb).mono fun e w' ⟨he, hw⟩ => ⟨_, he, ?_, hw.symm⟩
 unfold leftStrs Left costStrs
 split
 ·right; omega
 ·left; rfl
theorem szInt64S_m (A : Option Addr) (n c : Nat) (left : Int) (w : World) (hn : n ≤ 9223372036854775807) (hl0 : 0 ≤ left) (hl : left ≤ 1048576) :
  Calls Tryz.prog 35 #[.slice A n c, .int .i64 left] w fun e w' => ∃ m, e = .returned (.int .i64 m) ∧ Left left n m ∧ w = w' := by
 obtain ⟨k, rfl⟩ := Int.eq_ofNat_of_zero_le hl0
 refine (szInt64S_any A n c k w hn (by omega)).mono fun e w' ⟨he, hw⟩ => ⟨_, he, ?_, hw.symm⟩
 unfold leftInts Left
 split
 ·right; omega
 ·left; rfl
end Go.Proofs.YtnnabkldceklmaaGreatDoor
/- Numbers and printable forms, plainly: what the library's functions and the walks yield is what NumP says. -/
namespace Go.Proofs.YtnnabkldceklmaaGreatDoor
theorem u8_eq {c d : UInt8} (h : c.toNat = d.toNat) : c = d := UInt8.toNat_inj.1 h
theorem contains_sgn (c : UInt8) : ([43, 45] : List UInt8).contains c = isSgn c := by
 unfold isSgn
 rw [Bool.eq_iff_iff]
 simp only [List.contains_iff_mem, List.mem_cons, List.not_mem_nil, or_false, decide_eq_true_eq]
 constructor
 ·rintro (rfl | rfl)
  ·exact .inl rfl
  ·exact .inr rfl
 ·rintro (h | h)
  ·exact .inl (u8_eq h)
  ·exact .inr (u8_eq h)
theorem contains_dig (c : UInt8) : ([48, 49, 50, 51, 52, 53, 54, 55, 56, 57] : List UInt8).contains c = isDig c := by
 unfold isDig
 rw [Bool.eq_iff_iff]
 simp only [List.contains_iff_mem, List.mem_cons, List.not_mem_nil, or_false, decide_eq_true_eq]
 constructor
 ·rintro (rfl | rfl | rfl | rfl | rfl | rfl | rfl | rfl | rfl | rfl) <;> decide
 ·rintro ⟨h1, h2⟩
  have : c.toNat = 48 ∨ c.toNat = 49 ∨ c.toNat = 50 ∨ c.toNat = 51 ∨ c.toNat = 52 ∨ c.toNat = 53 ∨ c.toNat = 54 ∨ c.toNat = 55 ∨ c.toNat = 56 ∨ c.toNat = 57 := by omega
  rcases this with h | h | h | h | h | h | h | h | h | h
  ·exact .inl (u8_eq h)
  ·exact .inr (.inl (u8_eq h))
  ·exact .inr (.inr (.inl (u8_eq h)))
  ·exact .inr (.inr (.inr (.inl (u8_eq h))))
  ·exact .inr (.inr (.inr (.inr (.inl (u8_eq h)))))
  ·exact .inr (.inr (.inr (.inr (.inr (.inl (u8_eq h))))))
  ·exact .inr (.inr (.inr (.inr (.inr (.inr (.inl (u8_eq h)))))))
  ·exact .inr (.inr (.inr (.inr (.inr (.inr (.inr (.inl (u8_eq h))))))))
  ·exact .inr (.inr (.inr (.inr (.inr (.inr (.inr (.inr (.inl (u8_eq h)))))))))
  ·exact .inr (.inr (.inr (.inr (.inr (.inr (.inr (.inr (.inr (u8_eq h)))))))))
theorem trimLeft_sgn (l : List UInt8) : Go.Lib.trimLeftS l [43, 45] = l.dropWhile isSgn := by
 unfold Go.Lib.trimLeftS
 congr 1
 funext c
 exact contains_sgn c
theorem trimLeft_dig (l : List UInt8) : Go.Lib.trimLeftS l [48, 49, 50, 51, 52, 53, 54, 55, 56, 57] = l.dropWhile isDig := by
 unfold Go.Lib.trimLeftS
 congr 1
 funext c
 exact contains_dig c
theorem span_exit (p : UInt8 → Bool) : ∀ (l : List UInt8) (i : Nat), i ≤ l.length → (∀ c ∈ l.take i, p c = true) → (∀ c, l[i]? = some c → p c = false) → l.takeWhile p = l.take i ∧ l.dropWhile p = l.drop i
 | l, 0, _, _, hx => by
  rw [List.take_zero, List.drop_zero]
  cases l with
  | nil => exact ⟨rfl, rfl⟩
  | cons a l =>
   have := hx a rfl
   rw [List.takeWhile_cons, List.dropWhile_cons, this]
   exact ⟨rfl, rfl⟩
 | [], i + 1, h, _, _ => by cases h
 | a :: l, i + 1, h, hp, hx => by
  have ha := hp a (by rw [List.take_succ_cons]; exact List.mem_cons_self)
  obtain ⟨h1, h2⟩ := span_exit p l i (by simpa using h) (fun c hc => hp c (by rw [List.take_succ_cons]; exact List.mem_cons_of_mem _ hc)) (fun c hc => hx c hc)
  rw [List.takeWhile_cons, List.dropWhile_cons, ha, if_pos rfl, if_pos rfl, h1, h2, List.take_succ_cons, List.drop_succ_cons]
  exact ⟨rfl, rfl⟩
theorem span_step (p : UInt8 → Bool) (l : List UInt8) (i : Nat) (c : UInt8) (hc : l[i]? = some c) (hp : ∀ c ∈ l.take i, p c = true) (h : p c = true) : ∀ c ∈ l.take (i + 1), p c = true := by
 intro x hx
 rw [List.take_add_one, hc] at hx
 rcases List.mem_append.1 hx with hx | hx
 ·exact hp x hx
 ·simp at hx; rw [hx]; exact h
theorem index_cons (b c : UInt8) (l : List UInt8) : Go.Lib.index (b :: l) [c] = if b = c then 0 else if Go.Lib.index l [c] = -1 then -1 else Go.Lib.index l [c] + 1 := by
 rw [Go.Lib.index]
 by_cases h : b = c
 ·subst h
  rw [if_pos (by simp [List.isPrefixOf]), if_pos rfl]
 ·rw [if_neg (by simpa [List.isPrefixOf] using fun e => h e.symm), if_neg h]
  simp
theorem wholeOf_dig (l : List UInt8) : ∀ c ∈ wholeOf l, isDig c = true := fun c h => mem_takeWhile_dig isDig _ c h
theorem fracOf_dig (l : List UInt8) : ∀ c ∈ fracOf l, isDig c = true := by
 unfold fracOf
 split
 ·split
  ·exact fun c h => mem_takeWhile_dig isDig _ c h
  ·exact fun c h => by cases h
 ·exact fun c h => by cases h
theorem fillP_dig (k : Nat) (l : List UInt8) (h : ∀ c ∈ l, isDig c = true) : ∀ c ∈ fillP k l, isDig c = true := by
 intro c hc
 rcases List.mem_append.1 (List.mem_of_mem_take hc) with h1 | h1
 ·exact h c h1
 ·rw [(List.mem_replicate.1 h1).2]; decide
theorem scaled_abs (l : List UInt8) : scaledP 0 (wholeOf l ++ fillP 6 (fracOf l)) = absOf l := by
 rw [scaledP_eq _ 0 (Nat.zero_le _)]
 ·rfl
 ·intro c hc
  rcases List.mem_append.1 hc with h | h
  ·exact wholeOf_dig l c h
  ·exact fillP_dig 6 _ (fracOf_dig l) c h
theorem cut_abs (l : List UInt8) : min (fracP (min (cutP 0 (wholeOf l) * 1000000) (maxNum + 1)) 100000 (fracOf l)) maxNum = absOf l := by
 have h1 : valFrom 0 (wholeOf l ++ fillP 6 (fracOf l)) = valFrom 0 (wholeOf l) * 1000000 + valFrom 0 (fillP 6 (fracOf l)) := by
  rw [valFrom_append, valFrom_split (fillP 6 (fracOf l)) (valFrom 0 (wholeOf l)), fillP_len]
 have h2 := valFrom_lt (fillP 6 (fracOf l)) (fillP_dig 6 _ (fracOf_dig l))
 rw [fillP_len] at h2
 have h3 := fracP_eq (fracOf l) 5 (min (cutP 0 (wholeOf l) * 1000000) (maxNum + 1))
 rw [show 10 ^ 5 = 100000 from rfl] at h3
 rw [h3, cutP_eq _ 0 (by decide)]
 unfold absOf
 rw [h1]
 generalize valFrom 0 (wholeOf l) = a at *
 generalize valFrom 0 (fillP 6 (fracOf l)) = b at *
 unfold maxNum
 omega
theorem fracOf_none {l : List UInt8} (h : ∀ r, behindOf l ≠ 46 :: r) : fracOf l = [] := by
 unfold fracOf
 split
 ·rename_i c r he
  rw [if_neg (fun e => h r (by rw [he, e]))]
 ·rfl
theorem fracOf_point {l r : List UInt8} (h : behindOf l = 46 :: r) : fracOf l = r.takeWhile isDig := by
 unfold fracOf
 rw [h]
 exact if_pos rfl
end Go.Proofs.YtnnabkldceklmaaGreatDoor
/- Small laws on texts and their bytes. -/
namespace Go.Proofs.YtnnabkldceklmaaGreatDoor
open Go.RowKit
def mkB (l : List UInt8) : ByteArray := ⟨l.toArray⟩
theorem index_app (a z : List UInt8) (x : UInt8) (h : ∀ c ∈ a, c ≠ x) : Lib.index (a ++ x :: z) [x] = a.length := by
 induction a with
 | nil => rw [List.nil_append, index_cons, if_pos rfl]; rfl
 | cons c a ih =>
  have ih' := ih (fun d hd => h d (List.mem_cons_of_mem _ hd))
  rw [List.cons_append, index_cons, if_neg (h c (List.mem_cons_self ..)), ih', if_neg (by omega), List.length_cons]
  omega
theorem index_none (a : List UInt8) (x : UInt8) (h : ∀ c ∈ a, c ≠ x) : Lib.index a [x] = -1 := by
 induction a with
 | nil => rfl
 | cons c a ih =>
  have ih' := ih (fun d hd => h d (List.mem_cons_of_mem _ hd))
  rw [index_cons, if_neg (h c (List.mem_cons_self ..)), ih', if_pos rfl]
theorem cut_app (a z : List UInt8) (x : UInt8) (h : ∀ c ∈ a, c ≠ x) : Lib.cut (a ++ x :: z) [x] = (a, z, true) := by
 unfold Lib.cut
 rw [index_app a z x h, if_pos (by omega)]
 simp
theorem drop_at (T : ByteArray) (k : Nat) (h : k < T.size) : T.data.toList.drop k = T[k] :: T.data.toList.drop (k + 1) := List.drop_eq_getElem_cons (by simpa using h)
theorem bytes_eq (A : List UInt8) (T : ByteArray) : ((⟨A.toArray⟩ : ByteArray).toList == T.toList) = decide (A = T.data.toList) := by
 rw [Bool.eq_iff_iff, beq_iff_eq, decide_eq_true_iff, ByteArray.toList_eq, ByteArray.toList_eq]
theorem infoTxt : (Tryz.prog.info? 9).map (fun i => (i.zero, i.size, i.bytes)) = some (some (.string ⟨#[]⟩), 1, 16) := by kernel_rfl
end Go.Proofs.YtnnabkldceklmaaGreatDoor
/- The reference's numbers walked: l01Digit, l00Min, l01Of. -/
namespace Go.Proofs.YtnnabkldceklmaaGreatDoor
open Go.RowKit
theorem l01DigitB_any (c : UInt8) (w : World) : Calls Tryz.prog 253 #[.int .u8 c.toNat] w fun e w' => e = .returned (.bool (isDig c)) ∧ w = w' := by
 have hd : isDig c = decide (48 ≤ c.toNat ∧ c.toNat ≤ 57) := rfl
 by_cases h1 : (48 : Int) ≤ (c.toNat : Int)
 ·by_cases h2 : (c.toNat : Int) ≤ 57
  ·rw [hd, decide_eq_true (by omega)]
   clear hd
   go_enter Tryz.func253, Tryz.ntmps253
   go_wp2_with fail
   go_ret
   exact ⟨rfl, rfl⟩
  ·rw [hd, decide_eq_false (by omega)]
   clear hd
   go_enter Tryz.func253, Tryz.ntmps253
   go_wp2_with fail
   go_ret
   exact ⟨rfl, rfl⟩
 ·rw [hd, decide_eq_false (by omega)]
  clear hd
  go_enter Tryz.func253, Tryz.ntmps253
  go_wp2_with fail
  go_ret
  exact ⟨rfl, rfl⟩
theorem l00Min_any (a b : Int) (w : World) : Calls Tryz.prog 260 #[.int .i64 a, .int .i64 b] w fun e w' => e = .returned (.int .i64 (min a b)) ∧ w = w' := by
 by_cases h : a < b
 ·rw [show min a b = a by omega]
  go_enter Tryz.func260, Tryz.ntmps260
  go_wp2_with fail
  go_ret
  exact ⟨rfl, rfl⟩
 ·rw [show min a b = b by omega]
  go_enter Tryz.func260, Tryz.ntmps260
  go_wp2_with fail
  go_ret
  exact ⟨rfl, rfl⟩
def pointB (l : List UInt8) : Bool := match behindOf l with
 | c :: _ => c == 46
 | [] => false
theorem cutP_snoc (l : List UInt8) (c : UInt8) : ∀ n, cutP n (l ++ [c]) = min (10 * cutP n l + dg c) 1000000000000 := by
 induction l with
 | nil => intro n; rw [List.nil_append, cutP_cons, cutP_nil, cutP_nil]
 | cons a l ih => intro n; rw [List.cons_append, cutP_cons, cutP_cons, ih]
theorem take_snoc' (l : List UInt8) (i : Nat) (c : UInt8) (h : l[i]? = some c) : l.take (i + 1) = l.take i ++ [c] := by
 rw [List.take_add_one, h]; rfl
theorem get_list (s : ByteArray) (i : Nat) (h : i < s.size) : s.data.toList[i]? = some s[i] := by
 rw [Array.getElem?_toList]
 exact Array.getElem?_eq_getElem h
theorem l01Of_any (s : ByteArray) (hs : s.size ≤ 1048576) (w : World) : Calls Tryz.prog 251 #[.string s] w fun e w' => e = .returned (.int .i64 (numOf s.data.toList)) ∧ Below w.heap.size w w' := by
 have hD := fun c W => l01DigitB_any c W
 have HD := hd_ hD; clear hD
 go_enter Tryz.func251, Tryz.ntmps251
 go_upto_block 0 with (fail)
 go_cut [3, 4] (fun a m wr => a = .int .i64 ((s.data.toList.takeWhile isSgn).length : Nat) ∧ m = .bool (negOf s.data.toList) ∧ Below w.heap.size w wr)
 case first =>
  go_wp2_with fail
  go_loopw [3, 4] (fun a m wr => ∃ i : Nat, i ≤ s.size ∧ a = .int .i64 i ∧ m = .bool ((s.data.toList.take i).count 45 % 2 == 1) ∧ (∀ c ∈ s.data.toList.take i, isSgn c = true) ∧ Below w.heap.size w wr) (fun a _ _ => s.size - (intOf a).toNat)
  case atStart => exact ⟨0, Nat.zero_le _, rfl, rfl, fun c h => by simp at h, Below.refl _ _⟩
  case round =>
   obtain ⟨i, hi, rfl, rfl, hsg, hbw⟩ := hrel
   have HSG := hd_ hsg; have HBW := hd_ hbw; clear hsg hbw
   generalize hneg : ((s.data.toList.take i).count 45 % 2 == 1) = neg at *
   have HNEG := hd_ hneg; clear hneg
   by_cases hlt : i < s.size
   ·have i1 : (i : Int) < (s.size : Int) := by omega
    have i0 : (0 : Int) ≤ (i : Int) := by omega
    have HG := hd_ (get_list s i hlt)
    by_cases h43 : s[i] = 43
    ·have HST := hd_ (span_step isSgn s.data.toList i s[i] HG.out HSG.out (by rw [h43]; decide))
     have q43 : ((s[i].toNat : Int) == 43) = true := by rw [h43]; rfl
     have q45 : ((s[i].toNat : Int) == 45) = false := by rw [h43]; rfl
     have HCN := hd_ (show ((s.data.toList.take (i + 1)).count 45 % 2 == 1) = neg by rw [take_snoc' _ _ _ HG.out, List.count_append, h43]; simpa using HNEG.out)
     clear h43
     go_wp2_with fail
     go_roundw
     case rel => exact ⟨i + 1, by omega, by go_num, by rw [HCN.out], HST.out, HBW.out⟩
     case measure => simp [intOf]; omega
    ·by_cases h45 : s[i] = 45
     ·have HST := hd_ (span_step isSgn s.data.toList i s[i] HG.out HSG.out (by rw [h45]; decide))
      have q43 : ((s[i].toNat : Int) == 43) = false := by rw [h45]; rfl
      have q45 : ((s[i].toNat : Int) == 45) = true := by rw [h45]; rfl
      have HCN := hd_ (show ((s.data.toList.take (i + 1)).count 45 % 2 == 1) = !neg by
       rw [take_snoc' _ _ _ HG.out, List.count_append, h45, ← HNEG.out, show ([45] : List UInt8).count 45 = 1 from rfl]
       generalize (s.data.toList.take i).count 45 = n
       rcases Nat.mod_two_eq_zero_or_one n with h | h <;> simp [Nat.add_mod, h])
      clear h43 h45
      go_wp2_with fail
      go_roundw
      case rel => exact ⟨i + 1, by omega, by go_num, by rw [HCN.out], HST.out, HBW.out⟩
      case measure => simp [intOf]; omega
     ·have q43 : ((s[i].toNat : Int) == 43) = false := by rw [beq_eq_false_iff_ne]; exact fun e => h43 (u8_eq (by have : s[i].toNat = 43 := (by omega); rw [this]; rfl))
      have q45 : ((s[i].toNat : Int) == 45) = false := by rw [beq_eq_false_iff_ne]; exact fun e => h45 (u8_eq (by have : s[i].toNat = 45 := (by omega); rw [this]; rfl))
      have HEX := hd_ (span_exit isSgn s.data.toList i (by simpa using hi) HSG.out (fun c hc => by
       rw [HG.out] at hc; injection hc with hc; subst hc; unfold isSgn
       exact decide_eq_false (fun e => by rcases e with e | e <;> simp [e] at q43 q45)))
      clear h43 h45
      go_wp2_with fail
      go_meet
      case rel => exact ⟨by rw [HEX.out.1, List.length_take]; simp; omega, by unfold negOf; rw [HEX.out.1, HNEG.out], HBW.out⟩
   ·have HEX := hd_ (span_exit isSgn s.data.toList i (by simpa using hi) HSG.out (fun c hc => by rw [List.getElem?_eq_none (by simp; omega)] at hc; cases hc))
    have i1 : ¬ (i : Int) < (s.size : Int) := by omega
    go_wp2_with fail
    go_meet
    case rel => exact ⟨by rw [HEX.out.1, List.length_take]; simp; omega, by unfold negOf; rw [HEX.out.1, HNEG.out], HBW.out⟩
 case rest =>
  obtain ⟨rfl, rfl, hbw⟩ := hcut
  have hdl : s.data.toList.dropWhile isSgn = s.data.toList.drop (s.data.toList.takeWhile isSgn).length := (drop_while isSgn _).symm
  have hle : (s.data.toList.takeWhile isSgn).length ≤ s.size := by
   have := (List.takeWhile_sublist isSgn (l := s.data.toList)).length_le
   simpa using this
  have HDL := hd_ hdl; have HBW := hd_ hbw; clear hdl hbw
  have HNO := hd_ (show numOf s.data.toList = if negOf s.data.toList then -(absOf s.data.toList : Int) else (absOf s.data.toList : Int) from rfl)
  generalize hi0 : (s.data.toList.takeWhile isSgn).length = i0 at *
  generalize negOf s.data.toList = neg at *
  clear hi0
  go_upto_block 2 with (fail)
  have hwl : wholeOf s.data.toList = (s.data.toList.drop i0).takeWhile isDig := by unfold wholeOf; rw [HDL.out]
  have HWL := hd_ hwl; clear hwl
  go_cut [3, 5] (fun a n wr => a = .int .i64 ((i0 + (wholeOf s.data.toList).length : Nat) : Int) ∧ n = .int .i64 ((cutP 0 (wholeOf s.data.toList) : Nat) : Int) ∧ Below w.heap.size w wr)
  case first =>
   go_wp2_with fail
   go_loopw [3, 5] (fun a n wr => ∃ k : Nat, i0 + k ≤ s.size ∧ a = .int .i64 ((i0 + k : Nat) : Int) ∧ n = .int .i64 ((cutP 0 ((s.data.toList.drop i0).take k) : Nat) : Int) ∧ (∀ c ∈ (s.data.toList.drop i0).take k, isDig c = true) ∧ Below w.heap.size w wr) (fun a _ _ => s.size - (intOf a).toNat)
   case atStart => exact ⟨0, by omega, rfl, rfl, fun c h => by simp at h, HBW.out⟩
   case round =>
    obtain ⟨k, hk, rfl, rfl, hdg, hbw⟩ := hrel
    have HDG := hd_ hdg; have HBW := hd_ hbw; clear hdg hbw
    have hn12 : cutP 0 ((s.data.toList.drop i0).take k) ≤ 1000000000000 := by rw [cutP_eq _ 0 (by decide)]; exact Nat.min_le_right _ _
    generalize hnn : cutP 0 ((s.data.toList.drop i0).take k) = nn at *
    have HNN := hd_ hnn; clear hnn
    by_cases hlt : i0 + k < s.size
    ·have i1 : ((i0 + k : Nat) : Int) < (s.size : Int) := by omega
     have i2 : (0 : Int) ≤ ((i0 + k : Nat) : Int) := by omega
     have HG := hd_ (get_list s (i0 + k) hlt)
     have HC := hd_ (HD.out s[i0 + k] wr)
     go_wp2_with fail
     refine HC.out.mono ?_
     rintro e1 w1 ⟨rfl, rfl⟩
     have hdr : (s.data.toList.drop i0)[k]? = some s[i0 + k] := by rw [List.getElem?_drop]; exact HG.out
     cases hdc : isDig s[i0 + k]
     ·have HEX := hd_ (span_exit isDig (s.data.toList.drop i0) k (by simp; omega) HDG.out (fun c hc => by rw [hdr] at hc; injection hc with hc; rw [← hc]; exact hdc))
      clear hdr
      go_wp2_with fail
      go_meet
      case rel => exact ⟨by rw [HWL.out, HEX.out.1, List.length_take]; simp; omega, by rw [HWL.out, HEX.out.1, HNN.out], HBW.out⟩
     ·have HST := hd_ (span_step isDig (s.data.toList.drop i0) k s[i0 + k] hdr HDG.out hdc)
      have HSN := hd_ (show cutP 0 ((s.data.toList.drop i0).take (k + 1)) = min (10 * nn + dg s[i0 + k]) 1000000000000 by rw [take_snoc' _ _ _ hdr, cutP_snoc, HNN.out])
      have h9 := dg_le hdc
      have hdv : ((s[i0 + k].toNat : Int) - 48) = (dg s[i0 + k] : Int) := by unfold isDig at hdc; unfold dg; simp only [decide_eq_true_eq] at hdc; omega
      generalize dg s[i0 + k] = dd at *
      have HMN := hd_ (l00Min_any (10 * (nn : Int) + (dd : Int)) 1000000000000 wr)
      clear hdr hdc
      go_wp2_with fail
      refine HMN.out.mono ?_
      rintro e2 w2 ⟨rfl, rfl⟩
      rw [show min (10 * (nn : Int) + (dd : Int)) 1000000000000 = ((min (10 * nn + dd) 1000000000000 : Nat) : Int) by omega]
      generalize min (10 * nn + dd) 1000000000000 = n2 at *
      go_wp2_with fail
      go_roundw
      case rel => exact ⟨k + 1, by omega, by go_num, by rw [HSN.out], HST.out, HBW.out⟩
      case measure => simp [intOf]; omega
    ·have HEX := hd_ (span_exit isDig (s.data.toList.drop i0) k (by simp; omega) HDG.out (fun c hc => by rw [List.getElem?_eq_none (by simp; omega)] at hc; cases hc))
     have i1 : ¬ ((i0 : Int) + (k : Int)) < (s.size : Int) := by omega
     go_wp2_with fail
     go_meet
     case rel => exact ⟨by rw [HWL.out, HEX.out.1, List.length_take]; simp; omega, by rw [HWL.out, HEX.out.1, HNN.out], HBW.out⟩
  case rest =>
   obtain ⟨rfl, rfl, hbw⟩ := hcut
   have HBW2 := hd_ hbw; clear hbw
   have hb : behindOf s.data.toList = s.data.toList.drop (i0 + (wholeOf s.data.toList).length) := by
    unfold behindOf
    rw [HDL.out, ← drop_while, List.drop_drop, HWL.out]
   have hle2 : i0 + (wholeOf s.data.toList).length ≤ s.size := by
    have := (List.takeWhile_sublist isDig (l := s.data.toList.drop i0)).length_le
    rw [HWL.out]
    simp at this ⊢
    omega
   have HB := hd_ hb; clear hb
   have HCA := hd_ (cut_abs s.data.toList)
   have hcw : cutP 0 (wholeOf s.data.toList) ≤ 1000000000000 := by rw [cutP_eq _ 0 (by decide)]; exact Nat.min_le_right _ _
   generalize cutP 0 (wholeOf s.data.toList) = cw at *
   generalize hi1 : i0 + (wholeOf s.data.toList).length = j0 at *
   clear hi1 HWL HDL hle
   have HM1 := hd_ (fun W => l00Min_any ((cw : Int) * 1000000) 1000000000000000000 W)
   have hmm : min ((cw : Int) * 1000000) 1000000000000000000 = ((min (cw * 1000000) (maxNum + 1) : Nat) : Int) := by unfold maxNum; omega
   have HMM := hd_ hmm; clear hmm
   go_upto_region 11 with (first | fail | (refine (HM1.out _).mono ?_; rintro e1 w1 ⟨rfl, rfl⟩; rw [HMM.out]))
   go_cut [64] (fun b wr => b = .bool (pointB s.data.toList) ∧ Below w.heap.size w wr)
   case first =>
    by_cases hlt : j0 < s.size
    ·have i1 : (j0 : Int) < (s.size : Int) := by omega
     have i0' : (0 : Int) ≤ (j0 : Int) := by omega
     have hdr : behindOf s.data.toList = s[j0] :: s.data.toList.drop (j0 + 1) := by rw [HB.out]; exact List.drop_eq_getElem_cons (by simpa using hlt)
     have HPB := hd_ (show pointB s.data.toList = ((s[j0].toNat : Int) == 46) by
      unfold pointB; rw [hdr]
      rw [Bool.eq_iff_iff]
      simp only [beq_iff_eq]
      exact ⟨fun e => by rw [e]; rfl, fun e => u8_eq (by have : s[j0].toNat = 46 := (by omega); rw [this]; rfl)⟩)
     clear hdr
     go_wp2_with fail
     go_meet
     case rel => exact ⟨by rw [HPB.out], HBW2.out⟩
    ·have i1 : ¬ (j0 : Int) < (s.size : Int) := by omega
     have HPB := hd_ (show pointB s.data.toList = false by unfold pointB; rw [HB.out, List.drop_eq_nil_of_le (by simp; omega)])
     go_wp2_with fail
     go_meet
     case rel => exact ⟨by rw [HPB.out], HBW2.out⟩
   case rest =>
    obtain ⟨rfl, hbw⟩ := hcut
    have HBW3 := hd_ hbw; clear hbw
    have hn3 : min (cw * 1000000) (maxNum + 1) ≤ 1000000000000000000 := Nat.min_le_right _ _
    generalize min (cw * 1000000) (maxNum + 1) = n3 at *
    clear HM1 HMM hcw
    go_upto_if 64 with (fail)
    go_cut [5] (fun n wr => n = .int .i64 ((fracP n3 100000 (fracOf s.data.toList) : Nat) : Int) ∧ Below w.heap.size w wr)
    case first =>
     cases hpb : pointB s.data.toList
     ·have HFR := hd_ (show fracOf s.data.toList = [] from fracOf_none (fun r e => by unfold pointB at hpb; rw [e] at hpb; cases hpb))
      clear hpb
      go_wp2_with fail
      go_meet
      case rel => exact ⟨by rw [HFR.out]; rfl, HBW3.out⟩
     ·obtain ⟨r, hr⟩ : ∃ r, behindOf s.data.toList = 46 :: r := by
       unfold pointB at hpb
       cases hbh : behindOf s.data.toList with
       | nil => rw [hbh] at hpb; cases hpb
       | cons c r => rw [hbh] at hpb; exact ⟨r, by rw [show c = 46 by simpa using hpb]⟩
      have HFR := hd_ (fracOf_point hr)
      have hlen : j0 + (r.length + 1) = s.size := by
       have h1 := congrArg List.length hr
       rw [HB.out] at h1
       simp at h1
       omega
      have HRG := hd_ (show ∀ k, r[k]? = s.data.toList[j0 + 1 + k]? from fun k => by
       have h1 : (s.data.toList.drop j0)[k + 1]? = r[k]? := by rw [← HB.out, hr]; rfl
       rw [← h1, List.getElem?_drop]; congr 1; omega)
      clear hr hpb
      go_wp2_with fail
      go_loopw [3, 5, 6] (fun a n u wr => ∃ (k nn uu : Nat), k ≤ r.length ∧ a = .int .i64 ((j0 + 1 + k : Nat) : Int) ∧ n = .int .i64 (nn : Int) ∧ u = .int .i64 (uu : Int) ∧ uu ≤ 100000 ∧ nn + 10 * uu ≤ 1000000000001000000 ∧ fracP nn uu ((r.drop k).takeWhile isDig) = fracP n3 100000 (r.takeWhile isDig) ∧ Below w.heap.size w wr) (fun a _ _ _ => s.size - (intOf a).toNat)
      case atStart => exact ⟨0, n3, 100000, by omega, by go_num, rfl, rfl, Nat.le_refl _, by omega, rfl, HBW3.out⟩
      case round =>
       obtain ⟨k, nn, uu, hk, rfl, rfl, rfl, hu, hnu, hfr, hbw⟩ := hrel
       have HFP := hd_ hfr; have HBW4 := hd_ hbw; clear hfr hbw
       by_cases hlt : k < r.length
       ·have hjs : j0 + 1 + k < s.size := by omega
        have i1 : ((j0 : Int) + 1 + (k : Int)) < (s.size : Int) := by omega
        have i2 : (0 : Int) ≤ ((j0 : Int) + 1 + (k : Int)) := by omega
        have hg := get_list s (j0 + 1 + k) hjs
        have hrk : r[k]? = some s[j0 + 1 + k] := by rw [HRG.out]; exact hg
        have hdk : r.drop k = s[j0 + 1 + k] :: r.drop (k + 1) := by
         rw [List.getElem?_eq_getElem hlt] at hrk
         injection hrk with hrk
         rw [← hrk]
         exact List.drop_eq_getElem_cons hlt
        have HDK := hd_ hdk
        have HC := hd_ (HD.out s[j0 + 1 + k] wr)
        clear hg hrk hdk
        go_wp2_with fail
        refine HC.out.mono ?_
        rintro e1 w1 ⟨rfl, rfl⟩
        cases hdc : isDig s[j0 + 1 + k]
        ·have HEX := hd_ (show fracP n3 100000 (r.takeWhile isDig) = nn by rw [← HFP.out, HDK.out, List.takeWhile_cons, hdc]; rfl)
         clear hdc
         go_wp2_with fail
         go_meet
         case rel => exact ⟨by rw [HFR.out, HEX.out], HBW4.out⟩
        ·have h9 := dg_le hdc
         have hdv : ((s[j0 + 1 + k].toNat : Int) - 48) = (dg s[j0 + 1 + k] : Int) := by unfold isDig at hdc; unfold dg; simp only [decide_eq_true_eq] at hdc; omega
         have HSN := hd_ (show fracP (nn + dg s[j0 + 1 + k] * uu) (uu / 10) ((r.drop (k + 1)).takeWhile isDig) = fracP n3 100000 (r.takeWhile isDig) by
          rw [← HFP.out, HDK.out, List.takeWhile_cons, hdc, if_pos rfl, fracP_cons])
         generalize dg s[j0 + 1 + k] = dd at *
         have hmul : dd * uu ≤ 9 * uu := Nat.mul_le_mul_right _ h9
         have hmi : (dd : Int) * (uu : Int) = ((dd * uu : Nat) : Int) := by push_cast; rfl
         generalize dd * uu = du at *
         clear hdc
         go_wp2_with fail
         go_roundw
         case rel => exact ⟨k + 1, nn + du, uu / 10, by omega, by go_num, by push_cast; rfl, by push_cast; rfl, by omega, by omega, HSN.out, HBW4.out⟩
         case measure => simp [intOf]; omega
       ·have i1 : ¬ ((j0 : Int) + 1 + (k : Int)) < (s.size : Int) := by omega
        have HEX := hd_ (show fracP n3 100000 (r.takeWhile isDig) = nn by rw [← HFP.out, List.drop_eq_nil_of_le (by omega)]; rfl)
        go_wp2_with fail
        go_meet
        case rel => exact ⟨by rw [HFR.out, HEX.out], HBW4.out⟩
    case rest =>
     obtain ⟨rfl, hbw⟩ := hcut
     have HBW4 := hd_ hbw; clear hbw
     generalize fracP n3 100000 (fracOf s.data.toList) = nf at *
     have HM2 := hd_ (fun W => l00Min_any (nf : Int) 999999999999999999 W)
     have HM3 := hd_ (show min (nf : Int) 999999999999999999 = (absOf s.data.toList : Int) by rw [← HCA.out]; unfold maxNum; omega)
     have hab := absOf_le s.data.toList
     unfold maxNum at hab
     generalize absOf s.data.toList = ab at *
     have HBF := HBW4.out
     cases neg
     ·go_wp2_with (first | fail | (refine (HM2.out _).mono ?_; rintro e1 w1 ⟨rfl, rfl⟩; rw [HM3.out]))
      go_ret
      exact ⟨by rw [HNO.out]; rfl, HBF⟩
     ·go_wp2_with (first | fail | (refine (HM2.out _).mono ?_; rintro e1 w1 ⟨rfl, rfl⟩; rw [HM3.out]))
      go_ret
      exact ⟨by rw [HNO.out]; rfl, HBF⟩
end Go.Proofs.YtnnabkldceklmaaGreatDoor
/- strings.Builder: WriteByte, WriteString, String, at builders of the call's own. -/
namespace Go.Proofs.YtnnabkldceklmaaGreatDoor
open Go.RowKit
theorem bld_below {T e : TypeId} {B b : Nat} {bs : List Value} {w w' : World} (h : Lib.IsBuilder T e B b bs w) (hb : Below w.heap.size w w') : Lib.IsBuilder T e B b bs w' := by
 have one : ∀ p, Lib.BuilderAt T e B b p bs w → Lib.BuilderAt T e B b p bs w' := by
  intro p hp
  have hlt := hp.lt
  obtain ⟨h1, v, h2, h3, h4⟩ := hp
  exact ⟨h1, v, (hb.block b hlt).trans h2, own_below h3 hb, h4⟩
 rcases h with h | h
 ·exact .inl (one _ h)
 ·exact .inr (one _ h)
abbrev Bld (w : World) (b : Nat) (l : List UInt8) : Prop := Lib.IsBuilder 207 5 b b (Lib.byteCells l) w
theorem bld_new (w : World) : Bld (w.alloc (.cells #[.pointer none, .slice none 0 0] 207)) w.heap.size [] := Lib.fresh_isBuilder _ _ w
theorem bldString (b : Nat) (bs : List UInt8) (s : ByteArray) (w : World) (h : Bld w b bs) (hlen : bs.length + s.size ≤ 140737488355328) (hBw : b ≤ w.heap.size) :
  Calls Tryz.prog 177 #[.pointer (some ⟨b, 0, none⟩), .string s] w fun e w' => e = .returned (.tuple #[.int .i64 s.size, .nilIface]) ∧ Bld w' b (bs ++ s.data.toList) ∧ Below b w w' := by
 have H : Calls Tryz.prog 177 #[.pointer (some ⟨b, 0, none⟩), .string s] w fun e w' => e = .returned (.tuple #[.int .i64 s.size, .nilIface]) ∧ (Lib.BuilderAt 207 5 b b (.pointer (some ⟨b, 0, none⟩)) (Lib.byteCells bs ++ Lib.strCells s) w' ∧ Below b w w') :=
  Any.Builder_WriteString { Tryz.lays155 with } Tryz.Builder_Extra_155 b b (Lib.byteCells bs) s w h (by rw [Lib.byteCells_length]; exact hlen) hBw
 refine H.mono ?_
 rintro e w' ⟨h1, h2, h3⟩
 refine ⟨h1, .inr ?_, h3⟩
 rw [Lib.byteCells_append, ← Lib.strCells_eq]
 exact h2
def renB : Go.Shelf.Ren := ⟨fun n => match n with
 | 167 => 256
 | n => Tryz.lays155_ren.f n, Tryz.lays155_ren.t, Tryz.lays155_ren.g⟩
theorem laysB : Lays.n167 Tryz.prog renB := {
 mixed := Tryz.lays155.mixed
 f167 := Tryz.func256.trans (congrArg some (by kernel_rfl))
 f240 := Tryz.func203.trans (congrArg some (by kernel_rfl))
 f276 := Tryz.func215.trans (congrArg some (by kernel_rfl))
 t0 := Tryz.lays155.t0
 a0 := Tryz.lays155.a0
 z0 := Tryz.lays155.z0
 v0 := Tryz.lays155.v0
 t4 := Tryz.lays155.t4
 a4 := Tryz.lays155.a4
 z4 := Tryz.lays155.z4
 v4 := Tryz.lays155.v4
 t5 := Tryz.underlying5
 a5 := Tryz.isAgg5
 z5 := Tryz.sizeOf5
 v5 := Tryz.zeroValue5
 t9 := Tryz.lays155.t9
 a9 := Tryz.lays155.a9
 z9 := Tryz.lays155.z9
 v9 := Tryz.lays155.v9
 t20 := Tryz.lays155.t20
 a20 := Tryz.lays155.a20
 z20 := Tryz.lays155.z20
 v20 := Tryz.lays155.v20
 t37 := Tryz.lays155.t37
 a37 := Tryz.lays155.a37
 z37 := Tryz.lays155.z37
 v37 := Tryz.lays155.v37
 t70 := Tryz.lays155.t70
 a70 := Tryz.lays155.a70
 z70 := Tryz.lays155.z70
 v70 := Tryz.lays155.v70
 t72 := Tryz.lays155.t72
 a72 := Tryz.lays155.a72
 z72 := Tryz.lays155.z72
 v72 := Tryz.lays155.v72
 t75 := Tryz.lays155.t75
 a75 := Tryz.lays155.a75
 z75 := Tryz.lays155.z75
 v75 := Tryz.lays155.v75
 t164 := Tryz.lays155.t164
 a164 := Tryz.lays155.a164
 z164 := Tryz.lays155.z164
 v164 := Tryz.lays155.v164 }
theorem bldByte (b : Nat) (bs : List UInt8) (c : UInt8) (w : World) (h : Bld w b bs) (hlen : bs.length + 1 ≤ 140737488355328) (hBw : b ≤ w.heap.size) :
  Calls Tryz.prog 256 #[.pointer (some ⟨b, 0, none⟩), .int .u8 (c.toNat : Int)] w fun e w' => e = .returned .nilIface ∧ Bld w' b (bs ++ [c]) ∧ Below b w w' := by
 have H : Calls Tryz.prog 256 #[.pointer (some ⟨b, 0, none⟩), .int .u8 (c.toNat : Int)] w fun e w' => e = .returned .nilIface ∧ (Lib.BuilderAt 207 5 b b (.pointer (some ⟨b, 0, none⟩)) (Lib.byteCells bs ++ [.int .u8 (c.toNat : Int)]) w' ∧ Below b w w') :=
  Any.Builder_WriteByte laysB { Tryz.Builder_Extra_155 with } b b (Lib.byteCells bs) (c.toNat : Int) w h (by rw [Lib.byteCells_length]; exact hlen) hBw
 refine H.mono ?_
 rintro e w' ⟨h1, h2, h3⟩
 refine ⟨h1, .inr ?_, h3⟩
 rw [Lib.byteCells_append]
 exact h2
theorem bldText (b : Nat) (bs : List UInt8) (w : World) (h : Bld w b bs) (hBw : b ≤ w.heap.size) :
  Calls Tryz.prog 181 #[.pointer (some ⟨b, 0, none⟩)] w fun e w' => e = .returned (.string ⟨bs.toArray⟩) ∧ Below b w w' := Tryz.Builder_String_any b b bs w h hBw
end Go.Proofs.YtnnabkldceklmaaGreatDoor
