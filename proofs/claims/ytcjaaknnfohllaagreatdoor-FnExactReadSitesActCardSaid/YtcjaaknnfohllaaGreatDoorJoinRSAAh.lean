/- The reference's plain forms walked: l22Shows, l22Part, l22Plain, PlainText. -/
import Derived.Test.YtcjaaknnfohllaaGreatDoorJoinRSAAg
import Derived.Test.YtcjaaknnfohllaaGreatDoorJoinRSAAf
import Derived.Test.YtcjaaknnfohllaaGreatDoorShelfM
import Derived.Shelf.Strings.SlTrimAscii
import Derived.Lib.AppendIntMem
namespace Go.Proofs.YtcjaaknnfohllaaGreatDoor
open Go.RowKit

set_option maxHeartbeats 4000000 in
theorem l22Shows_any (c : UInt8) (w : World) : Calls Tryz.prog 158 #[.int .u8 c.toNat] w fun e w' => e = .returned (.bool (showsC c)) ∧ w = w' := by
  have hd : showsC c = decide (32 ≤ c.toNat ∧ c.toNat ≤ 126) := rfl
  by_cases h1 : (32 : Int) ≤ (c.toNat : Int)
  · by_cases h2 : (c.toNat : Int) ≤ 126
    · rw [hd, decide_eq_true (by omega)]
      clear hd
      go_enter Tryz.func158, Tryz.ntmps158
      go_wp2_with fail
      go_ret
      exact ⟨rfl, rfl⟩
    · rw [hd, decide_eq_false (by omega)]
      clear hd
      go_enter Tryz.func158, Tryz.ntmps158
      go_wp2_with fail
      go_ret
      exact ⟨rfl, rfl⟩
  · rw [hd, decide_eq_false (by omega)]
    clear hd
    go_enter Tryz.func158, Tryz.ntmps158
    go_wp2_with fail
    go_ret
    exact ⟨rfl, rfl⟩

theorem doubled_len (l : List UInt8) : (doubled l).length ≤ 2 * l.length := by
  induction l with
  | nil => exact Nat.le_refl _
  | cons c l ih =>
    unfold doubled at ih ⊢
    rw [List.flatMap_cons, List.length_append, List.length_cons]
    have : (if c = 34 then [34, 34] else [c] : List UInt8).length ≤ 2 := by split <;> simp
    omega
theorem codesTo_len : ∀ (n : Nat) (l : List UInt8), l.length = n → (codesTo l).length ≤ 4 * n
  | 0, l, h => by
    obtain rfl := List.eq_nil_of_length_eq_zero h
    exact Nat.le_refl _
  | n + 1, l, h => by
    obtain ⟨m, c, rfl⟩ : ∃ m c, l = m ++ [c] := ⟨l.dropLast, l.getLast (by intro e; rw [e] at h; cases h), (List.dropLast_concat_getLast _).symm⟩
    have h1 : m.length = n := by simpa using h
    have h2 := decDigits_len 2 c.toNat (by have := c.toNat_lt; omega)
    have ih := codesTo_len n m h1
    by_cases hm : m = []
    · subst hm
      rw [List.nil_append, codesTo_first]; omega
    · rw [codesTo_snoc m c hm, List.length_append, List.length_cons]; omega
theorem len_list (t : ByteArray) : t.data.toList.length = t.size := Array.length_toList
theorem list_head (t : ByteArray) (h : 0 < t.size) : t.data.toList = t[0] :: t.data.toList.drop 1 := by
  exact List.drop_eq_getElem_cons (l := t.data.toList) (i := 0) (by simpa using h)
theorem formP_shows {t : ByteArray} (h : 0 < t.size) (hs : showsC t[0] = true) : formP t.data.toList = 34 :: (doubled t.data.toList ++ [34]) := by
  rw [← quoteP_eq]
  rw [list_head t h]
  exact if_pos hs
theorem formP_codes {t : ByteArray} (h : 0 < t.size) (hs : showsC t[0] = false) : formP t.data.toList = 36 :: 67 :: 40 :: (codesTo t.data.toList ++ [41]) := by
  rw [← codesP_eq]
  rw [list_head t h]
  exact if_neg (by rw [hs]; decide)

set_option maxHeartbeats 8000000 in
set_option maxRecDepth 100000 in
theorem l22Part_any (t : ByteArray) (h0 : 0 < t.size) (ht : t.size ≤ 4096) (w : World) : Calls Tryz.prog 159 #[.string t] w fun e w' => e = .returned (.string ⟨(formP t.data.toList).toArray⟩) ∧ Below w.heap.size w w' := by
  have hi0 : (0 : Int) < (t.size : Int) := by omega
  have HS := Lib.hid (fun W => l22Shows_any t[0] W)
  cases hsh : showsC t[0]
  · have HF := Lib.hid (formP_codes h0 hsh)
    generalize formP t.data.toList = F at *
    rw [hsh] at HS
    clear hsh
    go_enter Tryz.func159, Tryz.ntmps159
    go_upto_region 11 with (first | fail | (refine (HS.out _).mono ?_; rintro e1 w1 ⟨rfl, rfl⟩))
    have hown0 : OwnR encB (w.alloc (.cells #[] 5)) w.heap.size 5 (.slice (some ⟨w.heap.size, 0, none⟩) 0 0) [] := OwnR.none_ _ _ _ (Nat.le_refl _)
    have HB0 := Lib.hid (show Below w.heap.size w (w.alloc (.cells #[] 5)) from (Below.refl _ _).alloc (Nat.le_refl _) _)
    have hsz : w.heap.size ≤ (w.alloc (.cells #[] 5)).heap.size := HB0.out.size
    generalize w.alloc (.cells #[] 5) = wa at *
    go_upto_region 13 with (first | fail | (at_builtin; refine wpList_appS rfl (.tmp 36) (.const (.string ⟨#[36, 67, 40]⟩)) rfl _ w.heap.size _ [] ⟨#[36, 67, 40]⟩ rfl hown0 rfl (by simp) (by decide) hsz ?_; intro v1 w1 hown1 hb1))
    have HB1 := Lib.hid (HB0.out.trans hb1); clear hb1
    go_wp2_with fail
    go_loopw [3, 5] (fun v i wr => ∃ k : Nat, k ≤ t.size ∧ i = .int .i64 k ∧ OwnR encB wr w.heap.size 5 v ([36, 67, 40] ++ codesTo (t.data.toList.take k)) ∧ Below w.heap.size w wr) (fun _ i _ => t.size - (intOf i).toNat)
    case atStart => exact ⟨0, Nat.zero_le _, rfl, hown1, HB1.out⟩
    case round =>
      obtain ⟨k, hk, rfl, hown, hbw⟩ := hrel
      have HBW := Lib.hid hbw
      have hbs := hbw.size
      clear hbw hown1
      by_cases hlt : k < t.size
      · have i1 : (k : Int) < (t.size : Int) := by omega
        have i0 : (0 : Int) ≤ (k : Int) := by omega
        have hg := get_list t k hlt
        have hcl := codesTo_len _ (t.data.toList.take k) rfl
        rw [List.length_take, len_list, Nat.min_eq_left hk] at hcl
        have hd2 := decDigits_len 2 t[k].toNat (by have := t[k].toNat_lt; omega)
        have hds : (decT t[k].toNat).size ≤ 3 := hd2
        have hwr : IntKind.i64.wrap (t[k].toNat : Int) = (t[k].toNat : Int) := IntWalk.i64_in _ (by have := t[k].toNat_lt; omega)
        have HD := Lib.hid (fun W => l21Dec_any t[k].toNat (by have := t[k].toNat_lt; omega) W)
        by_cases hk0 : k = 0
        · have ht0 : t.data.toList.take k = [] := by rw [hk0]; rfl
          have hc0 : [36, 67, 40] ++ codesTo (t.data.toList.take (k + 1)) = [36, 67, 40] ++ (decT t[k].toNat).data.toList := by
            rw [take_snoc' _ _ _ hg, ht0, List.nil_append, codesTo_first]; rfl
          have HC0 := Lib.hid hc0; clear hc0 hd2
          rw [ht0] at hown
          clear ht0
          have hk0' : ¬ (0 : Int) < (k : Int) := by omega
          have HK := Lib.hid hk0
          clear hk0 hcl hg
          generalize decT t[k].toNat = D at *
          have hown' : OwnR encB wr w.heap.size 5 u3 [36, 67, 40] := hown
          clear hown
          go_wp2_with (first
            | fail
            | (refine (HD.out _).mono ?_; rintro e2 w2 ⟨rfl, hb2⟩; have hown2 := hown'.below hb2; have hs2 := Nat.le_trans hbs hb2.size)
            | (at_builtin; refine wpList_appS rfl (.tmp 49) (.tmp 54) rfl _ w.heap.size _ _ D rfl hown2 rfl (by simp) (by omega) hs2 ?_; intro v3 w3 hown3 hb3))
          go_roundw
          case rel => exact ⟨k + 1, by omega, by go_num, by rw [HC0.out]; exact hown3, HBW.out.trans (((hb2.mono hbs)).trans hb3)⟩
          case measure => simp [intOf]; omega
        · have hc0 : [36, 67, 40] ++ codesTo (t.data.toList.take (k + 1)) = (([36, 67, 40] ++ codesTo (t.data.toList.take k)) ++ [44]) ++ (decT t[k].toNat).data.toList := by
            rw [take_snoc' _ _ _ hg, codesTo_snoc _ _ (by intro e; have := congrArg List.length e; rw [List.length_take, len_list, Nat.min_eq_left hk] at this; exact hk0 this)]
            simp [decT]
          have HC0 := Lib.hid hc0; clear hc0 hd2
          have hk0' : (0 : Int) < (k : Int) := by omega
          have hln : ([36, 67, 40] ++ codesTo (t.data.toList.take k)).length ≤ 1000000 := by simp; omega
          generalize [36, 67, 40] ++ codesTo (t.data.toList.take k) = L at *
          have hln2 : (L ++ [44]).length ≤ 1000000000 := by simp; omega
          generalize decT t[k].toNat = D at *
          go_wp2_with (first
            | fail
            | (at_builtin; refine wpList_app1 (enc := encB) rfl (.tmp 46) (.tmp 47) 102 5 rfl Tryz.underlying102 rfl (by omega) (fun _ => rfl) infoByte wr w.heap.size _ L (44 : UInt8) rfl hown rfl (by omega) hbs ?_; intro v1 w1 hown1 hb1; have hs1 := hb1.size)
            | (refine (HD.out _).mono ?_; rintro e2 w2 ⟨rfl, hb2⟩; have hown2 := hown1.below hb2; have hs2 := Nat.le_trans (Nat.le_trans hbs hb1.size) hb2.size)
            | (at_builtin; refine wpList_appS rfl (.tmp 49) (.tmp 54) rfl _ w.heap.size _ _ D rfl hown2 rfl hln2 (by omega) hs2 ?_; intro v3 w3 hown3 hb3))
          go_roundw
          case rel => exact ⟨k + 1, by omega, by go_num, by rw [HC0.out]; exact hown3, HBW.out.trans ((hb1.trans ((hb2.mono (Nat.le_trans hbs hb1.size)).trans hb3)))⟩
          case measure => simp [intOf]; omega
      · have i1 : ¬ (k : Int) < (t.size : Int) := by omega
        have hcl := codesTo_len _ (t.data.toList.take k) rfl
        rw [List.length_take, len_list, Nat.min_eq_left hk] at hcl
        have HFE := Lib.hid (show F = ([36, 67, 40] ++ codesTo (t.data.toList.take k)) ++ [41] by rw [HF.out, List.take_of_length_le (by rw [len_list]; omega)]; rfl)
        have hln : ([36, 67, 40] ++ codesTo (t.data.toList.take k)).length ≤ 1000000 := by simp; omega
        generalize [36, 67, 40] ++ codesTo (t.data.toList.take k) = L at *
        go_wp2_with (first
          | fail
          | (at_builtin; refine wpList_app1 (enc := encB) rfl (.tmp 56) (.tmp 57) 102 5 rfl Tryz.underlying102 rfl (by omega) (fun _ => rfl) infoByte wr w.heap.size _ L (41 : UInt8) rfl hown rfl (by omega) hbs ?_; intro v1 w1 hown1 hb1; have hcv := convert_own hown1))
        go_ret
        exact ⟨by rw [HFE.out]; rfl, HBW.out.trans hb1⟩
  · have HF := Lib.hid (formP_shows h0 hsh)
    generalize formP t.data.toList = F at *
    rw [hsh] at HS
    clear hsh
    go_enter Tryz.func159, Tryz.ntmps159
    go_upto_region 3 with (first | fail | (refine (HS.out _).mono ?_; rintro e1 w1 ⟨rfl, rfl⟩))
    have hown0 : OwnR encB (w.alloc (.cells #[] 5)) w.heap.size 5 (.slice (some ⟨w.heap.size, 0, none⟩) 0 0) [] := OwnR.none_ _ _ _ (Nat.le_refl _)
    have HB0 := Lib.hid (show Below w.heap.size w (w.alloc (.cells #[] 5)) from (Below.refl _ _).alloc (Nat.le_refl _) _)
    have hsz : w.heap.size ≤ (w.alloc (.cells #[] 5)).heap.size := HB0.out.size
    generalize w.alloc (.cells #[] 5) = wa at *
    go_upto_region 5 with (first
      | fail
      | (at_builtin; refine wpList_app1 (enc := encB) rfl (.tmp 10) (.tmp 11) 102 5 rfl Tryz.underlying102 rfl (by omega) (fun _ => rfl) infoByte wa w.heap.size _ [] (34 : UInt8) rfl hown0 rfl (by simp) hsz ?_; intro v1 w1 hown1 hb1))
    have HB1 := Lib.hid (HB0.out.trans hb1); clear hb1
    go_wp2_with fail
    go_loopw [3, 4] (fun v i wr => ∃ k : Nat, k ≤ t.size ∧ i = .int .i64 k ∧ OwnR encB wr w.heap.size 5 v (34 :: doubled (t.data.toList.take k)) ∧ Below w.heap.size w wr) (fun _ i _ => t.size - (intOf i).toNat)
    case atStart => exact ⟨0, Nat.zero_le _, rfl, hown1, HB1.out⟩
    case round =>
      obtain ⟨k, hk, rfl, hown, hbw⟩ := hrel
      have HBW := Lib.hid hbw
      have hbs := hbw.size
      clear hbw hown1
      have hcl := doubled_len (t.data.toList.take k)
      rw [List.length_take, len_list, Nat.min_eq_left hk] at hcl
      by_cases hlt : k < t.size
      · have i1 : (k : Int) < (t.size : Int) := by omega
        have i0 : (0 : Int) ≤ (k : Int) := by omega
        have hg := get_list t k hlt
        have hln : (34 :: doubled (t.data.toList.take k)).length ≤ 1000000 := by simp; omega
        by_cases h34 : t[k] = 34
        · have q34 : ((t[k].toNat : Int) == 34) = true := by rw [h34]; rfl
          have HC0 := Lib.hid (show 34 :: doubled (t.data.toList.take (k + 1)) = (34 :: doubled (t.data.toList.take k)) ++ [34] ++ [t[k]] by
            rw [take_snoc' _ _ _ hg, h34, doubled_snoc_quote]; simp)
          clear h34 hg
          generalize 34 :: doubled (t.data.toList.take k) = L at *
          have hln2 : (L ++ [34]).length ≤ 1000000000 := by simp; omega
          go_wp2_with (first
            | fail
            | (at_builtin; refine wpList_app1 (enc := encB) rfl (.tmp 23) (.tmp 24) 102 5 rfl Tryz.underlying102 rfl (by omega) (fun _ => rfl) infoByte wr w.heap.size _ L (34 : UInt8) rfl hown rfl (by omega) hbs ?_; intro v1 w1 hown1 hb1; have hs1 := Nat.le_trans hbs hb1.size)
            | (at_builtin; refine wpList_app1 (enc := encB) rfl (.tmp 26) (.tmp 30) 102 5 rfl Tryz.underlying102 rfl (by omega) (fun _ => rfl) infoByte w1 w.heap.size _ _ t[k] rfl hown1 rfl hln2 hs1 ?_; intro v2 w2 hown2 hb2))
          go_roundw
          case rel => exact ⟨k + 1, by omega, by go_num, by rw [HC0.out]; exact hown2, HBW.out.trans (hb1.trans hb2)⟩
          case measure => simp [intOf]; omega
        · have q34 : ((t[k].toNat : Int) == 34) = false := by rw [beq_eq_false_iff_ne]; exact fun e => h34 (u8_eq (by have : t[k].toNat = 34 := (by omega); rw [this]; rfl))
          have HC0 := Lib.hid (show 34 :: doubled (t.data.toList.take (k + 1)) = (34 :: doubled (t.data.toList.take k)) ++ [t[k]] by
            rw [take_snoc' _ _ _ hg, doubled_snoc _ h34]; simp)
          clear h34 hg
          generalize 34 :: doubled (t.data.toList.take k) = L at *
          go_wp2_with (first
            | fail
            | (at_builtin; refine wpList_app1 (enc := encB) rfl (.tmp 26) (.tmp 30) 102 5 rfl Tryz.underlying102 rfl (by omega) (fun _ => rfl) infoByte wr w.heap.size _ L t[k] rfl hown rfl (by omega) hbs ?_; intro v2 w2 hown2 hb2))
          go_roundw
          case rel => exact ⟨k + 1, by omega, by go_num, by rw [HC0.out]; exact hown2, HBW.out.trans hb2⟩
          case measure => simp [intOf]; omega
      · have i1 : ¬ (k : Int) < (t.size : Int) := by omega
        have HFE := Lib.hid (show F = (34 :: doubled (t.data.toList.take k)) ++ [34] by rw [HF.out, List.take_of_length_le (by rw [len_list]; omega)]; rfl)
        have hln : (34 :: doubled (t.data.toList.take k)).length ≤ 1000000 := by simp; omega
        generalize 34 :: doubled (t.data.toList.take k) = L at *
        go_wp2_with (first
          | fail
          | (at_builtin; refine wpList_app1 (enc := encB) rfl (.tmp 32) (.tmp 33) 102 5 rfl Tryz.underlying102 rfl (by omega) (fun _ => rfl) infoByte wr w.heap.size _ L (34 : UInt8) rfl hown rfl (by omega) hbs ?_; intro v1 w1 hown1 hb1; have hcv := convert_own hown1))
        go_ret
        exact ⟨by rw [HFE.out]; rfl, HBW.out.trans hb1⟩

theorem formP_len (l : List UInt8) : (formP l).length ≤ 4 * l.length + 4 := by
  cases l with
  | nil => exact Nat.zero_le _
  | cons c l =>
    rw [show formP (c :: l) = if showsC c then quoteP (c :: l) else codesP (c :: l) from rfl]
    split
    · rw [quoteP_eq]
      have := doubled_len (c :: l)
      simp only [List.length_cons, List.length_append, List.length_nil] at this ⊢
      omega
    · rw [codesP_eq]
      have := codesTo_len _ (c :: l) rfl
      simp only [List.length_cons, List.length_append, List.length_nil] at this ⊢
      omega
section
variable {P : Program} {l : List Oper} {Q : Exit → Go.Act → World → Prop} {md : Region.Mode} {S : World → Prop} {z : Nat → Bool}
/-- An operation whose guard says no. -/
theorem AnyT.skip (i d : Nat) {oi : Oper} {n : Nat} {listed : Array Bool} {a : Go.Act} {w : World} (hi : l[i]? = some oi) (hs : Region.noSelect l.toArray = true) (hf : Region.free md l.toArray listed i = true)
    (hr : (Region.ready md l.toArray listed).contains i = true) (hzi : z i = false) (hd : oi.dst = some d) (hQ : ∀ c (a : Go.Act) v w, Q (.panic c) (a.put (some d) v) w → Q (.panic c) a w)
    (hw : Region.wanted oi (yielded l.toArray a.tmps) = false) (hS : S w)
    (h : AnyT P md l.toArray Q S z n (listed.setIfInBounds i true) (a.put (some d) undef) w) : AnyT P md l.toArray Q S z (n + 1) listed a w :=
  AnyT.first (S' := fun _ => True) (i := i) (oi := oi) (v := undef) (by simpa using hi) hs (fun c a w h => hQ c a undef w (hd ▸ h)) hzi (.inr fun _ => trivial) n listed (fun j oj => Region.free_spec (by simpa using hi) hf j oj) (by simpa using hr) (.inr fun _ => trivial) a w (.inr ⟨hw, rfl⟩) (fun _ => hS) (hd ▸ h)
end
theorem extract_list (t : ByteArray) (i k : Nat) : (t.extract i k).data.toList = (t.data.toList.drop i).take (k - i) := by
  rw [ByteArray.data_extract, Array.toList_extract, List.extract_eq_take_drop]
/-- What is built of the first i bytes: their forms with the underlines between them. -/
def partB (l : List UInt8) (i : Nat) (b : List UInt8) : Prop :=
  if i = 0 then b = [] else b ++ moreP l.length (l.drop i) = formP (runOf l) ++ moreP l.length (runRest l)
theorem partB_end {l : List UInt8} {i : Nat} {b : List UInt8} (h : partB l i b) (hi : i = l.length) (h0 : i ≠ 0) : b = formP (runOf l) ++ moreP l.length (runRest l) := by
  unfold partB at h
  rw [if_neg h0, hi, List.drop_length, moreP_nil, List.append_nil] at h
  exact h
/-- One run more: from i to k. -/
theorem partB_step {l : List UInt8} {i k : Nat} {b : List UInt8} {c : UInt8} {r : List UInt8} (h : partB l i b) (hd : l.drop i = c :: r) (hik : i < k)
    (hr : runOf (c :: r) = (c :: r).take (k - i) ∧ runRest (c :: r) = (c :: r).drop (k - i)) :
    partB l k (b ++ (if i = 0 then [] else [95]) ++ formP ((c :: r).take (k - i))) := by
  unfold partB at h ⊢
  rw [if_neg (by omega)]
  have hdk : (c :: r).drop (k - i) = l.drop k := by rw [← hd, List.drop_drop]; congr 1; omega
  by_cases h0 : i = 0
  · subst h0
    rw [if_pos rfl] at h ⊢
    rw [List.drop_zero] at hd
    subst h
    rw [← hdk, ← hr.2, ← hr.1, hd]; rfl
  · rw [if_neg h0] at h ⊢
    rw [← h, hd, moreP_step l.length (c :: r) (by simp) (by rw [← hd, List.length_drop]; omega), hr.1, hr.2, hdk]
    simp

set_option maxHeartbeats 8000000 in
set_option maxRecDepth 100000 in
theorem l22Plain_any (t : ByteArray) (ht : t.size ≤ 4096) (w : World) : Calls Tryz.prog 99 #[.string t] w fun e w' => e = .returned (.string ⟨(plainP t.data.toList).toArray⟩) ∧ Below w.heap.size w w' := by
  have HC := Lib.hid (fun W => specIsCanon_any t (by omega) W)
  cases hcan : canonB t.data.toList
  · rw [hcan] at HC
    by_cases h0 : t.size = 0
    · obtain rfl : t = ⟨#[]⟩ := ByteArray.ext (Array.eq_empty_of_size_eq_zero h0)
      have HR := Lib.hid (show plainP (⟨#[]⟩ : ByteArray).data.toList = [34, 34] by unfold plainP; rw [hcan]; rfl)
      rw [HR.out]
      clear hcan
      go_enter Tryz.func99, Tryz.ntmps99
      go_wp2_with (first | fail | (refine (HC.out _).mono ?_; rintro e1 w1 ⟨rfl, hb1⟩))
      go_ret
      exact ⟨rfl, hb1⟩
    · have he := bytes_full t h0
      have hR := plainP_runs hcan (by intro e; rw [← len_list, e] at h0; exact h0 rfl)
      have HR := Lib.hid hR
      generalize plainP t.data.toList = R at *
      clear hR hcan
      have HSH := Lib.hid (fun c W => l22Shows_any c W)
      go_enter Tryz.func99, Tryz.ntmps99
      go_upto_region 5 with (first | fail | (refine (HC.out _).mono ?_; rintro e1 w1 ⟨rfl, hb1⟩))
      have hown0 : OwnR encB (w1.alloc (.cells #[] 5)) w.heap.size 5 (.slice (some ⟨w1.heap.size, 0, none⟩) 0 0) [] := OwnR.none_ _ _ _ hb1.size
      have HB0 := Lib.hid (show Below w.heap.size w (w1.alloc (.cells #[] 5)) from hb1.alloc hb1.size _)
      have hsz : w.heap.size ≤ (w1.alloc (.cells #[] 5)).heap.size := HB0.out.size
      clear hb1
      go_wp2_with fail
      go_loopw [3, 4] (fun v i wr => ∃ (k : Nat) (b : List UInt8), k ≤ t.size ∧ i = .int .i64 k ∧ OwnR encB wr w.heap.size 5 v b ∧ b.length ≤ 10 * k ∧ partB t.data.toList k b ∧ Below w.heap.size w wr) (fun _ i _ => t.size - (intOf i).toNat)
      case atStart => exact ⟨0, [], Nat.zero_le _, rfl, hown0, Nat.zero_le _, by unfold partB; rw [if_pos rfl], HB0.out⟩
      case round =>
        obtain ⟨i, b, hi, rfl, hown, hbl, hpb, hbw⟩ := hrel
        have HBW := Lib.hid hbw; have HPB := Lib.hid hpb
        clear hbw hpb hown0
        by_cases hlt : i < t.size
        · have i1 : (i : Int) < (t.size : Int) := by omega
          have i0 : (0 : Int) ≤ (i : Int) := by omega
          have hdi : t.data.toList.drop i = t[i] :: t.data.toList.drop (i + 1) := List.drop_eq_getElem_cons (by rw [len_list]; exact hlt)
          have HDI := Lib.hid hdi
          have hsh : ∀ k, (t.data.toList.drop i)[k]? = t.data.toList[i + k]? := fun k => by rw [List.getElem?_drop]
          have HSL := Lib.hid hsh
          clear hdi hsh
          go_upto_block 2 with fail
          go_cut [5] (fun v wk => ∃ k : Nat, i < k ∧ k ≤ t.size ∧ v = .int .i64 k ∧ runOf (t[i] :: t.data.toList.drop (i + 1)) = (t[i] :: t.data.toList.drop (i + 1)).take (k - i) ∧ runRest (t[i] :: t.data.toList.drop (i + 1)) = (t[i] :: t.data.toList.drop (i + 1)).drop (k - i) ∧ Below wr.heap.size wr wk)
          case first =>
            go_wp2_with fail
            go_loopw [5] (fun v wk => ∃ k : Nat, i ≤ k ∧ k ≤ t.size ∧ v = .int .i64 k ∧ (∀ x ∈ (t[i] :: t.data.toList.drop (i + 1)).take (k - i), showsC x = showsC t[i]) ∧ Below wr.heap.size wr wk) (fun v _ => t.size - (intOf v).toNat)
            case atStart => exact ⟨i, Nat.le_refl _, Nat.le_of_lt hlt, rfl, (fun x h => by rw [Nat.sub_self] at h; cases h), Below.refl _ _⟩
            case round =>
              obtain ⟨k, hik, hk, rfl, hall, hbk⟩ := hrel
              have HALL := Lib.hid hall; have HBK := Lib.hid hbk.drew
              clear hall hbk
              have hln : (t[i] :: t.data.toList.drop (i + 1)).length = t.size - i := by rw [← HDI.out, List.length_drop, len_list]
              have HLN := Lib.hid hln; clear hln
              by_cases hkt : k < t.size
              · have k1 : (k : Int) < (t.size : Int) := by omega
                have k0 : (0 : Int) ≤ (k : Int) := by omega
                have hg : (t[i] :: t.data.toList.drop (i + 1))[k - i]? = some t[k] := by
                  rw [← HDI.out, HSL.out, show i + (k - i) = k by omega]; exact get_list t k hkt
                have HG := Lib.hid hg; clear hg
                by_cases hse : showsC t[k] = showsC t[i]
                · have qs : (showsC t[k] == showsC t[i]) = true := by rw [hse]; exact beq_self_eq_true _
                  have HNX := Lib.hid (show ∀ x ∈ (t[i] :: t.data.toList.drop (i + 1)).take (k + 1 - i), showsC x = showsC t[i] from fun x hx => by
                    rw [show k + 1 - i = (k - i) + 1 by omega, take_snoc' _ _ _ HG.out] at hx
                    rcases List.mem_append.1 hx with hx | hx
                    · exact HALL.out x hx
                    · rw [List.mem_singleton.1 hx]; exact hse)
                  clear hse
                  go_wp2_with fail
                  refine AnyT.region (fun _ => false) (fun _ => True) (by kernel_rfl) trivial (fun hHeld => ?_)
                  ((refine AnyT.takeAny 0 17 ?_ rfl (by kernel_rfl) (by kernel_rfl) (by kernel_rfl) rfl rfl (fun _ _ _ _ h => h) rfl ?_ (by assumption) ?_); rotate_left; (intro w; go_simp; (try (with_reducible rfl))); simp only [Act.put, List.setIfInBounds_toArray, List.set_cons_zero, List.set_cons_succ])
                  ((refine AnyT.takeAny 1 18 ?_ rfl (by kernel_rfl) (by kernel_rfl) (by kernel_rfl) rfl rfl (fun _ _ _ _ h => h) rfl ?_ (by assumption) ?_); rotate_left; (intro w; go_simp; (try (with_reducible rfl))); simp only [Act.put, List.setIfInBounds_toArray, List.set_cons_zero, List.set_cons_succ])
                  ((refine AnyT.takeAny 2 19 ?_ rfl (by kernel_rfl) (by kernel_rfl) (by kernel_rfl) rfl rfl (fun _ _ _ _ h => h) rfl ?_ (by assumption) ?_); rotate_left; (intro w; go_simp; (try (with_reducible rfl))); simp only [Act.put, List.setIfInBounds_toArray, List.set_cons_zero, List.set_cons_succ])
                  ((refine AnyT.takeAny 3 20 ?_ rfl (by kernel_rfl) (by kernel_rfl) (by kernel_rfl) rfl rfl (fun _ _ _ _ h => h) rfl ?_ (by assumption) ?_); rotate_left; (intro w; go_simp; (try (with_reducible rfl))); simp only [Act.put, List.setIfInBounds_toArray, List.set_cons_zero, List.set_cons_succ])
                  ((refine AnyT.takeAny 4 21 ?_ rfl (by kernel_rfl) (by kernel_rfl) (by kernel_rfl) rfl rfl (fun _ _ _ _ h => h) rfl ?_ (by assumption) ?_); rotate_left; (intro w; go_simp; (try (with_reducible rfl))); simp only [Act.put, List.setIfInBounds_toArray, List.set_cons_zero, List.set_cons_succ])
                  ((refine AnyT.takeAny 5 22 ?_ rfl (by kernel_rfl) (by kernel_rfl) (by kernel_rfl) rfl rfl (fun _ _ _ _ h => h) rfl ?_ (by assumption) ?_); rotate_left; (intro w; go_simp; (try (with_reducible rfl))); simp only [Act.put, List.setIfInBounds_toArray, List.set_cons_zero, List.set_cons_succ])
                  ((refine AnyT.takeAny 6 23 ?_ rfl (by kernel_rfl) (by kernel_rfl) (by kernel_rfl) rfl rfl (fun _ _ _ _ h => h) rfl ?_ (by assumption) ?_); rotate_left; (intro w; go_simp; (try (with_reducible rfl))); simp only [Act.put, List.setIfInBounds_toArray, List.set_cons_zero, List.set_cons_succ])
                  ((refine AnyT.takeAny 7 24 ?_ rfl (by kernel_rfl) (by kernel_rfl) (by kernel_rfl) rfl rfl (fun _ _ _ _ h => h) rfl ?_ (by assumption) ?_); rotate_left; (intro w; go_simp; (try (with_reducible rfl))); simp only [Act.put, List.setIfInBounds_toArray, List.set_cons_zero, List.set_cons_succ])
                  ((refine AnyT.takeAny 9 26 ?_ rfl (by kernel_rfl) (by kernel_rfl) (by kernel_rfl) rfl rfl (fun _ _ _ _ h => h) rfl ?_ (by assumption) ?_); rotate_left; (intro w; go_simp; (try (with_reducible rfl))); simp only [Act.put, List.setIfInBounds_toArray, List.set_cons_zero, List.set_cons_succ])
                  ((refine AnyT.takeAny 10 27 ?_ rfl (by kernel_rfl) (by kernel_rfl) (by kernel_rfl) rfl rfl (fun _ _ _ _ h => h) rfl ?_ (by assumption) ?_); rotate_left; (intro w; go_simp; (try (with_reducible rfl))); simp only [Act.put, List.setIfInBounds_toArray, List.set_cons_zero, List.set_cons_succ])
                  ((refine AnyT.takeAny 11 28 ?_ rfl (by kernel_rfl) (by kernel_rfl) (by kernel_rfl) rfl rfl (fun _ _ _ _ h => h) rfl ?_ (by assumption) ?_); rotate_left; (intro w; go_simp; (try (with_reducible rfl))); simp only [Act.put, List.setIfInBounds_toArray, List.set_cons_zero, List.set_cons_succ])
                  ((refine AnyT.one (i := 8) (by kernel_rfl) rfl (fun K hK => ?_)))
                  go_simp
                  refine (HSH.out _ _).mono ?_
                  rintro e5 w5 ⟨rfl, rfl⟩
                  refine hK.out _ _ trivial (fun hHeld => ?_)
                  clear hK K
                  (try simp only [Act.put, List.setIfInBounds_toArray, List.set_cons_zero, List.set_cons_succ])
                  ((refine AnyT.one (i := 12) (by kernel_rfl) rfl (fun K hK => ?_)))
                  go_simp
                  refine (HSH.out _ _).mono ?_
                  rintro e6 w6 ⟨rfl, rfl⟩
                  refine hK.out _ _ trivial (fun hHeld => ?_)
                  clear hK K
                  (try simp only [Act.put, List.setIfInBounds_toArray, List.set_cons_zero, List.set_cons_succ])
                  ((refine AnyT.takeAny 13 30 ?_ rfl (by kernel_rfl) (by kernel_rfl) (by kernel_rfl) rfl rfl (fun _ _ _ _ h => h) rfl ?_ (by assumption) ?_); rotate_left; (intro w; go_simp; (try (with_reducible rfl))); simp only [Act.put, List.setIfInBounds_toArray, List.set_cons_zero, List.set_cons_succ])
                  ((refine AnyT.takeAny 14 31 ?_ rfl (by kernel_rfl) (by kernel_rfl) (by kernel_rfl) rfl rfl (fun _ _ _ _ h => h) rfl ?_ (by assumption) ?_); rotate_left; (intro w; go_simp; (try (with_reducible rfl))); simp only [Act.put, List.setIfInBounds_toArray, List.set_cons_zero, List.set_cons_succ])
                  refine AnyT.done (by kernel_rfl) ?_ _
                  go_wp2_with fail
                  go_roundw
                  case rel => exact ⟨k + 1, by omega, by omega, by go_num, HNX.out, HBK.out⟩
                  case measure => simp [intOf]; omega
                · have qs : (showsC t[k] == showsC t[i]) = false := by rw [beq_eq_false_iff_ne]; exact hse
                  have hkne : i < k := by
                    rcases Nat.lt_or_ge i k with h | h
                    · exact h
                    · obtain rfl : k = i := by omega
                      exact absurd rfl hse
                  have HEX := Lib.hid (run_exit t[i] (t.data.toList.drop (i + 1)) (k - i) (by rw [HLN.out]; omega) HALL.out (fun x hx => by rw [HG.out] at hx; injection hx with hx; rw [← hx]; exact hse))
                  clear hse
                  go_wp2_with fail
                  refine AnyT.region (fun _ => false) (fun _ => True) (by kernel_rfl) trivial (fun hHeld => ?_)
                  ((refine AnyT.takeAny 0 17 ?_ rfl (by kernel_rfl) (by kernel_rfl) (by kernel_rfl) rfl rfl (fun _ _ _ _ h => h) rfl ?_ (by assumption) ?_); rotate_left; (intro w; go_simp; (try (with_reducible rfl))); simp only [Act.put, List.setIfInBounds_toArray, List.set_cons_zero, List.set_cons_succ])
                  ((refine AnyT.takeAny 1 18 ?_ rfl (by kernel_rfl) (by kernel_rfl) (by kernel_rfl) rfl rfl (fun _ _ _ _ h => h) rfl ?_ (by assumption) ?_); rotate_left; (intro w; go_simp; (try (with_reducible rfl))); simp only [Act.put, List.setIfInBounds_toArray, List.set_cons_zero, List.set_cons_succ])
                  ((refine AnyT.takeAny 2 19 ?_ rfl (by kernel_rfl) (by kernel_rfl) (by kernel_rfl) rfl rfl (fun _ _ _ _ h => h) rfl ?_ (by assumption) ?_); rotate_left; (intro w; go_simp; (try (with_reducible rfl))); simp only [Act.put, List.setIfInBounds_toArray, List.set_cons_zero, List.set_cons_succ])
                  ((refine AnyT.takeAny 3 20 ?_ rfl (by kernel_rfl) (by kernel_rfl) (by kernel_rfl) rfl rfl (fun _ _ _ _ h => h) rfl ?_ (by assumption) ?_); rotate_left; (intro w; go_simp; (try (with_reducible rfl))); simp only [Act.put, List.setIfInBounds_toArray, List.set_cons_zero, List.set_cons_succ])
                  ((refine AnyT.takeAny 4 21 ?_ rfl (by kernel_rfl) (by kernel_rfl) (by kernel_rfl) rfl rfl (fun _ _ _ _ h => h) rfl ?_ (by assumption) ?_); rotate_left; (intro w; go_simp; (try (with_reducible rfl))); simp only [Act.put, List.setIfInBounds_toArray, List.set_cons_zero, List.set_cons_succ])
                  ((refine AnyT.takeAny 5 22 ?_ rfl (by kernel_rfl) (by kernel_rfl) (by kernel_rfl) rfl rfl (fun _ _ _ _ h => h) rfl ?_ (by assumption) ?_); rotate_left; (intro w; go_simp; (try (with_reducible rfl))); simp only [Act.put, List.setIfInBounds_toArray, List.set_cons_zero, List.set_cons_succ])
                  ((refine AnyT.takeAny 6 23 ?_ rfl (by kernel_rfl) (by kernel_rfl) (by kernel_rfl) rfl rfl (fun _ _ _ _ h => h) rfl ?_ (by assumption) ?_); rotate_left; (intro w; go_simp; (try (with_reducible rfl))); simp only [Act.put, List.setIfInBounds_toArray, List.set_cons_zero, List.set_cons_succ])
                  ((refine AnyT.takeAny 7 24 ?_ rfl (by kernel_rfl) (by kernel_rfl) (by kernel_rfl) rfl rfl (fun _ _ _ _ h => h) rfl ?_ (by assumption) ?_); rotate_left; (intro w; go_simp; (try (with_reducible rfl))); simp only [Act.put, List.setIfInBounds_toArray, List.set_cons_zero, List.set_cons_succ])
                  ((refine AnyT.takeAny 9 26 ?_ rfl (by kernel_rfl) (by kernel_rfl) (by kernel_rfl) rfl rfl (fun _ _ _ _ h => h) rfl ?_ (by assumption) ?_); rotate_left; (intro w; go_simp; (try (with_reducible rfl))); simp only [Act.put, List.setIfInBounds_toArray, List.set_cons_zero, List.set_cons_succ])
                  ((refine AnyT.takeAny 10 27 ?_ rfl (by kernel_rfl) (by kernel_rfl) (by kernel_rfl) rfl rfl (fun _ _ _ _ h => h) rfl ?_ (by assumption) ?_); rotate_left; (intro w; go_simp; (try (with_reducible rfl))); simp only [Act.put, List.setIfInBounds_toArray, List.set_cons_zero, List.set_cons_succ])
                  ((refine AnyT.takeAny 11 28 ?_ rfl (by kernel_rfl) (by kernel_rfl) (by kernel_rfl) rfl rfl (fun _ _ _ _ h => h) rfl ?_ (by assumption) ?_); rotate_left; (intro w; go_simp; (try (with_reducible rfl))); simp only [Act.put, List.setIfInBounds_toArray, List.set_cons_zero, List.set_cons_succ])
                  ((refine AnyT.one (i := 8) (by kernel_rfl) rfl (fun K hK => ?_)))
                  go_simp
                  refine (HSH.out _ _).mono ?_
                  rintro e5 w5 ⟨rfl, rfl⟩
                  refine hK.out _ _ trivial (fun hHeld => ?_)
                  clear hK K
                  (try simp only [Act.put, List.setIfInBounds_toArray, List.set_cons_zero, List.set_cons_succ])
                  ((refine AnyT.one (i := 12) (by kernel_rfl) rfl (fun K hK => ?_)))
                  go_simp
                  refine (HSH.out _ _).mono ?_
                  rintro e6 w6 ⟨rfl, rfl⟩
                  refine hK.out _ _ trivial (fun hHeld => ?_)
                  clear hK K
                  (try simp only [Act.put, List.setIfInBounds_toArray, List.set_cons_zero, List.set_cons_succ])
                  ((refine AnyT.takeAny 13 30 ?_ rfl (by kernel_rfl) (by kernel_rfl) (by kernel_rfl) rfl rfl (fun _ _ _ _ h => h) rfl ?_ (by assumption) ?_); rotate_left; (intro w; go_simp; (try (with_reducible rfl))); simp only [Act.put, List.setIfInBounds_toArray, List.set_cons_zero, List.set_cons_succ])
                  ((refine AnyT.takeAny 14 31 ?_ rfl (by kernel_rfl) (by kernel_rfl) (by kernel_rfl) rfl rfl (fun _ _ _ _ h => h) rfl ?_ (by assumption) ?_); rotate_left; (intro w; go_simp; (try (with_reducible rfl))); simp only [Act.put, List.setIfInBounds_toArray, List.set_cons_zero, List.set_cons_succ])
                  refine AnyT.done (by kernel_rfl) ?_ _
                  go_wp2_with fail
                  go_meet
                  case rel => exact ⟨k, hkne, hk, rfl, HEX.out.1, HEX.out.2, HBK.out⟩
              · have k1 : ¬ (k : Int) < (t.size : Int) := by omega
                have kd : decide ((k : Int) < (t.size : Int)) = false := decide_eq_false k1
                have kd' : decide (k < t.size) = false := decide_eq_false hkt
                have HEX := Lib.hid (run_exit t[i] (t.data.toList.drop (i + 1)) (k - i) (by rw [HLN.out]; omega) HALL.out (fun x hx => by rw [List.getElem?_eq_none (by rw [HLN.out]; omega)] at hx; cases hx))
                go_wp2_with fail
                refine AnyT.region (fun _ => false) (fun _ => True) (by kernel_rfl) trivial (fun hHeld => ?_)
                ((refine AnyT.takeAny 0 17 ?_ rfl (by kernel_rfl) (by kernel_rfl) (by kernel_rfl) rfl rfl (fun _ _ _ _ h => h) rfl ?_ (by assumption) ?_); rotate_left; (intro w; go_simp; (try (with_reducible rfl))); simp only [Act.put, List.setIfInBounds_toArray, List.set_cons_zero, List.set_cons_succ])
                ((refine AnyT.takeAny 1 18 ?_ rfl (by kernel_rfl) (by kernel_rfl) (by kernel_rfl) rfl rfl (fun _ _ _ _ h => h) rfl ?_ (by assumption) ?_); rotate_left; (intro w; go_simp; (try (with_reducible rfl))); simp only [Act.put, List.setIfInBounds_toArray, List.set_cons_zero, List.set_cons_succ])
                ((refine AnyT.takeAny 2 19 ?_ rfl (by kernel_rfl) (by kernel_rfl) (by kernel_rfl) rfl rfl (fun _ _ _ _ h => h) rfl ?_ (by assumption) ?_); rotate_left; (intro w; go_simp; (try (with_reducible rfl))); simp only [Act.put, List.setIfInBounds_toArray, List.set_cons_zero, List.set_cons_succ])
                ((refine AnyT.takeAny 3 20 ?_ rfl (by kernel_rfl) (by kernel_rfl) (by kernel_rfl) rfl rfl (fun _ _ _ _ h => h) rfl ?_ (by assumption) ?_); rotate_left; (intro w; go_simp; (try (with_reducible rfl))); simp only [Act.put, List.setIfInBounds_toArray, List.set_cons_zero, List.set_cons_succ])
                ((refine AnyT.takeAny 4 21 ?_ rfl (by kernel_rfl) (by kernel_rfl) (by kernel_rfl) rfl rfl (fun _ _ _ _ h => h) rfl ?_ (by assumption) ?_); rotate_left; (intro w; go_simp; (try (with_reducible rfl))); simp only [Act.put, List.setIfInBounds_toArray, List.set_cons_zero, List.set_cons_succ])
                ((refine AnyT.skip 5 22 rfl (by kernel_rfl) (by kernel_rfl) (by kernel_rfl) rfl rfl (fun _ _ _ _ h => h) rfl (by assumption) ?_); simp only [Act.put, List.setIfInBounds_toArray, List.set_cons_zero, List.set_cons_succ])
                ((refine AnyT.skip 6 23 rfl (by kernel_rfl) (by kernel_rfl) (by kernel_rfl) rfl rfl (fun _ _ _ _ h => h) rfl (by assumption) ?_); simp only [Act.put, List.setIfInBounds_toArray, List.set_cons_zero, List.set_cons_succ])
                ((refine AnyT.skip 7 24 rfl (by kernel_rfl) (by kernel_rfl) (by kernel_rfl) rfl rfl (fun _ _ _ _ h => h) rfl (by assumption) ?_); simp only [Act.put, List.setIfInBounds_toArray, List.set_cons_zero, List.set_cons_succ])
                ((refine AnyT.skip 8 25 rfl (by kernel_rfl) (by kernel_rfl) (by kernel_rfl) rfl rfl (fun _ _ _ _ h => h) rfl (by assumption) ?_); simp only [Act.put, List.setIfInBounds_toArray, List.set_cons_zero, List.set_cons_succ])
                ((refine AnyT.skip 9 26 rfl (by kernel_rfl) (by kernel_rfl) (by kernel_rfl) rfl rfl (fun _ _ _ _ h => h) rfl (by assumption) ?_); simp only [Act.put, List.setIfInBounds_toArray, List.set_cons_zero, List.set_cons_succ])
                ((refine AnyT.skip 10 27 rfl (by kernel_rfl) (by kernel_rfl) (by kernel_rfl) rfl rfl (fun _ _ _ _ h => h) rfl (by assumption) ?_); simp only [Act.put, List.setIfInBounds_toArray, List.set_cons_zero, List.set_cons_succ])
                ((refine AnyT.skip 11 28 rfl (by kernel_rfl) (by kernel_rfl) (by kernel_rfl) rfl rfl (fun _ _ _ _ h => h) rfl (by assumption) ?_); simp only [Act.put, List.setIfInBounds_toArray, List.set_cons_zero, List.set_cons_succ])
                ((refine AnyT.skip 12 29 rfl (by kernel_rfl) (by kernel_rfl) (by kernel_rfl) rfl rfl (fun _ _ _ _ h => h) rfl (by assumption) ?_); simp only [Act.put, List.setIfInBounds_toArray, List.set_cons_zero, List.set_cons_succ])
                ((refine AnyT.skip 13 30 rfl (by kernel_rfl) (by kernel_rfl) (by kernel_rfl) rfl rfl (fun _ _ _ _ h => h) rfl (by assumption) ?_); simp only [Act.put, List.setIfInBounds_toArray, List.set_cons_zero, List.set_cons_succ])
                ((refine AnyT.takeAny 14 31 ?_ rfl (by kernel_rfl) (by kernel_rfl) (by kernel_rfl) rfl rfl (fun _ _ _ _ h => h) rfl ?_ (by assumption) ?_); rotate_left; (intro w; go_simp; (try (with_reducible rfl))); simp only [Act.put, List.setIfInBounds_toArray, List.set_cons_zero, List.set_cons_succ])
                refine AnyT.done (by kernel_rfl) ?_ _
                go_wp2_with fail
                go_meet
                case rel => exact ⟨k, by omega, hk, rfl, HEX.out.1, HEX.out.2, HBK.out⟩
          case rest =>
            obtain ⟨k, hik, hk, rfl, hro, hrr, hbk⟩ := hcut
            have hown2 := hown.below hbk
            have hsub : (t.extract i k).size = k - i := by rw [ByteArray.size_extract]; omega
            have hfl := formP_len (t.extract i k).data.toList
            rw [len_list, hsub] at hfl
            have hst := partB_step HPB.out HDI.out hik ⟨hro, hrr⟩
            rw [← HDI.out, ← extract_list] at hst
            have HST := Lib.hid hst
            have HP := Lib.hid (fun W => l22Part_any (t.extract i k) (by omega) (by omega) W)
            have HBK := Lib.hid (HBW.out.trans (hbk.mono HBW.out.size))
            have hbs := HBK.out.size
            clear hst hbk hown hro hrr
            have k0 : (0 : Int) ≤ (k : Int) := by omega
            have k1 : (k : Int) ≤ (t.size : Int) := by omega
            have k2 : (i : Int) ≤ (k : Int) := by omega
            generalize formP (t.extract i k).data.toList = F at *
            have hFs : (⟨F.toArray⟩ : ByteArray).size = F.length := by show F.toArray.size = _; simp
            have hbl2 : b.length ≤ 100000 := by omega
            by_cases hi0 : i = 0
            · have z0 : ¬ (0 : Int) < (i : Int) := by omega
              rw [if_pos hi0, List.append_nil] at HST
              have HI0 := Lib.hid hi0
              clear hi0
              go_wp2_with (first
                | fail
                | (refine (HP.out _).mono ?_; rintro e2 w2 ⟨rfl, hb2⟩; have hown3 := hown2.below hb2; have hs2 := Nat.le_trans hbs hb2.size)
                | (at_builtin; refine wpList_appS rfl (.tmp 39) (.tmp 44) rfl _ w.heap.size _ b ⟨F.toArray⟩ rfl hown3 rfl (by omega) (by omega) hs2 ?_; intro v3 w3 hown4 hb3))
              go_roundw
              case rel => exact ⟨k, _, hk, rfl, hown4, by rw [List.length_append]; simp only []; omega, HST.out, HBK.out.trans ((hb2.mono hbs).trans hb3)⟩
              case measure => simp [intOf]; omega
            · have z0 : (0 : Int) < (i : Int) := by omega
              rw [if_neg hi0] at HST
              have hbl3 : (b ++ [95]).length ≤ 1000000 := by simp; omega
              go_wp2_with (first
                | fail
                | (at_builtin; refine wpList_app1 (enc := encB) rfl (.tmp 36) (.tmp 37) 102 5 rfl Tryz.underlying102 rfl (by omega) (fun _ => rfl) infoByte wc w.heap.size _ b (95 : UInt8) rfl hown2 rfl (by omega) hbs ?_; intro v1 w1 hown1 hb1; have hs1 := Nat.le_trans hbs hb1.size)
                | (refine (HP.out _).mono ?_; rintro e2 w2 ⟨rfl, hb2⟩; have hown3 := hown1.below hb2; have hs2 := Nat.le_trans hs1 hb2.size)
                | (at_builtin; refine wpList_appS rfl (.tmp 39) (.tmp 44) rfl _ w.heap.size _ _ ⟨F.toArray⟩ rfl hown3 rfl (by omega) (by omega) hs2 ?_; intro v3 w3 hown4 hb3))
              go_roundw
              case rel => exact ⟨k, _, hk, rfl, hown4, by rw [List.length_append, List.length_append]; simp only [List.length_cons, List.length_nil]; omega, HST.out, HBK.out.trans (hb1.trans ((hb2.mono hs1).trans hb3))⟩
              case measure => simp [intOf]; omega
        · have i1 : ¬ (i : Int) < (t.size : Int) := by omega
          have HFE := Lib.hid (partB_end HPB.out (show i = t.data.toList.length by rw [len_list]; omega) (by omega))
          have hcv := convert_own hown
          go_wp2_with fail
          go_ret
          exact ⟨by rw [HR.out, ← HFE.out]; rfl, HBW.out⟩
  · rw [hcan] at HC
    have HR := Lib.hid (show plainP t.data.toList = t.data.toList by unfold plainP; rw [hcan]; rfl)
    rw [HR.out]
    clear hcan
    go_enter Tryz.func99, Tryz.ntmps99
    go_wp2_with (first | fail | (refine (HC.out _).mono ?_; rintro e1 w1 ⟨rfl, hb1⟩))
    go_ret
    exact ⟨rfl, hb1⟩

set_option maxHeartbeats 4000000 in
theorem specPlainText_any (t : ByteArray) (w : World) : Calls Tryz.prog 241 #[.string t] w fun e w' => e = .returned (.string ⟨(if 64 < t.size then [] else plainP t.data.toList).toArray⟩) ∧ Below w.heap.size w w' := by
  by_cases h : 64 < t.size
  · rw [if_pos h]
    have h1 : (64 : Int) < (t.size : Int) := by omega
    go_enter Tryz.func241, Tryz.ntmps241
    go_wp2_with fail
    go_ret
    exact ⟨rfl, Below.refl _ _⟩
  · rw [if_neg h]
    have h1 : ¬ (64 : Int) < (t.size : Int) := by omega
    have HP := Lib.hid (fun W => l22Plain_any t (by omega) W)
    generalize plainP t.data.toList = R at *
    go_enter Tryz.func241, Tryz.ntmps241
    go_wp2_with (first | fail | (refine (HP.out _).mono ?_; rintro e1 w1 ⟨rfl, hb1⟩))
    go_ret
    exact ⟨rfl, hb1⟩
end Go.Proofs.YtcjaaknnfohllaaGreatDoor

/- The program's numbers walked: printable, isNum, digitsOf, scaled. -/
namespace Go.Proofs.YtcjaaknnfohllaaGreatDoor
open Go.RowKit

set_option maxHeartbeats 4000000 in
theorem printable_any (c : UInt8) (w : World) : Calls Tryz.prog 197 #[.int .u8 c.toNat] w fun e w' => e = .returned (.bool (showsC c)) ∧ w = w' := by
  have hd : showsC c = decide (32 ≤ c.toNat ∧ c.toNat ≤ 126) := rfl
  by_cases h1 : (32 : Int) ≤ (c.toNat : Int)
  · by_cases h2 : (c.toNat : Int) ≤ 126
    · rw [hd, decide_eq_true (by omega)]
      clear hd
      go_enter Tryz.func197, Tryz.ntmps197
      go_wp2_with fail
      go_ret
      exact ⟨rfl, rfl⟩
    · rw [hd, decide_eq_false (by omega)]
      clear hd
      go_enter Tryz.func197, Tryz.ntmps197
      go_wp2_with fail
      go_ret
      exact ⟨rfl, rfl⟩
  · rw [hd, decide_eq_false (by omega)]
    clear hd
    go_enter Tryz.func197, Tryz.ntmps197
    go_wp2_with fail
    go_ret
    exact ⟨rfl, rfl⟩

set_option maxHeartbeats 4000000 in
theorem isNum_yes (n : Int) (hn : n.natAbs ≤ maxNum) (w : World) : Calls Tryz.prog 251 #[.int .i64 n] w fun e w' => e = .returned (.bool true) ∧ w = w' := by
  have h1 : -999999999999999999 ≤ n := by unfold maxNum at hn; omega
  have h2 : n ≤ 999999999999999999 := by unfold maxNum at hn; omega
  clear hn
  have HW := Lib.hid (show ∀ W : World, Calls Tryz.prog 85 #[.int .i64 n, .int .i64 (-999999999999999999), .int .i64 999999999999999999] W fun e w' => e = .returned (.bool true) ∧ W = w' from fun W => by
    go_enter Tryz.func85, Tryz.ntmps85
    go_wp2_with fail
    go_ret
    exact ⟨rfl, rfl⟩)
  go_enter Tryz.func251, Tryz.ntmps251
  go_wp2_with (first | fail | (refine (HW.out _).mono ?_; rintro e1 w1 ⟨rfl, rfl⟩))
  go_ret
  exact ⟨rfl, rfl⟩

theorem len_list' (t : ByteArray) : t.data.toList.length = t.size := Array.length_toList
/-- strings.TrimLeft at a set of ASCII bytes. -/
theorem trimLeft_any (s cs : ByteArray) (hcs : cs.size < 4294967281) (ha : cs.data.toList.all (fun b => decide (b.toNat < 128)) = true) (w : World) :
    Calls Tryz.prog 106 #[.string s, .string cs] w fun e w' => e = .returned (.string ⟨(Lib.trimLeftS s.data.toList cs.data.toList).toArray⟩) ∧ Below w.heap.size w w' :=
  Any.strings_TrimLeft_laid Tryz.lays161 (by kernel_rfl) s cs w hcs (ascii_of_all ha)
theorem bytes_drop1' (D : List UInt8) (n : Nat) : ((⟨D.toArray⟩ : ByteArray).extract n D.length).data.toList = D.drop n := by
  rw [ByteArray.data_extract, Array.toList_extract, List.extract_eq_take_drop]
  exact List.take_of_length_le (by rw [List.length_drop]; exact Nat.le_refl _)
theorem dropWhile_len (p : UInt8 → Bool) (l : List UInt8) : l.length - (l.dropWhile p).length = (l.takeWhile p).length ∧ (l.dropWhile p).length ≤ l.length := by
  have h := congrArg List.length (List.takeWhile_append_dropWhile (p := p) (l := l))
  rw [List.length_append] at h
  omega

set_option maxHeartbeats 4000000 in
theorem digitsOf_any (s : ByteArray) (hs : s.size ≤ 1048576) (w : World) : Calls Tryz.prog 249 #[.string s] w fun e w' => e = .returned (.int .i64 ((s.data.toList.takeWhile isDig).length : Nat)) ∧ Below w.heap.size w w' := by
  have HT := Lib.hid (fun W => trimLeft_any s ⟨#[48, 49, 50, 51, 52, 53, 54, 55, 56, 57]⟩ (by decide) (by decide) W)
  rw [show (⟨#[48, 49, 50, 51, 52, 53, 54, 55, 56, 57]⟩ : ByteArray).data.toList = [48, 49, 50, 51, 52, 53, 54, 55, 56, 57] from rfl, trimLeft_dig] at HT
  have hl := dropWhile_len isDig s.data.toList
  rw [len_list'] at hl
  generalize s.data.toList.dropWhile isDig = D at *
  generalize s.data.toList.takeWhile isDig = N at *
  go_enter Tryz.func249, Tryz.ntmps249
  go_wp2_with (first | fail | (refine (HT.out _).mono ?_; rintro e1 w1 ⟨rfl, hb1⟩))
  go_ret
  exact ⟨by show Ending.returned (Value.int .i64 ((s.size : Int) - (D.length : Int))) = _; rw [show (s.size : Int) - (D.length : Int) = ((N.length : Nat) : Int) by omega], hb1⟩

set_option maxHeartbeats 8000000 in
set_option maxRecDepth 100000 in
theorem scaled_any (n : Nat) (hn : n ≤ maxNum) (s : ByteArray) (hs : s.size ≤ 1048576) (hd : ∀ c ∈ s.data.toList, isDig c = true) (w : World) :
    Calls Tryz.prog 250 #[.int .i64 (n : Int), .string s] w fun e w' => e = .returned (.int .i64 ((scaledP n s.data.toList : Nat) : Int)) ∧ Below w.heap.size w w' := by
  have HD := Lib.hid hd
  clear hd
  unfold maxNum at hn
  obtain ⟨cap1, w1, hcv, hcells, hbw, _⟩ := rowBytes w s
  have HCL := Lib.hid hcells; have HBW := Lib.hid hbw
  have hsz1 : w.heap.size < w1.heap.size := by omega
  clear hcells hbw
  go_enter Tryz.func250, Tryz.ntmps250
  go_wp2_with fail
  clear hcv
  go_loopw [0, 10] (fun m i wr => ∃ k nn : Nat, k ≤ s.size ∧ i = .int .i64 k ∧ m = .int .i64 (nn : Int) ∧ nn ≤ 999999999999999999 ∧ scaledP nn (s.data.toList.drop k) = scaledP n s.data.toList ∧ Below w1.heap.size w1 wr) (fun _ i _ => s.size - (intOf i).toNat)
  case atStart => exact ⟨0, n, Nat.zero_le _, rfl, rfl, hn, rfl, Below.refl _ _⟩
  case round =>
    obtain ⟨k, nn, hk, rfl, rfl, hnn, hsc, hbr⟩ := hrel
    have HSC := Lib.hid hsc; have HBR := Lib.hid hbr
    by_cases hlt : k < s.size
    · have i1 : (k : Int) < (s.size : Int) := by omega
      have i0 : (0 : Int) ≤ (k : Int) := by omega
      have hcell : wr.cell? ⟨w.heap.size, k, none⟩ = some (.int .u8 (s[k].toNat : Int)) := (hbr.cell (p := ⟨w.heap.size, k, none⟩) hsz1).trans (HCL.out k hlt)
      have hdc := HD.out s[k] (by
        have := get_list s k hlt
        exact List.mem_of_getElem? this)
      have h9 := dg_le hdc
      have hdv : ((s[k].toNat : Int) - 48) = (dg s[k] : Int) := by unfold isDig at hdc; unfold dg; simp only [decide_eq_true_eq] at hdc; omega
      have hdr : s.data.toList.drop k = s[k] :: s.data.toList.drop (k + 1) := List.drop_eq_getElem_cons (by rw [len_list']; exact hlt)
      have hst := HSC.out
      rw [hdr, scaledP_cons] at hst
      clear hdr hdc hsc hbr
      have hq : ((999999999999999999 : Int) - (dg s[k] : Int)) / 10 = (((maxNum - dg s[k]) / 10 : Nat) : Int) := by unfold maxNum; omega
      generalize hQ : (maxNum - dg s[k]) / 10 = q at *
      have hq1 : q ≤ 99999999999999999 := by unfold maxNum at hQ; omega
      have hq2 : 10 * q + dg s[k] ≤ 999999999999999999 := by unfold maxNum at hQ; omega
      clear hQ
      generalize dg s[k] = d at *
      by_cases hb : q < nn
      · rw [if_pos hb] at hst
        have HST := Lib.hid hst
        have hb' : (q : Int) < (nn : Int) := by omega
        clear hst
        go_wp2_with fail
        go_ret
        exact ⟨by rw [← HST.out]; rfl, HBW.out.trans (HBR.out.mono HBW.out.size)⟩
      · rw [if_neg hb] at hst
        have HST := Lib.hid hst
        have hb' : ¬ (q : Int) < (nn : Int) := by omega
        clear hst
        go_wp2_with fail
        go_roundw
        case rel => exact ⟨k + 1, 10 * nn + d, by omega, by go_num, by push_cast; rfl, by omega, HST.out, HBR.out⟩
        case measure => simp [intOf]; omega
    · have i1 : ¬ (k : Int) < (s.size : Int) := by omega
      have hst := HSC.out
      rw [List.drop_of_length_le (by rw [len_list']; omega), scaledP_nil] at hst
      have HST := Lib.hid hst
      clear hst
      go_wp2_with fail
      go_ret
      exact ⟨by rw [← HST.out]; rfl, HBW.out.trans (HBR.out.mono HBW.out.size)⟩

theorem scaled_arg (Wd F : List UInt8) : ((⟨Wd.toArray⟩ : ByteArray) ++ ((⟨F.toArray⟩ : ByteArray) ++ (⟨#[48, 48, 48, 48, 48, 48]⟩ : ByteArray)).extract 0 6).data.toList = Wd ++ fillP 6 F := by
  rw [ByteArray.data_append, Array.toList_append, bytes_pop, ByteArray.data_append, Array.toList_append]
  rfl

set_option maxHeartbeats 8000000 in
set_option maxRecDepth 100000 in
theorem numOf_any (s : ByteArray) (hs : s.size ≤ 65536) (w : World) : Calls Tryz.prog 223 #[.string s] w fun e w' => e = .returned (.int .i64 (numOf s.data.toList)) ∧ Below w.heap.size w w' := by
  have HT := Lib.hid (fun W => trimLeft_any s ⟨#[43, 45]⟩ (by decide) (by decide) W)
  rw [show (⟨#[43, 45]⟩ : ByteArray).data.toList = [43, 45] from rfl, trimLeft_sgn] at HT
  obtain ⟨hR1, hR2⟩ := dropWhile_len isSgn s.data.toList
  rw [len_list'] at hR1 hR2
  have hRt := take_while isSgn s.data.toList
  rw [len_list'] at hRt
  have hNO : numOf s.data.toList = if ((s.data.toList.takeWhile isSgn).count 45 % 2 == 1) then -(absOf s.data.toList : Int) else (absOf s.data.toList : Int) := rfl
  have hcl : (s.data.toList.takeWhile isSgn).count 45 ≤ 65536 := Nat.le_trans List.count_le_length (by omega)
  have hCT := fun W => Tryz.strings_Count_one (s.extract 0 (s.size - (s.data.toList.dropWhile isSgn).length)) 45 W
  rw [show Lib.countByte (s.extract 0 (s.size - (s.data.toList.dropWhile isSgn).length)).data.toList 45 = (s.data.toList.takeWhile isSgn).count 45 by rw [bytes_pop, hRt]; rfl] at hCT
  have HCT := Lib.hid hCT
  have HNO := Lib.hid hNO
  have HAB := Lib.hid (scaled_abs s.data.toList)
  have hW : wholeOf s.data.toList = (s.data.toList.dropWhile isSgn).takeWhile isDig := rfl
  have hB : behindOf s.data.toList = (s.data.toList.dropWhile isSgn).dropWhile isDig := rfl
  have hwd := wholeOf_dig s.data.toList
  have hfd := fracOf_dig s.data.toList
  have hF1 := fun h => fracOf_none (l := s.data.toList) h
  have hF2 := fun r h => fracOf_point (l := s.data.toList) (r := r) h
  have hab := absOf_le s.data.toList
  clear hNO hCT hRt
  generalize s.data.toList.dropWhile isSgn = R at *
  generalize (s.data.toList.takeWhile isSgn).count 45 = cnt at *
  rw [hR1] at HCT
  generalize (s.data.toList.takeWhile isSgn).length = sg at *
  generalize numOf s.data.toList = Z at *
  generalize absOf s.data.toList = ab at *
  generalize hWd : wholeOf s.data.toList = Wd at *
  generalize hBd : behindOf s.data.toList = B at *
  generalize hFd : fracOf s.data.toList = F at *
  have hx1 : (⟨R.toArray⟩ : ByteArray).extract 0 Wd.length = ⟨Wd.toArray⟩ := ByteArray.ext (by
    rw [ByteArray.data_extract]
    apply Array.toList_inj.1
    rw [Array.toList_extract, List.extract_eq_take_drop, hW]
    show ((R.drop 0).take ((R.takeWhile isDig).length - 0)) = _
    rw [List.drop_zero, Nat.sub_zero]
    exact List.prefix_iff_eq_take.1 (List.takeWhile_prefix isDig) |>.symm)
  have hx2 : (⟨R.toArray⟩ : ByteArray).extract Wd.length R.length = ⟨B.toArray⟩ := ByteArray.ext (by
    apply Array.toList_inj.1
    rw [bytes_drop1' R Wd.length, hB, ← drop_while, hW])
  have hBl : B.length ≤ R.length ∧ Wd.length ≤ R.length := by
    have := dropWhile_len isDig R
    rw [← hW, ← hB] at this
    omega
  obtain ⟨hBl1, hBl2⟩ := hBl
  have HDG := Lib.hid (fun W => digitsOf_any ⟨R.toArray⟩ (by show R.toArray.size ≤ _; simp; omega) W)
  rw [show (⟨R.toArray⟩ : ByteArray).data.toList = R from rfl, ← hW] at HDG
  have HCP := Lib.hid (fun W => Tryz.strings_CutPrefix ⟨B.toArray⟩ ⟨#[46]⟩ W)
  rw [show (⟨B.toArray⟩ : ByteArray).data.toList = B from rfl, show (⟨#[46]⟩ : ByteArray).data.toList = [46] from rfl] at HCP
  have wc2 : ((cnt : Int)).tmod 2 = ((cnt % 2 : Nat) : Int) := rfl
  have wc3 : (cnt : Int) % 2 = ((cnt % 2 : Nat) : Int) := by omega
  have hm2 : cnt % 2 ≤ 1 := by omega
  generalize cnt % 2 = par at *
  have hpar : ((par : Int) == 1) = (par == 1) := by
    rcases (show par = 0 ∨ par = 1 by omega) with rfl | rfl <;> rfl
  have HZ := Lib.hid HNO.out
  clear hW hB hWd hBd hFd HNO
  generalize (par == 1) = neg at *
  have hsc : ∀ W, Calls Tryz.prog 250 #[.int .i64 0, .string ((⟨Wd.toArray⟩ : ByteArray) ++ ((⟨F.toArray⟩ : ByteArray) ++ (⟨#[48, 48, 48, 48, 48, 48]⟩ : ByteArray)).extract 0 6)] W fun e w' => e = .returned (.int .i64 (ab : Int)) ∧ Below W.heap.size W w' := fun W => by
    have h1 := scaled_any 0 (Nat.zero_le _) ((⟨Wd.toArray⟩ : ByteArray) ++ ((⟨F.toArray⟩ : ByteArray) ++ (⟨#[48, 48, 48, 48, 48, 48]⟩ : ByteArray)).extract 0 6) (by
      rw [← len_list', scaled_arg, List.length_append, fillP_len]; omega) (by
      rw [scaled_arg]
      intro c hc
      rcases List.mem_append.1 hc with h | h
      · exact hwd c h
      · exact fillP_dig 6 F hfd c h) W
    rw [scaled_arg, HAB.out] at h1
    exact h1
  have HSC := Lib.hid hsc
  have hwl : ({ data := Wd.toArray } : ByteArray).size = Wd.length := by show Wd.toArray.size = _; simp
  unfold maxNum at hab
  clear hsc hwd hfd HAB
  by_cases hdot : ∃ r, B = 46 :: r
  · obtain ⟨r, rfl⟩ := hdot
    have hF := hF2 r rfl
    rw [show Lib.hasPrefix (46 :: r) [46] = true by simp [Lib.hasPrefix, List.isPrefixOf], show Lib.trimPrefix (46 :: r) [46] = r by simp [Lib.trimPrefix, Lib.hasPrefix, List.isPrefixOf]] at HCP
    have HDG2 := Lib.hid (fun W => digitsOf_any ⟨r.toArray⟩ (by show r.toArray.size ≤ _; simp at hBl1 ⊢; omega) W)
    rw [show (⟨r.toArray⟩ : ByteArray).data.toList = r from rfl, ← hF] at HDG2
    have hx3 : (⟨r.toArray⟩ : ByteArray).extract 0 F.length = ⟨F.toArray⟩ := ByteArray.ext (by
      rw [ByteArray.data_extract]
      apply Array.toList_inj.1
      rw [Array.toList_extract, List.extract_eq_take_drop, hF]
      show ((r.drop 0).take ((r.takeWhile isDig).length - 0)) = _
      rw [List.drop_zero, Nat.sub_zero]
      exact List.prefix_iff_eq_take.1 (List.takeWhile_prefix isDig) |>.symm)
    have hfl : F.length ≤ r.length := by rw [hF]; exact (List.takeWhile_sublist isDig (l := r)).length_le
    rw [List.length_cons] at hBl1
    clear hF hF1 hF2
    go_enter Tryz.func223, Tryz.ntmps223
    go_wp2_with fail
    refine (HT.out _).mono ?_; rintro e1 w1 ⟨rfl, hb1⟩
    go_wp2_with fail
    refine (HCT.out _).mono ?_; rintro e2 w2 ⟨rfl, rfl⟩
    go_wp2_with fail
    refine (HDG.out _).mono ?_; rintro e3 w3 ⟨rfl, hb3⟩
    go_wp2_with fail
    refine (HCP.out _).mono ?_; rintro e4 w4 ⟨rfl, rfl⟩
    go_wp2_with fail
    refine (HDG2.out _).mono ?_; rintro e5 w5 ⟨rfl, hb5⟩
    go_wp2_with fail
    refine (HSC.out _).mono ?_; rintro e6 w6 ⟨rfl, hb6⟩
    have HBX := Lib.hid (hb1.trans ((hb3.mono hb1.size).trans ((hb5.mono (Nat.le_trans hb1.size hb3.size)).trans (hb6.mono (Nat.le_trans hb1.size (Nat.le_trans hb3.size hb5.size))))))
    cases neg
    · go_wp2_with fail
      go_ret
      exact ⟨by rw [HZ.out]; rfl, HBX.out⟩
    · go_wp2_with fail
      go_ret
      exact ⟨by rw [HZ.out]; rfl, HBX.out⟩
  · have hF := hF1 (fun r e => hdot ⟨r, e⟩)
    have hpf : Lib.hasPrefix B [46] = false := by
      unfold Lib.hasPrefix
      cases B with
      | nil => rfl
      | cons b r =>
        rw [List.isPrefixOf]
        have : (46 == b) = false := by rw [beq_eq_false_iff_ne]; exact fun e => hdot ⟨r, by rw [e]⟩
        rw [this]; rfl
    rw [hpf, show Lib.trimPrefix B [46] = B by unfold Lib.trimPrefix; rw [hpf]; rfl] at HCP
    subst hF
    clear hF1 hF2 hdot hpf
    go_enter Tryz.func223, Tryz.ntmps223
    go_wp2_with fail
    refine (HT.out _).mono ?_; rintro e1 w1 ⟨rfl, hb1⟩
    go_wp2_with fail
    refine (HCT.out _).mono ?_; rintro e2 w2 ⟨rfl, rfl⟩
    go_wp2_with fail
    refine (HDG.out _).mono ?_; rintro e3 w3 ⟨rfl, hb3⟩
    go_wp2_with fail
    refine (HCP.out _).mono ?_; rintro e4 w4 ⟨rfl, rfl⟩
    go_wp2_with fail
    refine (HSC.out _).mono ?_; rintro e6 w6 ⟨rfl, hb6⟩
    have HBX := Lib.hid (hb1.trans ((hb3.mono hb1.size).trans (hb6.mono (Nat.le_trans hb1.size hb3.size))))
    cases neg
    · go_wp2_with fail
      go_ret
      exact ⟨by rw [HZ.out]; rfl, HBX.out⟩
    · go_wp2_with fail
      go_ret
      exact ⟨by rw [HZ.out]; rfl, HBX.out⟩
end Go.Proofs.YtcjaaknnfohllaaGreatDoor

/- The program's texts of numbers walked: FormatInt, NumText, IsCanon; what the library reads of the world. -/
namespace Go.Proofs.YtcjaaknnfohllaaGreatDoor
open Go.RowKit

/-- The table that strconv reads. -/
def TabsIn (w : World) : Prop := Lib.TabIs Tryz.prog w "internal/strconv.uint64pow10" .u64 Lib.pow10Tab
theorem TabsIn.below {w w' : World} (h : TabsIn w) (hb : Below w.heap.size w w') : TabsIn w' := by
  unfold TabsIn Lib.TabIs World.var? at h ⊢
  cases hg : Tryz.prog.globalNamed "internal/strconv.uint64pow10" with
  | none => rw [hg] at h; cases h
  | some g =>
    rw [hg] at h
    simp only [Option.bind_some] at h ⊢
    have hlt : g < w.heap.size := by
      rcases Nat.lt_or_ge g w.heap.size with h' | h'
      · exact h'
      · rw [Array.getElem?_eq_none h'] at h; cases h
    rw [hb.block g hlt]
    exact h
/-- And what package bytealg reads. -/
def EnvIn (w : World) : Prop := TabsIn w ∧ ∃ m, w.cell? ⟨0, 0, none⟩ = some (.int .i64 m)
theorem EnvIn.below {w w' : World} (h : EnvIn w) (hb : Below w.heap.size w w') : EnvIn w' := by
  refine ⟨h.1.below hb, ?_⟩
  obtain ⟨m, hm⟩ := h.2
  have hlt : 0 < w.heap.size := by
    rcases Nat.lt_or_ge 0 w.heap.size with h' | h'
    · exact h'
    · unfold World.cell? at hm
      rw [Array.getElem?_eq_none h'] at hm; cases hm
  exact ⟨m, (hb.cell (p := ⟨0, 0, none⟩) hlt).trans hm⟩

theorem formatInt_any (k : Nat) (hk : k ≤ 9223372036854775807) (w : World) (hT : TabsIn w) : Calls Tryz.prog 88 #[.int .i64 (k : Int), .int .i64 10] w fun e w' => e = .returned (.string ⟨(Go.Lib.decDigits k).toArray⟩) ∧ Below w.heap.size w w' := by
  refine (Tryz.strconv_FormatInt_10 (k : Int) (by omega) (by omega) w hT).mono ?_
  rintro e3 w3 ⟨rfl, q, os, rfl⟩
  refine ⟨?_, Lib.below_grow w.heap.size w (Nat.le_refl _) q os⟩
  unfold Lib.itoa
  rw [if_neg (by omega), Int.toNat_natCast]

theorem mk_app (A B : List UInt8) : ((⟨A.toArray⟩ : ByteArray) ++ ⟨B.toArray⟩) = ⟨(A ++ B).toArray⟩ := ByteArray.ext (by rw [ByteArray.data_append]; simp)
theorem mk_app1 (c : UInt8) (B : List UInt8) : ((⟨#[c]⟩ : ByteArray) ++ ⟨B.toArray⟩) = ⟨(c :: B).toArray⟩ := mk_app [c] B
theorem numText_split (n : Int) (h : n ≠ 0) : numText n = (if n < 0 then [45] else []) ++ absT n.natAbs := by
  unfold numText
  rw [if_neg h]
  split <;> rfl

set_option maxHeartbeats 8000000 in
set_option maxRecDepth 100000 in
theorem numText_any (n : Int) (hn : n.natAbs ≤ maxNum) (w : World) (hT : TabsIn w) : Calls Tryz.prog 226 #[.int .i64 n] w fun e w' => e = .returned (.string ⟨(numText n).toArray⟩) ∧ Below w.heap.size w w' := by
  have HT := Lib.hid hT; clear hT
  have HI := Lib.hid (fun W => isNum_yes n hn W)
  unfold maxNum at hn
  by_cases h0 : n = 0
  · have HR := Lib.hid (show numText n = [48] by unfold numText; exact if_pos h0)
    rw [HR.out]
    subst h0
    clear HR hn
    go_enter Tryz.func226, Tryz.ntmps226
    go_wp2_with fail
    refine (HI.out _).mono ?_; rintro e1 w1 ⟨rfl, rfl⟩
    go_wp2_with fail
    go_ret
    exact ⟨rfl, Below.refl _ _⟩
  · have HR := Lib.hid (numText_split n h0)
    have q0 : (n == 0) = false := by rw [beq_eq_false_iff_ne]; exact h0
    generalize numText n = R at *
    obtain ⟨a, ha⟩ : ∃ a, a = n.natAbs := ⟨_, rfl⟩
    rw [← ha] at HR
    have ha1 : 1 ≤ a := by omega
    have ha2 : a ≤ 999999999999999999 := by omega
    go_enter Tryz.func226, Tryz.ntmps226
    go_wp2_with fail
    refine (HI.out _).mono ?_; rintro e1 w1 ⟨rfl, rfl⟩
    go_upto_if 11 with fail
    go_cut [0, 3] (fun m t wr => m = .int .i64 (a : Int) ∧ t = .string ⟨(if n < 0 then [45] else [] : List UInt8).toArray⟩ ∧ w = wr)
    case first =>
      have HAA := Lib.hid ha
      clear ha
      by_cases hneg : n < 0
      · have hna : -n = (a : Int) := by have := HAA.out; omega
        go_wp2_with fail
        go_meet
        case rel => exact ⟨by first | rfl | rw [hna] | rw [HAA.out], by rw [if_pos hneg], rfl⟩
      · have hna : n = (a : Int) := by have := HAA.out; omega
        go_wp2_with fail
        go_meet
        case rel => exact ⟨by first | rfl | rw [hna], by rw [if_neg (by omega)], rfl⟩
    case rest =>
      obtain ⟨rfl, rfl, rfl⟩ := hcut
      have hPl : (if n < 0 then [45] else [] : List UInt8).length ≤ 1 := by split <;> simp
      generalize (if n < 0 then [45] else [] : List UInt8) = P at *
      clear hn h0 q0 ha HI
      have hab : absT a = wholeT (a / 1000000) ++ fracT (a % 1000000) := rfl
      have hq : (a : Int) / 1000000 = ((a / 1000000 : Nat) : Int) := by omega
      have hqt : (a : Int).tdiv 1000000 = ((a / 1000000 : Nat) : Int) := (Int.ofNat_tdiv a 1000000).symm
      have hr : (a : Int) % 1000000 = ((a % 1000000 : Nat) : Int) := by omega
      have hrt : (a : Int).tmod 1000000 = ((a % 1000000 : Nat) : Int) := (Int.ofNat_tmod a 1000000).symm
      have hr6 : a % 1000000 < 1000000 := by omega
      have hq12 : a / 1000000 ≤ 999999999999 := by omega
      have hge : (1000000 ≤ a) ↔ (a / 1000000 ≠ 0) := by omega
      rw [hab] at HR
      generalize a / 1000000 = q at *
      generalize a % 1000000 = r at *
      clear hab
      have hwl : (wholeT q).length ≤ 13 := by unfold wholeT; split; exact Nat.zero_le _; exact decDigits_len 12 _ (by omega)
      go_upto_if 15 with fail
      go_cut [3] (fun t wr => t = .string ⟨(P ++ wholeT q).toArray⟩ ∧ Below w.heap.size w wr)
      case first =>
        by_cases h6 : 1000000 ≤ a
        · have h6' : (1000000 : Int) ≤ (a : Int) := by omega
          have hwq : wholeT q = Go.Lib.decDigits q := by unfold wholeT; rw [if_neg (hge.1 h6)]
          have HF := Lib.hid (fun W h => formatInt_any q (by omega) W h)
          rw [← hwq] at HF
          clear hwq h6 hge
          generalize wholeT q = D at *
          generalize hdd : decide ((1000000 : Int) ≤ (a : Int)) = d
          obtain rfl : d = true := by rw [← hdd]; exact decide_eq_true h6'
          clear hdd h6'
          go_wp2_with fail
          refine (HF.out _ HT.out).mono ?_; rintro e2 w2 ⟨rfl, hb2⟩
          go_wp2_with fail
          go_meet
          case rel => exact ⟨by rw [mk_app], hb2⟩
        · have h6' : ¬ (1000000 : Int) ≤ (a : Int) := by omega
          have HQ := Lib.hid (show wholeT q = [] by unfold wholeT; rw [if_pos (Decidable.not_not.1 (fun h => h6 (hge.2 h)))])
          generalize hdd : decide ((1000000 : Int) ≤ (a : Int)) = d
          obtain rfl : d = false := by rw [← hdd]; exact decide_eq_false h6'
          clear hdd h6' h6 hge
          go_wp2_with fail
          go_meet
          case rel => exact ⟨by rw [HQ.out, List.append_nil], Below.refl _ _⟩
      case rest =>
        obtain ⟨rfl, hbw⟩ := hcut
        have hTw := Lib.hid (HT.out.below hbw)
        have HBW := Lib.hid hbw
        have hbs := hbw.size
        clear hbw hge HT
        by_cases hr0 : r = 0
        · have HRR := Lib.hid (show R = P ++ wholeT q by rw [HR.out, hr0, show fracT 0 = [] from if_pos rfl, List.append_nil])
          have hr0' : ¬ (0 : Int) < (r : Int) := by omega
          clear hr0 HR
          go_wp2_with fail
          go_ret
          exact ⟨by rw [HRR.out]; rfl, HBW.out⟩
        · have hrp : (0 : Int) < (r : Int) := by omega
          have HF := Lib.hid (show ∀ W, TabsIn W → Calls Tryz.prog 88 #[.int .i64 (1000000 + (r : Int)), .int .i64 10] W fun e w' => e = .returned (.string ⟨(Go.Lib.decDigits (1000000 + r)).toArray⟩) ∧ Below W.heap.size W w' from fun W h => (Int.natCast_add 1000000 r) ▸ formatInt_any (1000000 + r) (by omega) W h)
          have hD7 := fracD_len hr6
          have HFD := Lib.hid (show fracT r = 46 :: trimZ ((Go.Lib.decDigits (1000000 + r)).drop 1) by rw [fracT_eq hr0]; rfl)
          generalize Go.Lib.decDigits (1000000 + r) = D at *
          have hd1 := bytes_drop1 D
          rw [hD7] at hd1
          have HD1 := Lib.hid hd1
          have HD1s := Lib.hid (show ((⟨D.toArray⟩ : ByteArray).extract 1 7).size ≤ 7 by have := congrArg List.length hd1; simp at this ⊢; omega)
          clear hr0 hd1
          go_wp2_with fail
          refine (HF.out _ hTw.out).mono ?_; rintro e3 w3 ⟨rfl, hb3⟩
          go_wp2_with fail
          refine (Tryz.strings_TrimRight_one _ 48 (by decide) _ ?_).mono ?_
          · have := HD1s.out; omega
          rintro e4 w4 ⟨rfl, rfl⟩
          have HX := Lib.hid (show (Go.Lib.trimRightB ((⟨D.toArray⟩ : ByteArray).extract 1 7).data.toList 48) = trimZ (D.drop 1) by rw [HD1.out]; rfl)
          rw [HX.out]
          have HBX := Lib.hid (HBW.out.trans (hb3.mono hbs))
          clear hb3 HX HD1 HD1s HF
          have hZl := trimZ_len (D.drop 1)
          rw [List.length_drop, hD7] at hZl
          generalize trimZ (D.drop 1) = Z at *
          go_wp2_with fail
          go_ret
          exact ⟨by rw [HR.out, HFD.out, ← List.append_assoc, ← mk_app, ← mk_app1]; rfl, HBX.out⟩

set_option maxHeartbeats 4000000 in
set_option maxRecDepth 100000 in
theorem implIsCanon_any (s : ByteArray) (hs : s.size ≤ 65536) (w : World) (hT : TabsIn w) : Calls Tryz.prog 195 #[.string s] w fun e w' => e = .returned (.bool (canonB s.data.toList)) ∧ Below w.heap.size w w' := by
  have HT := Lib.hid hT; clear hT
  have HO := Lib.hid (fun W => numOf_any s hs W)
  have HTX := Lib.hid (fun W h => numText_any (numOf s.data.toList) (numOf_abs s.data.toList) W h)
  have hB : canonB s.data.toList = (numText (numOf s.data.toList) == s.toList) := by
    unfold canonB
    generalize numText (numOf s.data.toList) = A
    exact bytes_beq A s
  have HR := Lib.hid hB; clear hB
  generalize hQ : canonB s.data.toList = Q at *
  clear hQ
  generalize numOf s.data.toList = n at *
  go_enter Tryz.func195, Tryz.ntmps195
  go_wp2_with fail
  refine (HO.out _).mono ?_; rintro e1 w1 ⟨rfl, hb1⟩
  have HB1 := Lib.hid hb1; clear hb1
  go_wp2_with fail
  refine (HTX.out _ (HT.out.below HB1.out)).mono ?_; rintro e1 w1 ⟨rfl, hb1⟩
  have HB2 := Lib.hid (HB1.out.trans (hb1.mono HB1.out.size)); clear hb1
  go_wp2_with fail
  go_ret
  exact ⟨by rw [HR.out]; rfl, HB2.out⟩
end Go.Proofs.YtcjaaknnfohllaaGreatDoor
