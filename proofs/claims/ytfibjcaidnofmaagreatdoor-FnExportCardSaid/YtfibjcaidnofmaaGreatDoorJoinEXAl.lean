/- The reference's plain forms walked: l22Shows, l22Part, l22Plain, PlainText. -/
import Derived.Test.YtfibjcaidnofmaaGreatDoorJoinEXAk
import Derived.Test.YtfibjcaidnofmaaGreatDoorJoinEXAc
import Derived.Test.YtfibjcaidnofmaaGreatDoorJoinEXAi
namespace Go.Proofs.YtfibjcaidnofmaaGreatDoor
open Go.RowKit

set_option maxHeartbeats 4000000 in
theorem l22Shows_any (c : UInt8) (w : World) : Calls Tryz.prog 124 #[.int .u8 c.toNat] w fun e w' => e = .returned (.bool (showsC c)) ∧ w = w' := by
  have hd : showsC c = decide (32 ≤ c.toNat ∧ c.toNat ≤ 126) := rfl
  by_cases h1 : (32 : Int) ≤ (c.toNat : Int)
  · by_cases h2 : (c.toNat : Int) ≤ 126
    · rw [hd, decide_eq_true (by omega)]
      clear hd
      go_enter Tryz.func124, Tryz.ntmps124
      go_wp2_with fail
      go_ret
      exact ⟨rfl, rfl⟩
    · rw [hd, decide_eq_false (by omega)]
      clear hd
      go_enter Tryz.func124, Tryz.ntmps124
      go_wp2_with fail
      go_ret
      exact ⟨rfl, rfl⟩
  · rw [hd, decide_eq_false (by omega)]
    clear hd
    go_enter Tryz.func124, Tryz.ntmps124
    go_wp2_with fail
    go_ret
    exact ⟨rfl, rfl⟩

theorem doubled_len (l : List UInt8) : (doubled l).length ≤ 2 * l.length := by
  induction l with
  | nil => exact Nat.le_refl _
  | cons c l ih =>
    unfold doubled at ih ⊢
    rw [List.flatMap_cons, List.length_append, List.length_cons]
    have : (if c = 34 then [34, 34] else [c] : List UInt8).length ≤ 2 := by split <;> simp
    omega
theorem codesTo_len : ∀ (n : Nat) (l : List UInt8), l.length = n → (codesTo l).length ≤ 4 * n
  | 0, l, h => by
    obtain rfl := List.eq_nil_of_length_eq_zero h
    exact Nat.le_refl _
  | n + 1, l, h => by
    obtain ⟨m, c, rfl⟩ : ∃ m c, l = m ++ [c] := ⟨l.dropLast, l.getLast (by intro e; rw [e] at h; cases h), (List.dropLast_concat_getLast _).symm⟩
    have h1 : m.length = n := by simpa using h
    have h2 := decDigits_len 2 c.toNat (by have := c.toNat_lt; omega)
    have ih := codesTo_len n m h1
    by_cases hm : m = []
    · subst hm
      rw [List.nil_append, codesTo_first]; omega
    · rw [codesTo_snoc m c hm, List.length_append, List.length_cons]; omega
theorem len_list (t : ByteArray) : t.data.toList.length = t.size := Array.length_toList
theorem list_head (t : ByteArray) (h : 0 < t.size) : t.data.toList = t[0] :: t.data.toList.drop 1 := by
  exact List.drop_eq_getElem_cons (l := t.data.toList) (i := 0) (by simpa using h)
theorem formP_shows {t : ByteArray} (h : 0 < t.size) (hs : showsC t[0] = true) : formP t.data.toList = 34 :: (doubled t.data.toList ++ [34]) := by
  rw [← quoteP_eq]
  rw [list_head t h]
  exact if_pos hs
theorem formP_codes {t : ByteArray} (h : 0 < t.size) (hs : showsC t[0] = false) : formP t.data.toList = 36 :: 67 :: 40 :: (codesTo t.data.toList ++ [41]) := by
  rw [← codesP_eq]
  rw [list_head t h]
  exact if_neg (by rw [hs]; decide)

set_option maxHeartbeats 8000000 in
set_option maxRecDepth 100000 in
theorem l22Part_any (t : ByteArray) (h0 : 0 < t.size) (ht : t.size ≤ 4096) (w : World) : Calls Tryz.prog 125 #[.string t] w fun e w' => e = .returned (.string ⟨(formP t.data.toList).toArray⟩) ∧ Below w.heap.size w w' := by
  have hi0 : (0 : Int) < (t.size : Int) := by omega
  have HS := Lib.hid (fun W => l22Shows_any t[0] W)
  cases hsh : showsC t[0]
  · have HF := Lib.hid (formP_codes h0 hsh)
    generalize formP t.data.toList = F at *
    rw [hsh] at HS
    clear hsh
    go_enter Tryz.func125, Tryz.ntmps125
    go_upto_region 11 with (first | fail | (refine (HS.out _).mono ?_; rintro e1 w1 ⟨rfl, rfl⟩))
    have hown0 : OwnR encB (w.alloc (.cells #[] 5)) w.heap.size 5 (.slice (some ⟨w.heap.size, 0, none⟩) 0 0) [] := OwnR.none_ _ _ _ (Nat.le_refl _)
    have HB0 := Lib.hid (show Below w.heap.size w (w.alloc (.cells #[] 5)) from (Below.refl _ _).alloc (Nat.le_refl _) _)
    have hsz : w.heap.size ≤ (w.alloc (.cells #[] 5)).heap.size := HB0.out.size
    generalize w.alloc (.cells #[] 5) = wa at *
    go_upto_region 13 with (first | fail | (at_builtin; refine wpList_appS rfl (.tmp 36) (.const (.string ⟨#[36, 67, 40]⟩)) rfl _ w.heap.size _ [] ⟨#[36, 67, 40]⟩ rfl hown0 rfl (by simp) (by decide) hsz ?_; intro v1 w1 hown1 hb1))
    have HB1 := Lib.hid (HB0.out.trans hb1); clear hb1
    go_wp2_with fail
    go_loopw [3, 5] (fun v i wr => ∃ k : Nat, k ≤ t.size ∧ i = .int .i64 k ∧ OwnR encB wr w.heap.size 5 v ([36, 67, 40] ++ codesTo (t.data.toList.take k)) ∧ Below w.heap.size w wr) (fun _ i _ => t.size - (intOf i).toNat)
    case atStart => exact ⟨0, Nat.zero_le _, rfl, hown1, HB1.out⟩
    case round =>
      obtain ⟨k, hk, rfl, hown, hbw⟩ := hrel
      have HBW := Lib.hid hbw
      have hbs := hbw.size
      clear hbw hown1
      by_cases hlt : k < t.size
      · have i1 : (k : Int) < (t.size : Int) := by omega
        have i0 : (0 : Int) ≤ (k : Int) := by omega
        have hg := get_list t k hlt
        have hcl := codesTo_len _ (t.data.toList.take k) rfl
        rw [List.length_take, len_list, Nat.min_eq_left hk] at hcl
        have hd2 := decDigits_len 2 t[k].toNat (by have := t[k].toNat_lt; omega)
        have hds : (decT t[k].toNat).size ≤ 3 := hd2
        have hwr : IntKind.i64.wrap (t[k].toNat : Int) = (t[k].toNat : Int) := IntWalk.i64_in _ (by have := t[k].toNat_lt; omega)
        have HD := Lib.hid (fun W => l21Dec_any t[k].toNat (by have := t[k].toNat_lt; omega) W)
        by_cases hk0 : k = 0
        · have ht0 : t.data.toList.take k = [] := by rw [hk0]; rfl
          have hc0 : [36, 67, 40] ++ codesTo (t.data.toList.take (k + 1)) = [36, 67, 40] ++ (decT t[k].toNat).data.toList := by
            rw [take_snoc' _ _ _ hg, ht0, List.nil_append, codesTo_first]; rfl
          have HC0 := Lib.hid hc0; clear hc0 hd2
          rw [ht0] at hown
          clear ht0
          have hk0' : ¬ (0 : Int) < (k : Int) := by omega
          have HK := Lib.hid hk0
          clear hk0 hcl hg
          generalize decT t[k].toNat = D at *
          have hown' : OwnR encB wr w.heap.size 5 u3 [36, 67, 40] := hown
          clear hown
          go_wp2_with (first
            | fail
            | (refine (HD.out _).mono ?_; rintro e2 w2 ⟨rfl, hb2⟩; have hown2 := hown'.below hb2; have hs2 := Nat.le_trans hbs hb2.size)
            | (at_builtin; refine wpList_appS rfl (.tmp 49) (.tmp 54) rfl _ w.heap.size _ _ D rfl hown2 rfl (by simp) (by omega) hs2 ?_; intro v3 w3 hown3 hb3))
          go_roundw
          case rel => exact ⟨k + 1, by omega, by go_num, by rw [HC0.out]; exact hown3, HBW.out.trans (((hb2.mono hbs)).trans hb3)⟩
          case measure => simp [intOf]; omega
        · have hc0 : [36, 67, 40] ++ codesTo (t.data.toList.take (k + 1)) = (([36, 67, 40] ++ codesTo (t.data.toList.take k)) ++ [44]) ++ (decT t[k].toNat).data.toList := by
            rw [take_snoc' _ _ _ hg, codesTo_snoc _ _ (by intro e; have := congrArg List.length e; rw [List.length_take, len_list, Nat.min_eq_left hk] at this; exact hk0 this)]
            simp [decT]
          have HC0 := Lib.hid hc0; clear hc0 hd2
          have hk0' : (0 : Int) < (k : Int) := by omega
          have hln : ([36, 67, 40] ++ codesTo (t.data.toList.take k)).length ≤ 1000000 := by simp; omega
          generalize [36, 67, 40] ++ codesTo (t.data.toList.take k) = L at *
          have hln2 : (L ++ [44]).length ≤ 1000000000 := by simp; omega
          generalize decT t[k].toNat = D at *
          go_wp2_with (first
            | fail
            | (at_builtin; refine wpList_app1 (enc := encB) rfl (.tmp 46) (.tmp 47) 22 5 rfl Tryz.underlying22 rfl (by omega) (fun _ => rfl) infoByte wr w.heap.size _ L (44 : UInt8) rfl hown rfl (by omega) hbs ?_; intro v1 w1 hown1 hb1; have hs1 := hb1.size)
            | (refine (HD.out _).mono ?_; rintro e2 w2 ⟨rfl, hb2⟩; have hown2 := hown1.below hb2; have hs2 := Nat.le_trans (Nat.le_trans hbs hb1.size) hb2.size)
            | (at_builtin; refine wpList_appS rfl (.tmp 49) (.tmp 54) rfl _ w.heap.size _ _ D rfl hown2 rfl hln2 (by omega) hs2 ?_; intro v3 w3 hown3 hb3))
          go_roundw
          case rel => exact ⟨k + 1, by omega, by go_num, by rw [HC0.out]; exact hown3, HBW.out.trans ((hb1.trans ((hb2.mono (Nat.le_trans hbs hb1.size)).trans hb3)))⟩
          case measure => simp [intOf]; omega
      · have i1 : ¬ (k : Int) < (t.size : Int) := by omega
        have hcl := codesTo_len _ (t.data.toList.take k) rfl
        rw [List.length_take, len_list, Nat.min_eq_left hk] at hcl
        have HFE := Lib.hid (show F = ([36, 67, 40] ++ codesTo (t.data.toList.take k)) ++ [41] by rw [HF.out, List.take_of_length_le (by rw [len_list]; omega)]; rfl)
        have hln : ([36, 67, 40] ++ codesTo (t.data.toList.take k)).length ≤ 1000000 := by simp; omega
        generalize [36, 67, 40] ++ codesTo (t.data.toList.take k) = L at *
        go_wp2_with (first
          | fail
          | (at_builtin; refine wpList_app1 (enc := encB) rfl (.tmp 56) (.tmp 57) 22 5 rfl Tryz.underlying22 rfl (by omega) (fun _ => rfl) infoByte wr w.heap.size _ L (41 : UInt8) rfl hown rfl (by omega) hbs ?_; intro v1 w1 hown1 hb1; have hcv := convert_own hown1))
        go_ret
        exact ⟨by rw [HFE.out]; rfl, HBW.out.trans hb1⟩
  · have HF := Lib.hid (formP_shows h0 hsh)
    generalize formP t.data.toList = F at *
    rw [hsh] at HS
    clear hsh
    go_enter Tryz.func125, Tryz.ntmps125
    go_upto_region 3 with (first | fail | (refine (HS.out _).mono ?_; rintro e1 w1 ⟨rfl, rfl⟩))
    have hown0 : OwnR encB (w.alloc (.cells #[] 5)) w.heap.size 5 (.slice (some ⟨w.heap.size, 0, none⟩) 0 0) [] := OwnR.none_ _ _ _ (Nat.le_refl _)
    have HB0 := Lib.hid (show Below w.heap.size w (w.alloc (.cells #[] 5)) from (Below.refl _ _).alloc (Nat.le_refl _) _)
    have hsz : w.heap.size ≤ (w.alloc (.cells #[] 5)).heap.size := HB0.out.size
    generalize w.alloc (.cells #[] 5) = wa at *
    go_upto_region 5 with (first
      | fail
      | (at_builtin; refine wpList_app1 (enc := encB) rfl (.tmp 10) (.tmp 11) 22 5 rfl Tryz.underlying22 rfl (by omega) (fun _ => rfl) infoByte wa w.heap.size _ [] (34 : UInt8) rfl hown0 rfl (by simp) hsz ?_; intro v1 w1 hown1 hb1))
    have HB1 := Lib.hid (HB0.out.trans hb1); clear hb1
    go_wp2_with fail
    go_loopw [3, 4] (fun v i wr => ∃ k : Nat, k ≤ t.size ∧ i = .int .i64 k ∧ OwnR encB wr w.heap.size 5 v (34 :: doubled (t.data.toList.take k)) ∧ Below w.heap.size w wr) (fun _ i _ => t.size - (intOf i).toNat)
    case atStart => exact ⟨0, Nat.zero_le _, rfl, hown1, HB1.out⟩
    case round =>
      obtain ⟨k, hk, rfl, hown, hbw⟩ := hrel
      have HBW := Lib.hid hbw
      have hbs := hbw.size
      clear hbw hown1
      have hcl := doubled_len (t.data.toList.take k)
      rw [List.length_take, len_list, Nat.min_eq_left hk] at hcl
      by_cases hlt : k < t.size
      · have i1 : (k : Int) < (t.size : Int) := by omega
        have i0 : (0 : Int) ≤ (k : Int) := by omega
        have hg := get_list t k hlt
        have hln : (34 :: doubled (t.data.toList.take k)).length ≤ 1000000 := by simp; omega
        by_cases h34 : t[k] = 34
        · have q34 : ((t[k].toNat : Int) == 34) = true := by rw [h34]; rfl
          have HC0 := Lib.hid (show 34 :: doubled (t.data.toList.take (k + 1)) = (34 :: doubled (t.data.toList.take k)) ++ [34] ++ [t[k]] by
            rw [take_snoc' _ _ _ hg, h34, doubled_snoc_quote]; simp)
          clear h34 hg
          generalize 34 :: doubled (t.data.toList.take k) = L at *
          have hln2 : (L ++ [34]).length ≤ 1000000000 := by simp; omega
          go_wp2_with (first
            | fail
            | (at_builtin; refine wpList_app1 (enc := encB) rfl (.tmp 23) (.tmp 24) 22 5 rfl Tryz.underlying22 rfl (by omega) (fun _ => rfl) infoByte wr w.heap.size _ L (34 : UInt8) rfl hown rfl (by omega) hbs ?_; intro v1 w1 hown1 hb1; have hs1 := Nat.le_trans hbs hb1.size)
            | (at_builtin; refine wpList_app1 (enc := encB) rfl (.tmp 26) (.tmp 30) 22 5 rfl Tryz.underlying22 rfl (by omega) (fun _ => rfl) infoByte w1 w.heap.size _ _ t[k] rfl hown1 rfl hln2 hs1 ?_; intro v2 w2 hown2 hb2))
          go_roundw
          case rel => exact ⟨k + 1, by omega, by go_num, by rw [HC0.out]; exact hown2, HBW.out.trans (hb1.trans hb2)⟩
          case measure => simp [intOf]; omega
        · have q34 : ((t[k].toNat : Int) == 34) = false := by rw [beq_eq_false_iff_ne]; exact fun e => h34 (u8_eq (by have : t[k].toNat = 34 := (by omega); rw [this]; rfl))
          have HC0 := Lib.hid (show 34 :: doubled (t.data.toList.take (k + 1)) = (34 :: doubled (t.data.toList.take k)) ++ [t[k]] by
            rw [take_snoc' _ _ _ hg, doubled_snoc _ h34]; simp)
          clear h34 hg
          generalize 34 :: doubled (t.data.toList.take k) = L at *
          go_wp2_with (first
            | fail
            | (at_builtin; refine wpList_app1 (enc := encB) rfl (.tmp 26) (.tmp 30) 22 5 rfl Tryz.underlying22 rfl (by omega) (fun _ => rfl) infoByte wr w.heap.size _ L t[k] rfl hown rfl (by omega) hbs ?_; intro v2 w2 hown2 hb2))
          go_roundw
          case rel => exact ⟨k + 1, by omega, by go_num, by rw [HC0.out]; exact hown2, HBW.out.trans hb2⟩
          case measure => simp [intOf]; omega
      · have i1 : ¬ (k : Int) < (t.size : Int) := by omega
        have HFE := Lib.hid (show F = (34 :: doubled (t.data.toList.take k)) ++ [34] by rw [HF.out, List.take_of_length_le (by rw [len_list]; omega)]; rfl)
        have hln : (34 :: doubled (t.data.toList.take k)).length ≤ 1000000 := by simp; omega
        generalize 34 :: doubled (t.data.toList.take k) = L at *
        go_wp2_with (first
          | fail
          | (at_builtin; refine wpList_app1 (enc := encB) rfl (.tmp 32) (.tmp 33) 22 5 rfl Tryz.underlying22 rfl (by omega) (fun _ => rfl) infoByte wr w.heap.size _ L (34 : UInt8) rfl hown rfl (by omega) hbs ?_; intro v1 w1 hown1 hb1; have hcv := convert_own hown1))
        go_ret
        exact ⟨by rw [HFE.out]; rfl, HBW.out.trans hb1⟩

theorem formP_len (l : List UInt8) : (formP l).length ≤ 4 * l.length + 4 := by
  cases l with
  | nil => exact Nat.zero_le _
  | cons c l =>
    rw [show formP (c :: l) = if showsC c then quoteP (c :: l) else codesP (c :: l) from rfl]
    split
    · rw [quoteP_eq]
      have := doubled_len (c :: l)
      simp only [List.length_cons, List.length_append, List.length_nil] at this ⊢
      omega
    · rw [codesP_eq]
      have := codesTo_len _ (c :: l) rfl
      simp only [List.length_cons, List.length_append, List.length_nil] at this ⊢
      omega
section
variable {P : Program} {l : List Oper} {Q : Exit → Go.Act → World → Prop} {md : Region.Mode} {S : World → Prop} {z : Nat → Bool}
/-- An operation whose guard says no. -/
theorem AnyT.skip (i d : Nat) {oi : Oper} {n : Nat} {listed : Array Bool} {a : Go.Act} {w : World} (hi : l[i]? = some oi) (hs : Region.noSelect l.toArray = true) (hf : Region.free md l.toArray listed i = true)
    (hr : (Region.ready md l.toArray listed).contains i = true) (hzi : z i = false) (hd : oi.dst = some d) (hQ : ∀ c (a : Go.Act) v w, Q (.panic c) (a.put (some d) v) w → Q (.panic c) a w)
    (hw : Region.wanted oi (yielded l.toArray a.tmps) = false) (hS : S w)
    (h : AnyT P md l.toArray Q S z n (listed.setIfInBounds i true) (a.put (some d) undef) w) : AnyT P md l.toArray Q S z (n + 1) listed a w :=
  AnyT.first (S' := fun _ => True) (i := i) (oi := oi) (v := undef) (by simpa using hi) hs (fun c a w h => hQ c a undef w (hd ▸ h)) hzi (.inr fun _ => trivial) n listed (fun j oj => Region.free_spec (by simpa using hi) hf j oj) (by simpa using hr) (.inr fun _ => trivial) a w (.inr ⟨hw, rfl⟩) (fun _ => hS) (hd ▸ h)
end
theorem extract_list (t : ByteArray) (i k : Nat) : (t.extract i k).data.toList = (t.data.toList.drop i).take (k - i) := by
  rw [ByteArray.data_extract, Array.toList_extract, List.extract_eq_take_drop]
/-- What is built of the first i bytes: their forms with the underlines between them. -/
def partB (l : List UInt8) (i : Nat) (b : List UInt8) : Prop :=
  if i = 0 then b = [] else b ++ moreP l.length (l.drop i) = formP (runOf l) ++ moreP l.length (runRest l)
theorem partB_end {l : List UInt8} {i : Nat} {b : List UInt8} (h : partB l i b) (hi : i = l.length) (h0 : i ≠ 0) : b = formP (runOf l) ++ moreP l.length (runRest l) := by
  unfold partB at h
  rw [if_neg h0, hi, List.drop_length, moreP_nil, List.append_nil] at h
  exact h
/-- One run more: from i to k. -/
theorem partB_step {l : List UInt8} {i k : Nat} {b : List UInt8} {c : UInt8} {r : List UInt8} (h : partB l i b) (hd : l.drop i = c :: r) (hik : i < k)
    (hr : runOf (c :: r) = (c :: r).take (k - i) ∧ runRest (c :: r) = (c :: r).drop (k - i)) :
    partB l k (b ++ (if i = 0 then [] else [95]) ++ formP ((c :: r).take (k - i))) := by
  unfold partB at h ⊢
  rw [if_neg (by omega)]
  have hdk : (c :: r).drop (k - i) = l.drop k := by rw [← hd, List.drop_drop]; congr 1; omega
  by_cases h0 : i = 0
  · subst h0
    rw [if_pos rfl] at h ⊢
    rw [List.drop_zero] at hd
    subst h
    rw [← hdk, ← hr.2, ← hr.1, hd]; rfl
  · rw [if_neg h0] at h ⊢
    rw [← h, hd, moreP_step l.length (c :: r) (by simp) (by rw [← hd, List.length_drop]; omega), hr.1, hr.2, hdk]
    simp

set_option maxHeartbeats 8000000 in
set_option maxRecDepth 100000 in
theorem l22Plain_any (t : ByteArray) (ht : t.size ≤ 4096) (w : World) : Calls Tryz.prog 72 #[.string t] w fun e w' => e = .returned (.string ⟨(plainP t.data.toList).toArray⟩) ∧ Below w.heap.size w w' := by
  have HC := Lib.hid (fun W => specIsCanon_any t (by omega) W)
  cases hcan : canonB t.data.toList
  · rw [hcan] at HC
    by_cases h0 : t.size = 0
    · obtain rfl : t = ⟨#[]⟩ := ByteArray.ext (Array.eq_empty_of_size_eq_zero h0)
      have HR := Lib.hid (show plainP (⟨#[]⟩ : ByteArray).data.toList = [34, 34] by unfold plainP; rw [hcan]; rfl)
      rw [HR.out]
      clear hcan
      go_enter Tryz.func72, Tryz.ntmps72
      go_wp2_with (first | fail | (refine (HC.out _).mono ?_; rintro e1 w1 ⟨rfl, hb1⟩))
      go_ret
      exact ⟨rfl, hb1⟩
    · have he := bytes_full t h0
      have hR := plainP_runs hcan (by intro e; rw [← len_list, e] at h0; exact h0 rfl)
      have HR := Lib.hid hR
      generalize plainP t.data.toList = R at *
      clear hR hcan
      have HSH := Lib.hid (fun c W => l22Shows_any c W)
      go_enter Tryz.func72, Tryz.ntmps72
      go_upto_region 5 with (first | fail | (refine (HC.out _).mono ?_; rintro e1 w1 ⟨rfl, hb1⟩))
      have hown0 : OwnR encB (w1.alloc (.cells #[] 5)) w.heap.size 5 (.slice (some ⟨w1.heap.size, 0, none⟩) 0 0) [] := OwnR.none_ _ _ _ hb1.size
      have HB0 := Lib.hid (show Below w.heap.size w (w1.alloc (.cells #[] 5)) from hb1.alloc hb1.size _)
      have hsz : w.heap.size ≤ (w1.alloc (.cells #[] 5)).heap.size := HB0.out.size
      clear hb1
      go_wp2_with fail
      go_loopw [3, 4] (fun v i wr => ∃ (k : Nat) (b : List UInt8), k ≤ t.size ∧ i = .int .i64 k ∧ OwnR encB wr w.heap.size 5 v b ∧ b.length ≤ 10 * k ∧ partB t.data.toList k b ∧ Below w.heap.size w wr) (fun _ i _ => t.size - (intOf i).toNat)
      case atStart => exact ⟨0, [], Nat.zero_le _, rfl, hown0, Nat.zero_le _, by unfold partB; rw [if_pos rfl], HB0.out⟩
      case round =>
        obtain ⟨i, b, hi, rfl, hown, hbl, hpb, hbw⟩ := hrel
        have HBW := Lib.hid hbw; have HPB := Lib.hid hpb
        clear hbw hpb hown0
        by_cases hlt : i < t.size
        · have i1 : (i : Int) < (t.size : Int) := by omega
          have i0 : (0 : Int) ≤ (i : Int) := by omega
          have hdi : t.data.toList.drop i = t[i] :: t.data.toList.drop (i + 1) := List.drop_eq_getElem_cons (by rw [len_list]; exact hlt)
          have HDI := Lib.hid hdi
          have hsh : ∀ k, (t.data.toList.drop i)[k]? = t.data.toList[i + k]? := fun k => by rw [List.getElem?_drop]
          have HSL := Lib.hid hsh
          clear hdi hsh
          go_upto_block 2 with fail
          go_cut [5] (fun v wk => ∃ k : Nat, i < k ∧ k ≤ t.size ∧ v = .int .i64 k ∧ runOf (t[i] :: t.data.toList.drop (i + 1)) = (t[i] :: t.data.toList.drop (i + 1)).take (k - i) ∧ runRest (t[i] :: t.data.toList.drop (i + 1)) = (t[i] :: t.data.toList.drop (i + 1)).drop (k - i) ∧ Below wr.heap.size wr wk)
          case first =>
            go_wp2_with fail
            go_loopw [5] (fun v wk => ∃ k : Nat, i ≤ k ∧ k ≤ t.size ∧ v = .int .i64 k ∧ (∀ x ∈ (t[i] :: t.data.toList.drop (i + 1)).take (k - i), showsC x = showsC t[i]) ∧ Below wr.heap.size wr wk) (fun v _ => t.size - (intOf v).toNat)
            case atStart => exact ⟨i, Nat.le_refl _, Nat.le_of_lt hlt, rfl, (fun x h => by rw [Nat.sub_self] at h; cases h), Below.refl _ _⟩
            case round =>
              obtain ⟨k, hik, hk, rfl, hall, hbk⟩ := hrel
              have HALL := Lib.hid hall; have HBK := Lib.hid hbk.drew
              clear hall hbk
              have hln : (t[i] :: t.data.toList.drop (i + 1)).length = t.size - i := by rw [← HDI.out, List.length_drop, len_list]
              have HLN := Lib.hid hln; clear hln
              by_cases hkt : k < t.size
              · have k1 : (k : Int) < (t.size : Int) := by omega
                have k0 : (0 : Int) ≤ (k : Int) := by omega
                have hg : (t[i] :: t.data.toList.drop (i + 1))[k - i]? = some t[k] := by
                  rw [← HDI.out, HSL.out, show i + (k - i) = k by omega]; exact get_list t k hkt
                have HG := Lib.hid hg; clear hg
                by_cases hse : showsC t[k] = showsC t[i]
                · have qs : (showsC t[k] == showsC t[i]) = true := by rw [hse]; exact beq_self_eq_true _
                  have HNX := Lib.hid (show ∀ x ∈ (t[i] :: t.data.toList.drop (i + 1)).take (k + 1 - i), showsC x = showsC t[i] from fun x hx => by
                    rw [show k + 1 - i = (k - i) + 1 by omega, take_snoc' _ _ _ HG.out] at hx
                    rcases List.mem_append.1 hx with hx | hx
                    · exact HALL.out x hx
                    · rw [List.mem_singleton.1 hx]; exact hse)
                  clear hse
                  go_wp2_with fail
                  refine AnyT.region (fun _ => false) (fun _ => True) (by kernel_rfl) trivial (fun hHeld => ?_)
                  ((refine AnyT.takeAny 0 17 ?_ rfl (by kernel_rfl) (by kernel_rfl) (by kernel_rfl) rfl rfl (fun _ _ _ _ h => h) rfl ?_ (by assumption) ?_); rotate_left; (intro w; go_simp; (try (with_reducible rfl))); simp only [Act.put, List.setIfInBounds_toArray, List.set_cons_zero, List.set_cons_succ])
                  ((refine AnyT.takeAny 1 18 ?_ rfl (by kernel_rfl) (by kernel_rfl) (by kernel_rfl) rfl rfl (fun _ _ _ _ h => h) rfl ?_ (by assumption) ?_); rotate_left; (intro w; go_simp; (try (with_reducible rfl))); simp only [Act.put, List.setIfInBounds_toArray, List.set_cons_zero, List.set_cons_succ])
                  ((refine AnyT.takeAny 2 19 ?_ rfl (by kernel_rfl) (by kernel_rfl) (by kernel_rfl) rfl rfl (fun _ _ _ _ h => h) rfl ?_ (by assumption) ?_); rotate_left; (intro w; go_simp; (try (with_reducible rfl))); simp only [Act.put, List.setIfInBounds_toArray, List.set_cons_zero, List.set_cons_succ])
                  ((refine AnyT.takeAny 3 20 ?_ rfl (by kernel_rfl) (by kernel_rfl) (by kernel_rfl) rfl rfl (fun _ _ _ _ h => h) rfl ?_ (by assumption) ?_); rotate_left; (intro w; go_simp; (try (with_reducible rfl))); simp only [Act.put, List.setIfInBounds_toArray, List.set_cons_zero, List.set_cons_succ])
                  ((refine AnyT.takeAny 4 21 ?_ rfl (by kernel_rfl) (by kernel_rfl) (by kernel_rfl) rfl rfl (fun _ _ _ _ h => h) rfl ?_ (by assumption) ?_); rotate_left; (intro w; go_simp; (try (with_reducible rfl))); simp only [Act.put, List.setIfInBounds_toArray, List.set_cons_zero, List.set_cons_succ])
                  ((refine AnyT.takeAny 5 22 ?_ rfl (by kernel_rfl) (by kernel_rfl) (by kernel_rfl) rfl rfl (fun _ _ _ _ h => h) rfl ?_ (by assumption) ?_); rotate_left; (intro w; go_simp; (try (with_reducible rfl))); simp only [Act.put, List.setIfInBounds_toArray, List.set_cons_zero, List.set_cons_succ])
                  ((refine AnyT.takeAny 6 23 ?_ rfl (by kernel_rfl) (by kernel_rfl) (by kernel_rfl) rfl rfl (fun _ _ _ _ h => h) rfl ?_ (by assumption) ?_); rotate_left; (intro w; go_simp; (try (with_reducible rfl))); simp only [Act.put, List.setIfInBounds_toArray, List.set_cons_zero, List.set_cons_succ])
                  ((refine AnyT.takeAny 7 24 ?_ rfl (by kernel_rfl) (by kernel_rfl) (by kernel_rfl) rfl rfl (fun _ _ _ _ h => h) rfl ?_ (by assumption) ?_); rotate_left; (intro w; go_simp; (try (with_reducible rfl))); simp only [Act.put, List.setIfInBounds_toArray, List.set_cons_zero, List.set_cons_succ])
                  ((refine AnyT.takeAny 9 26 ?_ rfl (by kernel_rfl) (by kernel_rfl) (by kernel_rfl) rfl rfl (fun _ _ _ _ h => h) rfl ?_ (by assumption) ?_); rotate_left; (intro w; go_simp; (try (with_reducible rfl))); simp only [Act.put, List.setIfInBounds_toArray, List.set_cons_zero, List.set_cons_succ])
                  ((refine AnyT.takeAny 10 27 ?_ rfl (by kernel_rfl) (by kernel_rfl) (by kernel_rfl) rfl rfl (fun _ _ _ _ h => h) rfl ?_ (by assumption) ?_); rotate_left; (intro w; go_simp; (try (with_reducible rfl))); simp only [Act.put, List.setIfInBounds_toArray, List.set_cons_zero, List.set_cons_succ])
                  ((refine AnyT.takeAny 11 28 ?_ rfl (by kernel_rfl) (by kernel_rfl) (by kernel_rfl) rfl rfl (fun _ _ _ _ h => h) rfl ?_ (by assumption) ?_); rotate_left; (intro w; go_simp; (try (with_reducible rfl))); simp only [Act.put, List.setIfInBounds_toArray, List.set_cons_zero, List.set_cons_succ])
                  ((refine AnyT.one (i := 8) (by kernel_rfl) rfl (fun K hK => ?_)))
                  go_simp
                  refine (HSH.out _ _).mono ?_
                  rintro e5 w5 ⟨rfl, rfl⟩
                  refine hK.out _ _ trivial (fun hHeld => ?_)
                  clear hK K
                  (try simp only [Act.put, List.setIfInBounds_toArray, List.set_cons_zero, List.set_cons_succ])
                  ((refine AnyT.one (i := 12) (by kernel_rfl) rfl (fun K hK => ?_)))
                  go_simp
                  refine (HSH.out _ _).mono ?_
                  rintro e6 w6 ⟨rfl, rfl⟩
                  refine hK.out _ _ trivial (fun hHeld => ?_)
                  clear hK K
                  (try simp only [Act.put, List.setIfInBounds_toArray, List.set_cons_zero, List.set_cons_succ])
                  ((refine AnyT.takeAny 13 30 ?_ rfl (by kernel_rfl) (by kernel_rfl) (by kernel_rfl) rfl rfl (fun _ _ _ _ h => h) rfl ?_ (by assumption) ?_); rotate_left; (intro w; go_simp; (try (with_reducible rfl))); simp only [Act.put, List.setIfInBounds_toArray, List.set_cons_zero, List.set_cons_succ])
                  ((refine AnyT.takeAny 14 31 ?_ rfl (by kernel_rfl) (by kernel_rfl) (by kernel_rfl) rfl rfl (fun _ _ _ _ h => h) rfl ?_ (by assumption) ?_); rotate_left; (intro w; go_simp; (try (with_reducible rfl))); simp only [Act.put, List.setIfInBounds_toArray, List.set_cons_zero, List.set_cons_succ])
                  refine AnyT.done (by kernel_rfl) ?_ _
                  go_wp2_with fail
                  go_roundw
                  case rel => exact ⟨k + 1, by omega, by omega, by go_num, HNX.out, HBK.out⟩
                  case measure => simp [intOf]; omega
                · have qs : (showsC t[k] == showsC t[i]) = false := by rw [beq_eq_false_iff_ne]; exact hse
                  have hkne : i < k := by
                    rcases Nat.lt_or_ge i k with h | h
                    · exact h
                    · obtain rfl : k = i := by omega
                      exact absurd rfl hse
                  have HEX := Lib.hid (run_exit t[i] (t.data.toList.drop (i + 1)) (k - i) (by rw [HLN.out]; omega) HALL.out (fun x hx => by rw [HG.out] at hx; injection hx with hx; rw [← hx]; exact hse))
                  clear hse
                  go_wp2_with fail
                  refine AnyT.region (fun _ => false) (fun _ => True) (by kernel_rfl) trivial (fun hHeld => ?_)
                  ((refine AnyT.takeAny 0 17 ?_ rfl (by kernel_rfl) (by kernel_rfl) (by kernel_rfl) rfl rfl (fun _ _ _ _ h => h) rfl ?_ (by assumption) ?_); rotate_left; (intro w; go_simp; (try (with_reducible rfl))); simp only [Act.put, List.setIfInBounds_toArray, List.set_cons_zero, List.set_cons_succ])
                  ((refine AnyT.takeAny 1 18 ?_ rfl (by kernel_rfl) (by kernel_rfl) (by kernel_rfl) rfl rfl (fun _ _ _ _ h => h) rfl ?_ (by assumption) ?_); rotate_left; (intro w; go_simp; (try (with_reducible rfl))); simp only [Act.put, List.setIfInBounds_toArray, List.set_cons_zero, List.set_cons_succ])
                  ((refine AnyT.takeAny 2 19 ?_ rfl (by kernel_rfl) (by kernel_rfl) (by kernel_rfl) rfl rfl (fun _ _ _ _ h => h) rfl ?_ (by assumption) ?_); rotate_left; (intro w; go_simp; (try (with_reducible rfl))); simp only [Act.put, List.setIfInBounds_toArray, List.set_cons_zero, List.set_cons_succ])
                  ((refine AnyT.takeAny 3 20 ?_ rfl (by kernel_rfl) (by kernel_rfl) (by kernel_rfl) rfl rfl (fun _ _ _ _ h => h) rfl ?_ (by assumption) ?_); rotate_left; (intro w; go_simp; (try (with_reducible rfl))); simp only [Act.put, List.setIfInBounds_toArray, List.set_cons_zero, List.set_cons_succ])
                  ((refine AnyT.takeAny 4 21 ?_ rfl (by kernel_rfl) (by kernel_rfl) (by kernel_rfl) rfl rfl (fun _ _ _ _ h => h) rfl ?_ (by assumption) ?_); rotate_left; (intro w; go_simp; (try (with_reducible rfl))); simp only [Act.put, List.setIfInBounds_toArray, List.set_cons_zero, List.set_cons_succ])
                  ((refine AnyT.takeAny 5 22 ?_ rfl (by kernel_rfl) (by kernel_rfl) (by kernel_rfl) rfl rfl (fun _ _ _ _ h => h) rfl ?_ (by assumption) ?_); rotate_left; (intro w; go_simp; (try (with_reducible rfl))); simp only [Act.put, List.setIfInBounds_toArray, List.set_cons_zero, List.set_cons_succ])
                  ((refine AnyT.takeAny 6 23 ?_ rfl (by kernel_rfl) (by kernel_rfl) (by kernel_rfl) rfl rfl (fun _ _ _ _ h => h) rfl ?_ (by assumption) ?_); rotate_left; (intro w; go_simp; (try (with_reducible rfl))); simp only [Act.put, List.setIfInBounds_toArray, List.set_cons_zero, List.set_cons_succ])
                  ((refine AnyT.takeAny 7 24 ?_ rfl (by kernel_rfl) (by kernel_rfl) (by kernel_rfl) rfl rfl (fun _ _ _ _ h => h) rfl ?_ (by assumption) ?_); rotate_left; (intro w; go_simp; (try (with_reducible rfl))); simp only [Act.put, List.setIfInBounds_toArray, List.set_cons_zero, List.set_cons_succ])
                  ((refine AnyT.takeAny 9 26 ?_ rfl (by kernel_rfl) (by kernel_rfl) (by kernel_rfl) rfl rfl (fun _ _ _ _ h => h) rfl ?_ (by assumption) ?_); rotate_left; (intro w; go_simp; (try (with_reducible rfl))); simp only [Act.put, List.setIfInBounds_toArray, List.set_cons_zero, List.set_cons_succ])
                  ((refine AnyT.takeAny 10 27 ?_ rfl (by kernel_rfl) (by kernel_rfl) (by kernel_rfl) rfl rfl (fun _ _ _ _ h => h) rfl ?_ (by assumption) ?_); rotate_left; (intro w; go_simp; (try (with_reducible rfl))); simp only [Act.put, List.setIfInBounds_toArray, List.set_cons_zero, List.set_cons_succ])
                  ((refine AnyT.takeAny 11 28 ?_ rfl (by kernel_rfl) (by kernel_rfl) (by kernel_rfl) rfl rfl (fun _ _ _ _ h => h) rfl ?_ (by assumption) ?_); rotate_left; (intro w; go_simp; (try (with_reducible rfl))); simp only [Act.put, List.setIfInBounds_toArray, List.set_cons_zero, List.set_cons_succ])
                  ((refine AnyT.one (i := 8) (by kernel_rfl) rfl (fun K hK => ?_)))
                  go_simp
                  refine (HSH.out _ _).mono ?_
                  rintro e5 w5 ⟨rfl, rfl⟩
                  refine hK.out _ _ trivial (fun hHeld => ?_)
                  clear hK K
                  (try simp only [Act.put, List.setIfInBounds_toArray, List.set_cons_zero, List.set_cons_succ])
                  ((refine AnyT.one (i := 12) (by kernel_rfl) rfl (fun K hK => ?_)))
                  go_simp
                  refine (HSH.out _ _).mono ?_
                  rintro e6 w6 ⟨rfl, rfl⟩
                  refine hK.out _ _ trivial (fun hHeld => ?_)
                  clear hK K
                  (try simp only [Act.put, List.setIfInBounds_toArray, List.set_cons_zero, List.set_cons_succ])
                  ((refine AnyT.takeAny 13 30 ?_ rfl (by kernel_rfl) (by kernel_rfl) (by kernel_rfl) rfl rfl (fun _ _ _ _ h => h) rfl ?_ (by assumption) ?_); rotate_left; (intro w; go_simp; (try (with_reducible rfl))); simp only [Act.put, List.setIfInBounds_toArray, List.set_cons_zero, List.set_cons_succ])
                  ((refine AnyT.takeAny 14 31 ?_ rfl (by kernel_rfl) (by kernel_rfl) (by kernel_rfl) rfl rfl (fun _ _ _ _ h => h) rfl ?_ (by assumption) ?_); rotate_left; (intro w; go_simp; (try (with_reducible rfl))); simp only [Act.put, List.setIfInBounds_toArray, List.set_cons_zero, List.set_cons_succ])
                  refine AnyT.done (by kernel_rfl) ?_ _
                  go_wp2_with fail
                  go_meet
                  case rel => exact ⟨k, hkne, hk, rfl, HEX.out.1, HEX.out.2, HBK.out⟩
              · have k1 : ¬ (k : Int) < (t.size : Int) := by omega
                have kd : decide ((k : Int) < (t.size : Int)) = false := decide_eq_false k1
                have kd' : decide (k < t.size) = false := decide_eq_false hkt
                have HEX := Lib.hid (run_exit t[i] (t.data.toList.drop (i + 1)) (k - i) (by rw [HLN.out]; omega) HALL.out (fun x hx => by rw [List.getElem?_eq_none (by rw [HLN.out]; omega)] at hx; cases hx))
                go_wp2_with fail
                refine AnyT.region (fun _ => false) (fun _ => True) (by kernel_rfl) trivial (fun hHeld => ?_)
                ((refine AnyT.takeAny 0 17 ?_ rfl (by kernel_rfl) (by kernel_rfl) (by kernel_rfl) rfl rfl (fun _ _ _ _ h => h) rfl ?_ (by assumption) ?_); rotate_left; (intro w; go_simp; (try (with_reducible rfl))); simp only [Act.put, List.setIfInBounds_toArray, List.set_cons_zero, List.set_cons_succ])
                ((refine AnyT.takeAny 1 18 ?_ rfl (by kernel_rfl) (by kernel_rfl) (by kernel_rfl) rfl rfl (fun _ _ _ _ h => h) rfl ?_ (by assumption) ?_); rotate_left; (intro w; go_simp; (try (with_reducible rfl))); simp only [Act.put, List.setIfInBounds_toArray, List.set_cons_zero, List.set_cons_succ])
                ((refine AnyT.takeAny 2 19 ?_ rfl (by kernel_rfl) (by kernel_rfl) (by kernel_rfl) rfl rfl (fun _ _ _ _ h => h) rfl ?_ (by assumption) ?_); rotate_left; (intro w; go_simp; (try (with_reducible rfl))); simp only [Act.put, List.setIfInBounds_toArray, List.set_cons_zero, List.set_cons_succ])
                ((refine AnyT.takeAny 3 20 ?_ rfl (by kernel_rfl) (by kernel_rfl) (by kernel_rfl) rfl rfl (fun _ _ _ _ h => h) rfl ?_ (by assumption) ?_); rotate_left; (intro w; go_simp; (try (with_reducible rfl))); simp only [Act.put, List.setIfInBounds_toArray, List.set_cons_zero, List.set_cons_succ])
                ((refine AnyT.takeAny 4 21 ?_ rfl (by kernel_rfl) (by kernel_rfl) (by kernel_rfl) rfl rfl (fun _ _ _ _ h => h) rfl ?_ (by assumption) ?_); rotate_left; (intro w; go_simp; (try (with_reducible rfl))); simp only [Act.put, List.setIfInBounds_toArray, List.set_cons_zero, List.set_cons_succ])
                ((refine AnyT.skip 5 22 rfl (by kernel_rfl) (by kernel_rfl) (by kernel_rfl) rfl rfl (fun _ _ _ _ h => h) rfl (by assumption) ?_); simp only [Act.put, List.setIfInBounds_toArray, List.set_cons_zero, List.set_cons_succ])
                ((refine AnyT.skip 6 23 rfl (by kernel_rfl) (by kernel_rfl) (by kernel_rfl) rfl rfl (fun _ _ _ _ h => h) rfl (by assumption) ?_); simp only [Act.put, List.setIfInBounds_toArray, List.set_cons_zero, List.set_cons_succ])
                ((refine AnyT.skip 7 24 rfl (by kernel_rfl) (by kernel_rfl) (by kernel_rfl) rfl rfl (fun _ _ _ _ h => h) rfl (by assumption) ?_); simp only [Act.put, List.setIfInBounds_toArray, List.set_cons_zero, List.set_cons_succ])
                ((refine AnyT.skip 8 25 rfl (by kernel_rfl) (by kernel_rfl) (by kernel_rfl) rfl rfl (fun _ _ _ _ h => h) rfl (by assumption) ?_); simp only [Act.put, List.setIfInBounds_toArray, List.set_cons_zero, List.set_cons_succ])
                ((refine AnyT.skip 9 26 rfl (by kernel_rfl) (by kernel_rfl) (by kernel_rfl) rfl rfl (fun _ _ _ _ h => h) rfl (by assumption) ?_); simp only [Act.put, List.setIfInBounds_toArray, List.set_cons_zero, List.set_cons_succ])
                ((refine AnyT.skip 10 27 rfl (by kernel_rfl) (by kernel_rfl) (by kernel_rfl) rfl rfl (fun _ _ _ _ h => h) rfl (by assumption) ?_); simp only [Act.put, List.setIfInBounds_toArray, List.set_cons_zero, List.set_cons_succ])
                ((refine AnyT.skip 11 28 rfl (by kernel_rfl) (by kernel_rfl) (by kernel_rfl) rfl rfl (fun _ _ _ _ h => h) rfl (by assumption) ?_); simp only [Act.put, List.setIfInBounds_toArray, List.set_cons_zero, List.set_cons_succ])
                ((refine AnyT.skip 12 29 rfl (by kernel_rfl) (by kernel_rfl) (by kernel_rfl) rfl rfl (fun _ _ _ _ h => h) rfl (by assumption) ?_); simp only [Act.put, List.setIfInBounds_toArray, List.set_cons_zero, List.set_cons_succ])
                ((refine AnyT.skip 13 30 rfl (by kernel_rfl) (by kernel_rfl) (by kernel_rfl) rfl rfl (fun _ _ _ _ h => h) rfl (by assumption) ?_); simp only [Act.put, List.setIfInBounds_toArray, List.set_cons_zero, List.set_cons_succ])
                ((refine AnyT.takeAny 14 31 ?_ rfl (by kernel_rfl) (by kernel_rfl) (by kernel_rfl) rfl rfl (fun _ _ _ _ h => h) rfl ?_ (by assumption) ?_); rotate_left; (intro w; go_simp; (try (with_reducible rfl))); simp only [Act.put, List.setIfInBounds_toArray, List.set_cons_zero, List.set_cons_succ])
                refine AnyT.done (by kernel_rfl) ?_ _
                go_wp2_with fail
                go_meet
                case rel => exact ⟨k, by omega, hk, rfl, HEX.out.1, HEX.out.2, HBK.out⟩
          case rest =>
            obtain ⟨k, hik, hk, rfl, hro, hrr, hbk⟩ := hcut
            have hown2 := hown.below hbk
            have hsub : (t.extract i k).size = k - i := by rw [ByteArray.size_extract]; omega
            have hfl := formP_len (t.extract i k).data.toList
            rw [len_list, hsub] at hfl
            have hst := partB_step HPB.out HDI.out hik ⟨hro, hrr⟩
            rw [← HDI.out, ← extract_list] at hst
            have HST := Lib.hid hst
            have HP := Lib.hid (fun W => l22Part_any (t.extract i k) (by omega) (by omega) W)
            have HBK := Lib.hid (HBW.out.trans (hbk.mono HBW.out.size))
            have hbs := HBK.out.size
            clear hst hbk hown hro hrr
            have k0 : (0 : Int) ≤ (k : Int) := by omega
            have k1 : (k : Int) ≤ (t.size : Int) := by omega
            have k2 : (i : Int) ≤ (k : Int) := by omega
            generalize formP (t.extract i k).data.toList = F at *
            have hFs : (⟨F.toArray⟩ : ByteArray).size = F.length := by show F.toArray.size = _; simp
            have hbl2 : b.length ≤ 100000 := by omega
            by_cases hi0 : i = 0
            · have z0 : ¬ (0 : Int) < (i : Int) := by omega
              rw [if_pos hi0, List.append_nil] at HST
              have HI0 := Lib.hid hi0
              clear hi0
              go_wp2_with (first
                | fail
                | (refine (HP.out _).mono ?_; rintro e2 w2 ⟨rfl, hb2⟩; have hown3 := hown2.below hb2; have hs2 := Nat.le_trans hbs hb2.size)
                | (at_builtin; refine wpList_appS rfl (.tmp 39) (.tmp 44) rfl _ w.heap.size _ b ⟨F.toArray⟩ rfl hown3 rfl (by omega) (by omega) hs2 ?_; intro v3 w3 hown4 hb3))
              go_roundw
              case rel => exact ⟨k, _, hk, rfl, hown4, by rw [List.length_append]; simp only []; omega, HST.out, HBK.out.trans ((hb2.mono hbs).trans hb3)⟩
              case measure => simp [intOf]; omega
            · have z0 : (0 : Int) < (i : Int) := by omega
              rw [if_neg hi0] at HST
              have hbl3 : (b ++ [95]).length ≤ 1000000 := by simp; omega
              go_wp2_with (first
                | fail
                | (at_builtin; refine wpList_app1 (enc := encB) rfl (.tmp 36) (.tmp 37) 22 5 rfl Tryz.underlying22 rfl (by omega) (fun _ => rfl) infoByte wc w.heap.size _ b (95 : UInt8) rfl hown2 rfl (by omega) hbs ?_; intro v1 w1 hown1 hb1; have hs1 := Nat.le_trans hbs hb1.size)
                | (refine (HP.out _).mono ?_; rintro e2 w2 ⟨rfl, hb2⟩; have hown3 := hown1.below hb2; have hs2 := Nat.le_trans hs1 hb2.size)
                | (at_builtin; refine wpList_appS rfl (.tmp 39) (.tmp 44) rfl _ w.heap.size _ _ ⟨F.toArray⟩ rfl hown3 rfl (by omega) (by omega) hs2 ?_; intro v3 w3 hown4 hb3))
              go_roundw
              case rel => exact ⟨k, _, hk, rfl, hown4, by rw [List.length_append, List.length_append]; simp only [List.length_cons, List.length_nil]; omega, HST.out, HBK.out.trans (hb1.trans ((hb2.mono hs1).trans hb3))⟩
              case measure => simp [intOf]; omega
        · have i1 : ¬ (i : Int) < (t.size : Int) := by omega
          have HFE := Lib.hid (partB_end HPB.out (show i = t.data.toList.length by rw [len_list]; omega) (by omega))
          have hcv := convert_own hown
          go_wp2_with fail
          go_ret
          exact ⟨by rw [HR.out, ← HFE.out]; rfl, HBW.out⟩
  · rw [hcan] at HC
    have HR := Lib.hid (show plainP t.data.toList = t.data.toList by unfold plainP; rw [hcan]; rfl)
    rw [HR.out]
    clear hcan
    go_enter Tryz.func72, Tryz.ntmps72
    go_wp2_with (first | fail | (refine (HC.out _).mono ?_; rintro e1 w1 ⟨rfl, hb1⟩))
    go_ret
    exact ⟨rfl, hb1⟩

end Go.Proofs.YtfibjcaidnofmaaGreatDoor

