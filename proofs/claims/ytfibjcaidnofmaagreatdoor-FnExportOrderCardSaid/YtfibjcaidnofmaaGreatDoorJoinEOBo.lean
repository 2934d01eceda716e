/- Drawn texts of trees: what the source gives. -/
import Derived.Test.YtfibjcaidnofmaaGreatDoorJoinEOAh
import Derived.Test.YtfibjcaidnofmaaGreatDoorJoinEOAa
import Derived.Test.YtfibjcaidnofmaaGreatDoorJoinEOAe
import Derived.Test.YtfibjcaidnofmaaGreatDoorJoinEOBn
import Derived.Test.YtfibjcaidnofmaaGreatDoorJoinEOAj
namespace Go.Proofs.YtfibjcaidnofmaaGreatDoor
open Go.RowKit

/-- A source, its bytes, and how far it may have been read. -/
structure Src (w : World) (p lo hi : Nat) (A : Option Addr) (n c K : Nat) : Prop where
  src : ∃ k, k ≤ K ∧ SrcB w p A n c k
  bytes : BytesR w lo hi A n
  few : n ≤ 1048576
  apart : hi ≤ p ∨ p < lo
  le : hi ≤ w.heap.size
section
variable {w w' : World} {p lo hi n c K K' : Nat} {A : Option Addr}
theorem Src.lt (h : Src w p lo hi A n c K) : p < w.heap.size := by
  obtain ⟨k, _, hs⟩ := h.src
  exact hs.lt
theorem Src.moved (h : Src w p lo hi A n c K) (hm : Moved p w w') (hs : ∃ k, k ≤ K' ∧ SrcB w' p A n c k) : Src w' p lo hi A n c K' :=
  ⟨hs, h.bytes.keep fun b h1 h2 => hm.block b (by have := h.le; omega) (by have := h.apart; omega), h.few, h.apart, Nat.le_trans h.le hm.size⟩
theorem Src.below (h : Src w p lo hi A n c K) (hb : Below w.heap.size w w') : Src w' p lo hi A n c K := by
  obtain ⟨k, hk, hs⟩ := h.src
  exact h.moved (Moved.of_below hb) ⟨k, hk, hs.below hb hs.lt⟩
theorem Src.more (h : Src w p lo hi A n c K) (hk : K ≤ K') : Src w p lo hi A n c K' := by
  obtain ⟨k, h1, hs⟩ := h.src
  exact ⟨⟨k, by omega, hs⟩, h.bytes, h.few, h.apart, h.le⟩
theorem Src.far (h : Src w p lo hi A n c K) {q : Addr} (hq : p ≠ q.block) (hq2 : hi ≤ q.block) (u : Value) : Src (w.setCell q u) p lo hi A n c K := by
  obtain ⟨k, hk, sd, hs⟩ := h.src
  exact ⟨⟨k, hk, sd, Blk.far hs hq u⟩, h.bytes.keep fun b h1 h2 => Below.heap_setCell _ q u b (by omega), h.few, h.apart, by have := h.le; simpa using this⟩
theorem OwnR.moved {α : Type} {enc : α → Value} {base : Nat} {t : TypeId} {v : Value} {xs : List α} (h : OwnR enc w base t v xs) (hm : Moved p w w') (hp : p < base) : OwnR enc w' base t v xs := by
  refine ⟨h.1, h.2.1, ?_⟩
  rcases h.2.2 with h2 | ⟨g, cap, cur, e1, e2, e3, r⟩
  · exact .inl h2
  · refine .inr ⟨g, cap, cur, e1, e2, ?_, r⟩
    rw [hm.block g (Array.getElem?_eq_some_iff.1 e3).1 (by omega)]
    exact e3
theorem Moved.alloc (w : World) (o : Obj) (p : Nat) : Moved p w (w.alloc o) := Moved.of_below ((Below.refl _ _).alloc (Nat.le_refl _) o)
theorem Src.alloc (h : Src w p lo hi A n c K) (o : Obj) : Src (w.alloc o) p lo hi A n c K := h.below ((Below.refl _ _).alloc (Nat.le_refl _) o)
/-- A cell of one's own is set. -/
theorem Moved.set_ {w0 : World} (h : Moved p w0 w) {q : Addr} (hq : w0.heap.size ≤ q.block) (u : Value) : Moved p w0 (w.setCell q u) :=
  ⟨h.os, h.tape, h.output, by have := h.size; simpa using this, fun k hk hn => (Below.heap_setCell _ q u k (by omega)).trans (h.block k hk hn)⟩
theorem Blk.moved {g : Nat} {t : TypeId} {cs : Array Value} (h : Blk w g t cs) (hm : Moved p w w') (hp : g ≠ p) : Blk w' g t cs := (hm.block g h.lt hp).trans h
end

section
variable (p lo hi : Nat) (A : Option Addr) (n c K : Nat) (w : World) (h : Src w p lo hi A n c K) (hK : K ≤ 800000000)
include h hK
theorem pickS (m : Int) (hm1 : 1 ≤ m) (hm : m ≤ 60000) : Calls Tryz.prog 78 #[.pointer (some ⟨p, 0, none⟩), .int .i64 m] w fun e w' => ∃ r : Nat, (r : Int) < m ∧ e = .returned (.int .i64 r) ∧ Src w' p lo hi A n c (K + 2) ∧ Moved p w w' := by
  obtain ⟨k, hk, hs⟩ := h.src
  refine (pick_any p lo hi A n c k m w hs h.bytes (by omega) h.few h.apart hm).mono ?_
  rintro e w' ⟨r, hr, _, rfl, k', h1, h2, hs', ht⟩
  exact ⟨r, hr hm1, rfl, h.moved ht.moved ⟨k', by omega, hs'⟩, ht.moved⟩
set_option maxHeartbeats 1000000 in
theorem oneS (m : Int) (hm1 : 1 ≤ m) (hm : m ≤ 60000) : Calls Tryz.prog 69 #[.pointer (some ⟨p, 0, none⟩), .int .i64 m] w fun e w' => ∃ b : Bool, e = .returned (.bool b) ∧ Src w' p lo hi A n c (K + 2) ∧ Moved p w w' := by
  have HP := Lib.hid (pickS p lo hi A n c K w h hK m hm1 hm)
  clear h
  go_enter Tryz.func69, Tryz.ntmps69
  go_wp2_with fail
  refine HP.out.mono ?_
  rintro e1 w1 ⟨r, hr, rfl, hs1, ht1⟩
  have HS := Lib.hid hs1; have HT := Lib.hid ht1
  clear hs1 ht1
  go_wp2_with fail
  go_ret
  exact ⟨_, rfl, HS.out, HT.out⟩
/-- One of some texts, which lie in a new block. -/
theorem textS (xs : List ByteArray) (h0 : 0 < xs.length) (hm : xs.length ≤ 60000) : Calls Tryz.prog 70 #[.pointer (some ⟨p, 0, none⟩), .slice (some ⟨w.heap.size, 0, none⟩) xs.length xs.length] (w.alloc (.cells (xs.map Value.string).toArray 9)) fun e w' => ∃ x ∈ xs, e = .returned (.string x) ∧ Src w' p lo hi A n c (K + 2) ∧ Moved p w w' := by
  have hA := h.alloc (.cells (xs.map Value.string).toArray 9)
  obtain ⟨k, hk, hs⟩ := hA.src
  have hpl := h.lt
  refine (srcText_any p lo hi A n c k w.heap.size (w.heap.size + 1) xs.length xs.length (some ⟨w.heap.size, 0, none⟩) xs _ hs hA.bytes (by omega) h.few h.apart (rowR_new w 9 xs) h0 hm (.inr hpl)).mono ?_
  rintro e w' ⟨x, hx, rfl, k', h1, h2, hs', ht⟩
  exact ⟨x, hx, rfl, hA.moved ht.moved ⟨k', by omega, hs'⟩, (Moved.alloc w _ p).trans ht.moved⟩
theorem amongS (xs : List Int) (h0 : 0 < xs.length) (hm : xs.length ≤ 60000) : Calls Tryz.prog 176 #[.pointer (some ⟨p, 0, none⟩), .slice (some ⟨w.heap.size, 0, none⟩) xs.length xs.length] (w.alloc (.cells (xs.map (Value.int .i64)).toArray 2)) fun e w' => ∃ x ∈ xs, e = .returned (.int .i64 x) ∧ Src w' p lo hi A n c (K + 2) ∧ Moved p w w' := by
  have hA := h.alloc (.cells (xs.map (Value.int .i64)).toArray 2)
  obtain ⟨k, hk, hs⟩ := hA.src
  have hpl := h.lt
  refine (among_any p lo hi A n c k w.heap.size (w.heap.size + 1) xs.length xs.length (some ⟨w.heap.size, 0, none⟩) xs _ hs hA.bytes (by omega) h.few h.apart (rowR_new w 2 xs) h0 hm (.inr hpl)).mono ?_
  rintro e w' ⟨x, hx, rfl, k', h1, h2, hs', ht⟩
  exact ⟨x, hx, rfl, hA.moved ht.moved ⟨k', by omega, hs'⟩, (Moved.alloc w _ p).trans ht.moved⟩
end
abbrev l22TextTs : List ByteArray := [⟨#[]⟩, ⟨#[97]⟩, ⟨#[49, 50]⟩, ⟨#[45, 49, 46, 53]⟩, ⟨#[48, 49]⟩, ⟨#[115, 97, 121, 32, 34, 104, 105, 34]⟩, ⟨#[97, 10, 98]⟩, ⟨#[0, 255]⟩, ⟨#[9]⟩, ⟨#[120, 32, 121]⟩, ⟨#[36, 67, 40, 49, 48, 41]⟩, ⟨#[95]⟩, ⟨#[34]⟩, ⟨#[116, 97, 98, 9, 104, 101, 114, 101]⟩, ⟨#[46, 53]⟩, ⟨#[48, 46, 53]⟩, ⟨#[45, 48]⟩]
theorem l22TextTs_size : ∀ x ∈ l22TextTs, x.size ≤ 24 := by decide
abbrev l03NameTs : List ByteArray := [⟨#[65]⟩, ⟨#[65]⟩, ⟨#[66]⟩, ⟨#[65, 66]⟩, ⟨#[97]⟩, ⟨#[37, 90]⟩]
theorem l03NameTs_size : ∀ x ∈ l03NameTs, x.size ≤ 24 := by decide
abbrev l03SubTs : List ByteArray := [⟨#[49]⟩, ⟨#[50]⟩, ⟨#[49, 48]⟩, ⟨#[45, 51]⟩, ⟨#[49, 46, 53]⟩, ⟨#[97]⟩, ⟨#[98]⟩, ⟨#[97, 98]⟩, ⟨#[66]⟩, ⟨#[48, 49]⟩, ⟨#[48]⟩, ⟨#[120, 32, 121]⟩]
theorem l03SubTs_size : ∀ x ∈ l03SubTs, x.size ≤ 24 := by decide
abbrev l03ValTs : List ByteArray := [⟨#[]⟩, ⟨#[49]⟩, ⟨#[120]⟩, ⟨#[97, 98, 99]⟩, ⟨#[50]⟩, ⟨#[104, 101, 108, 108, 111]⟩]
theorem l03ValTs_size : ∀ x ∈ l03ValTs, x.size ≤ 24 := by decide

set_option maxHeartbeats 1000000 in
theorem l22Text_any (p lo hi : Nat) (A : Option Addr) (n c K : Nat) (w : World) (h : Src w p lo hi A n c K) (hK : K ≤ 800000000) :
    Calls Tryz.prog 73 #[.pointer (some ⟨p, 0, none⟩)] w fun e w' => ∃ x ∈ l22TextTs, e = .returned (.string x) ∧ Src w' p lo hi A n c (K + 2) ∧ Moved p w w' := by
  have HT := Lib.hid (textS p lo hi A n c K w h hK l22TextTs (by decide) (by decide))
  clear h
  go_enter Tryz.func73, Tryz.ntmps73
  go_wp2_with fail
  refine HT.out.mono ?_
  rintro e1 w1 ⟨x, hx, rfl, hs1, ht1⟩
  have HS := Lib.hid hs1; have HM := Lib.hid ht1; have HX := Lib.hid hx
  clear hs1 ht1 hx
  go_wp2_with fail
  go_ret
  exact ⟨x, HX.out, rfl, HS.out, HM.out⟩

set_option maxHeartbeats 1000000 in
theorem l03Name_any (p lo hi : Nat) (A : Option Addr) (n c K : Nat) (w : World) (h : Src w p lo hi A n c K) (hK : K ≤ 800000000) :
    Calls Tryz.prog 134 #[.pointer (some ⟨p, 0, none⟩)] w fun e w' => ∃ x ∈ l03NameTs, e = .returned (.string x) ∧ Src w' p lo hi A n c (K + 2) ∧ Moved p w w' := by
  have HT := Lib.hid (textS p lo hi A n c K w h hK l03NameTs (by decide) (by decide))
  clear h
  go_enter Tryz.func134, Tryz.ntmps134
  go_wp2_with fail
  refine HT.out.mono ?_
  rintro e1 w1 ⟨x, hx, rfl, hs1, ht1⟩
  have HS := Lib.hid hs1; have HM := Lib.hid ht1; have HX := Lib.hid hx
  clear hs1 ht1 hx
  go_wp2_with fail
  go_ret
  exact ⟨x, HX.out, rfl, HS.out, HM.out⟩

set_option maxHeartbeats 1000000 in
theorem l03Sub_any (p lo hi : Nat) (A : Option Addr) (n c K : Nat) (w : World) (h : Src w p lo hi A n c K) (hK : K ≤ 800000000) :
    Calls Tryz.prog 177 #[.pointer (some ⟨p, 0, none⟩)] w fun e w' => ∃ x ∈ l03SubTs, e = .returned (.string x) ∧ Src w' p lo hi A n c (K + 2) ∧ Moved p w w' := by
  have HT := Lib.hid (textS p lo hi A n c K w h hK l03SubTs (by decide) (by decide))
  clear h
  go_enter Tryz.func177, Tryz.ntmps177
  go_wp2_with fail
  refine HT.out.mono ?_
  rintro e1 w1 ⟨x, hx, rfl, hs1, ht1⟩
  have HS := Lib.hid hs1; have HM := Lib.hid ht1; have HX := Lib.hid hx
  clear hs1 ht1 hx
  go_wp2_with fail
  go_ret
  exact ⟨x, HX.out, rfl, HS.out, HM.out⟩

end Go.Proofs.YtfibjcaidnofmaaGreatDoor

/- Drawn places and changes. -/
namespace Go.Proofs.YtfibjcaidnofmaaGreatDoor
open Go.RowKit


section
variable {w0 w w' : World} {p lo hi n c K : Nat} {A : Option Addr}
theorem Moved.trans_below (h : Moved p w0 w) (hb : Below w0.heap.size w w') : Moved p w0 w' :=
  ⟨hb.os.trans h.os, hb.tape.trans h.tape, hb.output.trans h.output, Nat.le_trans h.size hb.size, fun k hk hn => (hb.block k hk).trans (h.block k hk hn)⟩
theorem Src.belowB {B : Nat} (h : Src w p lo hi A n c K) (hb : Below B w w') (hp : p < B) (hh : hi ≤ B) : Src w' p lo hi A n c K := by
  obtain ⟨k, hk, sd, hs⟩ := h.src
  exact ⟨⟨k, hk, sd, Blk.below hs hb hp⟩, h.bytes.keep fun b _ h2 => hb.block b (by omega), h.few, h.apart, Nat.le_trans h.le hb.size⟩
end

set_option maxHeartbeats 4000000 in
set_option maxRecDepth 100000 in
theorem l03Some_any (p lo hi : Nat) (A : Option Addr) (n c K : Nat) (w : World) (h : Src w p lo hi A n c K) (hK : K ≤ 700000000) :
    Calls Tryz.prog 135 #[.pointer (some ⟨p, 0, none⟩)] w fun e w' => ∃ v, e = .returned v ∧ ∃ xs, OwnStrs w' w.heap.size 9 v xs ∧ xs.length ≤ 4 ∧ (∀ x ∈ xs, x.size ≤ 24) ∧ Src w' p lo hi A n c (K + 12) ∧ Moved p w w' := by
  have hpl := h.lt
  have hhi := h.le
  have HO := Lib.hid (OwnR.none_ (enc := Value.string) w w.heap.size 9 (Nat.le_refl _))
  have HA := Lib.hid (amongS p lo hi A n c K _ (h.alloc (.cells #[] 9)) (by omega) [0, 1, 1, 2, 2, 3, 4] (by decide) (by decide))
  have HM0 := Lib.hid (Moved.alloc w (.cells #[] 9) p)
  have hs0 : (w.alloc (.cells #[] 9)).heap.size = w.heap.size + 1 := by simp
  rw [hs0] at HA
  clear h hs0
  go_enter Tryz.func135, Tryz.ntmps135
  go_wp2_with fail
  refine HA.out.mono ?_
  rintro e1 w1 ⟨x, hx, rfl, hs1, hm1⟩
  have hx4 : 0 ≤ x ∧ x ≤ 4 := by simp at hx; omega
  obtain ⟨j0, rfl⟩ := Int.eq_ofNat_of_zero_le hx4.1
  have HS1 := Lib.hid hs1; have HM1 := Lib.hid (HM0.out.trans hm1); have HO1 := Lib.hid (HO.out.moved hm1 hpl)
  clear hs1 hm1 hx HM0 HO HA
  go_wp2_with fail
  go_loopw [3, 4] (fun o kk wr => ∃ (j : Nat) (xs : List ByteArray), kk = .int .i64 j ∧ j + xs.length ≤ 4 ∧ (∀ x ∈ xs, x.size ≤ 24) ∧ OwnStrs wr w.heap.size 9 o xs ∧ Src wr p lo hi A n c (K + 2 + 2 * xs.length) ∧ Moved p w wr) (fun _ kk _ => (intOf kk).toNat)
  case atStart => exact ⟨j0, [], rfl, by simp; omega, (fun x hx => by cases hx), HO1.out, HS1.out, HM1.out⟩
  case round =>
    obtain ⟨j, xs, rfl, hj, hxs, ho, hs, hm⟩ := hrel
    have HX := Lib.hid hxs; have HO2 := Lib.hid ho; have HM2 := Lib.hid hm
    have HS2 := Lib.hid (l03Sub_any p lo hi A n c _ wr hs (by omega))
    by_cases h0 : 0 < j
    · have i1 : (0 : Int) < (j : Int) := by omega
      clear hxs ho hs hm
      go_wp2_with fail
      refine HS2.out.mono ?_; rintro e2 w2 ⟨y, hy, rfl, hs2, hm2⟩
      have HO3 := Lib.hid (HO2.out.moved hm2 hpl)
      have HM3 := Lib.hid (HM2.out.trans hm2)
      have HS3 := Lib.hid hs2
      have hy24 := l03SubTs_size y hy
      have hz2 := HM3.out.size
      clear hs2 hm2 hy
      go_wp2_with (first
        | fail
        | (at_builtin; refine wpList_app1 (enc := Value.string) rfl (.tmp 13) (.tmp 16) 29 9 rfl Tryz.underlying29 rfl (by omega) (fun _ => rfl) infoString w2 w.heap.size _ xs y rfl HO3.out rfl (by omega) hz2 ?_; intro v3 w3 hown4 hb3))
      go_roundw
      case rel => exact ⟨j - 1, xs ++ [y], by go_num, by rw [List.length_append]; simp; omega, fun z hz => by
        rcases List.mem_append.1 hz with hz | hz
        · exact HX.out z hz
        · rw [List.mem_singleton.1 hz]; exact hy24, hown4, (HS3.out.belowB hb3 hpl hhi).more (by rw [List.length_append]; simp; omega), HM3.out.trans_below hb3⟩
      case measure => simp [intOf]; omega
    · have HSS := Lib.hid (hs.more (K' := K + 12) (by omega))
      have i1 : ¬ (0 : Int) < (j : Int) := by omega
      clear hxs ho hs hm
      go_wp2_with fail
      go_ret
      exact ⟨_, rfl, xs, HO2.out, by omega, HX.out, HSS.out, HM2.out⟩

end Go.Proofs.YtfibjcaidnofmaaGreatDoor

/- SameTree of the reference, at two readings of one tree. -/
namespace Go.Proofs.YtfibjcaidnofmaaGreatDoor
open Go.RowKit

theorem sameB_self {α : Type} (x : α) : sameB x x = true := by unfold sameB; exact @decide_eq_true _ (Classical.propDecidable _) rfl

set_option maxHeartbeats 4000000 in
set_option maxRecDepth 100000 in
theorem l03SameNode_any (A B : Option Addr) (c d : Nat) (nm vl : ByteArray) (xs : List ByteArray) (lo hi lo' hi' : Nat) (w : World) (h : StrR w lo hi A xs.length xs) (h' : StrR w lo' hi' B xs.length xs) (hhi : hi ≤ w.heap.size) (hhi' : hi' ≤ w.heap.size) (hn : xs.length ≤ 1048576) :
    Calls Tryz.prog 49 #[.agg #[.string nm, .slice A xs.length c, .string vl], .agg #[.string nm, .slice B xs.length d, .string vl]] w fun e w' => e = .returned (.bool true) ∧ Below w.heap.size w w' := by
  have hb := ((Below.refl w.heap.size w).alloc (Nat.le_refl _) (.cells #[.string nm, .slice A xs.length c, .string vl] 32)).alloc (by simp) (.cells #[.string nm, .slice B xs.length d, .string vl] 32)
  have HS := Lib.hid (sameSubs_n A B c d xs xs lo hi lo' hi' _ (h.below hb hhi) (h'.below hb hhi') (Nat.le_trans hhi hb.size) (Nat.le_trans hhi' hb.size) hn hn)
  rw [sameB_self] at HS
  have HB := Lib.hid hb
  clear h h' hb
  go_enter Tryz.func49, Tryz.ntmps49
  go_wp2_with fail
  refine HS.out.mono ?_
  rintro e1 w1 ⟨rfl, hb1⟩
  have HB1 := Lib.hid (HB.out.trans (hb1.mono HB.out.size))
  clear hb1
  go_wp2_with fail
  go_ret
  exact ⟨rfl, HB1.out⟩

set_option maxHeartbeats 8000000 in
set_option maxRecDepth 100000 in
theorem sameTree_any (A B : Option Addr) (c d : Nat) (ts : List TyNode) (lo hi lo' hi' : Nat) (w : World) (h : RowG shNode w lo hi A ts) (h' : RowG shNode w lo' hi' B ts) (hhi : hi ≤ w.heap.size) (hhi' : hi' ≤ w.heap.size) (hs : SmT ts) :
    Calls Tryz.prog 15 #[.agg #[.slice A ts.length c], .agg #[.slice B ts.length d]] w fun e w' => e = .returned (.bool true) ∧ Below w.heap.size w w' := by
  have hb := ((Below.refl w.heap.size w).alloc (Nat.le_refl _) (.cells #[.slice A ts.length c] 26)).alloc (by simp) (.cells #[.slice B ts.length d] 26)
  obtain ⟨W2, hW2⟩ : ∃ W2, W2 = (w.alloc (.cells #[.slice A ts.length c] 26)).alloc (.cells #[.slice B ts.length d] 26) := ⟨_, rfl⟩
  have hz2 : W2.heap.size = w.heap.size + 2 := by rw [hW2]; simp
  have B0 := Lib.hid (show Blk W2 w.heap.size 26 #[.slice A ts.length c] from by rw [hW2]; exact (Blk.new w 26 #[.slice A ts.length c]).alloc _)
  have B1 := Lib.hid (show Blk W2 (w.heap.size + 1) 26 #[.slice B ts.length d] from by
    rw [hW2]
    have := Blk.new (w.alloc (.cells #[.slice A ts.length c] 26)) 26 #[.slice B ts.length d]
    rw [heap_alloc_size1] at this
    exact this)
  rw [← hW2] at hb
  have HR := Lib.hid (show (Sh.row 32 shNode).R w lo hi [.slice A ts.length c] ts from ⟨A, c, rfl, h⟩)
  have HR' := Lib.hid (show (Sh.row 32 shNode).R w lo' hi' [.slice B ts.length d] ts from ⟨B, d, rfl, h'⟩)
  have HB := Lib.hid hb; have HSM := Lib.hid hs
  have hn := hs.1
  have f0 := B0.out.cell; have f1 := B1.out.cell
  clear h h' hb hs
  go_enter Tryz.func15, Tryz.ntmps15
  go_upto_region 1 with fail
  rw [← hW2]
  clear hW2
  go_wp2_with fail
  clear f0 f1
  go_loopw [5] (fun i wr => ∃ k : Nat, k ≤ ts.length ∧ i = .int .i64 k ∧ Below W2.heap.size W2 wr) (fun i _ => ts.length - (intOf i).toNat)
  case atStart => exact ⟨0, Nat.zero_le _, rfl, Below.refl _ _⟩
  case round =>
    obtain ⟨k, hk, rfl, hb⟩ := hrel
    have hB0 := B0.out.below hb B0.out.lt
    have hB1 := B1.out.below hb B1.out.lt
    have hbw := HB.out.trans (hb.mono (by omega))
    have HBW := Lib.hid hbw; have HBR := Lib.hid hb
    have s1 := hb.size
    by_cases hlt : k < ts.length
    · obtain ⟨-, b, off, rfl, hb1, hb2, A1, c1, e0, e1, e2, hX⟩ := shNode_at ((Sh.row 32 shNode).R_below HR.out hbw hhi) hlt
      obtain ⟨-, b', off', rfl, hb1', hb2', A1', c1', e0', e1', e2', hX'⟩ := shNode_at ((Sh.row 32 shNode).R_below HR'.out hbw hhi') hlt
      have HX := Lib.hid (HSM.out.2 _ (getD_in (d := shNode.d) hlt))
      generalize ts.getD k shNode.d = X at *
      obtain ⟨y0, y1, y2⟩ := X
      dsimp only at e0 e1 e2 e0' e1' e2'
      have i1 : (k : Int) < (ts.length : Int) := by omega
      have hn1 : y1.length ≤ 1048576 := HX.out.1
      have HST := Lib.hid (shNode_str1 hX); have HST' := Lib.hid (shNode_str1 hX')
      have HBD := Lib.hid (show Below W2.heap.size W2 wr.drew from hb.trans (below_drewN' wr 1 |>.mono s1))
      have hS : ((∀ i, wr.drew.cell? ⟨w.heap.size, i, none⟩ = (#[.slice (some ⟨b, off, none⟩) ts.length c] : Array Value)[i]?) ∧ (∀ i, wr.drew.cell? ⟨w.heap.size + 1, i, none⟩ = (#[.slice (some ⟨b', off', none⟩) ts.length d] : Array Value)[i]?)) ∧
          (wr.drew.cell? ⟨b, off + k * 3, none⟩ = some (.string y0) ∧ wr.drew.cell? ⟨b, off + k * 3 + 1, none⟩ = some (.slice A1 y1.length c1) ∧ wr.drew.cell? ⟨b, off + k * 3 + 2, none⟩ = some (.string y2)) ∧
          (wr.drew.cell? ⟨b', off' + k * 3, none⟩ = some (.string y0) ∧ wr.drew.cell? ⟨b', off' + k * 3 + 1, none⟩ = some (.slice A1' y1.length c1') ∧ wr.drew.cell? ⟨b', off' + k * 3 + 2, none⟩ = some (.string y2)) :=
        ⟨⟨hB0.cell, hB1.cell⟩, ⟨e0, e1, e2⟩, ⟨e0', e1', e2'⟩⟩
      have HSS := Lib.hid hS
      have HN := Lib.hid (l03SameNode_any A1 A1' c1 c1' y0 y2 y1 lo hi lo' hi' wr.drew HST.out HST'.out (show hi ≤ wr.heap.size by omega) (show hi' ≤ wr.heap.size by omega) hn1)
      have s2 : wr.drew.heap.size = wr.heap.size := rfl
      have f0 := hB0.cell
      clear hX hX' hbw hb hB1 hS
      go_upto_region 6 with fail
      clear hB0 f0 e0 e1 e2 e0' e1' e2'
      refine AnyT.region (fun _ => false) (fun W => ((∀ i, W.cell? ⟨w.heap.size, i, none⟩ = (#[.slice (some ⟨b, off, none⟩) ts.length c] : Array Value)[i]?) ∧ (∀ i, W.cell? ⟨w.heap.size + 1, i, none⟩ = (#[.slice (some ⟨b', off', none⟩) ts.length d] : Array Value)[i]?)) ∧
          (W.cell? ⟨b, off + k * 3, none⟩ = some (.string y0) ∧ W.cell? ⟨b, off + k * 3 + 1, none⟩ = some (.slice A1 y1.length c1) ∧ W.cell? ⟨b, off + k * 3 + 2, none⟩ = some (.string y2)) ∧
          (W.cell? ⟨b', off' + k * 3, none⟩ = some (.string y0) ∧ W.cell? ⟨b', off' + k * 3 + 1, none⟩ = some (.slice A1' y1.length c1') ∧ W.cell? ⟨b', off' + k * 3 + 2, none⟩ = some (.string y2))) (by kernel_rfl) HSS.out (fun hHeld => ?_)
      generalize wr.drew = w4 at *
      ((refine AnyT.takeAny 0 20 ?_ rfl (by kernel_rfl) (by kernel_rfl) (by kernel_rfl) rfl rfl (fun _ _ _ _ h => h) rfl ?_ (by assumption) ?_); rotate_left; (intro w; go_simp; (try (with_reducible rfl))); simp only [Act.put, List.setIfInBounds_toArray, List.set_cons_zero, List.set_cons_succ])
      ((refine AnyT.take 1 21 ?_ rfl (by kernel_rfl) (by kernel_rfl) (by kernel_rfl) (by kernel_rfl) rfl (by kernel_rfl) rfl (fun _ _ _ _ h => h) rfl ?_ (by assumption) ?_); rotate_left; (intro w hSw; (try dsimp only at hSw); go_simp; (try (with_reducible rfl))); simp only [Act.put, List.setIfInBounds_toArray, List.set_cons_zero, List.set_cons_succ])
      ((refine AnyT.takeAny 2 22 ?_ rfl (by kernel_rfl) (by kernel_rfl) (by kernel_rfl) rfl rfl (fun _ _ _ _ h => h) rfl ?_ (by assumption) ?_); rotate_left; (intro w; go_simp; (try (with_reducible rfl))); simp only [Act.put, List.setIfInBounds_toArray, List.set_cons_zero, List.set_cons_succ])
      ((refine AnyT.takeAny 3 23 ?_ rfl (by kernel_rfl) (by kernel_rfl) (by kernel_rfl) rfl rfl (fun _ _ _ _ h => h) rfl ?_ (by assumption) ?_); rotate_left; (intro w; go_simp; (try (with_reducible rfl))); simp only [Act.put, List.setIfInBounds_toArray, List.set_cons_zero, List.set_cons_succ])
      ((refine AnyT.take 4 24 ?_ rfl (by kernel_rfl) (by kernel_rfl) (by kernel_rfl) (by kernel_rfl) rfl (by kernel_rfl) rfl (fun _ _ _ _ h => h) rfl ?_ (by assumption) ?_); rotate_left; (intro w hSw; (try dsimp only at hSw); go_simp; (try (with_reducible rfl))); simp only [Act.put, List.setIfInBounds_toArray, List.set_cons_zero, List.set_cons_succ])
      ((refine AnyT.takeAny 5 25 ?_ rfl (by kernel_rfl) (by kernel_rfl) (by kernel_rfl) rfl rfl (fun _ _ _ _ h => h) rfl ?_ (by assumption) ?_); rotate_left; (intro w; go_simp; (try (with_reducible rfl))); simp only [Act.put, List.setIfInBounds_toArray, List.set_cons_zero, List.set_cons_succ])
      ((refine AnyT.take 6 26 ?_ rfl (by kernel_rfl) (by kernel_rfl) (by kernel_rfl) (by kernel_rfl) rfl (by kernel_rfl) rfl (fun _ _ _ _ h => h) rfl ?_ (by assumption) ?_); rotate_left; (intro w hSw; (try dsimp only at hSw); go_simp; (try (with_reducible rfl))); simp only [Act.put, List.setIfInBounds_toArray, List.set_cons_zero, List.set_cons_succ])
      ((refine AnyT.takeAny 7 27 ?_ rfl (by kernel_rfl) (by kernel_rfl) (by kernel_rfl) rfl rfl (fun _ _ _ _ h => h) rfl ?_ (by assumption) ?_); rotate_left; (intro w; go_simp; (try (with_reducible rfl))); simp only [Act.put, List.setIfInBounds_toArray, List.set_cons_zero, List.set_cons_succ])
      ((refine AnyT.takeAny 8 28 ?_ rfl (by kernel_rfl) (by kernel_rfl) (by kernel_rfl) rfl rfl (fun _ _ _ _ h => h) rfl ?_ (by assumption) ?_); rotate_left; (intro w; go_simp; (try (with_reducible rfl))); simp only [Act.put, List.setIfInBounds_toArray, List.set_cons_zero, List.set_cons_succ])
      ((refine AnyT.take 9 29 ?_ rfl (by kernel_rfl) (by kernel_rfl) (by kernel_rfl) (by kernel_rfl) rfl (by kernel_rfl) rfl (fun _ _ _ _ h => h) rfl ?_ (by assumption) ?_); rotate_left; (intro w hSw; (try dsimp only at hSw); go_simp; (try (with_reducible rfl))); simp only [Act.put, List.setIfInBounds_toArray, List.set_cons_zero, List.set_cons_succ])
      ((refine AnyT.one (i := 10) (by kernel_rfl) rfl (fun K hK => ?_)))
      go_simp
      refine HN.out.mono ?_
      rintro e5 w5 ⟨rfl, hb5⟩
      have HB5 := Lib.hid (HBD.out.trans (hb5.mono (by omega)))
      have hc5 : ∀ (g i : Nat), g < w4.heap.size → w5.cell? ⟨g, i, none⟩ = w4.cell? ⟨g, i, none⟩ := fun g i hg => hb5.cell (p := ⟨g, i, none⟩) hg
      go_simp
      obtain ⟨⟨q1, q2⟩, ⟨q3, q4, q5⟩, ⟨q6, q7, q8⟩⟩ := HSS.out
      refine hK.out _ _ ⟨⟨fun i => (hc5 _ i (by omega)).trans (q1 i), fun i => (hc5 _ i (by omega)).trans (q2 i)⟩, ⟨(hc5 _ _ (by omega)).trans q3, (hc5 _ _ (by omega)).trans q4, (hc5 _ _ (by omega)).trans q5⟩, ⟨(hc5 _ _ (by omega)).trans q6, (hc5 _ _ (by omega)).trans q7, (hc5 _ _ (by omega)).trans q8⟩⟩ (fun hHeld => ?_)
      clear hK K hb5 hc5 HN q1 q2 q3 q4 q5 q6 q7 q8
      (try simp only [Act.put, List.setIfInBounds_toArray, List.set_cons_zero, List.set_cons_succ])
      ((refine AnyT.takeAny 11 31 ?_ rfl (by kernel_rfl) (by kernel_rfl) (by kernel_rfl) rfl rfl (fun _ _ _ _ h => h) rfl ?_ (by assumption) ?_); rotate_left; (intro w; go_simp; (try (with_reducible rfl))); simp only [Act.put, List.setIfInBounds_toArray, List.set_cons_zero, List.set_cons_succ])
      refine AnyT.done (by kernel_rfl) ?_ _
      clear hHeld
      go_wp2_with fail
      go_roundw
      case rel => exact ⟨k + 1, by omega, by go_num, HB5.out⟩
      case measure => simp [intOf]; omega
    · have i1 : ¬ (k : Int) < (ts.length : Int) := by omega
      have f0 := hB0.cell
      clear hB1 hbw hb
      go_wp2_with fail
      go_ret
      exact ⟨rfl, HBW.out⟩

end Go.Proofs.YtfibjcaidnofmaaGreatDoor
