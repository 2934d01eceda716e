/- Files and devices marked: markFileS, heldFileS, markDevices, heldDevices walked. -/
import Derived.Test.YtmeholhmadeehaaGreatDoorJoinFLAi
import Derived.Deep.AppendLies
import Derived.Deep.RegionHeld3
namespace Go.Proofs.YtmeholhmadeehaaGreatDoor
open Go.RowKit

theorem markStringS_int (base : Nat) (A : Option Addr) (n c : Nat) (a : Int) (xs : List ByteArray) (w : World) (h : w.ownsRow base 9 1 (.slice A n c) n (xs.map Value.string))
    (h1 : 1 ≤ a) (h2 : a + n ≤ 4294967296) :
    Calls Tryz.prog 43 #[.slice A n c, .int .i64 a] w fun e w' => e = .returned (.int .i64 (a + n)) ∧
      w'.ownsRow base 9 1 (.slice A n c) n ((marksFrom a.toNat n).map Value.string) ∧ w.grownBy w' (Value.slice A n c).ownBlock := by
  obtain ⟨k, rfl⟩ := Int.eq_ofNat_of_zero_le (show 0 ≤ a by omega)
  refine (markStringS_any base A n c k xs w h (by omega) (by omega)).mono fun e w' ⟨he, h3, h4⟩ => ⟨?_, h3, h4⟩
  rw [he]; simp
theorem heldStringS_int (A : Option Addr) (n c : Nat) (a : Int) (lo hi : Nat) (w : World) (h : StrR w lo hi A n (marksFrom a.toNat n)) (hhi : hi ≤ w.heap.size) (h1 : 1 ≤ a) (h2 : a + n ≤ 4294967296) :
    Calls Tryz.prog 46 #[.slice A n c, .int .i64 a] w fun e w' => e = .returned (.int .i64 (a + n)) ∧ Below w.heap.size w w' := by
  obtain ⟨k, rfl⟩ := Int.eq_ofNat_of_zero_le (show 0 ≤ a by omega)
  refine (heldStringS_any A n c k lo hi w h hhi (by omega) (by omega)).mono fun e w' ⟨he, h3⟩ => ⟨?_, h3⟩
  rw [he]; simp

/-- A file that bears its marks, from the number a on. -/
def markFil (a : Int) (f : Fil) : Fil := ⟨markT a.toNat, marksFrom (a + 1).toNat f.lines.length, markT (a + 1 + f.lines.length).toNat, a + 1 + f.lines.length + 1⟩
def markAt (a : Int) (fs : List Fil) : Nat → Int
  | 0 => a
  | j + 1 => markAt a fs j + 1 + (fs.getD j filD).lines.length + 1 + 1
def markedFils (a : Int) (fs : List Fil) (j : Nat) : List Fil := (List.range fs.length).map fun i => if i < j then markFil (markAt a fs i) (fs.getD i filD) else fs.getD i filD
def markFils (a : Int) (fs : List Fil) : List Fil := markedFils a fs fs.length

theorem markAt_le (a : Int) (fs : List Fil) : ∀ n j, j ≤ n → markAt a fs j ≤ markAt a fs n
  | 0, j, h => by
    obtain rfl : j = 0 := by omega
    exact Int.le_refl _
  | n + 1, j, h => by
    by_cases e : j = n + 1
    · subst e; exact Int.le_refl _
    · have := markAt_le a fs n j (by omega)
      show _ ≤ markAt a fs n + 1 + (fs.getD n filD).lines.length + 1 + 1
      omega
theorem markedFils_len (a : Int) (fs : List Fil) (j : Nat) : (markedFils a fs j).length = fs.length := by simp [markedFils]
theorem markedFils_getD (a : Int) (fs : List Fil) (j i : Nat) (hi : i < fs.length) : (markedFils a fs j).getD i filD = if i < j then markFil (markAt a fs i) (fs.getD i filD) else fs.getD i filD := by
  unfold markedFils
  rw [List.getD_eq_getElem?_getD, List.getElem?_map, List.getElem?_range hi]; rfl
theorem list_ext_getD {α : Type} (d : α) {xs ys : List α} (hl : xs.length = ys.length) (h : ∀ i, i < xs.length → xs.getD i d = ys.getD i d) : xs = ys := by
  apply List.ext_getElem hl
  intro i h1 h2
  have := h i h1
  rwa [List.getD_eq_getElem?_getD, List.getD_eq_getElem?_getD, List.getElem?_eq_getElem h1, List.getElem?_eq_getElem h2] at this
theorem markedFils_zero (a : Int) (fs : List Fil) : markedFils a fs 0 = fs := by
  refine list_ext_getD filD (markedFils_len a fs 0) fun i hi => ?_
  rw [markedFils_len] at hi
  rw [markedFils_getD a fs 0 i hi, if_neg (by omega)]
theorem getD_set {α : Type} (d : α) (xs : List α) (j i : Nat) (y : α) (hj : j < xs.length) : (xs.set j y).getD i d = if i = j then y else xs.getD i d := by
  rw [List.getD_eq_getElem?_getD, List.getElem?_set, List.getD_eq_getElem?_getD]
  by_cases e : i = j
  · subst e; simp [hj]
  · rw [if_neg (fun h => e h.symm), if_neg e]
theorem markedFils_succ (a : Int) (fs : List Fil) (j : Nat) (hj : j < fs.length) : (markedFils a fs j).set j (markFil (markAt a fs j) (fs.getD j filD)) = markedFils a fs (j + 1) := by
  refine list_ext_getD filD (by simp [markedFils_len]) fun i hi => ?_
  rw [List.length_set, markedFils_len] at hi
  rw [getD_set _ _ _ _ _ (by rw [markedFils_len]; exact hj), markedFils_getD a fs j i hi, markedFils_getD a fs (j + 1) i hi]
  by_cases e : i = j
  · subst e; rw [if_pos rfl, if_pos (by omega)]
  · rw [if_neg e]
    by_cases h : i < j
    · rw [if_pos h, if_pos (by omega)]
    · rw [if_neg h, if_neg (by omega)]

theorem own_far {W : World} {base g : Nat} {t : TypeId} {v : Value} {n : Nat} {xs : List Value} (i : Nat) (u : Value) (h1 : W.ownsRow base t 1 v n xs) (h2 : v.ownBlock ≠ some g) : (W.setCell ⟨g, i, none⟩ u).ownsRow base t 1 v n xs := by
  refine ⟨h1.1, ?_⟩
  rcases h1.2 with h3 | ⟨b, cap, cur, e, hb, hc, r⟩
  · exact .inl h3
  · refine .inr ⟨b, cap, cur, e, hb, ?_, r⟩
    rw [Below.heap_setCell W ⟨g, i, none⟩ u b (fun hh => h2 (by rw [e, hh]; rfl))]
    exact hc
theorem own_grown {w w' : World} {base : Nat} {t : TypeId} {size : Nat} {v : Value} {n : Nat} {xs : List Value} {row : Option Nat} (h : w.ownsRow base t size v n xs) (hg : w.grownBy w' row) (hr : ∀ b, v.ownBlock = some b → row ≠ some b) : w'.ownsRow base t size v n xs := by
  refine ⟨h.1, ?_⟩
  rcases h.2 with h3 | ⟨b, cap, cur, e, hb, hc, r⟩
  · exact .inl h3
  · refine .inr ⟨b, cap, cur, e, hb, ?_, r⟩
    have hlt : b < w.heap.size := by
      rcases Nat.lt_or_ge b w.heap.size with hlt | hge
      · exact hlt
      · rw [Array.getElem?_eq_none hge] at hc; cases hc
    rw [hg.block b hlt (fun e' => hr b (by rw [e]; rfl) e'.symm)]
    exact hc

/-- File j of the call's own is marked. -/
theorem OwnFs.mark {w w1 w2 w3 : World} {lo g : Nat} {cs : Array Value} {L : Nat → Option Addr} {C : Nat → Nat} {fs : List Fil} {n j : Nat} (h : OwnFs w lo g cs L C fs n) (hj : j < n) (hn : n ≤ fs.length) (F : Fil)
    (hlen : F.lines.length = (fs.getD j filD).lines.length) (hb1 : Below w.heap.size w w1) (hg : (w1.setCell ⟨g, j * 4, none⟩ (.string F.name)).grownBy w2 (rowOf (L j) (fs.getD j filD).lines.length (C j)))
    (ho2 : w2.ownsRow lo 9 1 (.slice (L j) (fs.getD j filD).lines.length (C j)) (fs.getD j filD).lines.length (F.lines.map Value.string)) (hb3 : Below w2.heap.size w2 w3) :
    OwnFs ((w3.setCell ⟨g, j * 4 + 2, none⟩ (.string F.part)).setCell ⟨g, j * 4 + 3, none⟩ (.int .i64 F.at_)) lo g (((cs.setIfInBounds (j * 4) (.string F.name)).setIfInBounds (j * 4 + 2) (.string F.part)).setIfInBounds (j * 4 + 3) (.int .i64 F.at_)) L C (fs.set j F) n := by
  have hgl : g < w.heap.size := h.blk.lt
  have hgl1 : g < (w1.setCell ⟨g, j * 4, none⟩ (.string F.name)).heap.size := by simp [World.setCell]; have := hb1.size; omega
  have hsz := hg.size
  have hgd : ∀ i, (fs.set j F).getD i filD = if i = j then F else fs.getD i filD := fun i => getD_set filD fs j i F (by omega)
  have hll : ∀ i, ((fs.set j F).getD i filD).lines.length = (fs.getD i filD).lines.length := fun i => by
    rw [hgd]; by_cases e : i = j
    · rw [if_pos e, e, hlen]
    · rw [if_neg e]
  have hjs : j * 4 + 3 < cs.size := by
    have := (h.cells j hj).2.2.2
    rcases Nat.lt_or_ge (j * 4 + 3) cs.size with hlt | hge
    · exact hlt
    · rw [Array.getElem?_eq_none hge] at this; cases this
  refine ⟨?_, fun i hi => ?_, fun i hi => ?_, fun i hi => ?_, fun i k hik hk b hb => ?_⟩
  · have b1 := (h.blk.below hb1 hgl).set_ (j * 4) (.string F.name)
    have b2 : Blk w2 g 55 (cs.setIfInBounds (j * 4) (.string F.name)) := (hg.block g hgl1 (fun e => h.notg j hj e.symm)).trans b1
    exact ((b2.below hb3 b2.lt).set_ _ _).set_ _ _
  · rw [hgd]
    obtain ⟨c0, c1, c2, c3⟩ := h.cells i hi
    by_cases e : i = j
    · subst e
      rw [if_pos rfl]
      refine ⟨?_, ?_, ?_, ?_⟩
      · rw [Array.getElem?_setIfInBounds_ne (by omega), Array.getElem?_setIfInBounds_ne (by omega), Array.getElem?_setIfInBounds_self_of_lt (by omega)]
      · rw [Array.getElem?_setIfInBounds_ne (by omega), Array.getElem?_setIfInBounds_ne (by omega), Array.getElem?_setIfInBounds_ne (by omega), c1, hlen]
      · rw [Array.getElem?_setIfInBounds_ne (by omega), Array.getElem?_setIfInBounds_self_of_lt (by simp; omega)]
      · rw [Array.getElem?_setIfInBounds_self_of_lt (by simp; omega)]
    · rw [if_neg e]
      refine ⟨?_, ?_, ?_, ?_⟩
      · rw [Array.getElem?_setIfInBounds_ne (by omega), Array.getElem?_setIfInBounds_ne (by omega), Array.getElem?_setIfInBounds_ne (by omega), c0]
      · rw [Array.getElem?_setIfInBounds_ne (by omega), Array.getElem?_setIfInBounds_ne (by omega), Array.getElem?_setIfInBounds_ne (by omega), c1]
      · rw [Array.getElem?_setIfInBounds_ne (by omega), Array.getElem?_setIfInBounds_ne (by omega), Array.getElem?_setIfInBounds_ne (by omega), c2]
      · rw [Array.getElem?_setIfInBounds_ne (by omega), Array.getElem?_setIfInBounds_ne (by omega), Array.getElem?_setIfInBounds_ne (by omega), c3]
  · have hng := h.notg i hi
    rw [hll i]
    refine own_far _ _ (own_far _ _ (own_below ?_ hb3) hng) hng
    by_cases e : i = j
    · subst e; rw [hgd, if_pos rfl]; exact ho2
    · rw [hgd, if_neg e]
      refine own_grown (own_far _ _ (own_below (h.own i hi) hb1) hng) hg (fun b hb hb' => ?_)
      rcases Nat.lt_or_gt_of_ne e with hlt | hgt
      · exact h.apart i j hlt hj b hb hb'
      · exact h.apart j i hgt hi b hb' hb
  · rw [hll i]; exact h.notg i hi
  · rw [hll i] at hb; rw [hll k]; exact h.apart i k hik hk b hb

theorem Within.setCell {lo hi : Nat} {w w' : World} (h : Within lo hi w w') {p : Addr} (h1 : lo ≤ p.block) (h2 : p.block < hi) (u : Value) : Within lo hi w (w'.setCell p u) :=
  ⟨h.os, h.tape, h.output, by simpa [World.setCell] using h.size, fun k hk h' => (Below.heap_setCell w' p u k (by omega)).trans (h.block k hk h')⟩
theorem Within.below' {lo hi : Nat} {w w1 w2 : World} (h : Within lo hi w w1) (hb : Below w1.heap.size w1 w2) : Within lo hi w w2 := h.trans (Within.of_below hb)

set_option maxHeartbeats 4000000 in
theorem markFileS_any (A : Option Addr) (c lo hi : Nat) (a : Int) (fs : List Fil) (w : World) (h : OwnFils w lo hi A fs) (_ : hi ≤ w.heap.size) (h1 : 1 ≤ a) (h2 : markAt a fs fs.length ≤ 4294967000) (hn : fs.length ≤ 1048576) :
    Calls Tryz.prog 42 #[.slice A fs.length c, .int .i64 a] w fun e w' => e = .returned (.int .i64 (markAt a fs fs.length)) ∧ OwnFils w' lo hi A (markFils a fs) ∧ Within lo hi w w' := by
  rcases h with ⟨rfl, rfl⟩ | ⟨g, cs, L, C, rfl, hg1, hg2, ho, hh⟩
  · obtain ⟨k, rfl⟩ := Int.eq_ofNat_of_zero_le (show 0 ≤ a by omega)
    have H2 := Lib.hid h2; clear h2
    go_enter Tryz.func42, Tryz.ntmps42
    go_wp2
    refine wp_loop_rounds 1 ?_
    rw [rounds_succ]
    go_wp2
    go_ret
    exact ⟨rfl, .inl ⟨rfl, rfl⟩, Within.of_below (Below.refl _ _)⟩
  have HML := Lib.hid (fun j hj => markAt_le a fs fs.length j hj)
  have HO := Lib.hid ho; have HH := Lib.hid hh; have H2 := Lib.hid h2
  clear ho hh h2
  go_enter Tryz.func42, Tryz.ntmps42
  go_wp2_with fail
  go_loopw [1, 5] (fun s i wr => ∃ (j : Nat) (b : Int) (cs : Array Value), j ≤ fs.length ∧ i = .int .i64 j ∧ s = .int .i64 b ∧ 1 ≤ b ∧ b ≤ 4294967000 ∧ Hid (b = markAt a fs j) ∧ OwnFs wr lo g cs L C (markedFils a fs j) fs.length ∧ Within lo hi w wr) (fun _ i _ => fs.length - (intOf i).toNat)
  case atStart => exact ⟨0, a, cs, Nat.zero_le _, rfl, rfl, h1, by have h3 := HML.out 0 (by omega); have h4 := H2.out; have e : markAt a fs 0 = a := rfl; omega, rfl, by rw [markedFils_zero]; exact HO.out, Within.of_below (Below.refl _ _)⟩
  case round =>
    obtain ⟨j, b, cs1, hj, rfl, rfl, hb1, hb2, HB, ho, hw⟩ := hrel
    by_cases hlt : j < fs.length
    · have hX := markedFils_getD a fs j j hlt
      rw [if_neg (by omega)] at hX
      have hbn : b + 1 + ((fs.getD j filD).lines.length : Int) + 1 + 1 ≤ 4294967000 := by
        have e1 : markAt a fs (j + 1) = markAt a fs j + 1 + (fs.getD j filD).lines.length + 1 + 1 := rfl
        have := HML.out (j + 1) (by omega); have := H2.out; have := HB.out; omega
      have HNB := Lib.hid (show b + 1 + ((fs.getD j filD).lines.length : Int) + 1 + 1 = markAt a fs (j + 1) by rw [HB.out]; rfl)
      have HMS := Lib.hid (markedFils_succ a fs j hlt)
      rw [← HB.out] at HMS
      have HC := Lib.hid (ho.cells j hlt); have HW := Lib.hid (ho.own j hlt); have hng := ho.notg j hlt
      have HMK := Lib.hid (fun F w1 w2 w3 q1 q2 q3 q4 q5 => OwnFs.mark (w1 := w1) (w2 := w2) (w3 := w3) ho hlt (by rw [markedFils_len]; exact Nat.le_refl _) F q1 q2 q3 q4 q5)
      have HROW := Lib.hid (fun (r : Nat) (hr : rowOf (L j) ((markedFils a fs j).getD j filD).lines.length (C j) = some r) => (⟨((ho.own j hlt).lt r hr).1, HH.out j hlt r (by rw [hX] at hr; exact hr)⟩ : lo ≤ r ∧ r < hi))
      have HBL := Lib.hid ho.blk
      rw [hX] at HC HW HMK HROW hng
      have HNG := Lib.hid hng
      clear hX ho hng
      generalize fs.getD j filD = X at *
      obtain ⟨q0, q1, q2, q3⟩ := HC.out
      have HWI := Lib.hid hw; clear hw
      clear HC
      go_wp2_with fail
      refine (markText_int b _ (by omega) (by omega)).mono ?_
      rintro e1 w1 ⟨rfl, hbe1⟩
      have B1 := HBL.out.below hbe1 HBL.out.lt
      have f1 := B1.cell
      have z1 := B1.frozen
      have HW1 := Lib.hid (own_far (j * 4) (.string (markT b.toNat)) (own_below HW.out hbe1) HNG.out)
      have HB1 := Lib.hid (B1.set_ (j * 4) (.string (markT b.toNat)))
      have HE1 := Lib.hid hbe1
      have HWI1 := Lib.hid ((HWI.out.below' hbe1).setCell (p := ⟨g, j * 4, none⟩) hg1 hg2 (.string (markT b.toNat)))
      have hs1 : wr.heap.size ≤ w1.heap.size := hbe1.size
      clear hbe1 B1
      go_wp2_with fail
      clear f1 z1
      refine (markStringS_int lo (L j) X.lines.length (C j) _ X.lines _ HW1.out (by omega) (by omega)).mono ?_
      rintro e2 w2 ⟨rfl, ho2, hg2'⟩
      have B2 : Blk w2 g 55 (cs1.setIfInBounds (j * 4) (.string (markT b.toNat))) := (hg2'.block g HB1.out.lt (fun e => HNG.out e.symm)).trans HB1.out
      have HG2 := Lib.hid hg2'; have HO2 := Lib.hid ho2
      have HWI2 := Lib.hid (HWI1.out.trans (Within.of_grown (lo := lo) (hi := hi) hg2' HROW.out))
      have HB2 := Lib.hid B2
      clear ho2 hg2' B2
      go_wp2_with fail
      refine (markText_int _ _ (by omega) (by omega)).mono ?_
      rintro e3 w3 ⟨rfl, hbe3⟩
      have B3 := HB2.out.below hbe3 HB2.out.lt
      have f3 := B3.cell
      have z3 := B3.frozen
      have HE3 := Lib.hid hbe3
      have HWI3 := Lib.hid (((HWI2.out.below' hbe3).setCell (p := ⟨g, j * 4 + 2, none⟩) hg1 hg2 (.string (markT (b + 1 + X.lines.length).toNat))).setCell (p := ⟨g, j * 4 + 3, none⟩) hg1 hg2 (.int .i64 (b + 1 + X.lines.length + 1)))
      have HFIN := Lib.hid (HMK.out (markFil b X) w1 w2 w3 (by simp [markFil, marksFrom_len]) HE1.out HG2.out HO2.out HE3.out)
      rw [HMS.out] at HFIN
      clear hbe3 B3 HMK HMS
      go_wp2_with fail
      go_roundw
      case rel => exact ⟨j + 1, _, _, by omega, by go_num, rfl, by omega, by omega, HNB.out, HFIN.out, HWI3.out⟩
      case measure => simp [intOf]; omega
    · obtain rfl : j = fs.length := by omega
      have HW := Lib.hid hw; have HOO := Lib.hid ho; clear hw ho
      go_wp2_with fail
      go_ret
      refine ⟨congrArg (fun x => Ending.returned (.int .i64 x)) HB.out, .inr ⟨g, cs1, L, C, rfl, hg1, hg2, ?_, ?_⟩, HW.out⟩
      · rw [show (markFils a fs).length = fs.length from markedFils_len a fs _]; exact HOO.out
      · intro j hj r hr
        rw [show (markFils a fs).length = fs.length from markedFils_len a fs _] at hj
        refine HH.out j hj r ?_
        have e1 : ((markFils a fs).getD j filD).lines.length = (fs.getD j filD).lines.length := by
          unfold markFils
          rw [markedFils_getD a fs _ j hj, if_pos hj]; simp [markFil, marksFrom_len]
        rw [e1] at hr; exact hr

theorem markFils_len (a : Int) (fs : List Fil) : (markFils a fs).length = fs.length := markedFils_len a fs _
theorem markFils_getD (a : Int) (fs : List Fil) (j : Nat) (hj : j < fs.length) : (markFils a fs).getD j filD = markFil (markAt a fs j) (fs.getD j filD) := by
  unfold markFils
  rw [markedFils_getD a fs _ j hj, if_pos hj]

set_option maxHeartbeats 4000000 in
theorem heldFileS_any (A : Option Addr) (c lo hi : Nat) (a : Int) (fs : List Fil) (w : World) (h : FilesR w lo hi A fs.length (markFils a fs)) (hhi : hi ≤ w.heap.size) (h1 : 1 ≤ a) (h2 : markAt a fs fs.length ≤ 4294967000) (hn : fs.length ≤ 1048576) :
    Calls Tryz.prog 45 #[.slice A fs.length c, .int .i64 a] w fun e w' => e = .returned (.int .i64 (markAt a fs fs.length)) ∧ Below w.heap.size w w' := by
  have HML := Lib.hid (fun j hj => markAt_le a fs fs.length j hj)
  have HR := Lib.hid h; have H2 := Lib.hid h2
  clear h h2
  go_enter Tryz.func45, Tryz.ntmps45
  go_wp2_with fail
  go_loopw [1, 5] (fun s i wr => ∃ (j : Nat) (b : Int), j ≤ fs.length ∧ i = .int .i64 j ∧ s = .int .i64 b ∧ 1 ≤ b ∧ b ≤ 4294967000 ∧ Hid (b = markAt a fs j) ∧ Below w.heap.size w wr) (fun _ i _ => fs.length - (intOf i).toNat)
  case atStart => exact ⟨0, a, Nat.zero_le _, rfl, rfl, h1, by have h3 := HML.out 0 (by omega); have h4 := H2.out; have e : markAt a fs 0 = a := rfl; omega, rfl, Below.refl _ _⟩
  case round =>
    obtain ⟨j, b, hj, rfl, rfl, hb1, hb2, HB, hb⟩ := hrel
    by_cases hlt : j < fs.length
    · have hbn : b + 1 + ((fs.getD j filD).lines.length : Int) + 1 + 1 ≤ 4294967000 := by
        have e1 : markAt a fs (j + 1) = markAt a fs j + 1 + (fs.getD j filD).lines.length + 1 + 1 := rfl
        have := HML.out (j + 1) (by omega); have := H2.out; have := HB.out; omega
      have HNB := Lib.hid (show b + 1 + ((fs.getD j filD).lines.length : Int) + 1 + 1 = markAt a fs (j + 1) by rw [HB.out]; rfl)
      have hAt := (HR.out.below hb hhi).at_ hlt
      rw [markFils_getD a fs j hlt, ← HB.out] at hAt
      generalize fs.getD j filD = X at *
      obtain ⟨g, off, rfl, hg1, hg2, L1, d1, e0, e1, e2, e3, hL⟩ := hAt
      simp only [markFil, marksFrom_len] at e0 e1 e2 e3 hL
      have HBb := Lib.hid hb
      have hsz := hb.size
      have R0 := ((Stand.nil wr).add lo hi _ (loc_strR0 lo hi L1 _ _) (Nat.le_trans hhi hsz) hL)
      have HR0 := Lib.hid R0
      have HR1 := Lib.hid R0.drew
      have i0 : (0 : Int) ≤ (j : Int) := by omega
      have i1 : (j : Int) < (fs.length : Int) := by omega
      have hgw : g < wr.drew.heap.size := (show g < wr.heap.size by omega)
      clear hb hL R0
      go_wp2_with fail
      go_region_held3 (fun w' => w'.cell? ⟨g, off + j * 4, none⟩ = some (.string (markT b.toNat)))
        (first | exact e0 | exact (hbe1.cell hgw).trans e0)
        (first | (go_at_call 80; (refine (markText_int b wr.drew (by omega) (by omega)).mono ?_); rintro x1 w1 ⟨rfl, hbe1⟩))
      have k1 := hbe1.cell (p := ⟨g, off + j * 4 + 1, none⟩) hgw
      have k2 := hbe1.cell (p := ⟨g, off + j * 4 + 2, none⟩) hgw
      have k3 := hbe1.cell (p := ⟨g, off + j * 4 + 3, none⟩) hgw
      have f1 := k1.trans e1
      have f2 := k2.trans e2
      have f3 := k3.trans e3
      have HR2 := Lib.hid (HR1.out.below hbe1)
      have hgw1 : g < w1.heap.size := Nat.lt_of_lt_of_le hgw hbe1.size
      clear hbe1 k1 k2 k3 e0 e1 e2 e3 HR1
      go_wp2_with fail
      refine (heldStringS_int L1 X.lines.length d1 _ lo hi _ (HR2.out.get 0 rfl) (HR2.out.le 0 rfl) (by omega) (by omega)).mono ?_
      rintro x2 w2 ⟨rfl, hbe2⟩
      have k2 := (hbe2.cell (p := ⟨g, off + j * 4 + 2, none⟩) hgw1).trans f2
      have k3 := (hbe2.cell (p := ⟨g, off + j * 4 + 3, none⟩) hgw1).trans f3
      have HR3 := Lib.hid (HR2.out.below hbe2)
      have HR3d := Lib.hid (HR2.out.below hbe2).drew
      have hgw2 : g < w2.drew.heap.size := Nat.lt_of_lt_of_le hgw1 hbe2.size
      have n2 : ¬ (b + 1 + (X.lines.length : Int) < 0) := by omega
      clear hbe2 f1 f2 f3 HR2
      go_wp2_with fail
      go_region_held3 (fun w' => w'.cell? ⟨g, off + j * 4 + 2, none⟩ = some (.string (markT (b + 1 + X.lines.length).toNat)))
        (first | exact k2 | exact (hbe4.cell hgw2).trans k2)
        (first | (go_at_call 80; (refine (markText_int (b + 1 + X.lines.length) w2.drew (by omega) (by omega)).mono ?_); rintro x4 w4 ⟨rfl, hbe4⟩))
      have f3 := (hbe4.cell (p := ⟨g, off + j * 4 + 3, none⟩) hgw2).trans k3
      have HR4 := Lib.hid (HR3d.out.below hbe4)
      clear hbe4 k2 k3 HR3 HR3d
      go_wp2_with fail
      go_roundw
      case rel => exact ⟨j + 1, _, by omega, by go_num, rfl, by omega, by omega, HNB.out, HBb.out.trans (HR4.out.1.mono hsz)⟩
      case measure => simp [intOf]; omega
    · obtain rfl : j = fs.length := by omega
      have HBb := Lib.hid hb; clear hb
      go_wp2_with fail
      go_ret
      exact ⟨congrArg (fun x => Ending.returned (.int .i64 x)) HB.out, HBb.out⟩

/-- Devices that bear their marks. -/
def markRows (s : Scr) : List ByteArray := marksFrom 1 s.rows.length
def markDev (d : Dev) : Dev := ⟨d.use, ⟨d.scr.row, d.scr.col, marksFrom 1 d.scr.rows.length⟩, markFils (1 + d.scr.rows.length) d.files, marksFrom (markAt (1 + d.scr.rows.length) d.files d.files.length).toNat d.keys.length⟩
def markEnd (d : Dev) : Int := markAt (1 + d.scr.rows.length) d.files d.files.length + d.keys.length
def DevFew (d : Dev) : Prop := d.scr.rows.length ≤ 1048576 ∧ d.files.length ≤ 1048576 ∧ d.keys.length ≤ 1048576 ∧ markAt (1 + d.scr.rows.length) d.files d.files.length ≤ 4200000000
theorem apart2.far {a b c d k : Nat} (h : apart2 a b c d) (h1 : a ≤ k) (h2 : k < b) : k < c ∨ d ≤ k := by unfold apart2 at h; omega
theorem apart2.far' {a b c d k : Nat} (h : apart2 a b c d) (h1 : c ≤ k) (h2 : k < d) : k < a ∨ b ≤ k := by unfold apart2 at h; omega


set_option maxHeartbeats 2000000 in
theorem markDevices_any (d : Dev) (v : Value) (lo hi : Nat) (w : World) (h : OwnDev w lo hi v d) (hhi : hi ≤ w.heap.size) (hs : DevFew d) :
    Calls Tryz.prog 10 #[v, .int .i64 1] w fun e w' => ∃ m : Int, e = .returned (.int .i64 m) ∧ 0 ≤ m ∧ m = markEnd d ∧ DevR w' lo hi v (markDev d) ∧ Within lo hi w w' := by
  obtain ⟨A, c, F, cf, K, ck, a1, b1, a2, b2, a3, b3, rfl, ⟨p1, p2, p3, p4, p5, p6⟩, ⟨x12, x13, x23⟩, ⟨hA, hAb⟩, hF, hK, hKb⟩ := h
  obtain ⟨hs1, hs2, hs3, hs4⟩ := hs
  have HE := Lib.hid (show markEnd d = markAt (1 + d.scr.rows.length) d.files d.files.length + d.keys.length from rfl)
  have HD := Lib.hid (show markDev d = ⟨d.use, ⟨d.scr.row, d.scr.col, marksFrom 1 d.scr.rows.length⟩, markFils (1 + d.scr.rows.length) d.files, marksFrom (markAt (1 + d.scr.rows.length) d.files d.files.length).toNat d.keys.length⟩ from rfl)
  generalize markEnd d = E at *
  generalize markDev d = MD at *
  obtain ⟨use, scr, files, keys⟩ := d
  dsimp only at *
  have hbx := (Below.refl w.heap.size w).alloc (Nat.le_refl _) (.cells (devCs ⟨use, scr, files, keys⟩ A c F cf K ck) 32)
  have W0 : Within lo hi w (w.alloc (.cells (devCs ⟨use, scr, files, keys⟩ A c F cf K ck) 32)) := Within.of_below hbx
  have B0 := Blk.new w 32 (devCs ⟨use, scr, files, keys⟩ A c F cf K ck)
  have HA := Lib.hid (own_below hA hbx); have HK := Lib.hid (own_below hK hbx); have HF := Lib.hid (hF.below hbx (by omega)); have HB0 := Lib.hid B0; have HW0 := Lib.hid W0
  have HAB := Lib.hid hAb; have HKB := Lib.hid hKb
  have HAL := Lib.hid (fun g hg => (hA.lt g hg).1); have HKL := Lib.hid (fun g hg => (hK.lt g hg).1)
  have hM := markAt_le (1 + scr.rows.length) files files.length 0 (by omega)
  have HM : (1 : Int) + scr.rows.length ≤ markAt (1 + scr.rows.length) files files.length := hM
  have HS4 := Lib.hid hs4
  clear hA hK hF hbx W0 B0 hAb hKb hM
  go_enter Tryz.func10, Tryz.ntmps10
  go_wp2_with fail
  refine (markScreen_one scr A c a1 _ HA.out hs1).mono ?_
  rintro e1 w1 ⟨rfl, ho1, hg1⟩
  have hw1 : Within a1 b1 (w.alloc (.cells (devCs ⟨use, scr, files, keys⟩ A c F cf K ck) 32)) w1 := Within.of_grown hg1 (fun g hg => ⟨HAL.out g hg, HAB.out g hg⟩)
  have hz0 : w.heap.size < (w.alloc (.cells (devCs ⟨use, scr, files, keys⟩ A c F cf K ck) 32)).heap.size := by simp
  have B1 : Blk w1 w.heap.size 32 (devCs ⟨use, scr, files, keys⟩ A c F cf K ck) := (hw1.block _ HB0.out.lt (.inr (by omega))).trans HB0.out
  have HK1 := Lib.hid (own_keep (hi := b3) HK.out HKB.out (fun b h1 h2 => hw1.block b (by omega) (x13.far' h1 h2)))
  have HF1 := Lib.hid (loc_ownFils a2 b2 F files _ w1 (fun b h1 h2 => hw1.block b (by omega) (x12.far' h1 h2)) HF.out)
  have HW1 := Lib.hid (HW0.out.trans (hw1.more p1 p2))
  have HO1 := Lib.hid ho1
  have HB1 := Lib.hid B1
  have f := B1.cell
  have hz1 := hw1.size
  clear hg1 ho1 B1 HA HK HF HB0 HW0 hw1
  go_wp2_with fail
  rw [show (1 : Int) + (scr.rows.length : Int) = 1 + (scr.rows.length : Int) from rfl]
  refine (markFileS_any F cf a2 b2 (1 + scr.rows.length) files _ HF1.out (by omega) (by omega) (by omega) hs2).mono ?_
  rintro e2 w2 ⟨rfl, ho2, hw2⟩
  have B2 : Blk w2 w.heap.size 32 (devCs ⟨use, scr, files, keys⟩ A c F cf K ck) := (hw2.block _ HB1.out.lt (.inr (by omega))).trans HB1.out
  have HK2 := Lib.hid (own_keep (hi := b3) HK1.out HKB.out (fun b h1 h2 => hw2.block b (by omega) (x23.far' h1 h2)))
  have HA2 := Lib.hid (own_keep (hi := b1) HO1.out HAB.out (fun b h1 h2 => hw2.block b (by omega) (x12.far h1 h2)))
  have HW2 := Lib.hid (HW1.out.trans (hw2.more p3 p4))
  have HO2 := Lib.hid ho2
  have hz2 := hw2.size
  clear f
  have f := B2.cell
  clear ho2 hw2 HF1 HK1 HO1 HW1 HB1 B2
  go_wp2_with fail
  refine (markStringS_int a3 K keys.length ck _ keys _ HK2.out (by omega) (by omega)).mono ?_
  rintro e3 w3 ⟨rfl, ho3, hg3⟩
  have hw3 : Within a3 b3 w2 w3 := Within.of_grown hg3 (fun g hg => ⟨HKL.out g hg, HKB.out g hg⟩)
  have HA3 := Lib.hid (own_keep (hi := b1) HA2.out HAB.out (fun b h1 h2 => hw3.block b (by omega) (x13.far h1 h2)))
  have HF3 := Lib.hid (loc_ownFils a2 b2 F _ _ w3 (fun b h1 h2 => hw3.block b (by omega) (x23.far h1 h2)) HO2.out)
  have HW3 := Lib.hid (HW2.out.trans (hw3.more p5 p6))
  have HO3 := Lib.hid ho3
  clear ho3 hg3 hw3 f
  go_wp2_with fail
  go_ret
  refine ⟨_, rfl, by omega, HE.out.symm, ?_, HW3.out⟩
  rw [HD.out]
  refine ⟨A, c, F, cf, K, ck, ?_, ?_, ?_, ?_⟩
  · unfold devCs; simp only [marksFrom_len, markFils_len]
  · dsimp only; rw [marksFrom_len]; exact (own_reads HA3.out HAB.out).more p1 p2
  · dsimp only; exact HF3.out.reads.more p3 p4
  · dsimp only; rw [marksFrom_len]; exact (own_reads HO3.out HKB.out).more p5 p6

set_option maxHeartbeats 2000000 in
theorem heldDevices_any (d : Dev) (v : Value) (m : Int) (lo hi : Nat) (w : World) (h : DevR w lo hi v (markDev d)) (hm : m = markEnd d) (hhi : hi ≤ w.heap.size) (hs : DevFew d) :
    Calls Tryz.prog 11 #[v, .int .i64 1] w fun e w' => e = .returned (.int .i64 m) ∧ Below w.heap.size w w' := by
  obtain ⟨A, c, F, cf, K, ck, rfl, hA, hF, hK⟩ := h
  have HE := Lib.hid (show m = markAt (1 + d.scr.rows.length) d.files d.files.length + d.keys.length from hm)
  obtain ⟨use, scr, files, keys⟩ := d
  obtain ⟨hs1, hs2, hs3, hs4⟩ := hs
  dsimp only [markDev] at *
  simp only [marksFrom_len, markFils_len] at hA hF hK
  have hM := markAt_le (1 + scr.rows.length) files files.length 0 (by omega)
  have HM : (1 : Int) + scr.rows.length ≤ markAt (1 + scr.rows.length) files files.length := hM
  have R0 := ((((Stand.nil w).add lo hi _ (loc_strR0 lo hi A _ _) hhi hA).add lo hi _ (loc_filesR lo hi F _ _) hhi hF).add lo hi _ (loc_strR0 lo hi K _ _) hhi hK).box 32 (devCs ⟨use, scr, files, keys⟩ A c F cf K ck)
  have HR0 := Lib.hid R0
  have hcs : devCs ⟨use, ⟨scr.row, scr.col, marksFrom 1 scr.rows.length⟩, markFils (1 + scr.rows.length) files, marksFrom (markAt (1 + scr.rows.length) files files.length).toNat keys.length⟩ A c F cf K ck = devCs ⟨use, scr, files, keys⟩ A c F cf K ck := by
    unfold devCs; simp only [marksFrom_len, markFils_len]
  rw [hcs]
  clear hA hF hK R0 hm hcs hM
  go_enter Tryz.func11, Tryz.ntmps11
  go_wp2_with fail
  refine (heldScreen_one scr A c lo hi _ (HR0.out.get 3 rfl) (HR0.out.le 3 rfl) hs1).mono ?_
  rintro e1 w1 ⟨rfl, hb1⟩
  have HR1 := Lib.hid (HR0.out.below hb1)
  have f := (HR1.out.get 0 rfl).cell
  have n1 : ¬ (((1 + scr.rows.length : Nat) : Int) < 0) := by omega
  clear hb1 HR0
  go_wp2_with fail
  refine (heldFileS_any F cf lo hi (1 + scr.rows.length) files _ (HR1.out.get 2 rfl) (HR1.out.le 2 rfl) (by omega) (by omega) hs2).mono ?_
  rintro e2 w2 ⟨rfl, hb2⟩
  have HR2 := Lib.hid (HR1.out.below hb2)
  have n2 : ¬ (markAt (1 + scr.rows.length) files files.length < 0) := by omega
  clear f
  have f := (HR2.out.get 0 rfl).cell
  clear hb2 HR1
  go_wp2_with fail
  refine (heldStringS_int K keys.length ck _ lo hi _ (HR2.out.get 1 rfl) (HR2.out.le 1 rfl) (by omega) (by omega)).mono ?_
  rintro e3 w3 ⟨rfl, hb3⟩
  have HB := Lib.hid (HR2.out.below hb3).1
  have n3 : ¬ (markAt (1 + scr.rows.length) files files.length + (keys.length : Int) < 0) := by omega
  clear hb3 f HR2
  go_wp2_with fail
  go_ret
  exact ⟨congrArg (fun x => Ending.returned (.int .i64 x)) HE.out.symm, HB.out⟩

end Go.Proofs.YtmeholhmadeehaaGreatDoor

/- Files in a row that grows by appends, each with lines of its own. -/
namespace Go.Proofs.YtmeholhmadeehaaGreatDoor
open Go.RowKit

/-- A file and where its lines lie. -/
structure Fx where
  f : Fil
  L : Option Addr
  c : Nat
def Fx.sl (x : Fx) : Value := .slice x.L x.f.lines.length x.c
def Fx.cells (x : Fx) : List Value := [.string x.f.name, x.sl, .string x.f.part, .int .i64 x.f.at_]
def flat (xs : List Fx) : List Value := xs.flatMap Fx.cells
theorem flat_len (xs : List Fx) : (flat xs).length = xs.length * 4 := by
  induction xs with
  | nil => rfl
  | cons x xs ih => simp only [flat, List.flatMap_cons, List.length_append] at ih ⊢; rw [ih]; simp [Fx.cells]; omega
theorem flat_append (xs ys : List Fx) : flat (xs ++ ys) = flat xs ++ flat ys := List.flatMap_append
theorem flat_at (xs : List Fx) (j : Nat) (hj : j < xs.length) (i : Nat) (hi : i < 4) : (flat xs)[j * 4 + i]? = (xs[j]).cells[i]? := by
  induction xs generalizing j with
  | nil => simp at hj
  | cons x xs ih =>
    have hc : x.cells.length = 4 := rfl
    have e : flat (x :: xs) = x.cells ++ flat xs := by simp [flat]
    rw [e]
    cases j with
    | zero => rw [List.getElem?_append_left (by omega)]; simp
    | succ j =>
      rw [List.getElem?_append_right (by omega), show (j + 1) * 4 + i - x.cells.length = j * 4 + i by omega]
      rw [ih j (by simpa using hj)]; rfl

/-- The slice v holds the files xs, in blocks of the call's own from lo up to, not including, hi; no block is shared. -/
structure OwnFx (w : World) (lo hi : Nat) (v : Value) (xs : List Fx) : Prop where
  form : ∃ A c, v = .slice A xs.length c
  row : w.ownsRow lo 55 4 v xs.length (flat xs)
  top : ∀ g, v.ownBlock = some g → g < hi
  own : ∀ x ∈ xs, w.ownsRow lo 9 1 x.sl x.f.lines.length (x.f.lines.map Value.string) ∧ ∀ g, x.sl.ownBlock = some g → g < hi
  far : ∀ x ∈ xs, ∀ g, x.sl.ownBlock = some g → v.ownBlock ≠ some g
  apart : xs.Pairwise fun x y => ∀ g, x.sl.ownBlock = some g → y.sl.ownBlock ≠ some g

theorem loc_ownFx (lo hi : Nat) (v : Value) (xs : List Fx) : Loc lo hi (fun w => OwnFx w lo hi v xs) := fun _ _ hk h =>
  ⟨h.form, own_keep h.row h.top hk, h.top, fun x hx => ⟨own_keep (h.own x hx).1 (h.own x hx).2 hk, (h.own x hx).2⟩, h.far, h.apart⟩
theorem OwnFx.more {w : World} {lo hi hi' : Nat} {v : Value} {xs : List Fx} (h : OwnFx w lo hi v xs) (hh : hi ≤ hi') : OwnFx w lo hi' v xs :=
  ⟨h.form, h.row, fun g hg => by have := h.top g hg; omega, fun x hx => ⟨(h.own x hx).1, fun g hg => by have := (h.own x hx).2 g hg; omega⟩, h.far, h.apart⟩
theorem OwnFx.nil_ (w : World) (lo hi : Nat) : OwnFx w lo hi (.slice none 0 0) [] :=
  ⟨⟨none, 0, rfl⟩, World.ownsRow_nil _ _ _ _, (fun g hg => by cases hg), (fun x hx => by cases hx), (fun x hx => by cases hx), List.Pairwise.nil⟩

/-- One file more: its lines are of its own, in a block from hi on; the row was appended to. -/
theorem OwnFx.add {w w' : World} {lo hi : Nat} {v : Value} {xs : List Fx} {y : Fx} {g cap : Nat} (h : OwnFx w lo hi v xs) (hh : hi ≤ w.heap.size) (hl : lo ≤ hi)
    (hy : w.ownsRow hi 9 1 y.sl y.f.lines.length (y.f.lines.map Value.string)) (hg : w.grownBy w' v.ownBlock) (hat : v.ownBlock = some g ∨ g = w.heap.size)
    (hr : w'.ownsRow lo 55 4 (.slice (some ⟨g, 0, none⟩) (xs.length + 1) cap) (xs.length + 1) (flat xs ++ y.cells)) : OwnFx w' lo w'.heap.size (.slice (some ⟨g, 0, none⟩) (xs.length + 1) cap) (xs ++ [y]) := by
  have hsz := hg.size
  have hyv : ∀ b, y.sl.ownBlock = some b → v.ownBlock ≠ some b := fun b hb hv => by have := (hy.lt b hb).1; have := h.top b hv; omega
  have hyx : ∀ x ∈ xs, ∀ b, x.sl.ownBlock = some b → y.sl.ownBlock ≠ some b := fun x hx b hb hb' => by have := (hy.lt b hb').1; have := (h.own x hx).2 b hb; omega
  have hgv : ∀ b, b < w.heap.size → v.ownBlock ≠ some b → (Value.slice (some ⟨g, 0, none⟩) (xs.length + 1) cap).ownBlock ≠ some b := by
    intro b hb hv e
    have : g = b := by simpa [Value.ownBlock] using e
    subst this
    rcases hat with h1 | h1
    · exact hv h1
    · omega
  have hrow : w'.ownsRow lo 55 4 (.slice (some ⟨g, 0, none⟩) (xs.length + 1) cap) (xs ++ [y]).length (flat (xs ++ [y])) := by
    rw [flat_append, show flat [y] = y.cells by simp [flat], List.length_append]; exact hr
  refine ⟨⟨some ⟨g, 0, none⟩, cap, by simp⟩, hrow, fun b hb => (hrow.lt b hb).2, fun x hx => ?_, fun x hx b hb => ?_, ?_⟩
  · rcases List.mem_append.1 hx with hx | hx
    · have h1 := own_grown (h.own x hx).1 hg (fun b hb e => h.far x hx b hb e)
      exact ⟨h1, fun b hb => (h1.lt b hb).2⟩
    · obtain rfl : x = y := by simpa using hx
      have h1 := own_grown hy hg (fun b hb e => hyv b hb e)
      exact ⟨own_mono h1 hl, fun b hb => (h1.lt b hb).2⟩
  · rcases List.mem_append.1 hx with hx | hx
    · exact hgv b (by have := (h.own x hx).2 b hb; omega) (h.far x hx b hb)
    · obtain rfl : x = y := by simpa using hx
      exact hgv b (hy.lt b hb).2 (hyv b hb)
  · rw [List.pairwise_append]
    refine ⟨h.apart, List.pairwise_singleton _ _, fun x hx z hz => ?_⟩
    obtain rfl : z = y := by simpa using hz
    exact hyx x hx

/-- As files of the call's own. -/
theorem OwnFx.fils {w : World} {lo hi : Nat} {A : Option Addr} {n c : Nat} {xs : List Fx} (h : OwnFx w lo hi (.slice A n c) xs) : OwnFils w lo hi A (xs.map Fx.f) := by
  obtain ⟨A', c', e⟩ := h.form
  injection e with e1 e2 e3
  subst e1 e2 e3
  rcases h.row.2 with ⟨h1, h2⟩ | ⟨g, cap, cur, hv, hg, hh, hnc, hm, hsz, htk⟩
  · injection h1 with h1
    exact .inl ⟨h1, by have : xs = [] := List.eq_nil_of_length_eq_zero h2
                       rw [this]; rfl⟩
  · injection hv with hA _ hc
    subst hA hc
    have hgd : ∀ j, j < xs.length → (xs.map Fx.f).getD j filD = (xs.getD j ⟨filD, none, 0⟩).f := fun j hj => by
      rw [List.getD_eq_getElem?_getD, List.getD_eq_getElem?_getD, List.getElem?_map, List.getElem?_eq_getElem hj]; rfl
    have hxd : ∀ j (hj : j < xs.length), xs.getD j ⟨filD, none, 0⟩ = xs[j] := fun j hj => by
      rw [List.getD_eq_getElem?_getD, List.getElem?_eq_getElem hj]; rfl
    have hcell : ∀ j, j < xs.length → ∀ i, i < 4 → cur[j * 4 + i]? = (xs.getD j ⟨filD, none, 0⟩).cells[i]? := fun j hj i hi => by
      rw [hxd j hj, ← flat_at xs j hj i hi, ← htk, List.getElem?_take, if_pos (by omega), Array.getElem?_toList]
    have hgb : (Value.slice (some ⟨g, 0, none⟩) xs.length c).ownBlock = some g := rfl
    refine .inr ⟨g, cur, fun j => (xs.getD j ⟨filD, none, 0⟩).L, fun j => (xs.getD j ⟨filD, none, 0⟩).c, rfl, hg, h.top g hgb, ?_, ?_⟩
    · rw [List.length_map]
      refine ⟨hh, fun j hj => ?_, fun j hj => ?_, fun j hj => ?_, fun i j hij hj b hb => ?_⟩
      · rw [hgd j hj]
        exact ⟨hcell j hj 0 (by omega), hcell j hj 1 (by omega), hcell j hj 2 (by omega), hcell j hj 3 (by omega)⟩
      · rw [hgd j hj, hxd j hj]; exact (h.own _ (List.getElem_mem _)).1
      · rw [hgd j hj, hxd j hj]; exact fun e => h.far _ (List.getElem_mem _) g e hgb
      · rw [hgd i (by omega), hxd i (by omega)] at hb
        rw [hgd j hj, hxd j hj]
        exact (List.pairwise_iff_getElem.1 h.apart) i j (by omega) hj hij b hb
    · intro j hj b hb
      rw [List.length_map] at hj
      have hb2 : rowOf (xs.getD j ⟨filD, none, 0⟩).L ((xs.map Fx.f).getD j filD).lines.length (xs.getD j ⟨filD, none, 0⟩).c = some b := hb
      rw [hgd j hj, hxd j hj] at hb2
      exact (h.own _ (List.getElem_mem _)).2 b hb2

/-- Facts that lie below B and do not hold block p. -/
theorem Stand.framed {w0 w w' : World} {Fs : Facts} (h : Stand w0 Fs w) (p B : Nat) (hos : w'.os = w.os) (htp : w'.tape = w.tape) (hou : w'.output = w.output) (hsz : w.heap.size ≤ w'.heap.size)
    (hk : ∀ k, k < B → k ≠ p → w'.heap[k]? = w.heap[k]?) (h0 : w0.heap.size ≤ B) (hp0 : w0.heap.size ≤ p) (hd : ∀ f ∈ Fs, f.2.1 ≤ B ∧ (f.2.1 ≤ p ∨ p < f.1)) : Stand w0 Fs w' :=
  ⟨h.1.trans ⟨hos, htp, hou, hsz, fun k hk' => hk k (by omega) (by omega)⟩, fun f hf => by
    obtain ⟨h1, h2, h3⟩ := h.2 f hf
    obtain ⟨d1, d2⟩ := hd f hf
    exact ⟨h1, Nat.le_trans h2 hsz, h1 w w' (fun k hk1 hk2 => hk k (by omega) (by omega)) h3⟩⟩

end Go.Proofs.YtmeholhmadeehaaGreatDoor

/- Moves of a region that draws its order: an operation whose guard says no is passed over; one that yields is taken first. Over any program. -/
namespace Go.Proofs.YtmeholhmadeehaaGreatDoor

section
variable {P : Program} {l : List Oper} {Q : Exit → Go.Act → World → Prop} {md : Region.Mode} {S : World → Prop}

theorem held_skip (i d : Nat) {oi : Oper} {fuel : Nat} {listed : Array Bool} {a : Go.Act} {w : World} (hi : l[i]? = some oi) (hs : Region.noSelect l.toArray = true) (hf : Region.free md l.toArray listed i = true)
    (hr : (Region.ready md l.toArray listed).contains i = true) (hd : oi.dst = some d) (hQ : ∀ c (a : Go.Act) v w, Q (.panic c) (a.put (some d) v) w → Q (.panic c) a w)
    (hw : Region.wanted oi (yielded l.toArray a.tmps) = false) (hS : S w) (h : wpAnyH P md l.toArray Q S fuel (listed.setIfInBounds i true) (a.put (some d) undef) w) : wpAnyH P md l.toArray Q S (fuel + 1) listed a w :=
  wpAnyH_take (i := i) (oi := oi) (v := undef) (by simpa using hi) hs hf hr (fun c a w h => hQ c a undef w (hd ▸ h)) (.inr ⟨hw, rfl⟩) hS (hd ▸ h)

theorem held_take (i d : Nat) (v : Value) {oi : Oper} {fuel : Nat} {listed : Array Bool} {a : Go.Act} {w : World} (hi : l[i]? = some oi) (hs : Region.noSelect l.toArray = true) (hf : Region.free md l.toArray listed i = true)
    (hr : (Region.ready md l.toArray listed).contains i = true) (hd : oi.dst = some d) (hQ : ∀ c (a : Go.Act) v w, Q (.panic c) (a.put (some d) v) w → Q (.panic c) a w)
    (hw : Region.wanted oi (yielded l.toArray a.tmps) = true) (hy : ∀ w, S w → (execOp a.eval oi).run P w = .ok (.value v) w) (hS : S w)
    (h : wpAnyH P md l.toArray Q S fuel (listed.setIfInBounds i true) (a.put (some d) v) w) : wpAnyH P md l.toArray Q S (fuel + 1) listed a w :=
  wpAnyH_take (i := i) (oi := oi) (v := v) (by simpa using hi) hs hf hr (fun c a w h => hQ c a v w (hd ▸ h)) (.inl ⟨hw, hy⟩) hS (hd ▸ h)

end

end Go.Proofs.YtmeholhmadeehaaGreatDoor
