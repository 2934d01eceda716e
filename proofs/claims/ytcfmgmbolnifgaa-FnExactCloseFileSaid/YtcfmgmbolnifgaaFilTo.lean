/- Files of the call's own; walks of toFile, toFileS, eqFile, eqFileS. -/
import Derived.Test.YtcfmgmbolnifgaaFil
import Derived.StillTailTactics
namespace Go.Proofs.Ytcfmgmbolnifgaa
open Go.RowKit

def put4 (cs : Array Value) (o : Nat) (a b c d : Value) : Array Value := (((cs.setIfInBounds o a).setIfInBounds (o + 1) b).setIfInBounds (o + 2) c).setIfInBounds (o + 3) d
theorem put4_size (cs : Array Value) (o : Nat) (a b c d : Value) : (put4 cs o a b c d).size = cs.size := by simp [put4]
theorem put4_far (cs : Array Value) (o p : Nat) (a b c d : Value) (h : p < o ∨ o + 4 ≤ p) : (put4 cs o a b c d)[p]? = cs[p]? := by
  unfold put4
  rw [Array.getElem?_setIfInBounds_ne (by omega), Array.getElem?_setIfInBounds_ne (by omega), Array.getElem?_setIfInBounds_ne (by omega), Array.getElem?_setIfInBounds_ne (by omega)]
theorem put4_get (cs : Array Value) (o : Nat) (a b c d : Value) (h : o + 3 < cs.size) :
    (put4 cs o a b c d)[o]? = some a ∧ (put4 cs o a b c d)[o + 1]? = some b ∧ (put4 cs o a b c d)[o + 2]? = some c ∧ (put4 cs o a b c d)[o + 3]? = some d := by
  unfold put4
  refine ⟨?_, ?_, ?_, ?_⟩
  · rw [Array.getElem?_setIfInBounds_ne (by omega), Array.getElem?_setIfInBounds_ne (by omega), Array.getElem?_setIfInBounds_ne (by omega), Array.getElem?_setIfInBounds_self_of_lt (by omega)]
  · rw [Array.getElem?_setIfInBounds_ne (by omega), Array.getElem?_setIfInBounds_ne (by omega), Array.getElem?_setIfInBounds_self_of_lt (by simp; omega)]
  · rw [Array.getElem?_setIfInBounds_ne (by omega), Array.getElem?_setIfInBounds_self_of_lt (by simp; omega)]
  · rw [Array.getElem?_setIfInBounds_self_of_lt (by simp; omega)]

/-- The cells from o on are those of the file f, its lines at L. -/
def FilCs (cs : Array Value) (o : Nat) (f : Fil) (L : Option Addr) (c : Nat) : Prop :=
  cs[o]? = some (.string f.name) ∧ cs[o + 1]? = some (.slice L f.lines.length c) ∧ cs[o + 2]? = some (.string f.part) ∧ cs[o + 3]? = some (.int .i64 f.at_)
theorem FilCs.far {cs : Array Value} {o p : Nat} {f : Fil} {L : Option Addr} {c : Nat} (h : FilCs cs p f L c) {a b x d : Value} (hp : p + 4 ≤ o ∨ o + 4 ≤ p) : FilCs (put4 cs o a b x d) p f L c :=
  ⟨(put4_far _ _ _ _ _ _ _ (by omega)).trans h.1, (put4_far _ _ _ _ _ _ _ (by omega)).trans h.2.1, (put4_far _ _ _ _ _ _ _ (by omega)).trans h.2.2.1, (put4_far _ _ _ _ _ _ _ (by omega)).trans h.2.2.2⟩
theorem FilCs.put {cs : Array Value} {o : Nat} (f : Fil) (L : Option Addr) (c : Nat) (h : o + 3 < cs.size) : FilCs (put4 cs o (.string f.name) (.slice L f.lines.length c) (.string f.part) (.int .i64 f.at_)) o f L c := put4_get _ _ _ _ _ _ h

abbrev rowOf (L : Option Addr) (n c : Nat) : Option Nat := (Value.slice L n c).ownBlock

/-- Block g holds the files fs of the call's own: each one's lines are a row of its own from lo on, all in blocks of their own. -/
structure OwnFs (w : World) (lo g : Nat) (cs : Array Value) (L : Nat → Option Addr) (C : Nat → Nat) (fs : List Fil) (k : Nat) : Prop where
  blk : Blk w g 91 cs
  cells : ∀ j, j < k → FilCs cs (j * 4) (fs.getD j filD) (L j) (C j)
  own : ∀ j, j < k → w.ownsRow lo 9 1 (.slice (L j) (fs.getD j filD).lines.length (C j)) (fs.getD j filD).lines.length ((fs.getD j filD).lines.map Value.string)
  notg : ∀ j, j < k → rowOf (L j) (fs.getD j filD).lines.length (C j) ≠ some g
  apart : ∀ i j, i < j → j < k → ∀ b, rowOf (L i) (fs.getD i filD).lines.length (C i) = some b → rowOf (L j) (fs.getD j filD).lines.length (C j) ≠ some b

theorem OwnFs.below {w w' : World} {lo g : Nat} {cs : Array Value} {L : Nat → Option Addr} {C : Nat → Nat} {fs : List Fil} {k : Nat} (h : OwnFs w lo g cs L C fs k) (hb : Below w.heap.size w w') : OwnFs w' lo g cs L C fs k :=
  ⟨h.blk.below hb h.blk.lt, h.cells, fun j hj => own_below (h.own j hj) hb, h.notg, h.apart⟩

/-- Files of the call's own, as a value. -/
def OwnFils (w : World) (lo hi : Nat) (A : Option Addr) (fs : List Fil) : Prop :=
  (A = none ∧ fs = []) ∨ ∃ g cs L C, A = some ⟨g, 0, none⟩ ∧ lo ≤ g ∧ g < hi ∧ OwnFs w lo g cs L C fs fs.length ∧ ∀ j, j < fs.length → ∀ b, rowOf (L j) (fs.getD j filD).lines.length (C j) = some b → b < hi

theorem OwnFils.reads {w : World} {lo hi : Nat} {A : Option Addr} {fs : List Fil} (h : OwnFils w lo hi A fs) : FilesR w lo hi A fs.length fs := by
  refine ⟨rfl, fun hn => ?_⟩
  rcases h with ⟨_, rfl⟩ | ⟨g, cs, L, C, rfl, h1, h2, ho, hh⟩
  · simp at hn
  · refine ⟨g, 0, rfl, h1, h2, fun j hj => ⟨L j, C j, ?_, ?_, ?_, ?_, ?_⟩⟩
    · rw [Nat.zero_add, ho.blk.cell]; exact (ho.cells j hj).1
    · rw [Nat.zero_add, ho.blk.cell]; exact (ho.cells j hj).2.1
    · rw [Nat.zero_add, ho.blk.cell]; exact (ho.cells j hj).2.2.1
    · rw [Nat.zero_add, ho.blk.cell]; exact (ho.cells j hj).2.2.2
    · have h3 := ho.own j hj
      refine ⟨rfl, fun hn => ?_⟩
      obtain ⟨b, off, e, h4, _, hc⟩ := (RowR.of_own (d := ByteArray.empty) h3).2 hn
      refine ⟨b, off, e, h4, hh j hj b ?_, hc⟩
      obtain ⟨g', e2, _⟩ := own_head h3 hn
      unfold rowOf
      rw [e] at e2 ⊢
      injection e2 with e3
      injection e3 with e4 e5
      rw [e4, e5]; rfl
theorem loc_ownFils (lo hi : Nat) (A : Option Addr) (fs : List Fil) : Loc lo hi (fun w => OwnFils w lo hi A fs) := fun _ _ hk h => by
  rcases h with h | ⟨g, cs, L, C, rfl, h1, h2, ho, hh⟩
  · exact .inl h
  · exact .inr ⟨g, cs, L, C, rfl, h1, h2, ⟨(hk g h1 h2).trans ho.blk, ho.cells, fun j hj => own_keep (ho.own j hj) (hh j hj) hk, ho.notg, ho.apart⟩, hh⟩

set_option maxHeartbeats 1000000 in
theorem toFile_any (f : Fil) (v : Value) (lo hi : Nat) (w : World) (hx : FilR w lo hi v f) (hhi : hi ≤ w.heap.size) (hs : FilSmall f) :
    Calls Try.prog 121 #[v] w fun e w' => ∃ A c, e = .returned (.agg #[.string f.name, .slice A f.lines.length c, .string f.part, .int .i64 f.at_]) ∧ w'.ownsRow w.heap.size 9 1 (.slice A f.lines.length c) f.lines.length (f.lines.map Value.string) ∧ Below w.heap.size w w' := by
  obtain ⟨name, lines, part, at_⟩ := f
  obtain ⟨A, c, rfl, hA⟩ := hx
  obtain ⟨h1, h2, h3, h4⟩ := hs
  dsimp only at *
  have HA := Lib.hid hA
  clear hA h4
  go_enter Try.func121, Try.ntmps121
  go_wp2_with fail
  have T0 := Three.start w 117 91 91 #[.string name, .slice A lines.length c, .string part, .int .i64 at_] #[.string ⟨#[]⟩, .slice none 0 0, .string ⟨#[]⟩, .int .i64 0] #[.string name, .slice none 0 0, .string ⟨#[]⟩, .int .i64 0]
  refine (toStringS_any _ _ _ lo hi lines _ (HA.out.below T0.2.2.2 hhi) (Nat.le_trans hhi T0.2.2.2.size) h3).mono ?_
  rintro e1 w1 ⟨v1, rfl, ⟨⟨A1, c1, rfl⟩, ho1⟩, hb1⟩
  have T1 := T0.call hb1
  have ho1' := own_mono (base' := w.heap.size + 1 + 1 + 1) ho1 (by simp)
  clear T0 hb1 ho1
  have f0 := T1.1.cell
  have f1 := T1.2.1.cell
  have z1 := T1.2.1.frozen
  have f2 := T1.2.2.1.cell
  have z2 := T1.2.2.1.frozen
  have TT := Lib.hid T1; clear T1
  have O1 := Lib.hid ho1'; clear ho1'
  go_wp2_with fail
  refine bodyPost_ret (v := .agg #[.string name, .slice A1 lines.length c1, .string part, .int .i64 at_]) (by simp [results, Try.results121, go_sem, f1]) rfl ⟨A1, c1, rfl, ?_, ?_⟩
  · refine own_mono (base := w.heap.size + 1 + 1 + 1) ?_ (by omega)
    iterate 7 (with_reducible refine ownsRow_setCell_below ?_ (by simp; try omega) _)
    exact O1.out
  · iterate 7 (with_reducible refine Below.setCell ?_ (by simp; try omega) _)
    exact TT.out.2.2.2

theorem infoFile : (Try.prog.info? 91).map (fun i => (i.zero, i.size, i.bytes)) = some (some (.agg #[.string ⟨#[]⟩, .slice none 0 0, .string ⟨#[]⟩, .int .i64 0]), 4, 64) := by kernel_rfl

def zeroFil : Array Value := #[.string ⟨#[]⟩, .slice none 0 0, .string ⟨#[]⟩, .int .i64 0]

theorem make_files (n : Nat) (hn : n ≤ 1048576) (w : World) :
    (Instr.makeSlice 59 (.int .i64 (n : Int)) (.int .i64 (n : Int))).run Try.prog w = .ok (.slice (some ⟨w.heap.size, 0, none⟩) n n) (w.alloc (.cells (madeCells zeroFil (n * 4)) 91)) := by
  obtain ⟨i0, hi0, hz0, hz1, hz2⟩ := info_parts infoFile
  have hb : (i0.bytes : Int) * (n : Int) ≤ 281474976710656 := by
    rw [hz2]; omega
  have hr := run_make (P := Try.prog) w 59 91 i0 _ Try.underlying59 hi0 hz0 .i64 .i64 n n (by omega) (by omega) hb (by omega)
  simp only [Int.toNat_natCast] at hr
  rw [hr, hz1]
  rfl

/-- One file more. -/
theorem OwnFs.add {w w1 : World} {lo g : Nat} {cs : Array Value} {L : Nat → Option Addr} {C : Nat → Nat} {fs : List Fil} {k : Nat} {A : Option Addr} {c : Nat} (h : OwnFs w lo g cs L C fs k) (hb : Below w.heap.size w w1) (hl : lo ≤ w.heap.size)
    (ho : w1.ownsRow w.heap.size 9 1 (.slice A (fs.getD k filD).lines.length c) (fs.getD k filD).lines.length ((fs.getD k filD).lines.map Value.string)) (hk : k * 4 + 3 < cs.size) :
    OwnFs ((((w1.setCell ⟨g, k * 4, none⟩ (.string (fs.getD k filD).name)).setCell ⟨g, k * 4 + 1, none⟩ (.slice A (fs.getD k filD).lines.length c)).setCell ⟨g, k * 4 + 2, none⟩ (.string (fs.getD k filD).part)).setCell ⟨g, k * 4 + 3, none⟩ (.int .i64 (fs.getD k filD).at_))
      lo g (put4 cs (k * 4) (.string (fs.getD k filD).name) (.slice A (fs.getD k filD).lines.length c) (.string (fs.getD k filD).part) (.int .i64 (fs.getD k filD).at_)) (fun j => if j = k then A else L j) (fun j => if j = k then c else C j) fs (k + 1) := by
  have hg : g < w.heap.size := h.blk.lt
  have far : ∀ {W : World} {base : Nat} {v : Value} {n : Nat} {xs : List Value} (i : Nat) (u : Value), W.ownsRow base 9 1 v n xs → v.ownBlock ≠ some g → (W.setCell ⟨g, i, none⟩ u).ownsRow base 9 1 v n xs := by
    intro W base v n xs i u h1 h2
    refine ⟨h1.1, ?_⟩
    rcases h1.2 with h3 | ⟨b, cap, cur, e, hb, hc, r⟩
    · exact .inl h3
    · refine .inr ⟨b, cap, cur, e, hb, ?_, r⟩
      rw [Below.heap_setCell W ⟨g, i, none⟩ u b (fun hh => h2 (by rw [e, hh]; rfl))]
      exact hc
  have hng : rowOf A (fs.getD k filD).lines.length c ≠ some g := fun e => by have := (ho.lt g e).1; omega
  refine ⟨?_, fun j hj => ?_, fun j hj => ?_, fun j hj => ?_, fun i j hij hj b hi => ?_⟩
  · exact ((((h.blk.below hb hg).set_ _ _).set_ _ _).set_ _ _).set_ _ _
  · by_cases e : j = k
    · subst e; simp only [if_true]; exact FilCs.put _ _ _ hk
    · simp only [if_neg e]; exact (h.cells j (by omega)).far (by omega)
  · by_cases e : j = k
    · subst e; simp only [if_true]
      exact far _ _ (far _ _ (far _ _ (far _ _ (own_mono ho hl) hng) hng) hng) hng
    · simp only [if_neg e]
      have h1 := h.notg j (by omega)
      exact far _ _ (far _ _ (far _ _ (far _ _ (own_below (h.own j (by omega)) hb) h1) h1) h1) h1
  · by_cases e : j = k
    · subst e; simp only [if_true]; exact hng
    · simp only [if_neg e]; exact h.notg j (by omega)
  · have ei : i ≠ k := by omega
    simp only [if_neg ei] at hi
    by_cases e : j = k
    · subst e; simp only [if_true]
      intro hj'
      have h1 := (ho.lt b hj').1
      have h2 := ((h.own i (by omega)).lt b hi).2
      omega
    · simp only [if_neg e]; exact h.apart i j hij (by omega) b hi

set_option maxHeartbeats 2000000 in
theorem toFileS_any (A : Option Addr) (n c lo hi : Nat) (fs : List Fil) (w : World) (ha : FilesR w lo hi A n fs) (hhi : hi ≤ w.heap.size) (hs : FilsSmall fs) :
    Calls Try.prog 84 #[.slice A n c] w fun e w' => ∃ A', e = .returned (.slice A' n n) ∧ OwnFils w' w.heap.size w'.heap.size A' fs ∧ Below w.heap.size w w' := by
  have hlen := ha.1
  subst hlen
  have hmk := fun W => make_files fs.length hs.1 W
  have hn := hs.1
  have H0 := Lib.hid (Blk.new w 91 (madeCells zeroFil (fs.length * 4)))
  have HB0 := Lib.hid ((Below.refl w.heap.size w).alloc (Nat.le_refl _) (.cells (madeCells zeroFil (fs.length * 4)) 91))
  have HA := Lib.hid ha; have HS := Lib.hid hs
  clear ha hs
  go_enter Try.func84, Try.ntmps84
  go_wp2_with fail
  go_loopw [4] (fun i wr => ∃ (k : Nat) (cs : Array Value) (L : Nat → Option Addr) (C : Nat → Nat), k ≤ fs.length ∧ i = .int .i64 k ∧ cs.size = fs.length * 4 ∧ OwnFs wr w.heap.size w.heap.size cs L C fs k ∧ Below w.heap.size w wr) (fun i _ => fs.length - (intOf i).toNat)
  case atStart => exact ⟨0, _, fun _ => none, fun _ => 0, Nat.zero_le _, rfl, size_madeCells _ _, ⟨H0.out, fun j hj => absurd hj (by omega), fun j hj => absurd hj (by omega), fun j hj => absurd hj (by omega), fun i j _ hj => absurd hj (by omega)⟩, HB0.out⟩
  case round =>
    clear hmk
    obtain ⟨k, cs, L, C, hk, rfl, hcs, ho, hb⟩ := hrel
    by_cases hlt : k < fs.length
    · obtain ⟨b, off, rfl, hb1, hb2, L1, d1, e0, e1, e2, e3, hL⟩ := (HA.out.below hb hhi).at_ hlt
      have HX := Lib.hid (HS.out.2 _ (getD_mem (d := filD) hlt))
      have HN := Lib.hid (fun w1 A1 c1 hb1 ho1 => OwnFs.add (w1 := w1) (A := A1) (c := c1) ho hb1 hb.size ho1 (by omega))
      have HSZ := Lib.hid (put4_size cs (k * 4))
      have HC := Lib.hid hcs
      obtain ⟨x0, q0⟩ : ∃ x, cs[k * 4]? = some x := ⟨_, Array.getElem?_eq_getElem (by omega)⟩
      obtain ⟨x1, q1⟩ : ∃ x, cs[k * 4 + 1]? = some x := ⟨_, Array.getElem?_eq_getElem (by omega)⟩
      obtain ⟨x2, q2⟩ : ∃ x, cs[k * 4 + 2]? = some x := ⟨_, Array.getElem?_eq_getElem (by omega)⟩
      obtain ⟨x3, q3⟩ : ∃ x, cs[k * 4 + 3]? = some x := ⟨_, Array.getElem?_eq_getElem (by omega)⟩
      have HBL := Lib.hid ho.blk
      generalize fs.getD k filD = F at *
      have HB := Lib.hid hb; have HL := Lib.hid hL
      have hsz := hb.size
      clear hb hL ho hcs
      go_wp2_with fail
      refine (toFile_any F _ lo hi _ ⟨_, _, rfl, HL.out⟩ (by omega) HX.out).mono ?_
      rintro e5 w5 ⟨A5, c5, rfl, ho5, hb5⟩
      have HN5 := Lib.hid (HN.out w5 A5 c5 hb5 ho5)
      have B5 := HBL.out.below hb5 HBL.out.lt
      have f5 := B5.cell
      have z5 := B5.frozen
      have s5 := hb5.size
      have HB5 := Lib.hid (HB.out.trans (hb5.mono hsz))
      clear hb5 ho5 B5 HN HBL e0 e1 e2 e3
      go_wp2_with fail
      go_roundw
      case rel =>
        refine ⟨k + 1, _, _, _, by omega, by go_num, ?_, HN5.out, ?_⟩
        · rw [HSZ.out]; exact HC.out
        · iterate 4 (with_reducible refine Below.setCell ?_ (by simp) _)
          exact HB5.out
      case measure => simp [intOf]; omega
    · go_wp2_with fail
      go_ret
      obtain rfl : k = fs.length := by omega
      refine ⟨_, rfl, .inr ⟨_, cs, L, C, rfl, Nat.le_refl _, ho.blk.lt, ho, fun j hj b hb' => ((ho.own j hj).lt b hb').2⟩, hb⟩

theorem loc_strR0 (lo hi : Nat) (A : Option Addr) (n : Nat) (xs : List ByteArray) : Loc lo hi (fun w => StrR w lo hi A n xs) := fun _ _ hk h => h.keep hk
theorem heap_size_alloc1 (w : World) (o : Obj) : (w.alloc o).heap.size = w.heap.size + 1 := by simp

set_option maxHeartbeats 1000000 in
/-- Two values of one file: eqFile says yes. -/
theorem eqFile_same (f : Fil) (v v' : Value) (lo hi lo' hi' : Nat) (w : World) (hx : FilR w lo hi v f) (hx' : FilR w lo' hi' v' f) (hhi : hi ≤ w.heap.size) (hhi' : hi' ≤ w.heap.size) (hs : f.lines.length ≤ 1048576) :
    Calls Try.prog 127 #[v, v'] w fun e w' => e = .returned (.bool true) ∧ Below w.heap.size w w' := by
  obtain ⟨name, lines, part, at_⟩ := f
  obtain ⟨A, c, rfl, hA⟩ := hx
  obtain ⟨A', c', rfl, hA'⟩ := hx'
  dsimp only at *
  have R1 := (((((Stand.nil w).add lo hi _ (loc_strR0 lo hi A _ lines) hhi hA).add lo' hi' _ (loc_strR0 lo' hi' A' _ lines) hhi' hA').box 91 #[.string name, .slice A lines.length c, .string part, .int .i64 at_])).box 91 #[.string name, .slice A' lines.length c', .string part, .int .i64 at_]
  rw [heap_size_alloc1] at R1
  have HR1 := Lib.hid R1
  clear hA hA' R1
  go_enter Try.func127, Try.ntmps127
  go_wp2_with fail
  refine (eqStringS_b _ _ _ _ _ _ lo hi lo' hi' lines lines _ (HR1.out.get 3 rfl) (HR1.out.get 2 rfl) (by omega) (by omega)).mono ?_
  rintro e1 w1 ⟨rfl, hb1⟩
  rw [decide_eq_true rfl]
  have HR2 := Lib.hid (HR1.out.below hb1)
  have f1 := (HR2.out.get 1 rfl).cell
  have f0 := (HR2.out.get 0 rfl).cell
  clear hb1 HR1
  go_wp2_with fail
  go_ret
  exact ⟨rfl, HR2.out.1⟩

set_option maxHeartbeats 1000000 in
theorem eqFileS_same (A A' : Option Addr) (n c c' lo hi lo' hi' : Nat) (fs : List Fil) (w : World) (ha : FilesR w lo hi A n fs) (ha' : FilesR w lo' hi' A' n fs) (hhi : hi ≤ w.heap.size) (hhi' : hi' ≤ w.heap.size) (hs : FilsSmall fs) :
    Calls Try.prog 88 #[.slice A n c, .slice A' n c'] w fun e w' => e = .returned (.bool true) ∧ Below w.heap.size w w' := by
  have hlen := ha.1
  subst hlen
  have hn := hs.1
  have HA := Lib.hid ha; have HA' := Lib.hid ha'; have HS := Lib.hid hs
  clear ha ha' hs
  go_enter Try.func88, Try.ntmps88
  go_wp2_with fail
  go_loopw [5] (fun i wr => ∃ k : Nat, k ≤ fs.length ∧ i = .int .i64 k ∧ Below w.heap.size w wr) (fun i _ => fs.length - (intOf i).toNat)
  case atStart => exact ⟨0, Nat.zero_le _, rfl, Below.refl _ _⟩
  case round =>
    obtain ⟨k, hk, rfl, hb⟩ := hrel
    by_cases hlt : k < fs.length
    · obtain ⟨b, off, rfl, hb1, hb2, L1, d1, e0, e1, e2, e3, hL⟩ := (HA.out.below hb hhi).at_ hlt
      obtain ⟨b', off', rfl, hb1', hb2', L1', d1', e0', e1', e2', e3', hL'⟩ := (HA'.out.below hb hhi').at_ hlt
      have HX := Lib.hid (HS.out.2 _ (getD_mem (d := filD) hlt))
      generalize fs.getD k filD = F at *
      have HB := Lib.hid hb; have HL := Lib.hid hL; have HL' := Lib.hid hL'
      have hsz := hb.size
      clear hb hL hL'
      have hwi : hi ≤ wr.drew.heap.size := (show hi ≤ wr.heap.size by omega)
      have hwi' : hi' ≤ wr.drew.heap.size := (show hi' ≤ wr.heap.size by omega)
      have hbw : b < wr.drew.heap.size := (show b < wr.heap.size by omega)
      have hbw' : b' < wr.drew.heap.size := (show b' < wr.heap.size by omega)
      have HBd := Lib.hid HB.out.drew
      have HLd := Lib.hid (HL.out.drewN 1); have HLd' := Lib.hid (HL'.out.drewN 1)
      go_wp2_with fail
      go_region_held3 (fun w' => w'.cell? ⟨b, off + k * 4, none⟩ = some (.string F.name) ∧ w'.cell? ⟨b, off + k * 4 + 1, none⟩ = some (.slice L1 F.lines.length d1) ∧ w'.cell? ⟨b, off + k * 4 + 2, none⟩ = some (.string F.part) ∧ w'.cell? ⟨b, off + k * 4 + 3, none⟩ = some (.int .i64 F.at_) ∧ w'.cell? ⟨b', off' + k * 4, none⟩ = some (.string F.name) ∧ w'.cell? ⟨b', off' + k * 4 + 1, none⟩ = some (.slice L1' F.lines.length d1') ∧ w'.cell? ⟨b', off' + k * 4 + 2, none⟩ = some (.string F.part) ∧ w'.cell? ⟨b', off' + k * 4 + 3, none⟩ = some (.int .i64 F.at_) ∧ Below w.heap.size w w')
        (first | exact ⟨e0, e1, e2, e3, e0', e1', e2', e3', HB.out⟩ | exact ⟨e0, e1, e2, e3, e0', e1', e2', e3', HBd.out⟩ | exact ⟨(hb5.cell hbw).trans e0, (hb5.cell hbw).trans e1, (hb5.cell hbw).trans e2, (hb5.cell hbw).trans e3, (hb5.cell hbw').trans e0', (hb5.cell hbw').trans e1', (hb5.cell hbw').trans e2', (hb5.cell hbw').trans e3', HBd.out.trans (hb5.mono HBd.out.size)⟩)
        (first | (go_at_call 127; (refine (eqFile_same F _ _ lo hi lo' hi' wr.drew ⟨L1, d1, rfl, HLd.out⟩ ⟨L1', d1', rfl, HLd'.out⟩ hwi hwi' HX.out.2.2.1).mono ?_); rintro e5 w5 ⟨rfl, hb5⟩))
      have HB5 := Lib.hid (HBd.out.trans (hb5.mono HBd.out.size))
      clear hb5 e0 e1 e2 e3 e0' e1' e2' e3'
      go_wp2_with fail
      go_roundw
      case rel => exact ⟨k + 1, by omega, by go_num, HB5.out⟩
      case measure => simp [intOf]; omega
    · have HB := Lib.hid hb; clear hb
      go_wp2_with fail
      go_ret
      exact ⟨rfl, HB.out⟩

end Go.Proofs.Ytcfmgmbolnifgaa
