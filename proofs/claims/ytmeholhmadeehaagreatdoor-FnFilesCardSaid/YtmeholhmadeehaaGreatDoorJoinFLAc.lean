/- Files: their values, slices of them; walks of szFile, szFileS. -/
import Derived.Test.YtmeholhmadeehaaGreatDoorJoinFLAb
import Derived.StillTailTactics
import Derived.Test.YtmeholhmadeehaaGreatDoorProg
import Derived.Test.YtmeholhmadeehaaGreatDoorJoinFLAa
namespace Go.Proofs.YtmeholhmadeehaaGreatDoor
open Go.RowKit

structure Fil where
  name : ByteArray
  lines : List ByteArray
  part : ByteArray
  at_ : Int

def filD : Fil := ⟨ByteArray.empty, [], ByteArray.empty, 0⟩

/-- The value v of a file reads as f. -/
def FilR (w : World) (lo hi : Nat) (v : Value) (f : Fil) : Prop :=
  ∃ A c, v = .agg #[.string f.name, .slice A f.lines.length c, .string f.part, .int .i64 f.at_] ∧ StrR w lo hi A f.lines.length f.lines
theorem FilR.below {w w' : World} {lo hi B : Nat} {v : Value} {f : Fil} (h : FilR w lo hi v f) (hb : Below B w w') (hB : hi ≤ B) : FilR w' lo hi v f := by
  obtain ⟨A, c, hv, h1⟩ := h
  exact ⟨A, c, hv, h1.below hb hB⟩
theorem FilR.more {w : World} {lo hi lo' hi' : Nat} {v : Value} {f : Fil} (h : FilR w lo hi v f) (h1 : lo' ≤ lo) (h2 : hi ≤ hi') : FilR w lo' hi' v f := by
  obtain ⟨A, c, hv, h3⟩ := h
  exact ⟨A, c, hv, h3.more h1 h2⟩

/-- At cell o of block b there lies a file that reads as f. -/
def FilAt (w : World) (lo hi b o : Nat) (f : Fil) : Prop :=
  ∃ A c, w.cell? ⟨b, o, none⟩ = some (.string f.name) ∧ w.cell? ⟨b, o + 1, none⟩ = some (.slice A f.lines.length c) ∧ w.cell? ⟨b, o + 2, none⟩ = some (.string f.part) ∧ w.cell? ⟨b, o + 3, none⟩ = some (.int .i64 f.at_) ∧ StrR w lo hi A f.lines.length f.lines

/-- The slice with address A and n files reads as fs; all of it lies in blocks from lo up to, not including, hi. -/
def FilesR (w : World) (lo hi : Nat) (A : Option Addr) (n : Nat) (fs : List Fil) : Prop :=
  fs.length = n ∧ (0 < n → ∃ b off, A = some ⟨b, off, none⟩ ∧ lo ≤ b ∧ b < hi ∧ ∀ j, j < n → FilAt w lo hi b (off + j * 4) (fs.getD j filD))

theorem FilesR.keep {w w' : World} {lo hi : Nat} {A : Option Addr} {n : Nat} {fs : List Fil} (h : FilesR w lo hi A n fs) (hk : ∀ b, lo ≤ b → b < hi → w'.heap[b]? = w.heap[b]?) : FilesR w' lo hi A n fs :=
  ⟨h.1, fun hn => by
    obtain ⟨b, off, e, h1, h2, hc⟩ := h.2 hn
    refine ⟨b, off, e, h1, h2, fun j hj => ?_⟩
    obtain ⟨L, c, e0, e1, e2, e3, hL⟩ := hc j hj
    have hkb := hk b h1 h2
    exact ⟨L, c, (World.cell?_of_block hkb).trans e0, (World.cell?_of_block hkb).trans e1, (World.cell?_of_block hkb).trans e2, (World.cell?_of_block hkb).trans e3, hL.keep hk⟩⟩
theorem FilesR.below {w w' : World} {lo hi B : Nat} {A : Option Addr} {n : Nat} {fs : List Fil} (h : FilesR w lo hi A n fs) (hb : Below B w w') (hB : hi ≤ B) : FilesR w' lo hi A n fs :=
  h.keep fun b _ h2 => hb.block b (by omega)
theorem FilesR.at_ {w : World} {lo hi : Nat} {A : Option Addr} {n : Nat} {fs : List Fil} {k : Nat} (h : FilesR w lo hi A n fs) (hk : k < n) :
    ∃ b off, A = some ⟨b, off, none⟩ ∧ lo ≤ b ∧ b < hi ∧ FilAt w lo hi b (off + k * 4) (fs.getD k filD) := by
  obtain ⟨b, off, e, h1, h2, hc⟩ := h.2 (by omega)
  exact ⟨b, off, e, h1, h2, hc k hk⟩
theorem loc_filesR (lo hi : Nat) (A : Option Addr) (n : Nat) (fs : List Fil) : Loc lo hi (fun w => FilesR w lo hi A n fs) := fun _ _ hk h => h.keep hk

def costFil (f : Fil) : Nat := f.name.size + costStrs f.lines + f.part.size
def costFilTo (fs : List Fil) (k : Nat) : Nat := ((fs.take k).map costFil).sum
def costFils (fs : List Fil) : Nat := fs.length + (fs.map costFil).sum
def FilReach (f : Fil) : Prop := f.name.size ≤ 9223372036854775807 ∧ f.part.size ≤ 9223372036854775807 ∧ f.lines.length ≤ 9223372036854775807 ∧ ∀ y ∈ f.lines, y.size ≤ 9223372036854775807
def FilSmall (f : Fil) : Prop := f.name.size ≤ 1048576 ∧ f.part.size ≤ 1048576 ∧ f.lines.length ≤ 1048576 ∧ ∀ y ∈ f.lines, y.size ≤ 1048576
def FilsSmall (fs : List Fil) : Prop := fs.length ≤ 1048576 ∧ ∀ f ∈ fs, FilSmall f

theorem FilSmall.of_cost {f : Fil} (h : costFil f ≤ 1048576) : FilSmall f := by
  unfold costFil costStrs at h
  exact ⟨by omega, by omega, by omega, fun y hy => by have := mem_le_sizeAll hy; omega⟩
theorem cost_mem {fs : List Fil} {f : Fil} (h : f ∈ fs) : costFil f ≤ (fs.map costFil).sum := by
  induction fs with
  | nil => simp at h
  | cons x xs ih =>
    rcases List.mem_cons.1 h with rfl | h
    · simp
    · have := ih h; simp; omega
theorem FilsSmall.of_cost {fs : List Fil} (h : costFils fs ≤ 1048576) : FilsSmall fs := by
  unfold costFils at h
  exact ⟨by omega, fun f hf => FilSmall.of_cost (by have := cost_mem hf; omega)⟩
theorem costFilTo_succ {fs : List Fil} {k : Nat} (h : k < fs.length) : costFilTo fs (k + 1) = costFilTo fs k + costFil (fs.getD k filD) := by
  unfold costFilTo
  rw [List.take_succ_eq_append_getElem h, List.map_append, List.sum_append]
  simp [List.getD_eq_getElem?_getD, List.getElem?_eq_getElem h]
theorem getD_mem {α : Type} {fs : List α} {d : α} {k : Nat} (h : k < fs.length) : fs.getD k d ∈ fs := by
  rw [List.getD_eq_getElem?_getD, List.getElem?_eq_getElem h]
  exact List.getElem_mem _

set_option maxHeartbeats 1000000 in
theorem szFile_any (f : Fil) (v : Value) (lo hi : Nat) (left : Int) (w : World) (hx : FilR w lo hi v f) (hhi : hi ≤ w.heap.size) (hr : FilReach f) (hl0 : 0 ≤ left) (hl : left ≤ 1048576) :
    Calls Tryz.prog 63 #[v, .int .i64 left] w fun e w' => ∃ m, e = .returned (.int .i64 m) ∧ Left left (costFil f) m ∧ Below w.heap.size w w' := by
  obtain ⟨name, lines, part, at_⟩ := f
  obtain ⟨A, c, rfl, hA⟩ := hx
  obtain ⟨h1, h2, h3, h4⟩ := hr
  dsimp only at *
  have hbo := fun o => (Below.refl w.heap.size w).alloc (Nat.le_refl _) o
  have HA := Lib.hid (fun o => hA.below (hbo o) hhi)
  have HD := Lib.hid hbo
  have H4 := Lib.hid h4
  clear hA hbo h4
  by_cases g1 : left - (name.size : Int) < 0
  · go_enter Tryz.func63, Tryz.ntmps63
    go_wp2_with fail
    go_ret
    exact ⟨_, rfl, .inl rfl, HD.out _⟩
  go_enter Tryz.func63, Tryz.ntmps63
  go_wp2_with fail
  refine (szStringS_m _ _ _ lo hi _ lines _ (HA.out _) (by omega) (by omega) (by omega) H4.out).mono ?_
  rintro e1 w1 ⟨m1, rfl, hm1, rfl⟩
  rcases hm1 with rfl | ⟨hm0, hm1⟩
  · go_wp2_with fail
    go_ret
    exact ⟨_, rfl, .inl rfl, HD.out _⟩
  have n1 : ¬ (m1 < 0) := by omega
  have HM1 := Lib.hid hm1
  have hm1' : m1 ≤ left := by omega
  clear hm1
  by_cases g2 : m1 - (part.size : Int) < 0
  · go_wp2_with fail
    go_ret
    exact ⟨_, rfl, .inl rfl, HD.out _⟩
  go_wp2_with fail
  go_ret
  refine ⟨_, rfl, .inr ⟨by omega, ?_⟩, HD.out _⟩
  have := HM1.out
  unfold costFil
  dsimp only
  omega

set_option maxHeartbeats 1000000 in
theorem szFileS_any (A : Option Addr) (n c lo hi : Nat) (left : Int) (fs : List Fil) (w : World) (ha : FilesR w lo hi A n fs) (hhi : hi ≤ w.heap.size) (hn : n ≤ 9223372036854775807) (hr : ∀ f ∈ fs, FilReach f) (hl0 : 0 ≤ left) (hl : left ≤ 1048576) :
    Calls Tryz.prog 21 #[.slice A n c, .int .i64 left] w fun e w' => ∃ m, e = .returned (.int .i64 m) ∧ Left left (costFils fs) m ∧ Below w.heap.size w w' := by
  have hlen := ha.1
  subst hlen
  have HA := Lib.hid ha; have HR := Lib.hid hr
  clear ha hr
  by_cases g0 : left - (fs.length : Int) < 0
  · go_enter Tryz.func21, Tryz.ntmps21
    go_wp2_with fail
    go_ret
    exact ⟨_, rfl, .inl rfl, Below.refl _ _⟩
  go_enter Tryz.func21, Tryz.ntmps21
  go_wp2_with fail
  go_loopw [1, 5] (fun l i wr => ∃ (k : Nat) (m : Int), k ≤ fs.length ∧ i = .int .i64 k ∧ l = .int .i64 m ∧ 0 ≤ m ∧ m + fs.length + costFilTo fs k = left ∧ Below w.heap.size w wr) (fun _ i _ => fs.length - (intOf i).toNat)
  case atStart => exact ⟨0, _, Nat.zero_le _, rfl, rfl, by omega, by simp [costFilTo], Below.refl _ _⟩
  case round =>
    obtain ⟨k, m, hk, rfl, rfl, hm0, hm, hb⟩ := hrel
    have HM := Lib.hid hm
    have hml : m ≤ 1048576 := by omega
    clear hm
    by_cases hlt : k < fs.length
    · obtain ⟨b, off, rfl, hb1, hb2, L, d, e0, e1, e2, e3, hL⟩ := (HA.out.below hb hhi).at_ hlt
      have HS := Lib.hid (costFilTo_succ hlt)
      have HX := Lib.hid (HR.out _ (getD_mem (d := filD) hlt))
      generalize fs.getD k filD = F at *
      have HB := Lib.hid hb; have HL := Lib.hid hL
      have hsz := hb.size
      clear hb hL
      go_wp2_with fail
      refine (szFile_any F _ lo hi _ _ ⟨_, _, rfl, HL.out⟩ (by omega) HX.out hm0 hml).mono ?_
      rintro e5 w5 ⟨m5, rfl, hm5, hb5⟩
      rcases hm5 with rfl | ⟨hm50, hm5⟩
      · have HB5 := Lib.hid hb5; clear hb5 e0 e1 e2 e3
        go_wp2_with fail
        go_ret
        exact ⟨_, rfl, .inl rfl, HB.out.trans (HB5.out.mono hsz)⟩
      have n5 : ¬ (m5 < 0) := by omega
      have HM5 := Lib.hid hm5
      have HB5 := Lib.hid hb5; clear hb5 e0 e1 e2 e3 hm5
      go_wp2_with fail
      go_roundw
      case rel => exact ⟨k + 1, m5, by omega, by go_num, rfl, hm50, by have := HM.out; have := HM5.out; have := HS.out; omega, HB.out.trans (HB5.out.mono hsz)⟩
      case measure => simp [intOf]; omega
    · go_wp2_with fail
      go_ret
      obtain rfl : k = fs.length := by omega
      refine ⟨_, rfl, .inr ⟨hm0, ?_⟩, hb⟩
      have := HM.out
      unfold costFilTo at this
      rw [List.take_length] at this
      unfold costFils
      omega

end Go.Proofs.YtmeholhmadeehaaGreatDoor

/- Files of the call's own; walks of toFile, toFileS, eqFile, eqFileS. -/
namespace Go.Proofs.YtmeholhmadeehaaGreatDoor
open Go.RowKit

def put4 (cs : Array Value) (o : Nat) (a b c d : Value) : Array Value := (((cs.setIfInBounds o a).setIfInBounds (o + 1) b).setIfInBounds (o + 2) c).setIfInBounds (o + 3) d
theorem put4_size (cs : Array Value) (o : Nat) (a b c d : Value) : (put4 cs o a b c d).size = cs.size := by simp [put4]
theorem put4_far (cs : Array Value) (o p : Nat) (a b c d : Value) (h : p < o ∨ o + 4 ≤ p) : (put4 cs o a b c d)[p]? = cs[p]? := by
  unfold put4
  rw [Array.getElem?_setIfInBounds_ne (by omega), Array.getElem?_setIfInBounds_ne (by omega), Array.getElem?_setIfInBounds_ne (by omega), Array.getElem?_setIfInBounds_ne (by omega)]
theorem put4_get (cs : Array Value) (o : Nat) (a b c d : Value) (h : o + 3 < cs.size) :
    (put4 cs o a b c d)[o]? = some a ∧ (put4 cs o a b c d)[o + 1]? = some b ∧ (put4 cs o a b c d)[o + 2]? = some c ∧ (put4 cs o a b c d)[o + 3]? = some d := by
  unfold put4
  refine ⟨?_, ?_, ?_, ?_⟩
  · rw [Array.getElem?_setIfInBounds_ne (by omega), Array.getElem?_setIfInBounds_ne (by omega), Array.getElem?_setIfInBounds_ne (by omega), Array.getElem?_setIfInBounds_self_of_lt (by omega)]
  · rw [Array.getElem?_setIfInBounds_ne (by omega), Array.getElem?_setIfInBounds_ne (by omega), Array.getElem?_setIfInBounds_self_of_lt (by simp; omega)]
  · rw [Array.getElem?_setIfInBounds_ne (by omega), Array.getElem?_setIfInBounds_self_of_lt (by simp; omega)]
  · rw [Array.getElem?_setIfInBounds_self_of_lt (by simp; omega)]

/-- The cells from o on are those of the file f, its lines at L. -/
def FilCs (cs : Array Value) (o : Nat) (f : Fil) (L : Option Addr) (c : Nat) : Prop :=
  cs[o]? = some (.string f.name) ∧ cs[o + 1]? = some (.slice L f.lines.length c) ∧ cs[o + 2]? = some (.string f.part) ∧ cs[o + 3]? = some (.int .i64 f.at_)
theorem FilCs.far {cs : Array Value} {o p : Nat} {f : Fil} {L : Option Addr} {c : Nat} (h : FilCs cs p f L c) {a b x d : Value} (hp : p + 4 ≤ o ∨ o + 4 ≤ p) : FilCs (put4 cs o a b x d) p f L c :=
  ⟨(put4_far _ _ _ _ _ _ _ (by omega)).trans h.1, (put4_far _ _ _ _ _ _ _ (by omega)).trans h.2.1, (put4_far _ _ _ _ _ _ _ (by omega)).trans h.2.2.1, (put4_far _ _ _ _ _ _ _ (by omega)).trans h.2.2.2⟩
theorem FilCs.put {cs : Array Value} {o : Nat} (f : Fil) (L : Option Addr) (c : Nat) (h : o + 3 < cs.size) : FilCs (put4 cs o (.string f.name) (.slice L f.lines.length c) (.string f.part) (.int .i64 f.at_)) o f L c := put4_get _ _ _ _ _ _ h

abbrev rowOf (L : Option Addr) (n c : Nat) : Option Nat := (Value.slice L n c).ownBlock

/-- Block g holds the files fs of the call's own: each one's lines are a row of its own from lo on, all in blocks of their own. -/
structure OwnFs (w : World) (lo g : Nat) (cs : Array Value) (L : Nat → Option Addr) (C : Nat → Nat) (fs : List Fil) (k : Nat) : Prop where
  blk : Blk w g 55 cs
  cells : ∀ j, j < k → FilCs cs (j * 4) (fs.getD j filD) (L j) (C j)
  own : ∀ j, j < k → w.ownsRow lo 9 1 (.slice (L j) (fs.getD j filD).lines.length (C j)) (fs.getD j filD).lines.length ((fs.getD j filD).lines.map Value.string)
  notg : ∀ j, j < k → rowOf (L j) (fs.getD j filD).lines.length (C j) ≠ some g
  apart : ∀ i j, i < j → j < k → ∀ b, rowOf (L i) (fs.getD i filD).lines.length (C i) = some b → rowOf (L j) (fs.getD j filD).lines.length (C j) ≠ some b

theorem OwnFs.below {w w' : World} {lo g : Nat} {cs : Array Value} {L : Nat → Option Addr} {C : Nat → Nat} {fs : List Fil} {k : Nat} (h : OwnFs w lo g cs L C fs k) (hb : Below w.heap.size w w') : OwnFs w' lo g cs L C fs k :=
  ⟨h.blk.below hb h.blk.lt, h.cells, fun j hj => own_below (h.own j hj) hb, h.notg, h.apart⟩

/-- Files of the call's own, as a value. -/
def OwnFils (w : World) (lo hi : Nat) (A : Option Addr) (fs : List Fil) : Prop :=
  (A = none ∧ fs = []) ∨ ∃ g cs L C, A = some ⟨g, 0, none⟩ ∧ lo ≤ g ∧ g < hi ∧ OwnFs w lo g cs L C fs fs.length ∧ ∀ j, j < fs.length → ∀ b, rowOf (L j) (fs.getD j filD).lines.length (C j) = some b → b < hi

theorem OwnFils.reads {w : World} {lo hi : Nat} {A : Option Addr} {fs : List Fil} (h : OwnFils w lo hi A fs) : FilesR w lo hi A fs.length fs := by
  refine ⟨rfl, fun hn => ?_⟩
  rcases h with ⟨_, rfl⟩ | ⟨g, cs, L, C, rfl, h1, h2, ho, hh⟩
  · simp at hn
  · refine ⟨g, 0, rfl, h1, h2, fun j hj => ⟨L j, C j, ?_, ?_, ?_, ?_, ?_⟩⟩
    · rw [Nat.zero_add, ho.blk.cell]; exact (ho.cells j hj).1
    · rw [Nat.zero_add, ho.blk.cell]; exact (ho.cells j hj).2.1
    · rw [Nat.zero_add, ho.blk.cell]; exact (ho.cells j hj).2.2.1
    · rw [Nat.zero_add, ho.blk.cell]; exact (ho.cells j hj).2.2.2
    · have h3 := ho.own j hj
      refine ⟨rfl, fun hn => ?_⟩
      obtain ⟨b, off, e, h4, _, hc⟩ := (RowR.of_own (d := ByteArray.empty) h3).2 hn
      refine ⟨b, off, e, h4, hh j hj b ?_, hc⟩
      obtain ⟨g', e2, _⟩ := own_head h3 hn
      unfold rowOf
      rw [e] at e2 ⊢
      injection e2 with e3
      injection e3 with e4 e5
      rw [e4, e5]; rfl
theorem loc_ownFils (lo hi : Nat) (A : Option Addr) (fs : List Fil) : Loc lo hi (fun w => OwnFils w lo hi A fs) := fun _ _ hk h => by
  rcases h with h | ⟨g, cs, L, C, rfl, h1, h2, ho, hh⟩
  · exact .inl h
  · exact .inr ⟨g, cs, L, C, rfl, h1, h2, ⟨(hk g h1 h2).trans ho.blk, ho.cells, fun j hj => own_keep (ho.own j hj) (hh j hj) hk, ho.notg, ho.apart⟩, hh⟩

set_option maxHeartbeats 1000000 in
theorem toFile_any (f : Fil) (v : Value) (lo hi : Nat) (w : World) (hx : FilR w lo hi v f) (hhi : hi ≤ w.heap.size) (hs : FilSmall f) :
    Calls Tryz.prog 70 #[v] w fun e w' => ∃ A c, e = .returned (.agg #[.string f.name, .slice A f.lines.length c, .string f.part, .int .i64 f.at_]) ∧ w'.ownsRow w.heap.size 9 1 (.slice A f.lines.length c) f.lines.length (f.lines.map Value.string) ∧ Below w.heap.size w w' := by
  obtain ⟨name, lines, part, at_⟩ := f
  obtain ⟨A, c, rfl, hA⟩ := hx
  obtain ⟨h1, h2, h3, h4⟩ := hs
  dsimp only at *
  have HA := Lib.hid hA
  clear hA h4
  go_enter Tryz.func70, Tryz.ntmps70
  go_wp2_with fail
  have T0 := Three.start w 89 55 55 #[.string name, .slice A lines.length c, .string part, .int .i64 at_] #[.string ⟨#[]⟩, .slice none 0 0, .string ⟨#[]⟩, .int .i64 0] #[.string name, .slice none 0 0, .string ⟨#[]⟩, .int .i64 0]
  refine (toStringS_any _ _ _ lo hi lines _ (HA.out.below T0.2.2.2 hhi) (Nat.le_trans hhi T0.2.2.2.size) h3).mono ?_
  rintro e1 w1 ⟨v1, rfl, ⟨⟨A1, c1, rfl⟩, ho1⟩, hb1⟩
  have T1 := T0.call hb1
  have ho1' := own_mono (base' := w.heap.size + 1 + 1 + 1) ho1 (by simp)
  clear T0 hb1 ho1
  have f0 := T1.1.cell
  have f1 := T1.2.1.cell
  have z1 := T1.2.1.frozen
  have f2 := T1.2.2.1.cell
  have z2 := T1.2.2.1.frozen
  have TT := Lib.hid T1; clear T1
  have O1 := Lib.hid ho1'; clear ho1'
  go_wp2_with fail
  refine bodyPost_ret (v := .agg #[.string name, .slice A1 lines.length c1, .string part, .int .i64 at_]) (by simp [results, Tryz.results70, go_sem, f1]) rfl ⟨A1, c1, rfl, ?_, ?_⟩
  · refine own_mono (base := w.heap.size + 1 + 1 + 1) ?_ (by omega)
    iterate 7 (with_reducible refine ownsRow_setCell_below ?_ (by simp; try omega) _)
    exact O1.out
  · iterate 7 (with_reducible refine Below.setCell ?_ (by simp; try omega) _)
    exact TT.out.2.2.2

theorem infoFile : (Tryz.prog.info? 55).map (fun i => (i.zero, i.size, i.bytes)) = some (some (.agg #[.string ⟨#[]⟩, .slice none 0 0, .string ⟨#[]⟩, .int .i64 0]), 4, 64) := by kernel_rfl

def zeroFil : Array Value := #[.string ⟨#[]⟩, .slice none 0 0, .string ⟨#[]⟩, .int .i64 0]

theorem make_files (n : Nat) (hn : n ≤ 1048576) (w : World) :
    (Instr.makeSlice 30 (.int .i64 (n : Int)) (.int .i64 (n : Int))).run Tryz.prog w = .ok (.slice (some ⟨w.heap.size, 0, none⟩) n n) (w.alloc (.cells (madeCells zeroFil (n * 4)) 55)) := by
  obtain ⟨i0, hi0, hz0, hz1, hz2⟩ := info_parts infoFile
  have hb : (i0.bytes : Int) * (n : Int) ≤ 281474976710656 := by
    rw [hz2]; omega
  have hr := run_make (P := Tryz.prog) w 30 55 i0 _ Tryz.underlying30 hi0 hz0 .i64 .i64 n n (by omega) (by omega) hb (by omega)
  simp only [Int.toNat_natCast] at hr
  rw [hr, hz1]
  rfl

/-- One file more. -/
theorem OwnFs.add {w w1 : World} {lo g : Nat} {cs : Array Value} {L : Nat → Option Addr} {C : Nat → Nat} {fs : List Fil} {k : Nat} {A : Option Addr} {c : Nat} (h : OwnFs w lo g cs L C fs k) (hb : Below w.heap.size w w1) (hl : lo ≤ w.heap.size)
    (ho : w1.ownsRow w.heap.size 9 1 (.slice A (fs.getD k filD).lines.length c) (fs.getD k filD).lines.length ((fs.getD k filD).lines.map Value.string)) (hk : k * 4 + 3 < cs.size) :
    OwnFs ((((w1.setCell ⟨g, k * 4, none⟩ (.string (fs.getD k filD).name)).setCell ⟨g, k * 4 + 1, none⟩ (.slice A (fs.getD k filD).lines.length c)).setCell ⟨g, k * 4 + 2, none⟩ (.string (fs.getD k filD).part)).setCell ⟨g, k * 4 + 3, none⟩ (.int .i64 (fs.getD k filD).at_))
      lo g (put4 cs (k * 4) (.string (fs.getD k filD).name) (.slice A (fs.getD k filD).lines.length c) (.string (fs.getD k filD).part) (.int .i64 (fs.getD k filD).at_)) (fun j => if j = k then A else L j) (fun j => if j = k then c else C j) fs (k + 1) := by
  have hg : g < w.heap.size := h.blk.lt
  have far : ∀ {W : World} {base : Nat} {v : Value} {n : Nat} {xs : List Value} (i : Nat) (u : Value), W.ownsRow base 9 1 v n xs → v.ownBlock ≠ some g → (W.setCell ⟨g, i, none⟩ u).ownsRow base 9 1 v n xs := by
    intro W base v n xs i u h1 h2
    refine ⟨h1.1, ?_⟩
    rcases h1.2 with h3 | ⟨b, cap, cur, e, hb, hc, r⟩
    · exact .inl h3
    · refine .inr ⟨b, cap, cur, e, hb, ?_, r⟩
      rw [Below.heap_setCell W ⟨g, i, none⟩ u b (fun hh => h2 (by rw [e, hh]; rfl))]
      exact hc
  have hng : rowOf A (fs.getD k filD).lines.length c ≠ some g := fun e => by have := (ho.lt g e).1; omega
  refine ⟨?_, fun j hj => ?_, fun j hj => ?_, fun j hj => ?_, fun i j hij hj b hi => ?_⟩
  · exact ((((h.blk.below hb hg).set_ _ _).set_ _ _).set_ _ _).set_ _ _
  · by_cases e : j = k
    · subst e; simp only [if_true]; exact FilCs.put _ _ _ hk
    · simp only [if_neg e]; exact (h.cells j (by omega)).far (by omega)
  · by_cases e : j = k
    · subst e; simp only [if_true]
      exact far _ _ (far _ _ (far _ _ (far _ _ (own_mono ho hl) hng) hng) hng) hng
    · simp only [if_neg e]
      have h1 := h.notg j (by omega)
      exact far _ _ (far _ _ (far _ _ (far _ _ (own_below (h.own j (by omega)) hb) h1) h1) h1) h1
  · by_cases e : j = k
    · subst e; simp only [if_true]; exact hng
    · simp only [if_neg e]; exact h.notg j (by omega)
  · have ei : i ≠ k := by omega
    simp only [if_neg ei] at hi
    by_cases e : j = k
    · subst e; simp only [if_true]
      intro hj'
      have h1 := (ho.lt b hj').1
      have h2 := ((h.own i (by omega)).lt b hi).2
      omega
    · simp only [if_neg e]; exact h.apart i j hij (by omega) b hi

set_option maxHeartbeats 2000000 in
theorem toFileS_any (A : Option Addr) (n c lo hi : Nat) (fs : List Fil) (w : World) (ha : FilesR w lo hi A n fs) (hhi : hi ≤ w.heap.size) (hs : FilsSmall fs) :
    Calls Tryz.prog 29 #[.slice A n c] w fun e w' => ∃ A', e = .returned (.slice A' n n) ∧ OwnFils w' w.heap.size w'.heap.size A' fs ∧ Below w.heap.size w w' := by
  have hlen := ha.1
  subst hlen
  have hmk := fun W => make_files fs.length hs.1 W
  have hn := hs.1
  have H0 := Lib.hid (Blk.new w 55 (madeCells zeroFil (fs.length * 4)))
  have HB0 := Lib.hid ((Below.refl w.heap.size w).alloc (Nat.le_refl _) (.cells (madeCells zeroFil (fs.length * 4)) 55))
  have HA := Lib.hid ha; have HS := Lib.hid hs
  clear ha hs
  go_enter Tryz.func29, Tryz.ntmps29
  go_wp2_with fail
  go_loopw [4] (fun i wr => ∃ (k : Nat) (cs : Array Value) (L : Nat → Option Addr) (C : Nat → Nat), k ≤ fs.length ∧ i = .int .i64 k ∧ cs.size = fs.length * 4 ∧ OwnFs wr w.heap.size w.heap.size cs L C fs k ∧ Below w.heap.size w wr) (fun i _ => fs.length - (intOf i).toNat)
  case atStart => exact ⟨0, _, fun _ => none, fun _ => 0, Nat.zero_le _, rfl, size_madeCells _ _, ⟨H0.out, fun j hj => absurd hj (by omega), fun j hj => absurd hj (by omega), fun j hj => absurd hj (by omega), fun i j _ hj => absurd hj (by omega)⟩, HB0.out⟩
  case round =>
    clear hmk
    obtain ⟨k, cs, L, C, hk, rfl, hcs, ho, hb⟩ := hrel
    by_cases hlt : k < fs.length
    · obtain ⟨b, off, rfl, hb1, hb2, L1, d1, e0, e1, e2, e3, hL⟩ := (HA.out.below hb hhi).at_ hlt
      have HX := Lib.hid (HS.out.2 _ (getD_mem (d := filD) hlt))
      have HN := Lib.hid (fun w1 A1 c1 hb1 ho1 => OwnFs.add (w1 := w1) (A := A1) (c := c1) ho hb1 hb.size ho1 (by omega))
      have HSZ := Lib.hid (put4_size cs (k * 4))
      have HC := Lib.hid hcs
      obtain ⟨x0, q0⟩ : ∃ x, cs[k * 4]? = some x := ⟨_, Array.getElem?_eq_getElem (by omega)⟩
      obtain ⟨x1, q1⟩ : ∃ x, cs[k * 4 + 1]? = some x := ⟨_, Array.getElem?_eq_getElem (by omega)⟩
      obtain ⟨x2, q2⟩ : ∃ x, cs[k * 4 + 2]? = some x := ⟨_, Array.getElem?_eq_getElem (by omega)⟩
      obtain ⟨x3, q3⟩ : ∃ x, cs[k * 4 + 3]? = some x := ⟨_, Array.getElem?_eq_getElem (by omega)⟩
      have HBL := Lib.hid ho.blk
      generalize fs.getD k filD = F at *
      have HB := Lib.hid hb; have HL := Lib.hid hL
      have hsz := hb.size
      clear hb hL ho hcs
      go_wp2_with fail
      refine (toFile_any F _ lo hi _ ⟨_, _, rfl, HL.out⟩ (by omega) HX.out).mono ?_
      rintro e5 w5 ⟨A5, c5, rfl, ho5, hb5⟩
      have HN5 := Lib.hid (HN.out w5 A5 c5 hb5 ho5)
      have B5 := HBL.out.below hb5 HBL.out.lt
      have f5 := B5.cell
      have z5 := B5.frozen
      have s5 := hb5.size
      have HB5 := Lib.hid (HB.out.trans (hb5.mono hsz))
      clear hb5 ho5 B5 HN HBL e0 e1 e2 e3
      go_wp2_with fail
      go_roundw
      case rel =>
        refine ⟨k + 1, _, _, _, by omega, by go_num, ?_, HN5.out, ?_⟩
        · rw [HSZ.out]; exact HC.out
        · iterate 4 (with_reducible refine Below.setCell ?_ (by simp) _)
          exact HB5.out
      case measure => simp [intOf]; omega
    · go_wp2_with fail
      go_ret
      obtain rfl : k = fs.length := by omega
      refine ⟨_, rfl, .inr ⟨_, cs, L, C, rfl, Nat.le_refl _, ho.blk.lt, ho, fun j hj b hb' => ((ho.own j hj).lt b hb').2⟩, hb⟩

theorem loc_strR0 (lo hi : Nat) (A : Option Addr) (n : Nat) (xs : List ByteArray) : Loc lo hi (fun w => StrR w lo hi A n xs) := fun _ _ hk h => h.keep hk
theorem heap_size_alloc1 (w : World) (o : Obj) : (w.alloc o).heap.size = w.heap.size + 1 := by simp

set_option maxHeartbeats 1000000 in
/-- Two values of one file: eqFile says yes. -/
theorem eqFile_same (f : Fil) (v v' : Value) (lo hi lo' hi' : Nat) (w : World) (hx : FilR w lo hi v f) (hx' : FilR w lo' hi' v' f) (hhi : hi ≤ w.heap.size) (hhi' : hi' ≤ w.heap.size) (hs : f.lines.length ≤ 1048576) :
    Calls Tryz.prog 79 #[v, v'] w fun e w' => e = .returned (.bool true) ∧ Below w.heap.size w w' := by
  obtain ⟨name, lines, part, at_⟩ := f
  obtain ⟨A, c, rfl, hA⟩ := hx
  obtain ⟨A', c', rfl, hA'⟩ := hx'
  dsimp only at *
  have R1 := (((((Stand.nil w).add lo hi _ (loc_strR0 lo hi A _ lines) hhi hA).add lo' hi' _ (loc_strR0 lo' hi' A' _ lines) hhi' hA').box 55 #[.string name, .slice A lines.length c, .string part, .int .i64 at_])).box 55 #[.string name, .slice A' lines.length c', .string part, .int .i64 at_]
  rw [heap_size_alloc1] at R1
  have HR1 := Lib.hid R1
  clear hA hA' R1
  go_enter Tryz.func79, Tryz.ntmps79
  go_wp2_with fail
  refine (eqStringS_b _ _ _ _ _ _ lo hi lo' hi' lines lines _ (HR1.out.get 3 rfl) (HR1.out.get 2 rfl) (by omega) (by omega)).mono ?_
  rintro e1 w1 ⟨rfl, hb1⟩
  rw [decide_eq_true rfl]
  have HR2 := Lib.hid (HR1.out.below hb1)
  have f1 := (HR2.out.get 1 rfl).cell
  have f0 := (HR2.out.get 0 rfl).cell
  clear hb1 HR1
  go_wp2_with fail
  go_ret
  exact ⟨rfl, HR2.out.1⟩

set_option maxHeartbeats 1000000 in
theorem eqFileS_same (A A' : Option Addr) (n c c' lo hi lo' hi' : Nat) (fs : List Fil) (w : World) (ha : FilesR w lo hi A n fs) (ha' : FilesR w lo' hi' A' n fs) (hhi : hi ≤ w.heap.size) (hhi' : hi' ≤ w.heap.size) (hs : FilsSmall fs) :
    Calls Tryz.prog 39 #[.slice A n c, .slice A' n c'] w fun e w' => e = .returned (.bool true) ∧ Below w.heap.size w w' := by
  have hlen := ha.1
  subst hlen
  have hn := hs.1
  have HA := Lib.hid ha; have HA' := Lib.hid ha'; have HS := Lib.hid hs
  clear ha ha' hs
  go_enter Tryz.func39, Tryz.ntmps39
  go_wp2_with fail
  go_loopw [5] (fun i wr => ∃ k : Nat, k ≤ fs.length ∧ i = .int .i64 k ∧ Below w.heap.size w wr) (fun i _ => fs.length - (intOf i).toNat)
  case atStart => exact ⟨0, Nat.zero_le _, rfl, Below.refl _ _⟩
  case round =>
    obtain ⟨k, hk, rfl, hb⟩ := hrel
    by_cases hlt : k < fs.length
    · obtain ⟨b, off, rfl, hb1, hb2, L1, d1, e0, e1, e2, e3, hL⟩ := (HA.out.below hb hhi).at_ hlt
      obtain ⟨b', off', rfl, hb1', hb2', L1', d1', e0', e1', e2', e3', hL'⟩ := (HA'.out.below hb hhi').at_ hlt
      have HX := Lib.hid (HS.out.2 _ (getD_mem (d := filD) hlt))
      generalize fs.getD k filD = F at *
      have HB := Lib.hid hb; have HL := Lib.hid hL; have HL' := Lib.hid hL'
      have hsz := hb.size
      clear hb hL hL'
      have hwi : hi ≤ wr.drew.heap.size := (show hi ≤ wr.heap.size by omega)
      have hwi' : hi' ≤ wr.drew.heap.size := (show hi' ≤ wr.heap.size by omega)
      have hbw : b < wr.drew.heap.size := (show b < wr.heap.size by omega)
      have hbw' : b' < wr.drew.heap.size := (show b' < wr.heap.size by omega)
      have HBd := Lib.hid HB.out.drew
      have HLd := Lib.hid (HL.out.drewN 1); have HLd' := Lib.hid (HL'.out.drewN 1)
      go_wp2_with fail
      go_region_held3 (fun w' => w'.cell? ⟨b, off + k * 4, none⟩ = some (.string F.name) ∧ w'.cell? ⟨b, off + k * 4 + 1, none⟩ = some (.slice L1 F.lines.length d1) ∧ w'.cell? ⟨b, off + k * 4 + 2, none⟩ = some (.string F.part) ∧ w'.cell? ⟨b, off + k * 4 + 3, none⟩ = some (.int .i64 F.at_) ∧ w'.cell? ⟨b', off' + k * 4, none⟩ = some (.string F.name) ∧ w'.cell? ⟨b', off' + k * 4 + 1, none⟩ = some (.slice L1' F.lines.length d1') ∧ w'.cell? ⟨b', off' + k * 4 + 2, none⟩ = some (.string F.part) ∧ w'.cell? ⟨b', off' + k * 4 + 3, none⟩ = some (.int .i64 F.at_) ∧ Below w.heap.size w w')
        (first | exact ⟨e0, e1, e2, e3, e0', e1', e2', e3', HB.out⟩ | exact ⟨e0, e1, e2, e3, e0', e1', e2', e3', HBd.out⟩ | exact ⟨(hb5.cell hbw).trans e0, (hb5.cell hbw).trans e1, (hb5.cell hbw).trans e2, (hb5.cell hbw).trans e3, (hb5.cell hbw').trans e0', (hb5.cell hbw').trans e1', (hb5.cell hbw').trans e2', (hb5.cell hbw').trans e3', HBd.out.trans (hb5.mono HBd.out.size)⟩)
        (first | (go_at_call 79; (refine (eqFile_same F _ _ lo hi lo' hi' wr.drew ⟨L1, d1, rfl, HLd.out⟩ ⟨L1', d1', rfl, HLd'.out⟩ hwi hwi' HX.out.2.2.1).mono ?_); rintro e5 w5 ⟨rfl, hb5⟩))
      have HB5 := Lib.hid (HBd.out.trans (hb5.mono HBd.out.size))
      clear hb5 e0 e1 e2 e3 e0' e1' e2' e3'
      go_wp2_with fail
      go_roundw
      case rel => exact ⟨k + 1, by omega, by go_num, HB5.out⟩
      case measure => simp [intOf]; omega
    · have HB := Lib.hid hb; clear hb
      go_wp2_with fail
      go_ret
      exact ⟨rfl, HB.out⟩

end Go.Proofs.YtmeholhmadeehaaGreatDoor

/- Names: both NameOk compute one plain function. -/
namespace Go.Proofs.YtmeholhmadeehaaGreatDoor
open Go.RowKit

def letterB (c : Nat) : Bool := decide ((97 ≤ c ∧ c ≤ 122) ∨ (65 ≤ c ∧ c ≤ 90))
def digitB (c : Nat) : Bool := decide (48 ≤ c ∧ c ≤ 57)
/-- A byte that may stand at place j of a name. -/
def nameCh (j c : Nat) : Bool := letterB c || (decide (j = 0) && decide (c = 37)) || (decide (j ≠ 0) && digitB c)
def nameTo (s : ByteArray) (k : Nat) : Bool := (List.range k).all fun j => nameCh j (s.get! j).toNat
def nameB (s : ByteArray) : Bool := decide (1 ≤ s.size) && decide (s.size ≤ 8) && nameTo s s.size

theorem byte_at {s : ByteArray} {k : Nat} (h : k < s.size) : s.get! k = s[k] := by
  show s.data[k]! = s.data[k]
  exact getElem!_pos s.data k h

theorem nameTo_succ (s : ByteArray) (k : Nat) : nameTo s (k + 1) = (nameTo s k && nameCh k (s.get! k).toNat) := by
  unfold nameTo
  rw [List.range_succ, List.all_append]
  simp

theorem nameTo_false {s : ByteArray} {k n : Nat} (hk : k < n) (h : nameCh k (s.get! k).toNat = false) : nameTo s n = false := by
  unfold nameTo
  rw [List.all_eq_false]
  exact ⟨k, by simpa using hk, by simp [h]⟩

set_option maxHeartbeats 400000 in
theorem isLetter_any (c : Nat) (w : World) (hc : c ≤ 255) : Calls Tryz.prog 84 #[.int .u8 c] w fun e w' => e = .returned (.bool (letterB c)) ∧ w = w' := by
  rcases (show (97 ≤ c ∧ c ≤ 122) ∨ (65 ≤ c ∧ c ≤ 90) ∨ (122 < c) ∨ (90 < c ∧ c < 97) ∨ c < 65 from by omega) with h | h | h | h | h
  all_goals
    go_enter Tryz.func84, Tryz.ntmps84
    go_wp2
    go_ret
    refine ⟨?_, rfl⟩
    refine congrArg (fun b => Ending.returned (.bool b)) ?_
    unfold letterB
    rw [Bool.eq_iff_iff]
    simp
    try omega
theorem isLetter_t (c : Nat) (w : World) (hc : c ≤ 255) (h : letterB c = true) : Calls Tryz.prog 84 #[.int .u8 c] w fun e w' => e = .returned (.bool true) ∧ w = w' := h ▸ isLetter_any c w hc
theorem isLetter_f (c : Nat) (w : World) (hc : c ≤ 255) (h : letterB c = false) : Calls Tryz.prog 84 #[.int .u8 c] w fun e w' => e = .returned (.bool false) ∧ w = w' := h ▸ isLetter_any c w hc

set_option maxHeartbeats 400000 in
theorem isDigit_any (c : Nat) (w : World) (hc : c ≤ 255) : Calls Tryz.prog 85 #[.int .u8 c] w fun e w' => e = .returned (.bool (digitB c)) ∧ w = w' := by
  rcases (show (48 ≤ c ∧ c ≤ 57) ∨ 57 < c ∨ c < 48 from by omega) with h | h | h
  all_goals
    go_enter Tryz.func85, Tryz.ntmps85
    go_wp2
    go_ret
    refine ⟨?_, rfl⟩
    refine congrArg (fun b => Ending.returned (.bool b)) ?_
    unfold digitB
    rw [Bool.eq_iff_iff]
    simp
    try omega
theorem isDigit_t (c : Nat) (w : World) (hc : c ≤ 255) (h : digitB c = true) : Calls Tryz.prog 85 #[.int .u8 c] w fun e w' => e = .returned (.bool true) ∧ w = w' := h ▸ isDigit_any c w hc
theorem isDigit_f (c : Nat) (w : World) (hc : c ≤ 255) (h : digitB c = false) : Calls Tryz.prog 85 #[.int .u8 c] w fun e w' => e = .returned (.bool false) ∧ w = w' := h ▸ isDigit_any c w hc

set_option maxHeartbeats 400000 in
theorem l02Letter_any (c : Nat) (w : World) (hc : c ≤ 255) : Calls Tryz.prog 129 #[.int .u8 c] w fun e w' => e = .returned (.bool (letterB c)) ∧ w = w' := by
  rcases (show (97 ≤ c ∧ c ≤ 122) ∨ (65 ≤ c ∧ c ≤ 90) ∨ (122 < c) ∨ (90 < c ∧ c < 97) ∨ c < 65 from by omega) with h | h | h | h | h
  all_goals
    go_enter Tryz.func129, Tryz.ntmps129
    go_wp2
    go_ret
    refine ⟨?_, rfl⟩
    refine congrArg (fun b => Ending.returned (.bool b)) ?_
    unfold letterB
    rw [Bool.eq_iff_iff]
    simp
    try omega
theorem l02Letter_t (c : Nat) (w : World) (hc : c ≤ 255) (h : letterB c = true) : Calls Tryz.prog 129 #[.int .u8 c] w fun e w' => e = .returned (.bool true) ∧ w = w' := h ▸ l02Letter_any c w hc
theorem l02Letter_f (c : Nat) (w : World) (hc : c ≤ 255) (h : letterB c = false) : Calls Tryz.prog 129 #[.int .u8 c] w fun e w' => e = .returned (.bool false) ∧ w = w' := h ▸ l02Letter_any c w hc

set_option maxHeartbeats 400000 in
theorem l01Digit_any (c : Nat) (w : World) (hc : c ≤ 255) : Calls Tryz.prog 130 #[.int .u8 c] w fun e w' => e = .returned (.bool (digitB c)) ∧ w = w' := by
  rcases (show (48 ≤ c ∧ c ≤ 57) ∨ 57 < c ∨ c < 48 from by omega) with h | h | h
  all_goals
    go_enter Tryz.func130, Tryz.ntmps130
    go_wp2
    go_ret
    refine ⟨?_, rfl⟩
    refine congrArg (fun b => Ending.returned (.bool b)) ?_
    unfold digitB
    rw [Bool.eq_iff_iff]
    simp
    try omega
theorem l01Digit_t (c : Nat) (w : World) (hc : c ≤ 255) (h : digitB c = true) : Calls Tryz.prog 130 #[.int .u8 c] w fun e w' => e = .returned (.bool true) ∧ w = w' := h ▸ l01Digit_any c w hc
theorem l01Digit_f (c : Nat) (w : World) (hc : c ≤ 255) (h : digitB c = false) : Calls Tryz.prog 130 #[.int .u8 c] w fun e w' => e = .returned (.bool false) ∧ w = w' := h ▸ l01Digit_any c w hc

theorem byte_le (c : UInt8) : c.toNat ≤ 255 := by have := c.toNat_lt; omega

set_option maxHeartbeats 4000000 in
theorem implNameOk_any (s : ByteArray) (w : World) (hs : s.size ≤ 9223372036854775807) :
    Calls Tryz.prog 50 #[.string s] w fun e w' => e = .returned (.bool (nameB s)) ∧ w = w' := by
  go_enter Tryz.func50, Tryz.ntmps50
  go_wp2
  go_loop [3] (fun i => ∃ k : Nat, k ≤ s.size ∧ i = .int .i64 k ∧ nameTo s k = true) (fun i => s.size - (intOf i).toNat)
  case atStart => exact ⟨0, Nat.zero_le _, rfl, rfl⟩
  case round =>
    obtain ⟨k, hk, rfl, ht⟩ := hrel
    have HT := Lib.hid ht; clear ht
    by_cases hlt : k < s.size
    · have hb := byte_at hlt
      have HB := Lib.hid hb; clear hb
      have hok : nameCh k s[k].toNat = true → nameTo s (k + 1) = true := fun h => by rw [nameTo_succ, HT.out, HB.out, h]; rfl
      have hno : nameCh k s[k].toNat = false → nameB s = false := fun h => by unfold nameB; rw [nameTo_false hlt (by rw [HB.out]; exact h), Bool.and_false]
      have HOK := Lib.hid hok; have HNO := Lib.hid hno; clear hok hno
      have h255 := byte_le s[k]
      cases hL : letterB s[k].toNat
      · have HL := Lib.hid hL; clear hL
        by_cases h0 : k = 0
        · subst h0
          by_cases h37 : s[0].toNat = 37
          · have h37b : ((s[0].toNat : Int) == 37) = true := by rw [beq_iff_eq]; omega
            have hch : nameCh 0 s[0].toNat = true := by simp [nameCh, h37]
            have HC := Lib.hid hch; have H37 := Lib.hid h37; clear h37 hch
            go_wp2_with (go_at_call 84; refine (isLetter_f _ _ h255 HL.out).mono ?_; rintro e w' ⟨rfl, rfl⟩)
            go_round
            case rel => exact ⟨0 + 1, by omega, by go_num, HOK.out HC.out⟩
            case measure => simp [intOf]; omega
          · have h37b : ((s[0].toNat : Int) == 37) = false := by rw [beq_eq_false_iff_ne]; omega
            have hch : nameCh 0 s[0].toNat = false := by simp [nameCh, h37, HL.out]
            have HC := Lib.hid hch; clear hch
            go_wp2_with (go_at_call 84; refine (isLetter_f _ _ h255 HL.out).mono ?_; rintro e w' ⟨rfl, rfl⟩)
            go_ret
            exact ⟨by rw [HNO.out HC.out]; rfl, rfl⟩
        · have hk0 : ((k : Int) == 0) = false := by rw [beq_eq_false_iff_ne]; omega
          cases hD : digitB s[k].toNat
          · have hch : nameCh k s[k].toNat = false := by simp [nameCh, HL.out, hD, h0]
            have HC := Lib.hid hch; have HD := Lib.hid hD; clear hch hD
            go_wp2_with (first | (go_at_call 84; refine (isLetter_f _ _ h255 HL.out).mono ?_; rintro e w' ⟨rfl, rfl⟩) | (go_at_call 85; refine (isDigit_f _ _ h255 HD.out).mono ?_; rintro e w' ⟨rfl, rfl⟩))
            go_ret
            exact ⟨by rw [HNO.out HC.out]; rfl, rfl⟩
          · have hch : nameCh k s[k].toNat = true := by simp [nameCh, HL.out, hD, h0]
            have HC := Lib.hid hch; have HD := Lib.hid hD; clear hch hD
            go_wp2_with (first | (go_at_call 84; refine (isLetter_f _ _ h255 HL.out).mono ?_; rintro e w' ⟨rfl, rfl⟩) | (go_at_call 85; refine (isDigit_t _ _ h255 HD.out).mono ?_; rintro e w' ⟨rfl, rfl⟩))
            go_round
            case rel => exact ⟨k + 1, by omega, by go_num, HOK.out HC.out⟩
            case measure => simp [intOf]; omega
      · have hch : nameCh k s[k].toNat = true := by simp [nameCh, hL]
        have HC := Lib.hid hch; have HL := Lib.hid hL; clear hch hL
        go_wp2_with (go_at_call 84; refine (isLetter_t _ _ h255 HL.out).mono ?_; rintro e w' ⟨rfl, rfl⟩)
        go_round
        case rel => exact ⟨k + 1, by omega, by go_num, HOK.out HC.out⟩
        case measure => simp [intOf]; omega
    · obtain rfl : k = s.size := by omega
      by_cases h1 : 1 ≤ s.size
      · by_cases h8 : s.size ≤ 8
        all_goals
          go_wp2
          go_ret
          refine ⟨?_, rfl⟩
          refine congrArg (fun b => Ending.returned (.bool b)) ?_
          unfold nameB
          rw [HT.out, Bool.eq_iff_iff]
          simp
          omega
      · go_wp2
        go_ret
        refine ⟨?_, rfl⟩
        unfold nameB
        simp [h1]

theorem nameTo_one (s : ByteArray) : nameTo s 1 = nameCh 0 (s.get! 0).toNat := by simp [nameTo, List.range_succ]

set_option maxHeartbeats 4000000 in
theorem l02Name_any (s : ByteArray) (w : World) (hs : s.size ≤ 9223372036854775807) :
    Calls Tryz.prog 118 #[.string s] w fun e w' => e = .returned (.bool (nameB s)) ∧ w = w' := by
  by_cases h1 : s.size < 1
  · have hB : nameB s = false := by unfold nameB; simp; omega
    rw [hB]; clear hB
    go_enter Tryz.func118, Tryz.ntmps118
    go_wp2
    go_ret
    exact ⟨rfl, rfl⟩
  by_cases h8 : 8 < s.size
  · have hB : nameB s = false := by unfold nameB; simp; omega
    rw [hB]; clear hB
    go_enter Tryz.func118, Tryz.ntmps118
    go_wp2
    go_ret
    exact ⟨rfl, rfl⟩
  have hp : 0 < s.size := by omega
  have h255 := byte_le s[0]
  have HB0 := Lib.hid (byte_at hp)
  have hno : nameCh 0 s[0].toNat = false → nameB s = false := fun h => by unfold nameB; rw [nameTo_false hp (by rw [HB0.out]; exact h), Bool.and_false]
  have HNO := Lib.hid hno; clear hno
  have d1 : decide ((s.size : Int) < 1) = false := by simp; omega
  have d8 : decide (8 < (s.size : Int)) = false := by simp; omega
  by_cases hfirst : nameCh 0 s[0].toNat = true
  · have ht1 : nameTo s 1 = true := by rw [nameTo_one, HB0.out]; exact hfirst
    have HT1 := Lib.hid ht1; clear ht1
    have hcase : (letterB s[0].toNat = true ∧ True) ∨ (letterB s[0].toNat = false ∧ ((s[0].toNat : Int) != 37) = false) := by
      cases hL : letterB s[0].toNat
      · have h37 : s[0].toNat = 37 := by simpa [nameCh, hL] using hfirst
        exact .inr ⟨rfl, by rw [h37]; rfl⟩
      · exact .inl ⟨rfl, trivial⟩
    clear hfirst HNO
    rcases hcase with ⟨hL, hp37⟩ | ⟨hL, hp37⟩
    all_goals
      have HL := Lib.hid hL; clear hL
      go_enter Tryz.func118, Tryz.ntmps118
      go_wp2_with (go_at_call 129; first | (refine (l02Letter_f _ _ h255 HL.out).mono ?_; rintro e w' ⟨rfl, rfl⟩) | (refine (l02Letter_t _ _ h255 HL.out).mono ?_; rintro e w' ⟨rfl, rfl⟩))
      go_loop [3] (fun i => ∃ k : Nat, 1 ≤ k ∧ k ≤ s.size ∧ i = .int .i64 k ∧ nameTo s k = true) (fun i => s.size - (intOf i).toNat)
      case atStart => exact ⟨1, by omega, by omega, rfl, HT1.out⟩
      case round =>
        obtain ⟨k, h1k, hk, rfl, ht⟩ := hrel
        have HT := Lib.hid ht; clear ht
        by_cases hlt : k < s.size
        · have HB := Lib.hid (byte_at hlt)
          have h255' := byte_le s[k]
          have hok : nameCh k s[k].toNat = true → nameTo s (k + 1) = true := fun h => by rw [nameTo_succ, HT.out, HB.out, h]; rfl
          have hno : nameCh k s[k].toNat = false → nameB s = false := fun h => by unfold nameB; rw [nameTo_false hlt (by rw [HB.out]; exact h), Bool.and_false]
          have HOK := Lib.hid hok; have HNO := Lib.hid hno; clear hok hno
          have hk0 : k ≠ 0 := by omega
          cases hL : letterB s[k].toNat
          · cases hD : digitB s[k].toNat
            · have HC := Lib.hid (show nameCh k s[k].toNat = false by simp [nameCh, hL, hD, hk0])
              have HL2 := Lib.hid hL; have HD := Lib.hid hD; clear hL hD
              go_wp2_with (first | (go_at_call 129; refine (l02Letter_f _ _ h255' HL2.out).mono ?_; rintro e w' ⟨rfl, rfl⟩) | (go_at_call 130; refine (l01Digit_f _ _ h255' HD.out).mono ?_; rintro e w' ⟨rfl, rfl⟩))
              go_ret
              exact ⟨by rw [HNO.out HC.out]; rfl, rfl⟩
            · have HC := Lib.hid (show nameCh k s[k].toNat = true by simp [nameCh, hL, hD, hk0])
              have HL2 := Lib.hid hL; have HD := Lib.hid hD; clear hL hD
              go_wp2_with (first | (go_at_call 129; refine (l02Letter_f _ _ h255' HL2.out).mono ?_; rintro e w' ⟨rfl, rfl⟩) | (go_at_call 130; refine (l01Digit_t _ _ h255' HD.out).mono ?_; rintro e w' ⟨rfl, rfl⟩))
              go_round
              case rel => exact ⟨k + 1, by omega, by omega, by go_num, HOK.out HC.out⟩
              case measure => simp [intOf]; omega
          · have HC := Lib.hid (show nameCh k s[k].toNat = true by simp [nameCh, hL])
            have HL2 := Lib.hid hL; clear hL
            go_wp2_with (go_at_call 129; refine (l02Letter_t _ _ h255' HL2.out).mono ?_; rintro e w' ⟨rfl, rfl⟩)
            go_round
            case rel => exact ⟨k + 1, by omega, by omega, by go_num, HOK.out HC.out⟩
            case measure => simp [intOf]; omega
        · obtain rfl : k = s.size := by omega
          go_wp2
          go_ret
          refine ⟨?_, rfl⟩
          refine congrArg (fun b => Ending.returned (.bool b)) ?_
          unfold nameB
          rw [HT.out, Bool.eq_iff_iff]
          simp
          omega
  · have hfirst' : nameCh 0 s[0].toNat = false := by simpa using hfirst
    have HB := Lib.hid (HNO.out hfirst')
    have hl : letterB s[0].toNat = false := by
      cases hL : letterB s[0].toNat
      · rfl
      · simp [nameCh, hL] at hfirst
    have hp37 : ((s[0].toNat : Int) != 37) = true := by
      rw [bne_iff_ne]
      intro h
      have h37 : s[0].toNat = 37 := by omega
      simp [nameCh, h37] at hfirst
    have HL := Lib.hid hl; clear hl hfirst hfirst' HNO
    go_enter Tryz.func118, Tryz.ntmps118
    go_wp2_with (go_at_call 129; refine (l02Letter_f _ _ h255 HL.out).mono ?_; rintro e w' ⟨rfl, rfl⟩)
    go_ret
    exact ⟨by rw [HB.out]; rfl, rfl⟩

theorem specNameOk_any (s : ByteArray) (w : World) (hs : s.size ≤ 9223372036854775807) :
    Calls Tryz.prog 98 #[.string s] w fun e w' => e = .returned (.bool (nameB s)) ∧ w = w' := by
  go_enter Tryz.func98, Tryz.ntmps98
  go_wp2_with (go_at_call 118; refine (l02Name_any s _ hs).mono ?_; rintro e w' ⟨rfl, rfl⟩)
  go_ret
  exact ⟨rfl, rfl⟩

end Go.Proofs.YtmeholhmadeehaaGreatDoor
