/- Files: their values, slices of them; walks of szFile, szFileS. -/
import Derived.Test.YtcfmgmbolnifgaaActTo
import Derived.Test.YtcfmgmbolnifgaaLaw
namespace Go.Proofs.Ytcfmgmbolnifgaa
open Go.RowKit

structure Fil where
  name : ByteArray
  lines : List ByteArray
  part : ByteArray
  at_ : Int

def filD : Fil := ⟨ByteArray.empty, [], ByteArray.empty, 0⟩

/-- The value v of a file reads as f. -/
def FilR (w : World) (lo hi : Nat) (v : Value) (f : Fil) : Prop :=
  ∃ A c, v = .agg #[.string f.name, .slice A f.lines.length c, .string f.part, .int .i64 f.at_] ∧ StrR w lo hi A f.lines.length f.lines
theorem FilR.below {w w' : World} {lo hi B : Nat} {v : Value} {f : Fil} (h : FilR w lo hi v f) (hb : Below B w w') (hB : hi ≤ B) : FilR w' lo hi v f := by
  obtain ⟨A, c, hv, h1⟩ := h
  exact ⟨A, c, hv, h1.below hb hB⟩
theorem FilR.more {w : World} {lo hi lo' hi' : Nat} {v : Value} {f : Fil} (h : FilR w lo hi v f) (h1 : lo' ≤ lo) (h2 : hi ≤ hi') : FilR w lo' hi' v f := by
  obtain ⟨A, c, hv, h3⟩ := h
  exact ⟨A, c, hv, h3.more h1 h2⟩

/-- At cell o of block b there lies a file that reads as f. -/
def FilAt (w : World) (lo hi b o : Nat) (f : Fil) : Prop :=
  ∃ A c, w.cell? ⟨b, o, none⟩ = some (.string f.name) ∧ w.cell? ⟨b, o + 1, none⟩ = some (.slice A f.lines.length c) ∧ w.cell? ⟨b, o + 2, none⟩ = some (.string f.part) ∧ w.cell? ⟨b, o + 3, none⟩ = some (.int .i64 f.at_) ∧ StrR w lo hi A f.lines.length f.lines

/-- The slice with address A and n files reads as fs; all of it lies in blocks from lo up to, not including, hi. -/
def FilesR (w : World) (lo hi : Nat) (A : Option Addr) (n : Nat) (fs : List Fil) : Prop :=
  fs.length = n ∧ (0 < n → ∃ b off, A = some ⟨b, off, none⟩ ∧ lo ≤ b ∧ b < hi ∧ ∀ j, j < n → FilAt w lo hi b (off + j * 4) (fs.getD j filD))

theorem FilesR.keep {w w' : World} {lo hi : Nat} {A : Option Addr} {n : Nat} {fs : List Fil} (h : FilesR w lo hi A n fs) (hk : ∀ b, lo ≤ b → b < hi → w'.heap[b]? = w.heap[b]?) : FilesR w' lo hi A n fs :=
  ⟨h.1, fun hn => by
    obtain ⟨b, off, e, h1, h2, hc⟩ := h.2 hn
    refine ⟨b, off, e, h1, h2, fun j hj => ?_⟩
    obtain ⟨L, c, e0, e1, e2, e3, hL⟩ := hc j hj
    have hkb := hk b h1 h2
    exact ⟨L, c, (World.cell?_of_block hkb).trans e0, (World.cell?_of_block hkb).trans e1, (World.cell?_of_block hkb).trans e2, (World.cell?_of_block hkb).trans e3, hL.keep hk⟩⟩
theorem FilesR.below {w w' : World} {lo hi B : Nat} {A : Option Addr} {n : Nat} {fs : List Fil} (h : FilesR w lo hi A n fs) (hb : Below B w w') (hB : hi ≤ B) : FilesR w' lo hi A n fs :=
  h.keep fun b _ h2 => hb.block b (by omega)
theorem FilesR.at_ {w : World} {lo hi : Nat} {A : Option Addr} {n : Nat} {fs : List Fil} {k : Nat} (h : FilesR w lo hi A n fs) (hk : k < n) :
    ∃ b off, A = some ⟨b, off, none⟩ ∧ lo ≤ b ∧ b < hi ∧ FilAt w lo hi b (off + k * 4) (fs.getD k filD) := by
  obtain ⟨b, off, e, h1, h2, hc⟩ := h.2 (by omega)
  exact ⟨b, off, e, h1, h2, hc k hk⟩
theorem loc_filesR (lo hi : Nat) (A : Option Addr) (n : Nat) (fs : List Fil) : Loc lo hi (fun w => FilesR w lo hi A n fs) := fun _ _ hk h => h.keep hk

def costFil (f : Fil) : Nat := f.name.size + costStrs f.lines + f.part.size
def costFilTo (fs : List Fil) (k : Nat) : Nat := ((fs.take k).map costFil).sum
def costFils (fs : List Fil) : Nat := fs.length + (fs.map costFil).sum
def FilReach (f : Fil) : Prop := f.name.size ≤ 9223372036854775807 ∧ f.part.size ≤ 9223372036854775807 ∧ f.lines.length ≤ 9223372036854775807 ∧ ∀ y ∈ f.lines, y.size ≤ 9223372036854775807
def FilSmall (f : Fil) : Prop := f.name.size ≤ 1048576 ∧ f.part.size ≤ 1048576 ∧ f.lines.length ≤ 1048576 ∧ ∀ y ∈ f.lines, y.size ≤ 1048576
def FilsSmall (fs : List Fil) : Prop := fs.length ≤ 1048576 ∧ ∀ f ∈ fs, FilSmall f

theorem FilSmall.of_cost {f : Fil} (h : costFil f ≤ 1048576) : FilSmall f := by
  unfold costFil costStrs at h
  exact ⟨by omega, by omega, by omega, fun y hy => by have := mem_le_sizeAll hy; omega⟩
theorem cost_mem {fs : List Fil} {f : Fil} (h : f ∈ fs) : costFil f ≤ (fs.map costFil).sum := by
  induction fs with
  | nil => simp at h
  | cons x xs ih =>
    rcases List.mem_cons.1 h with rfl | h
    · simp
    · have := ih h; simp; omega
theorem FilsSmall.of_cost {fs : List Fil} (h : costFils fs ≤ 1048576) : FilsSmall fs := by
  unfold costFils at h
  exact ⟨by omega, fun f hf => FilSmall.of_cost (by have := cost_mem hf; omega)⟩
theorem costFilTo_succ {fs : List Fil} {k : Nat} (h : k < fs.length) : costFilTo fs (k + 1) = costFilTo fs k + costFil (fs.getD k filD) := by
  unfold costFilTo
  rw [List.take_succ_eq_append_getElem h, List.map_append, List.sum_append]
  simp [List.getD_eq_getElem?_getD, List.getElem?_eq_getElem h]
theorem getD_mem {α : Type} {fs : List α} {d : α} {k : Nat} (h : k < fs.length) : fs.getD k d ∈ fs := by
  rw [List.getD_eq_getElem?_getD, List.getElem?_eq_getElem h]
  exact List.getElem_mem _

set_option maxHeartbeats 1000000 in
theorem szFile_any (f : Fil) (v : Value) (lo hi : Nat) (left : Int) (w : World) (hx : FilR w lo hi v f) (hhi : hi ≤ w.heap.size) (hr : FilReach f) (hl0 : 0 ≤ left) (hl : left ≤ 1048576) :
    Calls Try.prog 119 #[v, .int .i64 left] w fun e w' => ∃ m, e = .returned (.int .i64 m) ∧ Left left (costFil f) m ∧ Below w.heap.size w w' := by
  obtain ⟨name, lines, part, at_⟩ := f
  obtain ⟨A, c, rfl, hA⟩ := hx
  obtain ⟨h1, h2, h3, h4⟩ := hr
  dsimp only at *
  have hbo := fun o => (Below.refl w.heap.size w).alloc (Nat.le_refl _) o
  have HA := Lib.hid (fun o => hA.below (hbo o) hhi)
  have HD := Lib.hid hbo
  have H4 := Lib.hid h4
  clear hA hbo h4
  by_cases g1 : left - (name.size : Int) < 0
  · go_enter Try.func119, Try.ntmps119
    go_wp2_with fail
    go_ret
    exact ⟨_, rfl, .inl rfl, HD.out _⟩
  go_enter Try.func119, Try.ntmps119
  go_wp2_with fail
  refine (szStringS_m _ _ _ lo hi _ lines _ (HA.out _) (by omega) (by omega) (by omega) H4.out).mono ?_
  rintro e1 w1 ⟨m1, rfl, hm1, rfl⟩
  rcases hm1 with rfl | ⟨hm0, hm1⟩
  · go_wp2_with fail
    go_ret
    exact ⟨_, rfl, .inl rfl, HD.out _⟩
  have n1 : ¬ (m1 < 0) := by omega
  have HM1 := Lib.hid hm1
  have hm1' : m1 ≤ left := by omega
  clear hm1
  by_cases g2 : m1 - (part.size : Int) < 0
  · go_wp2_with fail
    go_ret
    exact ⟨_, rfl, .inl rfl, HD.out _⟩
  go_wp2_with fail
  go_ret
  refine ⟨_, rfl, .inr ⟨by omega, ?_⟩, HD.out _⟩
  have := HM1.out
  unfold costFil
  dsimp only
  omega

set_option maxHeartbeats 1000000 in
theorem szFileS_any (A : Option Addr) (n c lo hi : Nat) (left : Int) (fs : List Fil) (w : World) (ha : FilesR w lo hi A n fs) (hhi : hi ≤ w.heap.size) (hn : n ≤ 9223372036854775807) (hr : ∀ f ∈ fs, FilReach f) (hl0 : 0 ≤ left) (hl : left ≤ 1048576) :
    Calls Try.prog 81 #[.slice A n c, .int .i64 left] w fun e w' => ∃ m, e = .returned (.int .i64 m) ∧ Left left (costFils fs) m ∧ Below w.heap.size w w' := by
  have hlen := ha.1
  subst hlen
  have HA := Lib.hid ha; have HR := Lib.hid hr
  clear ha hr
  by_cases g0 : left - (fs.length : Int) < 0
  · go_enter Try.func81, Try.ntmps81
    go_wp2_with fail
    go_ret
    exact ⟨_, rfl, .inl rfl, Below.refl _ _⟩
  go_enter Try.func81, Try.ntmps81
  go_wp2_with fail
  go_loopw [1, 5] (fun l i wr => ∃ (k : Nat) (m : Int), k ≤ fs.length ∧ i = .int .i64 k ∧ l = .int .i64 m ∧ 0 ≤ m ∧ m + fs.length + costFilTo fs k = left ∧ Below w.heap.size w wr) (fun _ i _ => fs.length - (intOf i).toNat)
  case atStart => exact ⟨0, _, Nat.zero_le _, rfl, rfl, by omega, by simp [costFilTo], Below.refl _ _⟩
  case round =>
    obtain ⟨k, m, hk, rfl, rfl, hm0, hm, hb⟩ := hrel
    have HM := Lib.hid hm
    have hml : m ≤ 1048576 := by omega
    clear hm
    by_cases hlt : k < fs.length
    · obtain ⟨b, off, rfl, hb1, hb2, L, d, e0, e1, e2, e3, hL⟩ := (HA.out.below hb hhi).at_ hlt
      have HS := Lib.hid (costFilTo_succ hlt)
      have HX := Lib.hid (HR.out _ (getD_mem (d := filD) hlt))
      generalize fs.getD k filD = F at *
      have HB := Lib.hid hb; have HL := Lib.hid hL
      have hsz := hb.size
      clear hb hL
      go_wp2_with fail
      refine (szFile_any F _ lo hi _ _ ⟨_, _, rfl, HL.out⟩ (by omega) HX.out hm0 hml).mono ?_
      rintro e5 w5 ⟨m5, rfl, hm5, hb5⟩
      rcases hm5 with rfl | ⟨hm50, hm5⟩
      · have HB5 := Lib.hid hb5; clear hb5 e0 e1 e2 e3
        go_wp2_with fail
        go_ret
        exact ⟨_, rfl, .inl rfl, HB.out.trans (HB5.out.mono hsz)⟩
      have n5 : ¬ (m5 < 0) := by omega
      have HM5 := Lib.hid hm5
      have HB5 := Lib.hid hb5; clear hb5 e0 e1 e2 e3 hm5
      go_wp2_with fail
      go_roundw
      case rel => exact ⟨k + 1, m5, by omega, by go_num, rfl, hm50, by have := HM.out; have := HM5.out; have := HS.out; omega, HB.out.trans (HB5.out.mono hsz)⟩
      case measure => simp [intOf]; omega
    · go_wp2_with fail
      go_ret
      obtain rfl : k = fs.length := by omega
      refine ⟨_, rfl, .inr ⟨hm0, ?_⟩, hb⟩
      have := HM.out
      unfold costFilTo at this
      rw [List.take_length] at this
      unfold costFils
      omega

end Go.Proofs.Ytcfmgmbolnifgaa
