/- How large devices may be: what the laws of devices lean on. -/
import Derived.Test.YtcfmgmbolnifgaaDevMark
import Derived.Test.YtcfmgmbolnifgaaCloseI
namespace Go.Proofs.Ytcfmgmbolnifgaa
open Go.RowKit

theorem markAt_cost (a : Int) (fs : List Fil) : ∀ n, n ≤ fs.length → markAt a fs n ≤ a + 3 * n + costFilTo fs n
  | 0, _ => by simp [markAt, costFilTo]
  | n + 1, h => by
    have ih := markAt_cost a fs n (by omega)
    have hs := costFilTo_succ (fs := fs) (k := n) (by omega)
    have hc : (fs.getD n filD).lines.length ≤ costFil (fs.getD n filD) := by unfold costFil costStrs; omega
    unfold markAt
    omega
theorem costFilTo_all (fs : List Fil) : costFilTo fs fs.length = (fs.map costFil).sum := by unfold costFilTo; rw [List.take_length]
theorem DevFew.of_cost {d : Dev} (h : costDev d ≤ 1048576) : DevFew d := by
  unfold costDev costFils at h
  have h1 : d.scr.rows.length ≤ costStrs d.scr.rows := by unfold costStrs; omega
  have h2 : d.keys.length ≤ costStrs d.keys := by unfold costStrs; omega
  have h3 := markAt_cost (1 + d.scr.rows.length) d.files d.files.length (Nat.le_refl _)
  rw [costFilTo_all] at h3
  exact ⟨by omega, by omega, by omega, by omega⟩

def FilLow (f : Fil) : Prop := f.name.size ≤ 1000 ∧ f.part.size ≤ 1000 ∧ f.lines.length ≤ 1000 ∧ ∀ y ∈ f.lines, y.size ≤ 1000
structure DevLow (d : Dev) : Prop where
  rows : d.scr.rows.length ≤ 1000
  row : ∀ r ∈ d.scr.rows, r.size ≤ 1000
  files : d.files.length ≤ 1000
  file : ∀ f ∈ d.files, FilLow f
  keys : d.keys.length ≤ 1000
  key : ∀ r ∈ d.keys, r.size ≤ 1000
theorem DevLow.small {d : Dev} (h : DevLow d) : DevSmall d :=
  ⟨⟨by have := h.rows; omega, fun r hr => by have := h.row r hr; omega⟩, ⟨by have := h.files; omega, fun f hf => by
    obtain ⟨a, b, c, e⟩ := h.file f hf
    exact ⟨by omega, by omega, by omega, fun y hy => by have := e y hy; omega⟩⟩, by have := h.keys; omega, fun r hr => by have := h.key r hr; omega⟩
theorem markAt_low (a : Int) (fs : List Fil) (h : ∀ f ∈ fs, FilLow f) : ∀ n, n ≤ fs.length → markAt a fs n ≤ a + 1003 * n
  | 0, _ => by simp [markAt]
  | n + 1, hn => by
    have ih := markAt_low a fs h n (by omega)
    have := (h _ (getD_mem (d := filD) (show n < fs.length by omega))).2.2.1
    unfold markAt
    omega
theorem DevLow.few {d : Dev} (h : DevLow d) : DevFew d := by
  have h1 := h.rows; have h2 := h.files; have h3 := h.keys
  have h4 := markAt_low (1 + d.scr.rows.length) d.files h.file d.files.length (Nat.le_refl _)
  exact ⟨by omega, by omega, by omega, by omega⟩
theorem noDev_low : DevLow noDev := ⟨by simp [noDev, noScr], by simp [noDev, noScr], by simp [noDev], by simp [noDev], by simp [noDev], by simp [noDev]⟩

theorem FilLow.of_ok {f : Fil} (h : filB f = true) : FilLow f := by
  unfold filB nameB at h
  simp only [Bool.and_eq_true, decide_eq_true_eq] at h
  obtain ⟨⟨⟨⟨⟨⟨_, h1⟩, _⟩, h2⟩, h3⟩, _⟩, h5⟩ := h
  have hl : ∀ s, lineB s = true → s.size ≤ 80 := fun s hs => by
    unfold lineB at hs
    simp only [Bool.and_eq_true, decide_eq_true_eq] at hs
    exact hs.1
  refine ⟨by omega, by have := hl _ h3; omega, by omega, fun y hy => ?_⟩
  have := hl _ (List.all_eq_true.1 h5 y hy)
  omega
theorem DevGood.low {d : Dev} (h : DevGood d) : DevLow d := by
  refine ⟨by have := h.fine.len; omega, fun r hr => by have := h.fine.size r hr; omega, by have := h.n3; omega, fun f hf => FilLow.of_ok (h.files f hf), by have := h.k20; omega, fun r hr => ?_⟩
  have h2 := h.keys
  unfold keysB at h2
  have := List.all_eq_true.1 h2 r hr
  unfold keyB at this
  simp only [decide_eq_true_eq] at this
  omega
theorem closeP_low (d : Dev) (nm : ByteArray) : DevLow (closeP d nm).1 := by
  unfold closeP
  split
  · rename_i h
    have hl := (DevGood.of h).low
    split
    · have hs := List.eraseIdx_sublist d.files (place d.files nm)
      exact ⟨hl.rows, hl.row, by have := hs.length_le; have := hl.files; simp only [closeDev]; omega, fun f hf => hl.file f (hs.subset hf), hl.keys, hl.key⟩
    · exact noDev_low
  · exact noDev_low

end Go.Proofs.Ytcfmgmbolnifgaa
