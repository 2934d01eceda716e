/- Walks: szScreen, toScreen, eqScreen, markScreen, heldScreen. -/
import Derived.Test.YtcfmgmbolnifgaaScreenA
import Derived.Test.YtcfmgmbolnifgaaActTo
namespace Go.Proofs.Ytcfmgmbolnifgaa
open Go.RowKit

/-- A screen whose rows are of the call's own, from base on. -/
def OwnScr (w : World) (base : Nat) (v : Value) (s : Scr) : Prop :=
  ∃ A c, v = .agg #[.int .i64 s.row, .int .i64 s.col, .slice A s.rows.length c] ∧ w.ownsRow base 9 1 (.slice A s.rows.length c) s.rows.length (s.rows.map Value.string)

theorem OwnScr.reads {w : World} {base : Nat} {v : Value} {s : Scr} (h : OwnScr w base v s) : ScrR w base w.heap.size v s := by
  obtain ⟨A, c, hv, h1⟩ := h
  exact ⟨A, c, hv, RowR.of_own h1⟩
theorem OwnScr.below {w w' : World} {base : Nat} {v : Value} {s : Scr} (h : OwnScr w base v s) (hb : Below w.heap.size w w') : OwnScr w' base v s := by
  obtain ⟨A, c, hv, h1⟩ := h
  exact ⟨A, c, hv, own_below h1 hb⟩
theorem OwnScr.mono {w : World} {base base' : Nat} {v : Value} {s : Scr} (h : OwnScr w base v s) (hb : base' ≤ base) : OwnScr w base' v s := by
  obtain ⟨A, c, hv, h1⟩ := h
  exact ⟨A, c, hv, own_mono h1 hb⟩

theorem RowR.grown2 {α : Type} {enc : α → Value} {d : α} {w w' : World} {lo hi : Nat} {A : Option Addr} {n : Nat} {xs : List α} {row : Option Nat} (h : RowR enc d w lo hi A n xs) (hg : w.grownBy w' row) (hhi : hi ≤ w.heap.size) (hr : ∀ g, row = some g → g < lo ∨ hi ≤ g) : RowR enc d w' lo hi A n xs :=
  h.keep fun b h1 h2 => hg.block b (by omega) (fun e => by have := hr b e.symm; omega)
theorem ScrR.grown2 {w w' : World} {lo hi : Nat} {v : Value} {s : Scr} {row : Option Nat} (h : ScrR w lo hi v s) (hg : w.grownBy w' row) (hhi : hi ≤ w.heap.size) (hr : ∀ g, row = some g → g < lo ∨ hi ≤ g) : ScrR w' lo hi v s := by
  obtain ⟨A, c, hv, h1⟩ := h
  exact ⟨A, c, hv, h1.grown2 hg hhi hr⟩

theorem grown_alloc {w w' : World} {o : Obj} {row : Option Nat} (h : (w.alloc o).grownBy w' row) : w.grownBy w' row :=
  ⟨h.os, h.tape, h.output, Nat.le_trans (by simp) h.size, fun i hi hn => (h.block i (by simp; omega) hn).trans (Below.heap_alloc w o i hi)⟩

set_option maxHeartbeats 1000000 in
theorem szScreen_any (s : Scr) (v : Value) (lo hi : Nat) (left : Int) (w : World) (hx : ScrR w lo hi v s) (hhi : hi ≤ w.heap.size) (hr : s.rows.length ≤ 9223372036854775807 ∧ ∀ r ∈ s.rows, r.size ≤ 9223372036854775807) (hl0 : 0 ≤ left) (hl : left ≤ 1048576) :
    Calls Try.prog 28 #[v, .int .i64 left] w fun e w' => ∃ m, e = .returned (.int .i64 m) ∧ Left left (costStrs s.rows) m ∧ Below w.heap.size w w' := by
  obtain ⟨A, c, rfl, hA⟩ := hx
  have hbo := fun o => (Below.refl w.heap.size w).alloc (Nat.le_refl _) o
  have HA := Lib.hid (fun o => hA.below (hbo o) hhi)
  have HD := Lib.hid hbo
  have HR := Lib.hid hr
  clear hA hbo hr
  go_enter Try.func28, Try.ntmps28
  go_wp2_with fail
  refine (szStringS_m _ _ _ lo hi _ s.rows _ (HA.out _) HR.out.1 hl0 hl HR.out.2).mono ?_
  rintro e1 w1 ⟨m, rfl, hm, rfl⟩
  rcases hm with rfl | ⟨hm0, hm1⟩
  · go_wp2_with fail
    go_ret
    exact ⟨_, rfl, .inl rfl, HD.out _⟩
  · have HM := Lib.hid hm1; clear hm1
    have nm : ¬ (m < 0) := by omega
    go_wp2_with fail
    go_ret
    exact ⟨_, rfl, .inr ⟨hm0, HM.out⟩, HD.out _⟩

theorem ScrSmall.of_cost {s : Scr} (h : costStrs s.rows ≤ 1048576) : ScrSmall s := by
  unfold costStrs at h
  exact ⟨by omega, fun y hy => by have := mem_le_sizeAll hy; omega⟩

set_option maxHeartbeats 1000000 in
theorem toScreen_any (s : Scr) (v : Value) (lo hi : Nat) (w : World) (hx : ScrR w lo hi v s) (hhi : hi ≤ w.heap.size) (hs : ScrSmall s) :
    Calls Try.prog 30 #[v] w fun e w' => ∃ v', e = .returned v' ∧ OwnScr w' w.heap.size v' s ∧ Below w.heap.size w w' := by
  obtain ⟨A, c, rfl, hA⟩ := hx
  have HA := Lib.hid hA; have HS := Lib.hid hs
  clear hA hs
  go_enter Try.func30, Try.ntmps30
  go_wp2_with fail
  have T0 := Three.start w 46 48 48 #[.int .i64 s.row, .int .i64 s.col, .slice A s.rows.length c] #[.int .i64 0, .int .i64 0, .slice none 0 0] #[.int .i64 s.row, .int .i64 s.col, .slice none 0 0]
  refine (toStringS_any _ _ _ lo hi s.rows _ (HA.out.below T0.2.2.2 hhi) (Nat.le_trans hhi T0.2.2.2.size) HS.out.1).mono ?_
  rintro e1 w1 ⟨v1, rfl, ⟨⟨A1, c1, rfl⟩, ho1⟩, hb1⟩
  have T1 := T0.call hb1
  have ho1' := own_mono (base' := w.heap.size + 1 + 1 + 1) ho1 (by simp)
  clear T0 hb1 ho1
  have f1 := T1.2.1.cell
  have z1 := T1.2.1.frozen
  have f2 := T1.2.2.1.cell
  have z2 := T1.2.2.1.frozen
  have TT := Lib.hid T1; clear T1
  have O1 := Lib.hid ho1'; clear ho1'
  go_wp2_with fail
  refine bodyPost_ret (v := .agg #[.int .i64 s.row, .int .i64 s.col, .slice A1 s.rows.length c1]) (by simp [results, Try.results30, go_sem, f1]) rfl ⟨_, rfl, ⟨A1, c1, rfl, ?_⟩, ?_⟩
  · refine own_mono (base := w.heap.size + 1 + 1 + 1) ?_ (by omega)
    iterate 4 (with_reducible refine ownsRow_setCell_below ?_ (by simp; try omega) _)
    exact O1.out
  · iterate 4 (with_reducible refine Below.setCell ?_ (by simp; try omega) _)
    exact TT.out.2.2.2

set_option maxHeartbeats 1000000 in
theorem eqScreen_same (s : Scr) (v v' : Value) (lo hi lo' hi' : Nat) (w : World) (hx : ScrR w lo hi v s) (hx' : ScrR w lo' hi' v' s) (hhi : hi ≤ w.heap.size) (hhi' : hi' ≤ w.heap.size) (hs : s.rows.length ≤ 1048576) :
    Calls Try.prog 32 #[v, v'] w fun e w' => e = .returned (.bool true) ∧ Below w.heap.size w w' := by
  obtain ⟨A, c, rfl, hA⟩ := hx
  obtain ⟨A', c', rfl, hA'⟩ := hx'
  have hb2 := fun o o' => ((Below.refl w.heap.size w).alloc (Nat.le_refl _) o).alloc (by simp) o'
  have HD := Lib.hid (fun o o' w1 (hb1 : Below ((w.alloc o).alloc o').heap.size ((w.alloc o).alloc o') w1) => (hb2 o o').trans (hb1.mono (hb2 o o').size))
  have HA := Lib.hid (fun o o' => And.intro (hA.below (hb2 o o') hhi) (hA'.below (hb2 o o') hhi'))
  clear hA hA' hb2
  go_enter Try.func32, Try.ntmps32
  go_wp2_with fail
  refine (eqStringS_b _ _ _ _ _ _ lo hi lo' hi' s.rows s.rows _ (HA.out _ _).1 (HA.out _ _).2 (by omega) (by omega)).mono ?_
  rintro e1 w1 ⟨rfl, hb1⟩
  rw [decide_eq_true rfl]
  have HB := Lib.hid (HD.out _ _ _ hb1); clear hb1
  go_wp2_with fail
  go_ret
  exact ⟨rfl, HB.out⟩

set_option maxHeartbeats 1000000 in
theorem markScreen_one (s : Scr) (A : Option Addr) (c base : Nat) (w : World) (hx : w.ownsRow base 9 1 (.slice A s.rows.length c) s.rows.length (s.rows.map Value.string)) (hs : s.rows.length ≤ 1048576) :
    Calls Try.prog 33 #[.agg #[.int .i64 s.row, .int .i64 s.col, .slice A s.rows.length c], .int .i64 1] w fun e w' => e = .returned (.int .i64 (1 + s.rows.length : Nat)) ∧
      w'.ownsRow base 9 1 (.slice A s.rows.length c) s.rows.length ((marksFrom 1 s.rows.length).map Value.string) ∧ w.grownBy w' (Value.slice A s.rows.length c).ownBlock := by
  have HX := Lib.hid hx; clear hx
  go_enter Try.func33, Try.ntmps33
  go_wp2_with fail
  refine (markStringS_one base _ _ _ s.rows _ (HX.out.alloc _) (by omega)).mono ?_
  rintro e1 w1 ⟨rfl, ho, hg⟩
  have HO := Lib.hid ho; have HG := Lib.hid (grown_alloc hg); clear ho hg
  go_wp2_with fail
  go_ret
  exact ⟨rfl, HO.out, HG.out⟩

set_option maxHeartbeats 1000000 in
theorem heldScreen_one (s : Scr) (A : Option Addr) (c lo hi : Nat) (w : World) (hx : StrR w lo hi A s.rows.length (marksFrom 1 s.rows.length)) (hhi : hi ≤ w.heap.size) (hs : s.rows.length ≤ 1048576) :
    Calls Try.prog 34 #[.agg #[.int .i64 s.row, .int .i64 s.col, .slice A s.rows.length c], .int .i64 1] w fun e w' => e = .returned (.int .i64 (1 + s.rows.length : Nat)) ∧ Below w.heap.size w w' := by
  have hbo := fun o => (Below.refl w.heap.size w).alloc (Nat.le_refl _) o
  have HD := Lib.hid (fun o w1 (hb1 : Below (w.alloc o).heap.size (w.alloc o) w1) => (hbo o).trans (hb1.mono (hbo o).size))
  have HX := Lib.hid (fun o => hx.below (hbo o) hhi)
  have HH := Lib.hid (fun o => Nat.le_trans hhi (hbo o).size)
  clear hx hbo
  go_enter Try.func34, Try.ntmps34
  go_wp2_with fail
  refine (heldStringS_one _ _ _ _ _ _ (HX.out _) (HH.out _) (by omega)).mono ?_
  rintro e1 w1 ⟨rfl, hb1⟩
  have HB := Lib.hid (HD.out _ _ hb1); clear hb1
  have hq1 : ¬ (((1 + s.rows.length : Nat) : Int) < 0) := by omega
  go_wp2_with fail
  go_ret
  exact ⟨rfl, HB.out⟩

end Go.Proofs.Ytcfmgmbolnifgaa
