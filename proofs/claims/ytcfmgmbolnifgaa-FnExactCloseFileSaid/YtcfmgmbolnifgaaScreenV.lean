/- Walks of the reference's ShowOn, TabTo. -/
import Derived.Test.YtcfmgmbolnifgaaScreenW
import Derived.IntWalk
import Derived.Outline
namespace Go.Proofs.Ytcfmgmbolnifgaa
open Go.RowKit

def noScr : Scr := ⟨0, 0, []⟩
def showOnP (s : Scr) (text : ByteArray) : Scr := if scrB s then showTo s text text.size else noScr
def tabToP (s : Scr) (col : Int) : Scr := if scrB s then (if 20 ≤ col ∨ col ≤ s.col then s else putsTo s (col - s.col).toNat) else noScr

/-- The parameter's block and the result's, behind w0. -/
theorem CopyHeld.start (w : World) (cs : Array Value) : CopyHeld w cs ((w.alloc (.cells cs 48)).alloc (.cells #[.int .i64 0, .int .i64 0, .slice none 0 0] 48)) := ⟨by (repeat' (first | (with_reducible refine Blk.new' ?_ _ _; simp; done) | with_reducible refine Blk.drew1 ?_ | with_reducible refine Blk.alloc ?_ _)), by (repeat' (first | (with_reducible refine Blk.new' ?_ _ _; simp; done) | with_reducible refine Blk.drew1 ?_ | with_reducible refine Blk.alloc ?_ _)), by (repeat' (first | exact Below.refl _ _ | refine Below.drew ?_ | refine Below.alloc ?_ (by simp <;> omega) _))⟩

theorem ScrR.none_ (w : World) (lo hi : Nat) : ScrR w lo hi (.agg #[.int .i64 0, .int .i64 0, .slice none 0 0]) noScr := ⟨none, 0, rfl, rfl, fun h => absurd h (Nat.lt_irrefl 0)⟩

set_option maxHeartbeats 2000000 in
theorem specShowOn_any (s : Scr) (text : ByteArray) (v : Value) (lo hi : Nat) (w : World) (hx : ScrR w lo hi v s) (hhi : hi ≤ w.heap.size) (hs : ScrSmall s) (ht : text.size ≤ 1048576) :
    Calls Try.prog 46 #[v, .string text] w fun e w' => ∃ v', e = .returned v' ∧ ScrR w' w.heap.size w'.heap.size v' (showOnP s text) ∧ Below w.heap.size w w' := by
  obtain ⟨A, c, rfl, hA⟩ := id hx
  have H0 := CopyHeld.start w #[.int .i64 s.row, .int .i64 s.col, .slice A s.rows.length c]
  have HX := Lib.hid hx; have HS := Lib.hid hs
  have HH0 := Lib.hid H0
  clear hx hs hA H0
  go_enter Try.func46, Try.ntmps46
  go_wp2_with fail
  refine (specScreenOk_any s _ lo hi _ (HX.out.below HH0.out.below0 hhi) (Nat.le_trans hhi HH0.out.below0.size) HS.out).mono ?_
  rintro e1 w1 ⟨rfl, hb1⟩
  have R1 := HH0.out.below hb1
  clear hb1 HH0
  have f := R1.1.cell
  have f1 := R1.2.1.cell
  have z1 := R1.2.1.frozen
  have HR1 := Lib.hid R1
  clear R1
  cases hb : scrB s
  · have HP := Lib.hid (show showOnP s text = noScr by unfold showOnP; rw [hb]; rfl)
    clear hb
    go_wp2_with fail
    refine bodyPost_ret (v := .agg #[.int .i64 0, .int .i64 0, .slice none 0 0]) (by simp [results, Try.results46, go_sem, f1]) rfl ⟨_, rfl, ?_, ?_⟩
    · rw [HP.out]; exact ScrR.none_ _ _ _
    · iterate 3 (with_reducible refine Below.setCell ?_ (by simp; try omega) _)
      exact HR1.out.below0
  · have HP := Lib.hid (show showOnP s text = showTo s text text.size by unfold showOnP; rw [hb]; rfl)
    have HF := Lib.hid (Fine.of_scrB hb)
    clear hb
    go_wp2_with fail
    refine (l31Show_any s text _ lo hi _ (HX.out.below HR1.out.below0 hhi) (Nat.le_trans hhi HR1.out.below0.size) HF.out ht).mono ?_
    rintro e2 w2 ⟨v2, rfl, ⟨A2, c2, rfl, hA2⟩, hb2⟩
    have R2 := HR1.out.below hb2
    have g2 := HR1.out.size
    clear f f1 z1
    have f1 := R2.2.1.cell
    have z1 := R2.2.1.frozen
    have HR2 := Lib.hid R2; have HA2 := Lib.hid hA2
    clear R2 hA2 hb2
    obtain ⟨S0, hS0⟩ : ∃ S0, S0 = showTo s text text.size := ⟨_, rfl⟩
    rw [← hS0] at HA2 ⊢
    have HE := Lib.hid hS0
    clear hS0
    go_wp2_with fail
    refine bodyPost_ret (v := .agg #[.int .i64 S0.row, .int .i64 S0.col, .slice A2 S0.rows.length c2]) (by simp [results, Try.results46, go_sem, f1]) rfl ⟨_, rfl, ?_, ?_⟩
    · rw [HP.out, ← HE.out]
      refine ⟨_, _, rfl, ?_⟩
      refine RowR.more (lo := w1.heap.size) (hi := w2.heap.size) (HA2.out.keep fun b hb _ => ?_) (by omega) (by simp [World.setCell])
      iterate 3 (with_reducible refine (Below.heap_setCell _ _ _ _ (by simp; omega)).trans ?_)
      rfl
    · iterate 3 (with_reducible refine Below.setCell ?_ (by simp; try omega) _)
      exact HR2.out.below0

/-- As CopyHeld, whatever the result's block holds. -/
def TabHeld (w0 : World) (cs : Array Value) (w : World) : Prop :=
  Blk w w0.heap.size 48 cs ∧ (∃ r0 r1 r2, Blk w (w0.heap.size + 1) 48 #[r0, r1, r2]) ∧ Below w0.heap.size w0 w
theorem TabHeld.below {w0 w w' : World} {cs : Array Value} (h : TabHeld w0 cs w) (hb : Below w.heap.size w w') : TabHeld w0 cs w' := by
  obtain ⟨h1, ⟨r0, r1, r2, h2⟩, h3⟩ := h
  exact ⟨h1.below hb h1.lt, ⟨r0, r1, r2, h2.below hb h2.lt⟩, h3.trans (hb.mono h3.size)⟩
theorem TabHeld.below0 {w0 w : World} {cs : Array Value} (h : TabHeld w0 cs w) : Below w0.heap.size w0 w := h.2.2
theorem TabHeld.res {w0 w : World} {cs : Array Value} (h : TabHeld w0 cs w) : ∃ r0 r1 r2, Blk w (w0.heap.size + 1) 48 #[r0, r1, r2] := h.2.1
theorem TabHeld.lt {w0 w : World} {cs : Array Value} (h : TabHeld w0 cs w) : w0.heap.size + 1 < w.heap.size := by
  obtain ⟨_, _, _, b⟩ := h.res
  exact b.lt
theorem TabHeld.set {w0 w : World} {cs : Array Value} (h : TabHeld w0 cs w) (i : Nat) (u : Value) : TabHeld w0 cs (w.setCell ⟨w0.heap.size + 1, i, none⟩ u) := by
  obtain ⟨h1, ⟨r0, r1, r2, h2⟩, h3⟩ := h
  refine ⟨h1.far (p := ⟨w0.heap.size + 1, i, none⟩) (by simp) u, ?_, h3.setCell (p := ⟨w0.heap.size + 1, i, none⟩) (by simp) u⟩
  have := h2.set_ i u
  match i, this with
  | 0, this => exact ⟨_, _, _, this⟩
  | 1, this => exact ⟨_, _, _, this⟩
  | 2, this => exact ⟨_, _, _, this⟩
  | (n + 3), this => exact ⟨r0, r1, r2, by simpa using this⟩
theorem TabHeld.both {w0 w : World} {cs : Array Value} (h : TabHeld w0 cs w) : (∀ i, w.cell? ⟨w0.heap.size, i, none⟩ = cs[i]?) ∧ TabHeld w0 cs w := ⟨h.1.cell, h⟩
theorem CopyHeld.tab {w0 w : World} {cs : Array Value} (h : CopyHeld w0 cs w) : TabHeld w0 cs w := ⟨h.1, ⟨_, _, _, h.2.1⟩, h.2.2⟩

set_option maxHeartbeats 4000000 in
set_option maxRecDepth 100000 in
theorem specTabTo_any (s : Scr) (col : Int) (v : Value) (lo hi : Nat) (w : World) (hx : ScrR w lo hi v s) (hhi : hi ≤ w.heap.size) (hs : ScrSmall s) :
    Calls Try.prog 29 #[v, .int .i64 col] w fun e w' => ∃ v', e = .returned v' ∧ ScrR w' w.heap.size w'.heap.size v' (tabToP s col) ∧ Below w.heap.size w w' := by
  obtain ⟨A, c, rfl, hA⟩ := id hx
  have H0 := CopyHeld.start w #[.int .i64 s.row, .int .i64 s.col, .slice A s.rows.length c]
  have HX := Lib.hid hx; have HS := Lib.hid hs
  have HH0 := Lib.hid H0
  clear hx hs hA H0
  go_enter Try.func29, Try.ntmps29
  go_wp2_with fail
  refine (specScreenOk_any s _ lo hi _ (HX.out.below HH0.out.below0 hhi) (Nat.le_trans hhi HH0.out.below0.size) HS.out).mono ?_
  rintro e1 w1 ⟨rfl, hb1⟩
  have R1 := HH0.out.below hb1
  clear hb1 HH0
  have f := R1.1.cell
  have f1 := R1.2.1.cell
  have z1 := R1.2.1.frozen
  have HR1 := Lib.hid R1
  clear R1
  cases hb : scrB s
  · have HP := Lib.hid (show tabToP s col = noScr by unfold tabToP; rw [hb]; rfl)
    clear hb
    go_wp2_with fail
    refine bodyPost_ret (v := .agg #[.int .i64 0, .int .i64 0, .slice none 0 0]) (by simp [results, Try.results29, go_sem, f1]) rfl ⟨_, rfl, ?_, ?_⟩
    · rw [HP.out]; exact ScrR.none_ _ _ _
    · iterate 3 (with_reducible refine Below.setCell ?_ (by simp; try omega) _)
      exact HR1.out.below0
  · have hF := Fine.of_scrB hb
    have c0 := hF.col0; have c19 := hF.col19
    have HF := Lib.hid hF
    have HB := Lib.hid hb
    clear hb hF
    by_cases hc : 20 ≤ col ∨ col ≤ s.col
    · have HP := Lib.hid (show tabToP s col = showTo s ⟨#[]⟩ 0 by unfold tabToP; rw [HB.out, if_pos rfl, if_pos hc]; rfl)
      have HE : Hid (∀ W, ScrR W lo hi _ s → hi ≤ W.heap.size → Calls Try.prog 76 #[.agg #[.int .i64 s.row, .int .i64 s.col, .slice A s.rows.length c], .string ⟨#[]⟩] W fun e w' => ∃ v', e = .returned v' ∧ ScrR w' W.heap.size w'.heap.size v' (showTo s ⟨#[]⟩ 0) ∧ Below W.heap.size W w') :=
        fun W h1 h2 => l31Show_any s ⟨#[]⟩ _ lo hi W h1 h2 HF.out (by decide)
      rcases (show 20 ≤ col ∨ (¬ 20 ≤ col ∧ col ≤ s.col) by omega) with h20 | ⟨h20, hle⟩
      all_goals
        clear hc
        go_wp2_with fail
        refine (HE.out _ (HX.out.below HR1.out.below0 hhi) (Nat.le_trans hhi HR1.out.below0.size)).mono ?_
        rintro e2 w2 ⟨v2, rfl, ⟨A2, c2, rfl, hA2⟩, hb2⟩
        have R2 := HR1.out.below hb2
        have g2 := HR1.out.size
        clear f f1 z1
        have f1 := R2.2.1.cell
        have z1 := R2.2.1.frozen
        have HR2 := Lib.hid R2; have HA2 := Lib.hid hA2
        clear R2 hA2 hb2 HE
        obtain ⟨S0, hS0⟩ : ∃ S0, S0 = showTo s ⟨#[]⟩ 0 := ⟨_, rfl⟩
        rw [← hS0] at HA2 ⊢
        have HE := Lib.hid hS0
        clear hS0
        go_wp2_with fail
        refine bodyPost_ret (v := .agg #[.int .i64 S0.row, .int .i64 S0.col, .slice A2 S0.rows.length c2]) (by simp [results, Try.results29, go_sem, f1]) rfl ⟨_, rfl, ?_, ?_⟩
        · rw [HP.out, ← HE.out]
          refine ⟨_, _, rfl, ?_⟩
          refine RowR.more (lo := w1.heap.size) (hi := w2.heap.size) (HA2.out.keep fun b hb _ => ?_) (by omega) (by simp [World.setCell])
          iterate 3 (with_reducible refine (Below.heap_setCell _ _ _ _ (by simp; omega)).trans ?_)
          rfl
        · iterate 3 (with_reducible refine Below.setCell ?_ (by simp; try omega) _)
          exact HR2.out.below0
    · have HP := Lib.hid (show tabToP s col = putsTo s (col - s.col).toNat by unfold tabToP; rw [HB.out, if_pos rfl, if_neg hc])
      have h20 : ¬ 20 ≤ col := by omega
      have hle : ¬ col ≤ s.col := by omega
      clear hc
      go_wp2_with fail
      have HT1 := Lib.hid HR1.out.tab
      have HTd := Lib.hid (show TabHeld w #[.int .i64 s.row, .int .i64 s.col, .slice A s.rows.length c] w1.drew from HR1.out.tab.below (below_drewN' w1 1))
      obtain ⟨n, hn⟩ : ∃ n : Nat, n = (col - s.col).toNat := ⟨_, rfl⟩
      have HN := Lib.hid hn
      have HBL := Lib.hid (fun W => l31Blanks_any (col - s.col) W (by omega) (by omega))
      rw [← hn] at HBL HP
      have hn20 : (blanks n).size ≤ 1048576 := by rw [blanks_size]; omega
      have HSH := Lib.hid (fun W h1 h2 => l31Show_any s (blanks n) (.agg #[.int .i64 s.row, .int .i64 s.col, .slice A s.rows.length c]) lo hi W h1 h2 HF.out hn20)
      rw [show showTo s (blanks n) (blanks n).size = putsTo s n by rw [blanks_size]; exact show_blanks n (Nat.le_refl _)] at HSH
      clear hn20 hn
      generalize blanks n = BN at *
      generalize putsTo s n = S0 at *
      clear f f1 z1
      have fd := HTd.out.1.cell
      have hwr : IntKind.i64.wrap (col - s.col) = col - s.col := IntWalk.i64_in _ (by omega)
      go_region_law
        (first | (go_simp; go_at_call 77; (with_reducible refine (HBL.out _).mono ?_); rintro e2 w2 ⟨rfl, hb2⟩; have R2 := HTd.out.below hb2; have f2 := R2.1.cell; have B2lt := R2.lt; have HR2 := Lib.hid R2; clear R2 hb2) | (go_simp; go_at_call 76; (with_reducible refine (HSH.out _ (HX.out.below HR2.out.below0 hhi) (Nat.le_trans hhi HR2.out.below0.size)).mono ?_); rintro e3 w3 ⟨v3, rfl, ⟨A3, c3, rfl, hA3⟩, hb3⟩; have R3 := HR2.out.below hb3; obtain ⟨r0, r1, r2, B3⟩ := R3.res; have g3 := B2lt; have f3 := B3.cell; have z3 := B3.frozen; have HR3 := Lib.hid R3; have HA3 := Lib.hid hA3; clear R3 hA3 hb3))
      all_goals
        go_wp2_with fail
        refine bodyPost_ret (v := .agg #[.int .i64 S0.row, .int .i64 S0.col, .slice A3 S0.rows.length c3]) (by simp [results, Try.results29, go_sem, f3]) rfl ⟨_, rfl, ?_, ?_⟩
        · rw [HP.out]
          refine ⟨_, _, rfl, ?_⟩
          refine RowR.more (lo := w2.heap.size) (hi := w3.heap.size) (HA3.out.keep fun b hb _ => ?_) (by omega) (by simp [World.setCell])
          iterate 3 (with_reducible refine (Below.heap_setCell _ _ _ _ (by simp; omega)).trans ?_)
          rfl
        · iterate 3 (with_reducible refine Below.setCell ?_ (by simp; try omega) _)
          exact HR3.out.below0

end Go.Proofs.Ytcfmgmbolnifgaa
