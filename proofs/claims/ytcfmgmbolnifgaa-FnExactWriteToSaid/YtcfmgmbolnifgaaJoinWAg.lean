/- Walks of the reference's ShowOn, TabTo. -/
import Derived.Test.YtcfmgmbolnifgaaJoinWAf
import Derived.IntWalk
import Derived.Outline
import Derived.Test.YtcfmgmbolnifgaaJoinWAb
namespace Go.Proofs.Ytcfmgmbolnifgaa
open Go.RowKit

def noScr : Scr := ⟨0, 0, []⟩
def showOnP (s : Scr) (text : ByteArray) : Scr := if scrB s then showTo s text text.size else noScr
def tabToP (s : Scr) (col : Int) : Scr := if scrB s then (if 20 ≤ col ∨ col ≤ s.col then s else putsTo s (col - s.col).toNat) else noScr

/-- The parameter's block and the result's, behind w0. -/
theorem CopyHeld.start (w : World) (cs : Array Value) : CopyHeld w cs ((w.alloc (.cells cs 48)).alloc (.cells #[.int .i64 0, .int .i64 0, .slice none 0 0] 48)) := ⟨by (repeat' (first | (with_reducible refine Blk.new' ?_ _ _; simp; done) | with_reducible refine Blk.drew1 ?_ | with_reducible refine Blk.alloc ?_ _)), by (repeat' (first | (with_reducible refine Blk.new' ?_ _ _; simp; done) | with_reducible refine Blk.drew1 ?_ | with_reducible refine Blk.alloc ?_ _)), by (repeat' (first | exact Below.refl _ _ | refine Below.drew ?_ | refine Below.alloc ?_ (by simp <;> omega) _))⟩

theorem ScrR.none_ (w : World) (lo hi : Nat) : ScrR w lo hi (.agg #[.int .i64 0, .int .i64 0, .slice none 0 0]) noScr := ⟨none, 0, rfl, rfl, fun h => absurd h (Nat.lt_irrefl 0)⟩

set_option maxHeartbeats 2000000 in
theorem specShowOn_any (s : Scr) (text : ByteArray) (v : Value) (lo hi : Nat) (w : World) (hx : ScrR w lo hi v s) (hhi : hi ≤ w.heap.size) (hs : ScrSmall s) (ht : text.size ≤ 1048576) :
    Calls Try.prog 46 #[v, .string text] w fun e w' => ∃ v', e = .returned v' ∧ ScrR w' w.heap.size w'.heap.size v' (showOnP s text) ∧ Below w.heap.size w w' := by
  obtain ⟨A, c, rfl, hA⟩ := id hx
  have H0 := CopyHeld.start w #[.int .i64 s.row, .int .i64 s.col, .slice A s.rows.length c]
  have HX := Lib.hid hx; have HS := Lib.hid hs
  have HH0 := Lib.hid H0
  clear hx hs hA H0
  go_enter Try.func46, Try.ntmps46
  go_wp2_with fail
  refine (specScreenOk_any s _ lo hi _ (HX.out.below HH0.out.below0 hhi) (Nat.le_trans hhi HH0.out.below0.size) HS.out).mono ?_
  rintro e1 w1 ⟨rfl, hb1⟩
  have R1 := HH0.out.below hb1
  clear hb1 HH0
  have f := R1.1.cell
  have f1 := R1.2.1.cell
  have z1 := R1.2.1.frozen
  have HR1 := Lib.hid R1
  clear R1
  cases hb : scrB s
  · have HP := Lib.hid (show showOnP s text = noScr by unfold showOnP; rw [hb]; rfl)
    clear hb
    go_wp2_with fail
    refine bodyPost_ret (v := .agg #[.int .i64 0, .int .i64 0, .slice none 0 0]) (by simp [results, Try.results46, go_sem, f1]) rfl ⟨_, rfl, ?_, ?_⟩
    · rw [HP.out]; exact ScrR.none_ _ _ _
    · iterate 3 (with_reducible refine Below.setCell ?_ (by simp; try omega) _)
      exact HR1.out.below0
  · have HP := Lib.hid (show showOnP s text = showTo s text text.size by unfold showOnP; rw [hb]; rfl)
    have HF := Lib.hid (Fine.of_scrB hb)
    clear hb
    go_wp2_with fail
    refine (l31Show_any s text _ lo hi _ (HX.out.below HR1.out.below0 hhi) (Nat.le_trans hhi HR1.out.below0.size) HF.out ht).mono ?_
    rintro e2 w2 ⟨v2, rfl, ⟨A2, c2, rfl, hA2⟩, hb2⟩
    have R2 := HR1.out.below hb2
    have g2 := HR1.out.size
    clear f f1 z1
    have f1 := R2.2.1.cell
    have z1 := R2.2.1.frozen
    have HR2 := Lib.hid R2; have HA2 := Lib.hid hA2
    clear R2 hA2 hb2
    obtain ⟨S0, hS0⟩ : ∃ S0, S0 = showTo s text text.size := ⟨_, rfl⟩
    rw [← hS0] at HA2 ⊢
    have HE := Lib.hid hS0
    clear hS0
    go_wp2_with fail
    refine bodyPost_ret (v := .agg #[.int .i64 S0.row, .int .i64 S0.col, .slice A2 S0.rows.length c2]) (by simp [results, Try.results46, go_sem, f1]) rfl ⟨_, rfl, ?_, ?_⟩
    · rw [HP.out, ← HE.out]
      refine ⟨_, _, rfl, ?_⟩
      refine RowR.more (lo := w1.heap.size) (hi := w2.heap.size) (HA2.out.keep fun b hb _ => ?_) (by omega) (by simp [World.setCell])
      iterate 3 (with_reducible refine (Below.heap_setCell _ _ _ _ (by simp; omega)).trans ?_)
      rfl
    · iterate 3 (with_reducible refine Below.setCell ?_ (by simp; try omega) _)
      exact HR2.out.below0

/-- As CopyHeld, whatever the result's block holds. -/
def TabHeld (w0 : World) (cs : Array Value) (w : World) : Prop :=
  Blk w w0.heap.size 48 cs ∧ (∃ r0 r1 r2, Blk w (w0.heap.size + 1) 48 #[r0, r1, r2]) ∧ Below w0.heap.size w0 w
theorem TabHeld.below {w0 w w' : World} {cs : Array Value} (h : TabHeld w0 cs w) (hb : Below w.heap.size w w') : TabHeld w0 cs w' := by
  obtain ⟨h1, ⟨r0, r1, r2, h2⟩, h3⟩ := h
  exact ⟨h1.below hb h1.lt, ⟨r0, r1, r2, h2.below hb h2.lt⟩, h3.trans (hb.mono h3.size)⟩
theorem TabHeld.below0 {w0 w : World} {cs : Array Value} (h : TabHeld w0 cs w) : Below w0.heap.size w0 w := h.2.2
theorem TabHeld.res {w0 w : World} {cs : Array Value} (h : TabHeld w0 cs w) : ∃ r0 r1 r2, Blk w (w0.heap.size + 1) 48 #[r0, r1, r2] := h.2.1
theorem TabHeld.lt {w0 w : World} {cs : Array Value} (h : TabHeld w0 cs w) : w0.heap.size + 1 < w.heap.size := by
  obtain ⟨_, _, _, b⟩ := h.res
  exact b.lt
theorem TabHeld.set {w0 w : World} {cs : Array Value} (h : TabHeld w0 cs w) (i : Nat) (u : Value) : TabHeld w0 cs (w.setCell ⟨w0.heap.size + 1, i, none⟩ u) := by
  obtain ⟨h1, ⟨r0, r1, r2, h2⟩, h3⟩ := h
  refine ⟨h1.far (p := ⟨w0.heap.size + 1, i, none⟩) (by simp) u, ?_, h3.setCell (p := ⟨w0.heap.size + 1, i, none⟩) (by simp) u⟩
  have := h2.set_ i u
  match i, this with
  | 0, this => exact ⟨_, _, _, this⟩
  | 1, this => exact ⟨_, _, _, this⟩
  | 2, this => exact ⟨_, _, _, this⟩
  | (n + 3), this => exact ⟨r0, r1, r2, by simpa using this⟩
theorem TabHeld.both {w0 w : World} {cs : Array Value} (h : TabHeld w0 cs w) : (∀ i, w.cell? ⟨w0.heap.size, i, none⟩ = cs[i]?) ∧ TabHeld w0 cs w := ⟨h.1.cell, h⟩
theorem CopyHeld.tab {w0 w : World} {cs : Array Value} (h : CopyHeld w0 cs w) : TabHeld w0 cs w := ⟨h.1, ⟨_, _, _, h.2.1⟩, h.2.2⟩

set_option maxHeartbeats 4000000 in
set_option maxRecDepth 100000 in
theorem specTabTo_any (s : Scr) (col : Int) (v : Value) (lo hi : Nat) (w : World) (hx : ScrR w lo hi v s) (hhi : hi ≤ w.heap.size) (hs : ScrSmall s) :
    Calls Try.prog 29 #[v, .int .i64 col] w fun e w' => ∃ v', e = .returned v' ∧ ScrR w' w.heap.size w'.heap.size v' (tabToP s col) ∧ Below w.heap.size w w' := by
  obtain ⟨A, c, rfl, hA⟩ := id hx
  have H0 := CopyHeld.start w #[.int .i64 s.row, .int .i64 s.col, .slice A s.rows.length c]
  have HX := Lib.hid hx; have HS := Lib.hid hs
  have HH0 := Lib.hid H0
  clear hx hs hA H0
  go_enter Try.func29, Try.ntmps29
  go_wp2_with fail
  refine (specScreenOk_any s _ lo hi _ (HX.out.below HH0.out.below0 hhi) (Nat.le_trans hhi HH0.out.below0.size) HS.out).mono ?_
  rintro e1 w1 ⟨rfl, hb1⟩
  have R1 := HH0.out.below hb1
  clear hb1 HH0
  have f := R1.1.cell
  have f1 := R1.2.1.cell
  have z1 := R1.2.1.frozen
  have HR1 := Lib.hid R1
  clear R1
  cases hb : scrB s
  · have HP := Lib.hid (show tabToP s col = noScr by unfold tabToP; rw [hb]; rfl)
    clear hb
    go_wp2_with fail
    refine bodyPost_ret (v := .agg #[.int .i64 0, .int .i64 0, .slice none 0 0]) (by simp [results, Try.results29, go_sem, f1]) rfl ⟨_, rfl, ?_, ?_⟩
    · rw [HP.out]; exact ScrR.none_ _ _ _
    · iterate 3 (with_reducible refine Below.setCell ?_ (by simp; try omega) _)
      exact HR1.out.below0
  · have hF := Fine.of_scrB hb
    have c0 := hF.col0; have c19 := hF.col19
    have HF := Lib.hid hF
    have HB := Lib.hid hb
    clear hb hF
    by_cases hc : 20 ≤ col ∨ col ≤ s.col
    · have HP := Lib.hid (show tabToP s col = showTo s ⟨#[]⟩ 0 by unfold tabToP; rw [HB.out, if_pos rfl, if_pos hc]; rfl)
      have HE : Hid (∀ W, ScrR W lo hi _ s → hi ≤ W.heap.size → Calls Try.prog 76 #[.agg #[.int .i64 s.row, .int .i64 s.col, .slice A s.rows.length c], .string ⟨#[]⟩] W fun e w' => ∃ v', e = .returned v' ∧ ScrR w' W.heap.size w'.heap.size v' (showTo s ⟨#[]⟩ 0) ∧ Below W.heap.size W w') :=
        fun W h1 h2 => l31Show_any s ⟨#[]⟩ _ lo hi W h1 h2 HF.out (by decide)
      rcases (show 20 ≤ col ∨ (¬ 20 ≤ col ∧ col ≤ s.col) by omega) with h20 | ⟨h20, hle⟩
      all_goals
        clear hc
        go_wp2_with fail
        refine (HE.out _ (HX.out.below HR1.out.below0 hhi) (Nat.le_trans hhi HR1.out.below0.size)).mono ?_
        rintro e2 w2 ⟨v2, rfl, ⟨A2, c2, rfl, hA2⟩, hb2⟩
        have R2 := HR1.out.below hb2
        have g2 := HR1.out.size
        clear f f1 z1
        have f1 := R2.2.1.cell
        have z1 := R2.2.1.frozen
        have HR2 := Lib.hid R2; have HA2 := Lib.hid hA2
        clear R2 hA2 hb2 HE
        obtain ⟨S0, hS0⟩ : ∃ S0, S0 = showTo s ⟨#[]⟩ 0 := ⟨_, rfl⟩
        rw [← hS0] at HA2 ⊢
        have HE := Lib.hid hS0
        clear hS0
        go_wp2_with fail
        refine bodyPost_ret (v := .agg #[.int .i64 S0.row, .int .i64 S0.col, .slice A2 S0.rows.length c2]) (by simp [results, Try.results29, go_sem, f1]) rfl ⟨_, rfl, ?_, ?_⟩
        · rw [HP.out, ← HE.out]
          refine ⟨_, _, rfl, ?_⟩
          refine RowR.more (lo := w1.heap.size) (hi := w2.heap.size) (HA2.out.keep fun b hb _ => ?_) (by omega) (by simp [World.setCell])
          iterate 3 (with_reducible refine (Below.heap_setCell _ _ _ _ (by simp; omega)).trans ?_)
          rfl
        · iterate 3 (with_reducible refine Below.setCell ?_ (by simp; try omega) _)
          exact HR2.out.below0
    · have HP := Lib.hid (show tabToP s col = putsTo s (col - s.col).toNat by unfold tabToP; rw [HB.out, if_pos rfl, if_neg hc])
      have h20 : ¬ 20 ≤ col := by omega
      have hle : ¬ col ≤ s.col := by omega
      clear hc
      go_wp2_with fail
      have HT1 := Lib.hid HR1.out.tab
      have HTd := Lib.hid (show TabHeld w #[.int .i64 s.row, .int .i64 s.col, .slice A s.rows.length c] w1.drew from HR1.out.tab.below (below_drewN' w1 1))
      obtain ⟨n, hn⟩ : ∃ n : Nat, n = (col - s.col).toNat := ⟨_, rfl⟩
      have HN := Lib.hid hn
      have HBL := Lib.hid (fun W => l31Blanks_any (col - s.col) W (by omega) (by omega))
      rw [← hn] at HBL HP
      have hn20 : (blanks n).size ≤ 1048576 := by rw [blanks_size]; omega
      have HSH := Lib.hid (fun W h1 h2 => l31Show_any s (blanks n) (.agg #[.int .i64 s.row, .int .i64 s.col, .slice A s.rows.length c]) lo hi W h1 h2 HF.out hn20)
      rw [show showTo s (blanks n) (blanks n).size = putsTo s n by rw [blanks_size]; exact show_blanks n (Nat.le_refl _)] at HSH
      clear hn20 hn
      generalize blanks n = BN at *
      generalize putsTo s n = S0 at *
      clear f f1 z1
      have fd := HTd.out.1.cell
      have hwr : IntKind.i64.wrap (col - s.col) = col - s.col := IntWalk.i64_in _ (by omega)
      go_region_law
        (first | (go_simp; go_at_call 77; (with_reducible refine (HBL.out _).mono ?_); rintro e2 w2 ⟨rfl, hb2⟩; have R2 := HTd.out.below hb2; have f2 := R2.1.cell; have B2lt := R2.lt; have HR2 := Lib.hid R2; clear R2 hb2) | (go_simp; go_at_call 76; (with_reducible refine (HSH.out _ (HX.out.below HR2.out.below0 hhi) (Nat.le_trans hhi HR2.out.below0.size)).mono ?_); rintro e3 w3 ⟨v3, rfl, ⟨A3, c3, rfl, hA3⟩, hb3⟩; have R3 := HR2.out.below hb3; obtain ⟨r0, r1, r2, B3⟩ := R3.res; have g3 := B2lt; have f3 := B3.cell; have z3 := B3.frozen; have HR3 := Lib.hid R3; have HA3 := Lib.hid hA3; clear R3 hA3 hb3))
      all_goals
        go_wp2_with fail
        refine bodyPost_ret (v := .agg #[.int .i64 S0.row, .int .i64 S0.col, .slice A3 S0.rows.length c3]) (by simp [results, Try.results29, go_sem, f3]) rfl ⟨_, rfl, ?_, ?_⟩
        · rw [HP.out]
          refine ⟨_, _, rfl, ?_⟩
          refine RowR.more (lo := w2.heap.size) (hi := w3.heap.size) (HA3.out.keep fun b hb _ => ?_) (by omega) (by simp [World.setCell])
          iterate 3 (with_reducible refine (Below.heap_setCell _ _ _ _ (by simp; omega)).trans ?_)
          rfl
        · iterate 3 (with_reducible refine Below.setCell ?_ (by simp; try omega) _)
          exact HR3.out.below0

end Go.Proofs.Ytcfmgmbolnifgaa

/- Walks of the program's copyScreen, show (within a row), TabTo. -/
namespace Go.Proofs.Ytcfmgmbolnifgaa
open Go.RowKit

/-- A screen behind a pointer, its rows at a known place. -/
def ScrPA (w : World) (base g b off cap : Nat) (s : Scr) : Prop :=
  base ≤ g ∧ g ≠ b ∧ Blk w g 48 #[.int .i64 s.row, .int .i64 s.col, .slice (some ⟨b, off, none⟩) s.rows.length cap] ∧ OwnO w base b off cap s.rows
theorem ScrPA.p {w : World} {base g b off cap : Nat} {s : Scr} (h : ScrPA w base g b off cap s) : ScrP w base g s := ⟨h.1, b, off, cap, h.2.1, h.2.2.1, h.2.2.2⟩
theorem ScrPA.below {w w' : World} {base g b off cap : Nat} {s : Scr} (h : ScrPA w base g b off cap s) (hb : Below w.heap.size w w') : ScrPA w' base g b off cap s :=
  ⟨h.1, h.2.1, h.2.2.1.below hb h.2.2.1.lt, h.2.2.2.below hb⟩
theorem ScrPA.mono {w : World} {base base' g b off cap : Nat} {s : Scr} (h : ScrPA w base g b off cap s) (hb : base' ≤ base) : ScrPA w base' g b off cap s :=
  ⟨by have := h.1; omega, h.2.1, h.2.2.1, ⟨by have := h.2.2.2.1; omega, h.2.2.2.2⟩⟩
theorem ScrPA.own {w : World} {base g b cap : Nat} {s : Scr} (h : ScrPA w base g b 0 cap s) : OwnScr w base (.agg #[.int .i64 s.row, .int .i64 s.col, .slice (some ⟨b, 0, none⟩) s.rows.length cap]) s :=
  ⟨_, _, rfl, h.2.2.2.to_own⟩

set_option maxHeartbeats 1000000 in
theorem copyScreen_any (s : Scr) (v : Value) (lo hi : Nat) (w : World) (hx : ScrR w lo hi v s) (hhi : hi ≤ w.heap.size) (h0 : 0 < s.rows.length) (hs : s.rows.length ≤ 1048576) :
    Calls Try.prog 79 #[v] w fun e w' => e = .returned (.pointer (some ⟨w.heap.size, 0, none⟩)) ∧ (∃ b cap, ScrPA w' w.heap.size w.heap.size b 0 cap s) ∧ Below w.heap.size w w' := by
  obtain ⟨A, c, rfl, hA⟩ := hx
  obtain ⟨b, off, rfl, _, hb, hc⟩ := hA.2 h0
  have hbo := fun o => (Below.refl w.heap.size w).alloc (Nat.le_refl _) o
  have HC := Lib.hid (fun o j (hj : j < s.rows.length) => (World.cell?_of_block ((hbo o).block b (by omega))).trans (hc j hj))
  have HD := Lib.hid (hbo (.cells #[.int .i64 s.row, .int .i64 s.col, .slice (some ⟨b, off, none⟩) s.rows.length c] 48))
  have HB := Lib.hid (Blk.new w 48 #[.int .i64 s.row, .int .i64 s.col, .slice (some ⟨b, off, none⟩) s.rows.length c])
  clear hA hc hbo
  go_enter Try.func79, Try.ntmps79
  go_wp2_with fail
  refine (Try.slices_Clone_string b off s.rows.length c s.rows _ (Nat.le_refl _) (by omega) (HC.out _)).mono ?_
  rintro e1 w1 ⟨v1, rfl, ho, -, hb1⟩
  rw [List.take_length] at ho
  obtain ⟨A1, c1, rfl⟩ : ∃ A1 c1, v1 = .slice A1 s.rows.length c1 := by
    rcases ho.2 with ⟨_, h1⟩ | ⟨g, cap, cur, hv, _⟩
    · omega
    · exact ⟨_, _, hv⟩
  obtain ⟨b1, rfl, hO⟩ := OwnO.of_own ho h0
  have B1 := HB.out.below hb1 HB.out.lt
  have D1 := HD.out.trans (hb1.mono HD.out.size)
  have h1 := hO.1
  rw [World.heap_size_alloc'] at h1
  have f := B1.cell
  have z := B1.frozen
  have HB1 := Lib.hid B1; have HD1 := Lib.hid D1; have HO := Lib.hid hO
  clear B1 D1 hO hb1 ho
  go_wp2_with fail
  go_ret
  refine ⟨rfl, ⟨b1, c1, Nat.le_refl _, by omega, ?_, ?_⟩, ?_⟩
  · exact HB1.out.set_ 2 _
  · have := HO.out.far (p := ⟨w.heap.size, 2, none⟩) (by simp; omega) (.slice (some ⟨b1, 0, none⟩) s.rows.length c1)
    exact ⟨by omega, this.2⟩
  · exact HD1.out.setCell (p := ⟨w.heap.size, 2, none⟩) (by simp) _

theorem encode_one (c : Nat) (hc : c < 128) : Utf8.encode (c : Int) = ⟨#[UInt8.ofNat c]⟩ := by
  have hv : Utf8.valid (c : Int) = true := by unfold Utf8.valid; simp; omega
  unfold Utf8.encode
  simp [hv, hc]

set_option maxHeartbeats 2000000 in
set_option maxRecDepth 100000 in
theorem show_stay (s : Scr) (c : Nat) (base g b off cap : Nat) (w : World) (hp : ScrPA w base g b off cap s) (hb : base ≤ w.heap.size) (hf : Fine s) (hc : c ≤ 127) (h20 : s.col + 1 < 20) :
    Calls Try.prog 80 #[.pointer (some ⟨g, 0, none⟩), .int .u8 c] w fun e w' => e = .returned (.tuple #[]) ∧ ScrPA w' base g b off cap (putCh s (UInt8.ofNat c)) ∧ Below base w w' := by
  obtain ⟨hbg, hne, hB, hO⟩ := hp
  have f := hB.cell
  obtain ⟨k, hk⟩ := Int.eq_ofNat_of_zero_le hf.row0
  obtain ⟨j, hj⟩ := Int.eq_ofNat_of_zero_le hf.col0
  obtain ⟨row, col, rows⟩ := s
  dsimp only at *
  subst hk hj
  have hl := hf.len; have h5 := hf.row5; have h19 := hf.col19
  dsimp only at hl h5 h19
  have hkl : k < rows.length := by omega
  have hrow := hO.get hkl
  have hX : (rows.getD k ByteArray.empty).size = 20 := hf.size _ (by
    rw [List.getD_eq_getElem?_getD, List.getElem?_eq_getElem hkl]
    exact List.getElem_mem _)
  have HF := Lib.hid hf; have HB := Lib.hid hB; have HO := Lib.hid hO
  have hki : (k : Int) < (rows.length : Int) := by omega
  have HL := Lib.hid hl
  have l6 : rows.length ≤ 6 := by omega
  have g6 : 6 ≤ rows.length := by omega
  clear hf hB hO hl
  generalize hXX : rows.getD k ByteArray.empty = X at *
  have HXX := Lib.hid hXX
  have HX := Lib.hid hX
  have x1 : X.size ≤ 20 := by omega
  have x2 : 20 ≤ X.size := by omega
  clear hX hXX
  go_enter Try.func80, Try.ntmps80
  go_wp2_with fail
  go_quiet (fail)
  have HB0 := Lib.hid (HB.out.drewN nq)
  have HO0 := Lib.hid (show OwnO (w.drewN nq) base b off cap rows from HO.out)
  have HD0 := Lib.hid ((below_drewN' w nq).mono hb)
  generalize w.drewN nq = w0 at *
  clear HB HO f hrow
  have f := HB0.out.cell
  have hck := HO0.out.get hkl
  rw [HXX.out] at hck
  have hzk := HO0.out.frozen (off + k)
  have hw1 : IntKind.i64.wrap ((j : Int) + 1) = (j : Int) + 1 := IntWalk.i64_in _ (by omega)
  have hj0 : (0 : Int) ≤ (j : Int) := by omega
  have hj1 : (j : Int) ≤ (X.size : Int) := by omega
  have hj2 : (j : Int) + 1 ≤ (X.size : Int) := by omega
  have hm1 : ¬ (9223372036854775807 < min j X.size + 1) := by omega
  have hm2 : ¬ (9223372036854775807 < min j X.size + 1 + (X.size - (j + 1))) := by omega
  have hen := encode_one c (by omega)
  go_wp2_with fail
  go_region
  have B2 : Blk (w0.setCell ⟨b, off + k, none⟩ (.string (X.extract 0 j ++ ⟨#[UInt8.ofNat c]⟩ ++ X.extract (j + 1) X.size))).drew g 48 #[.int .i64 k, .int .i64 j, .slice (some ⟨b, off, none⟩) rows.length cap] :=
    HB0.out.far (p := ⟨b, off + k, none⟩) hne _
  have O2 : OwnO (w0.setCell ⟨b, off + k, none⟩ (.string (X.extract 0 j ++ ⟨#[UInt8.ofNat c]⟩ ++ X.extract (j + 1) X.size))).drew base b off cap (rows.set k (putAt X j (UInt8.ofNat c))) :=
    HO0.out.put hkl (putAt X j (UInt8.ofNat c))
  have D2 : Below base w (w0.setCell ⟨b, off + k, none⟩ (.string (X.extract 0 j ++ ⟨#[UInt8.ofNat c]⟩ ++ X.extract (j + 1) X.size))).drew :=
    (HD0.out.setCell (p := ⟨b, off + k, none⟩) HO0.out.1 _).drew
  generalize (w0.setCell ⟨b, off + k, none⟩ (.string (X.extract 0 j ++ ⟨#[UInt8.ofNat c]⟩ ++ X.extract (j + 1) X.size))).drew = w2 at *
  clear f hck hzk hm1 hm2 hen HB0 HO0 HD0 hw1
  have hRR : rows.getD k ByteArray.empty = X := HXX.out
  have HPC := Lib.hid (show putCh ⟨k, j, rows⟩ (UInt8.ofNat c) = ⟨k, (j : Int) + 1, rows.set k (putAt X j (UInt8.ofNat c))⟩ by
    unfold putCh setRow
    simp only [Int.toNat_natCast, hRR]
    rw [if_neg (by omega)])
  clear hRR
  have f := B2.cell
  have z := B2.frozen
  have HB2 := Lib.hid B2; have HO2 := Lib.hid O2; have HD2 := Lib.hid D2
  have e20 : ((j : Int) + 1 == 20) = false := by rw [beq_eq_false_iff_ne]; omega
  clear B2 O2 D2
  go_wp2_with fail
  go_end0
  rw [HPC.out]
  refine ⟨rfl, ⟨hbg, hne, ?_, ?_⟩, ?_⟩
  · show Blk _ g 48 #[.int .i64 k, .int .i64 ((j : Int) + 1), .slice (some ⟨b, off, none⟩) (rows.set k (putAt X j (UInt8.ofNat c))).length cap]
    rw [List.length_set]
    exact HB2.out.set_ 1 _
  · exact HO2.out.far (p := ⟨g, 1, none⟩) (fun h => hne h.symm) _
  · exact HD2.out.setCell (p := ⟨g, 1, none⟩) hbg _

def colAt (w : World) (g : Nat) : Int := match w.cell? ⟨g, 1, none⟩ with
  | some (.int _ n) => n
  | _ => 0
theorem ScrPA.colAt {w : World} {base g b off cap : Nat} {s : Scr} (h : ScrPA w base g b off cap s) : colAt w g = s.col := by
  unfold Go.Proofs.Ytcfmgmbolnifgaa.colAt
  rw [h.2.2.1.cell]
  rfl

/-- What stands in TabTo: the parameter's block, the result's, the copy. -/
def TabSt (w0 w : World) (cs : Array Value) (g b cap : Nat) (s : Scr) : Prop :=
  CopyHeld w0 cs w ∧ ScrPA w (w0.heap.size + 1 + 1) g b 0 cap s

theorem CopyHeld.below' {w0 w w' : World} {cs : Array Value} (h : CopyHeld w0 cs w) (hb : Below (w0.heap.size + 1 + 1) w w') : CopyHeld w0 cs w' :=
  ⟨h.1.below hb (by omega), h.2.1.below hb (by omega), h.2.2.trans (hb.mono (by omega))⟩

/-- The screen is stored into the result's block. -/
theorem TabSt.ends {w0 w : World} {cs : Array Value} {g b cap : Nat} {s : Scr} (h : TabSt w0 w cs g b cap s) {u0 u1 u2 : Value} :
    OwnScr (((w.setCell ⟨w0.heap.size + 1, 0, none⟩ u0).setCell ⟨w0.heap.size + 1, 1, none⟩ u1).setCell ⟨w0.heap.size + 1, 2, none⟩ u2) w0.heap.size (.agg #[.int .i64 s.row, .int .i64 s.col, .slice (some ⟨b, 0, none⟩) s.rows.length cap]) s := by
  have hO := h.2.2.2.2
  have h1 := hO.1
  have hO2 := ((hO.far (p := ⟨w0.heap.size + 1, 0, none⟩) (by simp; omega) u0).far (p := ⟨w0.heap.size + 1, 1, none⟩) (by simp; omega) u1).far (p := ⟨w0.heap.size + 1, 2, none⟩) (by simp; omega) u2
  exact ⟨_, _, rfl, own_mono hO2.to_own (by omega)⟩

set_option maxHeartbeats 2000000 in
theorem implTabTo_any (s : Scr) (col : Int) (v : Value) (lo hi : Nat) (w : World) (hx : ScrR w lo hi v s) (hhi : hi ≤ w.heap.size) (hs : ScrSmall s) :
    Calls Try.prog 31 #[v, .int .i64 col] w fun e w' => ∃ v', e = .returned v' ∧ OwnScr w' w.heap.size v' (tabToP s col) ∧ Below w.heap.size w w' := by
  obtain ⟨A, c, rfl, hA⟩ := id hx
  have H0 := CopyHeld.start w #[.int .i64 s.row, .int .i64 s.col, .slice A s.rows.length c]
  have HX := Lib.hid hx; have HS := Lib.hid hs
  have HH0 := Lib.hid H0
  clear hx hs hA H0
  go_enter Try.func31, Try.ntmps31
  go_wp2_with fail
  refine (implScreenOk_any s _ lo hi _ (HX.out.below HH0.out.below0 hhi) (Nat.le_trans hhi HH0.out.below0.size) HS.out).mono ?_
  rintro e1 w1 ⟨rfl, hb1⟩
  have R1 := HH0.out.below hb1
  clear hb1 HH0
  have f := R1.1.cell
  have f1 := R1.2.1.cell
  have z1 := R1.2.1.frozen
  have HR1 := Lib.hid R1
  clear R1
  cases hb : scrB s
  · have HP := Lib.hid (show tabToP s col = noScr by unfold tabToP; rw [hb]; rfl)
    clear hb
    go_wp2_with fail
    refine bodyPost_ret (v := .agg #[.int .i64 0, .int .i64 0, .slice none 0 0]) (by simp [results, Try.results31, go_sem, f1]) rfl ⟨_, rfl, ?_, ?_⟩
    · rw [HP.out]; exact ⟨none, 0, rfl, World.ownsRow_nil _ _ _ _⟩
    · iterate 3 (with_reducible refine Below.setCell ?_ (by simp; try omega) _)
      exact HR1.out.below0
  · have hF := Fine.of_scrB hb
    have c0 := hF.col0; have c19 := hF.col19
    have HF := Lib.hid hF
    have HB := Lib.hid hb
    have hl6 : s.rows.length ≤ 1048576 := by have := hF.len; omega
    have hl0 : 0 < s.rows.length := by have := hF.len; omega
    clear hb hF
    go_wp2_with fail
    refine (copyScreen_any s _ lo hi _ (HX.out.below HR1.out.below0 hhi) (Nat.le_trans hhi HR1.out.below0.size) hl0 hl6).mono ?_
    rintro e2 w2 ⟨rfl, ⟨b, cap, hP⟩, hb2⟩
    have R2 : TabSt w w2 #[.int .i64 s.row, .int .i64 s.col, .slice A s.rows.length c] w1.heap.size b cap s := ⟨HR1.out.below hb2, hP.mono HR1.out.size⟩
    clear f f1 z1 hP hb2
    have HR2 := Lib.hid R2; clear R2
    have g2 := HR1.out.size
    generalize w1.heap.size = g at *
    obtain ⟨m, hm, hP⟩ : ∃ m : Nat, ((20 ≤ col ∧ m = 0) ∨ (col < 20 ∧ col ≤ s.col ∧ m = 0) ∨ (col < 20 ∧ s.col < col ∧ (m : Int) = col - s.col)) ∧ tabToP s col = putsTo s m := by
      by_cases hc : 20 ≤ col ∨ col ≤ s.col
      · exact ⟨0, by omega, by unfold tabToP; rw [HB.out, if_pos rfl, if_pos hc]; rfl⟩
      · exact ⟨(col - s.col).toNat, by omega, by unfold tabToP; rw [HB.out, if_pos rfl, if_neg hc]⟩
    have HM := Lib.hid hm; have HP := Lib.hid hP
    have hm19 : s.col + m ≤ 19 := by omega
    clear hm hP
    go_wp2_with fail
    go_loopw [22] (fun _ wr => ∃ k : Nat, k ≤ m ∧ TabSt w wr #[.int .i64 s.row, .int .i64 s.col, .slice A s.rows.length c] g b cap (putsTo s k)) (fun _ wr => (20 - colAt wr g).toNat)
    case atStart => exact ⟨0, Nat.zero_le _, HR2.out⟩
    case round =>
      obtain ⟨k, hk, hSt⟩ := hrel
      obtain ⟨hcol, hFk⟩ := putsTo_col HF.out k (by omega)
      have HK := Lib.hid (show putsTo s (k + 1) = putCh (putsTo s k) 32 from rfl)
      have HC1 := Lib.hid (fun h : k < m => (putsTo_col HF.out (k + 1) (by omega)).1)
      obtain ⟨S2, hS2⟩ : ∃ S2, S2 = putsTo s (k + 1) := ⟨_, rfl⟩
      have HS2 := Lib.hid hS2
      rw [← hS2] at HK HC1
      clear hS2
      obtain ⟨S1, hS1⟩ : ∃ S1, S1 = putsTo s k := ⟨_, rfl⟩
      have HS1 := Lib.hid hS1
      rw [← hS1] at HK hcol hFk hSt
      clear hS1
      have hA1 := hSt.2
      have B1 := hA1.2.2.1
      have f := B1.cell
      have HST := Lib.hid hSt; have HFK := Lib.hid hFk; have HCOL := Lib.hid hcol
      clear hSt hFk hA1 B1
      have hm := HM.out
      by_cases hlt : k < m
      · have t1 : decide (col < 20) = true := by rw [decide_eq_true_eq]; omega
        have t2 : decide (S1.col < col) = true := by rw [decide_eq_true_eq]; omega
        have h20 : S1.col + 1 < 20 := by omega
        clear hm hcol
        go_wp2_with fail
        refine (show_stay S1 32 (w.heap.size + 1 + 1) g b 0 cap _ HST.out.2 HST.out.1.size HFK.out (by omega) h20).mono ?_
        rintro e3 w3 ⟨rfl, hp3, hb3⟩
        rw [show UInt8.ofNat 32 = 32 from rfl, ← HK.out] at hp3
        have HST3 : Hid (TabSt w w3 #[.int .i64 s.row, .int .i64 s.col, .slice A s.rows.length c] g b cap S2) := ⟨HST.out.1.below' hb3, hp3⟩
        have HMM := Lib.hid (show (20 - colAt w3 g).toNat < (20 - colAt wr g).toNat by
          rw [hp3.colAt, HST.out.2.colAt, HC1.out hlt, HCOL.out]; omega)
        clear hp3 hb3 f
        go_wp2_with fail
        go_roundw
        case rel => exact ⟨k + 1, by omega, by rw [← HS2.out]; exact HST3.out⟩
        case measure => exact HMM.out
      · have hkm : k = m := by omega
        have HE := Lib.hid (show tabToP s col = S1 by rw [HP.out, HS1.out, hkm])
        have f1 := HST.out.1.2.1.cell
        have z1 := HST.out.1.2.1.frozen
        have hb0 := HST.out.2.2.2.2.1
        have hg0 := HST.out.2.1
        rcases (show 20 ≤ col ∨ (col < 20 ∧ col ≤ S1.col) by omega) with h20 | ⟨h20, hle⟩
        · have t1 : decide (col < 20) = false := by rw [decide_eq_false_iff_not]; omega
          clear hm hcol h20 hkm hlt hk
          go_wp2_with fail
          refine bodyPost_ret (v := .agg #[.int .i64 S1.row, .int .i64 S1.col, .slice (some ⟨b, 0, none⟩) S1.rows.length cap]) (by simp [results, Try.results31, go_sem, f1]) rfl ⟨_, rfl, ?_, ?_⟩
          · rw [HE.out]
            exact TabSt.ends HST.out
          · iterate 3 (with_reducible refine Below.setCell ?_ (by simp; try omega) _)
            exact HST.out.1.below0
        · have t1 : decide (col < 20) = true := by rw [decide_eq_true_eq]; omega
          have t2 : decide (S1.col < col) = false := by rw [decide_eq_false_iff_not]; omega
          clear hm hcol h20 hkm hlt hk hle
          go_wp2_with fail
          refine bodyPost_ret (v := .agg #[.int .i64 S1.row, .int .i64 S1.col, .slice (some ⟨b, 0, none⟩) S1.rows.length cap]) (by simp [results, Try.results31, go_sem, f1]) rfl ⟨_, rfl, ?_, ?_⟩
          · rw [HE.out]
            exact TabSt.ends HST.out
          · iterate 3 (with_reducible refine Below.setCell ?_ (by simp; try omega) _)
            exact HST.out.1.below0

end Go.Proofs.Ytcfmgmbolnifgaa

/- Screens in the walk of a law: reading, owning, marks; each in a range of blocks. -/
namespace Go.Proofs.Ytcfmgmbolnifgaa
open Go.RowKit

theorem loc_scrR (lo hi : Nat) (v : Value) (s : Scr) : Loc lo hi (fun w => ScrR w lo hi v s) := fun _ _ hk ⟨A, c, hv, h⟩ => ⟨A, c, hv, h.keep hk⟩

/-- A screen of the call's own, in blocks from lo up to, not including, hi. -/
def OwnScrI (w : World) (lo hi : Nat) (v : Value) (s : Scr) : Prop :=
  ∃ A c, v = .agg #[.int .i64 s.row, .int .i64 s.col, .slice A s.rows.length c] ∧ w.ownsRow lo 9 1 (.slice A s.rows.length c) s.rows.length (s.rows.map Value.string) ∧ ∀ g, (Value.slice A s.rows.length c).ownBlock = some g → g < hi
theorem loc_ownScr (lo hi : Nat) (v : Value) (s : Scr) : Loc lo hi (fun w => OwnScrI w lo hi v s) := fun _ _ hk ⟨A, c, hv, h, hh⟩ => ⟨A, c, hv, own_keep h hh hk, hh⟩
theorem OwnScr.inside {w : World} {base : Nat} {v : Value} {s : Scr} (h : OwnScr w base v s) : OwnScrI w base w.heap.size v s := by
  obtain ⟨A, c, hv, h1⟩ := h
  exact ⟨A, c, hv, h1, fun g hg => (h1.lt g hg).2⟩
theorem OwnScrI.reads {w : World} {lo hi : Nat} {v : Value} {s : Scr} (h : OwnScrI w lo hi v s) : ScrR w lo hi v s := by
  obtain ⟨A, c, hv, h1, hh⟩ := h
  refine ⟨A, c, hv, rfl, fun hn => ?_⟩
  obtain ⟨b, off, e, h2, h3, hc⟩ := (RowR.of_own (d := ByteArray.empty) h1).2 hn
  refine ⟨b, off, e, h2, hh b ?_, hc⟩
  subst e
  obtain ⟨g, e2, _⟩ := own_head h1 hn
  rw [e2]
  injection e2 with e3
  injection e3 with e4
  rw [e4]; rfl

/-- A screen that bears its marks; the count behind them is m. -/
def HeldScr (w : World) (lo hi : Nat) (v : Value) (m : Int) : Prop :=
  ∃ (s : Scr) (A : Option Addr) (c : Nat), v = .agg #[.int .i64 s.row, .int .i64 s.col, .slice A s.rows.length c] ∧ StrR w lo hi A s.rows.length (marksFrom 1 s.rows.length) ∧ s.rows.length ≤ 1048576 ∧ m = ((1 + s.rows.length : Nat) : Int)
theorem loc_heldScr (lo hi : Nat) (v : Value) (m : Int) : Loc lo hi (fun w => HeldScr w lo hi v m) := fun _ _ hk ⟨s, A, c, hv, h, r⟩ => ⟨s, A, c, hv, h.keep hk, r⟩

theorem markScreen_I (s : Scr) (v : Value) (lo hi : Nat) (w : World) (h : OwnScrI w lo hi v s) (hs : s.rows.length ≤ 1048576) :
    Calls Try.prog 33 #[v, .int .i64 1] w fun e w' => ∃ m : Int, e = .returned (.int .i64 m) ∧ 0 ≤ m ∧ HeldScr w' lo hi v m ∧ Within lo hi w w' := by
  obtain ⟨A, c, rfl, h1, hh⟩ := h
  refine (markScreen_one s A c lo w h1 hs).mono fun e w' ⟨he, ho, hg⟩ => ⟨_, he, by omega, ?_, Within.of_grown hg fun g hg => ⟨(h1.lt g hg).1, hh g hg⟩⟩
  refine ⟨s, A, c, rfl, ⟨marksFrom_len _ _, fun hn => ?_⟩, hs, rfl⟩
  obtain ⟨b, off, e2, h2, h3, hc⟩ := (RowR.of_own (d := ByteArray.empty) ho).2 hn
  refine ⟨b, off, e2, h2, hh b ?_, hc⟩
  subst e2
  obtain ⟨g, e3, _⟩ := own_head ho hn
  rw [e3]
  injection e3 with e3
  injection e3 with e4
  rw [e4]; rfl

theorem heldScreen_I (v : Value) (m : Int) (lo hi : Nat) (w : World) (h : HeldScr w lo hi v m) (hhi : hi ≤ w.heap.size) :
    Calls Try.prog 34 #[v, .int .i64 1] w fun e w' => e = .returned (.int .i64 m) ∧ Below w.heap.size w w' := by
  obtain ⟨s, A, c, rfl, h1, hs, rfl⟩ := h
  exact heldScreen_one s A c lo hi w h1 hhi hs

theorem tabToP_small (s : Scr) (col : Int) : (tabToP s col).rows.length ≤ 1048576 := by
  unfold tabToP
  split
  · rename_i h
    have hF := Fine.of_scrB h
    split
    · have := hF.len; omega
    · have h0 := hF.col0
      have := (putsTo_col hF (col - s.col).toNat (by omega)).2.len
      omega
  · simp [noScr]

end Go.Proofs.Ytcfmgmbolnifgaa
