/- Walks of the reference's ShowOn, TabTo. -/
import Derived.Test.YtmeholhmadeehaaGreatDoorJoinFLAf
import Derived.IntWalk
import Derived.Outline
import Derived.Test.YtmeholhmadeehaaGreatDoorJoinFLAb
namespace Go.Proofs.YtmeholhmadeehaaGreatDoor
open Go.RowKit

def noScr : Scr := ⟨0, 0, []⟩
def showOnP (s : Scr) (text : ByteArray) : Scr := if scrB s then showTo s text text.size else noScr
def tabToP (s : Scr) (col : Int) : Scr := if scrB s then (if 20 ≤ col ∨ col ≤ s.col then s else putsTo s (col - s.col).toNat) else noScr

/-- The parameter's block and the result's, behind w0. -/
theorem CopyHeld.start (w : World) (cs : Array Value) : CopyHeld w cs ((w.alloc (.cells cs 29)).alloc (.cells #[.int .i64 0, .int .i64 0, .slice none 0 0] 29)) := ⟨by (repeat' (first | (with_reducible refine Blk.new' ?_ _ _; simp; done) | with_reducible refine Blk.drew1 ?_ | with_reducible refine Blk.alloc ?_ _)), by (repeat' (first | (with_reducible refine Blk.new' ?_ _ _; simp; done) | with_reducible refine Blk.drew1 ?_ | with_reducible refine Blk.alloc ?_ _)), by (repeat' (first | exact Below.refl _ _ | refine Below.drew ?_ | refine Below.alloc ?_ (by simp <;> omega) _))⟩

theorem ScrR.none_ (w : World) (lo hi : Nat) : ScrR w lo hi (.agg #[.int .i64 0, .int .i64 0, .slice none 0 0]) noScr := ⟨none, 0, rfl, rfl, fun h => absurd h (Nat.lt_irrefl 0)⟩

/-- As CopyHeld, whatever the result's block holds. -/
def TabHeld (w0 : World) (cs : Array Value) (w : World) : Prop :=
  Blk w w0.heap.size 29 cs ∧ (∃ r0 r1 r2, Blk w (w0.heap.size + 1) 29 #[r0, r1, r2]) ∧ Below w0.heap.size w0 w
theorem TabHeld.below {w0 w w' : World} {cs : Array Value} (h : TabHeld w0 cs w) (hb : Below w.heap.size w w') : TabHeld w0 cs w' := by
  obtain ⟨h1, ⟨r0, r1, r2, h2⟩, h3⟩ := h
  exact ⟨h1.below hb h1.lt, ⟨r0, r1, r2, h2.below hb h2.lt⟩, h3.trans (hb.mono h3.size)⟩
theorem TabHeld.below0 {w0 w : World} {cs : Array Value} (h : TabHeld w0 cs w) : Below w0.heap.size w0 w := h.2.2
theorem TabHeld.res {w0 w : World} {cs : Array Value} (h : TabHeld w0 cs w) : ∃ r0 r1 r2, Blk w (w0.heap.size + 1) 29 #[r0, r1, r2] := h.2.1
theorem TabHeld.lt {w0 w : World} {cs : Array Value} (h : TabHeld w0 cs w) : w0.heap.size + 1 < w.heap.size := by
  obtain ⟨_, _, _, b⟩ := h.res
  exact b.lt
theorem TabHeld.set {w0 w : World} {cs : Array Value} (h : TabHeld w0 cs w) (i : Nat) (u : Value) : TabHeld w0 cs (w.setCell ⟨w0.heap.size + 1, i, none⟩ u) := by
  obtain ⟨h1, ⟨r0, r1, r2, h2⟩, h3⟩ := h
  refine ⟨h1.far (p := ⟨w0.heap.size + 1, i, none⟩) (by simp) u, ?_, h3.setCell (p := ⟨w0.heap.size + 1, i, none⟩) (by simp) u⟩
  have := h2.set_ i u
  match i, this with
  | 0, this => exact ⟨_, _, _, this⟩
  | 1, this => exact ⟨_, _, _, this⟩
  | 2, this => exact ⟨_, _, _, this⟩
  | (n + 3), this => exact ⟨r0, r1, r2, by simpa using this⟩
theorem TabHeld.both {w0 w : World} {cs : Array Value} (h : TabHeld w0 cs w) : (∀ i, w.cell? ⟨w0.heap.size, i, none⟩ = cs[i]?) ∧ TabHeld w0 cs w := ⟨h.1.cell, h⟩
theorem CopyHeld.tab {w0 w : World} {cs : Array Value} (h : CopyHeld w0 cs w) : TabHeld w0 cs w := ⟨h.1, ⟨_, _, _, h.2.1⟩, h.2.2⟩

end Go.Proofs.YtmeholhmadeehaaGreatDoor

/- Walks of the program's copyScreen, show (within a row), TabTo. -/
namespace Go.Proofs.YtmeholhmadeehaaGreatDoor
open Go.RowKit

/-- A screen behind a pointer, its rows at a known place. -/
def ScrPA (w : World) (base g b off cap : Nat) (s : Scr) : Prop :=
  base ≤ g ∧ g ≠ b ∧ Blk w g 29 #[.int .i64 s.row, .int .i64 s.col, .slice (some ⟨b, off, none⟩) s.rows.length cap] ∧ OwnO w base b off cap s.rows
theorem ScrPA.p {w : World} {base g b off cap : Nat} {s : Scr} (h : ScrPA w base g b off cap s) : ScrP w base g s := ⟨h.1, b, off, cap, h.2.1, h.2.2.1, h.2.2.2⟩
theorem ScrPA.below {w w' : World} {base g b off cap : Nat} {s : Scr} (h : ScrPA w base g b off cap s) (hb : Below w.heap.size w w') : ScrPA w' base g b off cap s :=
  ⟨h.1, h.2.1, h.2.2.1.below hb h.2.2.1.lt, h.2.2.2.below hb⟩
theorem ScrPA.mono {w : World} {base base' g b off cap : Nat} {s : Scr} (h : ScrPA w base g b off cap s) (hb : base' ≤ base) : ScrPA w base' g b off cap s :=
  ⟨by have := h.1; omega, h.2.1, h.2.2.1, ⟨by have := h.2.2.2.1; omega, h.2.2.2.2⟩⟩
theorem ScrPA.own {w : World} {base g b cap : Nat} {s : Scr} (h : ScrPA w base g b 0 cap s) : OwnScr w base (.agg #[.int .i64 s.row, .int .i64 s.col, .slice (some ⟨b, 0, none⟩) s.rows.length cap]) s :=
  ⟨_, _, rfl, h.2.2.2.to_own⟩

set_option maxHeartbeats 1000000 in
theorem copyScreen_any (s : Scr) (v : Value) (lo hi : Nat) (w : World) (hx : ScrR w lo hi v s) (hhi : hi ≤ w.heap.size) (h0 : 0 < s.rows.length) (hs : s.rows.length ≤ 1048576) :
    Calls Tryz.prog 74 #[v] w fun e w' => e = .returned (.pointer (some ⟨w.heap.size, 0, none⟩)) ∧ (∃ b cap, ScrPA w' w.heap.size w.heap.size b 0 cap s) ∧ Below w.heap.size w w' := by
  obtain ⟨A, c, rfl, hA⟩ := hx
  obtain ⟨b, off, rfl, _, hb, hc⟩ := hA.2 h0
  have hbo := fun o => (Below.refl w.heap.size w).alloc (Nat.le_refl _) o
  have HC := Lib.hid (fun o j (hj : j < s.rows.length) => (World.cell?_of_block ((hbo o).block b (by omega))).trans (hc j hj))
  have HD := Lib.hid (hbo (.cells #[.int .i64 s.row, .int .i64 s.col, .slice (some ⟨b, off, none⟩) s.rows.length c] 29))
  have HB := Lib.hid (Blk.new w 29 #[.int .i64 s.row, .int .i64 s.col, .slice (some ⟨b, off, none⟩) s.rows.length c])
  clear hA hc hbo
  go_enter Tryz.func74, Tryz.ntmps74
  go_wp2_with fail
  refine (Tryz.slices_Clone_string b off s.rows.length c s.rows _ (Nat.le_refl _) (by omega) (HC.out _)).mono ?_
  rintro e1 w1 ⟨v1, rfl, ho, -, hb1⟩
  rw [List.take_length] at ho
  obtain ⟨A1, c1, rfl⟩ : ∃ A1 c1, v1 = .slice A1 s.rows.length c1 := by
    rcases ho.2 with ⟨_, h1⟩ | ⟨g, cap, cur, hv, _⟩
    · omega
    · exact ⟨_, _, hv⟩
  obtain ⟨b1, rfl, hO⟩ := OwnO.of_own ho h0
  have B1 := HB.out.below hb1 HB.out.lt
  have D1 := HD.out.trans (hb1.mono HD.out.size)
  have h1 := hO.1
  rw [World.heap_size_alloc'] at h1
  have f := B1.cell
  have z := B1.frozen
  have HB1 := Lib.hid B1; have HD1 := Lib.hid D1; have HO := Lib.hid hO
  clear B1 D1 hO hb1 ho
  go_wp2_with fail
  go_ret
  refine ⟨rfl, ⟨b1, c1, Nat.le_refl _, by omega, ?_, ?_⟩, ?_⟩
  · exact HB1.out.set_ 2 _
  · have := HO.out.far (p := ⟨w.heap.size, 2, none⟩) (by simp; omega) (.slice (some ⟨b1, 0, none⟩) s.rows.length c1)
    exact ⟨by omega, this.2⟩
  · exact HD1.out.setCell (p := ⟨w.heap.size, 2, none⟩) (by simp) _

theorem encode_one (c : Nat) (hc : c < 128) : Utf8.encode (c : Int) = ⟨#[UInt8.ofNat c]⟩ := by
  have hv : Utf8.valid (c : Int) = true := by unfold Utf8.valid; simp; omega
  unfold Utf8.encode
  simp [hv, hc]

set_option maxHeartbeats 2000000 in
set_option maxRecDepth 100000 in
theorem show_stay (s : Scr) (c : Nat) (base g b off cap : Nat) (w : World) (hp : ScrPA w base g b off cap s) (hb : base ≤ w.heap.size) (hf : Fine s) (hc : c ≤ 127) (h20 : s.col + 1 < 20) :
    Calls Tryz.prog 77 #[.pointer (some ⟨g, 0, none⟩), .int .u8 c] w fun e w' => e = .returned (.tuple #[]) ∧ ScrPA w' base g b off cap (putCh s (UInt8.ofNat c)) ∧ Below base w w' := by
  obtain ⟨hbg, hne, hB, hO⟩ := hp
  have f := hB.cell
  obtain ⟨k, hk⟩ := Int.eq_ofNat_of_zero_le hf.row0
  obtain ⟨j, hj⟩ := Int.eq_ofNat_of_zero_le hf.col0
  obtain ⟨row, col, rows⟩ := s
  dsimp only at *
  subst hk hj
  have hl := hf.len; have h5 := hf.row5; have h19 := hf.col19
  dsimp only at hl h5 h19
  have hkl : k < rows.length := by omega
  have hrow := hO.get hkl
  have hX : (rows.getD k ByteArray.empty).size = 20 := hf.size _ (by
    rw [List.getD_eq_getElem?_getD, List.getElem?_eq_getElem hkl]
    exact List.getElem_mem _)
  have HF := Lib.hid hf; have HB := Lib.hid hB; have HO := Lib.hid hO
  have hki : (k : Int) < (rows.length : Int) := by omega
  have HL := Lib.hid hl
  have l6 : rows.length ≤ 6 := by omega
  have g6 : 6 ≤ rows.length := by omega
  clear hf hB hO hl
  generalize hXX : rows.getD k ByteArray.empty = X at *
  have HXX := Lib.hid hXX
  have HX := Lib.hid hX
  have x1 : X.size ≤ 20 := by omega
  have x2 : 20 ≤ X.size := by omega
  clear hX hXX
  go_enter Tryz.func77, Tryz.ntmps77
  go_wp2_with fail
  go_quiet (fail)
  have HB0 := Lib.hid (HB.out.drewN nq)
  have HO0 := Lib.hid (show OwnO (w.drewN nq) base b off cap rows from HO.out)
  have HD0 := Lib.hid ((below_drewN' w nq).mono hb)
  generalize w.drewN nq = w0 at *
  clear HB HO f hrow
  have f := HB0.out.cell
  have hck := HO0.out.get hkl
  rw [HXX.out] at hck
  have hzk := HO0.out.frozen (off + k)
  have hw1 : IntKind.i64.wrap ((j : Int) + 1) = (j : Int) + 1 := IntWalk.i64_in _ (by omega)
  have hj0 : (0 : Int) ≤ (j : Int) := by omega
  have hj1 : (j : Int) ≤ (X.size : Int) := by omega
  have hj2 : (j : Int) + 1 ≤ (X.size : Int) := by omega
  have hm1 : ¬ (9223372036854775807 < min j X.size + 1) := by omega
  have hm2 : ¬ (9223372036854775807 < min j X.size + 1 + (X.size - (j + 1))) := by omega
  have hen := encode_one c (by omega)
  go_wp2_with fail
  go_region
  have B2 : Blk (w0.setCell ⟨b, off + k, none⟩ (.string (X.extract 0 j ++ ⟨#[UInt8.ofNat c]⟩ ++ X.extract (j + 1) X.size))).drew g 29 #[.int .i64 k, .int .i64 j, .slice (some ⟨b, off, none⟩) rows.length cap] :=
    HB0.out.far (p := ⟨b, off + k, none⟩) hne _
  have O2 : OwnO (w0.setCell ⟨b, off + k, none⟩ (.string (X.extract 0 j ++ ⟨#[UInt8.ofNat c]⟩ ++ X.extract (j + 1) X.size))).drew base b off cap (rows.set k (putAt X j (UInt8.ofNat c))) :=
    HO0.out.put hkl (putAt X j (UInt8.ofNat c))
  have D2 : Below base w (w0.setCell ⟨b, off + k, none⟩ (.string (X.extract 0 j ++ ⟨#[UInt8.ofNat c]⟩ ++ X.extract (j + 1) X.size))).drew :=
    (HD0.out.setCell (p := ⟨b, off + k, none⟩) HO0.out.1 _).drew
  generalize (w0.setCell ⟨b, off + k, none⟩ (.string (X.extract 0 j ++ ⟨#[UInt8.ofNat c]⟩ ++ X.extract (j + 1) X.size))).drew = w2 at *
  clear f hck hzk hm1 hm2 hen HB0 HO0 HD0 hw1
  have hRR : rows.getD k ByteArray.empty = X := HXX.out
  have HPC := Lib.hid (show putCh ⟨k, j, rows⟩ (UInt8.ofNat c) = ⟨k, (j : Int) + 1, rows.set k (putAt X j (UInt8.ofNat c))⟩ by
    unfold putCh setRow
    simp only [Int.toNat_natCast, hRR]
    rw [if_neg (by omega)])
  clear hRR
  have f := B2.cell
  have z := B2.frozen
  have HB2 := Lib.hid B2; have HO2 := Lib.hid O2; have HD2 := Lib.hid D2
  have e20 : ((j : Int) + 1 == 20) = false := by rw [beq_eq_false_iff_ne]; omega
  clear B2 O2 D2
  go_wp2_with fail
  go_end0
  rw [HPC.out]
  refine ⟨rfl, ⟨hbg, hne, ?_, ?_⟩, ?_⟩
  · show Blk _ g 29 #[.int .i64 k, .int .i64 ((j : Int) + 1), .slice (some ⟨b, off, none⟩) (rows.set k (putAt X j (UInt8.ofNat c))).length cap]
    rw [List.length_set]
    exact HB2.out.set_ 1 _
  · exact HO2.out.far (p := ⟨g, 1, none⟩) (fun h => hne h.symm) _
  · exact HD2.out.setCell (p := ⟨g, 1, none⟩) hbg _

def colAt (w : World) (g : Nat) : Int := match w.cell? ⟨g, 1, none⟩ with
  | some (.int _ n) => n
  | _ => 0
theorem ScrPA.colAt {w : World} {base g b off cap : Nat} {s : Scr} (h : ScrPA w base g b off cap s) : colAt w g = s.col := by
  unfold Go.Proofs.YtmeholhmadeehaaGreatDoor.colAt
  rw [h.2.2.1.cell]
  rfl

/-- What stands in TabTo: the parameter's block, the result's, the copy. -/
def TabSt (w0 w : World) (cs : Array Value) (g b cap : Nat) (s : Scr) : Prop :=
  CopyHeld w0 cs w ∧ ScrPA w (w0.heap.size + 1 + 1) g b 0 cap s

theorem CopyHeld.below' {w0 w w' : World} {cs : Array Value} (h : CopyHeld w0 cs w) (hb : Below (w0.heap.size + 1 + 1) w w') : CopyHeld w0 cs w' :=
  ⟨h.1.below hb (by omega), h.2.1.below hb (by omega), h.2.2.trans (hb.mono (by omega))⟩

/-- The screen is stored into the result's block. -/
theorem TabSt.ends {w0 w : World} {cs : Array Value} {g b cap : Nat} {s : Scr} (h : TabSt w0 w cs g b cap s) {u0 u1 u2 : Value} :
    OwnScr (((w.setCell ⟨w0.heap.size + 1, 0, none⟩ u0).setCell ⟨w0.heap.size + 1, 1, none⟩ u1).setCell ⟨w0.heap.size + 1, 2, none⟩ u2) w0.heap.size (.agg #[.int .i64 s.row, .int .i64 s.col, .slice (some ⟨b, 0, none⟩) s.rows.length cap]) s := by
  have hO := h.2.2.2.2
  have h1 := hO.1
  have hO2 := ((hO.far (p := ⟨w0.heap.size + 1, 0, none⟩) (by simp; omega) u0).far (p := ⟨w0.heap.size + 1, 1, none⟩) (by simp; omega) u1).far (p := ⟨w0.heap.size + 1, 2, none⟩) (by simp; omega) u2
  exact ⟨_, _, rfl, own_mono hO2.to_own (by omega)⟩

end Go.Proofs.YtmeholhmadeehaaGreatDoor

/- Screens in the walk of a law: reading, owning, marks; each in a range of blocks. -/
namespace Go.Proofs.YtmeholhmadeehaaGreatDoor
open Go.RowKit

theorem loc_scrR (lo hi : Nat) (v : Value) (s : Scr) : Loc lo hi (fun w => ScrR w lo hi v s) := fun _ _ hk ⟨A, c, hv, h⟩ => ⟨A, c, hv, h.keep hk⟩

/-- A screen of the call's own, in blocks from lo up to, not including, hi. -/
def OwnScrI (w : World) (lo hi : Nat) (v : Value) (s : Scr) : Prop :=
  ∃ A c, v = .agg #[.int .i64 s.row, .int .i64 s.col, .slice A s.rows.length c] ∧ w.ownsRow lo 9 1 (.slice A s.rows.length c) s.rows.length (s.rows.map Value.string) ∧ ∀ g, (Value.slice A s.rows.length c).ownBlock = some g → g < hi
theorem loc_ownScr (lo hi : Nat) (v : Value) (s : Scr) : Loc lo hi (fun w => OwnScrI w lo hi v s) := fun _ _ hk ⟨A, c, hv, h, hh⟩ => ⟨A, c, hv, own_keep h hh hk, hh⟩
theorem OwnScr.inside {w : World} {base : Nat} {v : Value} {s : Scr} (h : OwnScr w base v s) : OwnScrI w base w.heap.size v s := by
  obtain ⟨A, c, hv, h1⟩ := h
  exact ⟨A, c, hv, h1, fun g hg => (h1.lt g hg).2⟩
theorem OwnScrI.reads {w : World} {lo hi : Nat} {v : Value} {s : Scr} (h : OwnScrI w lo hi v s) : ScrR w lo hi v s := by
  obtain ⟨A, c, hv, h1, hh⟩ := h
  refine ⟨A, c, hv, rfl, fun hn => ?_⟩
  obtain ⟨b, off, e, h2, h3, hc⟩ := (RowR.of_own (d := ByteArray.empty) h1).2 hn
  refine ⟨b, off, e, h2, hh b ?_, hc⟩
  subst e
  obtain ⟨g, e2, _⟩ := own_head h1 hn
  rw [e2]
  injection e2 with e3
  injection e3 with e4
  rw [e4]; rfl

/-- A screen that bears its marks; the count behind them is m. -/
def HeldScr (w : World) (lo hi : Nat) (v : Value) (m : Int) : Prop :=
  ∃ (s : Scr) (A : Option Addr) (c : Nat), v = .agg #[.int .i64 s.row, .int .i64 s.col, .slice A s.rows.length c] ∧ StrR w lo hi A s.rows.length (marksFrom 1 s.rows.length) ∧ s.rows.length ≤ 1048576 ∧ m = ((1 + s.rows.length : Nat) : Int)
theorem loc_heldScr (lo hi : Nat) (v : Value) (m : Int) : Loc lo hi (fun w => HeldScr w lo hi v m) := fun _ _ hk ⟨s, A, c, hv, h, r⟩ => ⟨s, A, c, hv, h.keep hk, r⟩

theorem markScreen_I (s : Scr) (v : Value) (lo hi : Nat) (w : World) (h : OwnScrI w lo hi v s) (hs : s.rows.length ≤ 1048576) :
    Calls Tryz.prog 41 #[v, .int .i64 1] w fun e w' => ∃ m : Int, e = .returned (.int .i64 m) ∧ 0 ≤ m ∧ HeldScr w' lo hi v m ∧ Within lo hi w w' := by
  obtain ⟨A, c, rfl, h1, hh⟩ := h
  refine (markScreen_one s A c lo w h1 hs).mono fun e w' ⟨he, ho, hg⟩ => ⟨_, he, by omega, ?_, Within.of_grown hg fun g hg => ⟨(h1.lt g hg).1, hh g hg⟩⟩
  refine ⟨s, A, c, rfl, ⟨marksFrom_len _ _, fun hn => ?_⟩, hs, rfl⟩
  obtain ⟨b, off, e2, h2, h3, hc⟩ := (RowR.of_own (d := ByteArray.empty) ho).2 hn
  refine ⟨b, off, e2, h2, hh b ?_, hc⟩
  subst e2
  obtain ⟨g, e3, _⟩ := own_head ho hn
  rw [e3]
  injection e3 with e3
  injection e3 with e4
  rw [e4]; rfl

theorem heldScreen_I (v : Value) (m : Int) (lo hi : Nat) (w : World) (h : HeldScr w lo hi v m) (hhi : hi ≤ w.heap.size) :
    Calls Tryz.prog 44 #[v, .int .i64 1] w fun e w' => e = .returned (.int .i64 m) ∧ Below w.heap.size w w' := by
  obtain ⟨s, A, c, rfl, h1, hs, rfl⟩ := h
  exact heldScreen_one s A c lo hi w h1 hhi hs

theorem tabToP_small (s : Scr) (col : Int) : (tabToP s col).rows.length ≤ 1048576 := by
  unfold tabToP
  split
  · rename_i h
    have hF := Fine.of_scrB h
    split
    · have := hF.len; omega
    · have h0 := hF.col0
      have := (putsTo_col hF (col - s.col).toNat (by omega)).2.len
      omega
  · simp [noScr]

end Go.Proofs.YtmeholhmadeehaaGreatDoor
