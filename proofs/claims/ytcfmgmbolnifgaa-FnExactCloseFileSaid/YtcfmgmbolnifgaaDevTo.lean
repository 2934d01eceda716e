/- Devices of the call's own; toDevices walked. -/
import Derived.Test.YtcfmgmbolnifgaaDevDef
namespace Go.Proofs.Ytcfmgmbolnifgaa
open Go.RowKit

def apart2 (a b c d : Nat) : Prop := b ≤ c ∨ d ≤ a

/-- Devices of the call's own: rows, files and keys lie apart. -/
def OwnDev (w : World) (lo hi : Nat) (v : Value) (d : Dev) : Prop :=
  ∃ A c F cf K ck a1 b1 a2 b2 a3 b3, v = .agg (devCs d A c F cf K ck) ∧ (lo ≤ a1 ∧ b1 ≤ hi ∧ lo ≤ a2 ∧ b2 ≤ hi ∧ lo ≤ a3 ∧ b3 ≤ hi) ∧ (apart2 a1 b1 a2 b2 ∧ apart2 a1 b1 a3 b3 ∧ apart2 a2 b2 a3 b3) ∧
    (w.ownsRow a1 9 1 (.slice A d.scr.rows.length c) d.scr.rows.length (d.scr.rows.map Value.string) ∧ ∀ g, rowOf A d.scr.rows.length c = some g → g < b1) ∧
    OwnFils w a2 b2 F d.files ∧
    (w.ownsRow a3 9 1 (.slice K d.keys.length ck) d.keys.length (d.keys.map Value.string) ∧ ∀ g, rowOf K d.keys.length ck = some g → g < b3)

theorem FilesR.more {w : World} {lo hi lo' hi' : Nat} {A : Option Addr} {n : Nat} {fs : List Fil} (h : FilesR w lo hi A n fs) (h1 : lo' ≤ lo) (h2 : hi ≤ hi') : FilesR w lo' hi' A n fs :=
  ⟨h.1, fun hn => by
    obtain ⟨b, off, e, a1, a2, hc⟩ := h.2 hn
    refine ⟨b, off, e, by omega, by omega, fun j hj => ?_⟩
    obtain ⟨L, c, e0, e1, e2, e3, hL⟩ := hc j hj
    exact ⟨L, c, e0, e1, e2, e3, hL.more h1 h2⟩⟩

theorem OwnDev.reads {w : World} {lo hi : Nat} {v : Value} {d : Dev} (h : OwnDev w lo hi v d) : DevR w lo hi v d := by
  obtain ⟨A, c, F, cf, K, ck, a1, b1, a2, b2, a3, b3, hv, ⟨p1, p2, p3, p4, p5, p6⟩, _, ⟨h1, h2⟩, h3, h4, h5⟩ := h
  exact ⟨A, c, F, cf, K, ck, hv, (own_reads h1 h2).more p1 p2, h3.reads.more p3 p4, (own_reads h4 h5).more p5 p6⟩
theorem loc_ownDev (lo hi : Nat) (v : Value) (d : Dev) : Loc lo hi (fun w => OwnDev w lo hi v d) := fun w w' hk ⟨A, c, F, cf, K, ck, a1, b1, a2, b2, a3, b3, hv, hp, ha, ⟨h1, h2⟩, h3, h4, h5⟩ => by
  obtain ⟨p1, p2, p3, p4, p5, p6⟩ := hp
  exact ⟨A, c, F, cf, K, ck, a1, b1, a2, b2, a3, b3, hv, ⟨p1, p2, p3, p4, p5, p6⟩, ha, ⟨own_keep h1 h2 (fun b q1 q2 => hk b (by omega) (by omega)), h2⟩, loc_ownFils a2 b2 F d.files w w' (fun b q1 q2 => hk b (by omega) (by omega)) h3, own_keep h4 h5 (fun b q1 q2 => hk b (by omega) (by omega)), h5⟩

theorem OwnFils.far {w : World} {lo hi : Nat} {A : Option Addr} {fs : List Fil} {p : Addr} (h : OwnFils w lo hi A fs) (hp : p.block < lo) (u : Value) : OwnFils (w.setCell p u) lo hi A fs :=
  loc_ownFils lo hi A fs w _ (fun b h1 _ => Below.heap_setCell w p u b (by omega)) h
theorem OwnFils.below {w w' : World} {lo hi B : Nat} {A : Option Addr} {fs : List Fil} (h : OwnFils w lo hi A fs) (hb : Below B w w') (hB : hi ≤ B) : OwnFils w' lo hi A fs :=
  loc_ownFils lo hi A fs w _ (fun b _ h2 => hb.block b (by omega)) h

set_option maxHeartbeats 4000000 in
set_option maxRecDepth 100000 in
theorem toDevices_any (d : Dev) (v : Value) (lo hi : Nat) (w : World) (hx : DevR w lo hi v d) (hhi : hi ≤ w.heap.size) (hs : DevSmall d) :
    Calls Try.prog 37 #[v] w fun e w' => ∃ v', e = .returned v' ∧ OwnDev w' w.heap.size w'.heap.size v' d ∧ Below w.heap.size w w' := by
  obtain ⟨A, c, F, cf, K, ck, rfl, hA, hF, hK⟩ := hx
  obtain ⟨use, scr, files, keys⟩ := d
  obtain ⟨hs1, hs2, hs3⟩ := hs
  dsimp only at *
  have HA := Lib.hid hA; have HF := Lib.hid hF; have HK := Lib.hid hK; have HS1 := Lib.hid hs1; have HS2 := Lib.hid hs2
  have hk := hs3.1
  clear hA hF hK hs1 hs2 hs3
  go_enter Try.func37, Try.ntmps37
  go_wp2_with fail
  have T0 := Three.start w 56 61 61 (devCs ⟨use, scr, files, keys⟩ A c F cf K ck)
    #[.int .i64 0, .int .i64 0, .int .i64 0, .slice none 0 0, .slice none 0 0, .slice none 0 0] #[.int .i64 use, .int .i64 0, .int .i64 0, .slice none 0 0, .slice none 0 0, .slice none 0 0]
  refine (toScreen_any scr _ lo hi _ ⟨A, c, rfl, HA.out.below T0.2.2.2 hhi⟩ (Nat.le_trans hhi T0.2.2.2.size) HS1.out).mono ?_
  rintro e1 w1 ⟨v1, rfl, ⟨A1, c1, rfl, ho1⟩, hb1⟩
  have T1 := T0.call hb1
  have ho1' := own_mono (base' := w.heap.size + 1 + 1 + 1) ho1 (by simp)
  have hlt1 := fun g hg => (ho1.lt g hg).2
  clear T0 hb1 ho1
  have f0 := T1.1.cell
  have f2 := T1.2.2.1.cell
  have z2 := T1.2.2.1.frozen
  have TT := Lib.hid (((T1.store2 1 (.int .i64 scr.row)).store2 2 (.int .i64 scr.col)).store2 3 (.slice A1 scr.rows.length c1)); clear T1
  have O1 := Lib.hid (ownsRow_setCell_below (ownsRow_setCell_below (ownsRow_setCell_below ho1' (a := ⟨w.heap.size + 1 + 1, 1, none⟩) (by simp) (.int .i64 scr.row)) (a := ⟨w.heap.size + 1 + 1, 2, none⟩) (by simp) (.int .i64 scr.col)) (a := ⟨w.heap.size + 1 + 1, 3, none⟩) (by simp) (.slice A1 scr.rows.length c1)); clear ho1'
  have HL1 := Lib.hid hlt1; clear hlt1
  go_wp2_with fail
  clear f0 f2 z2
  have hz1 : (((w1.setCell ⟨w.heap.size + 1 + 1, 1, none⟩ (.int .i64 scr.row)).setCell ⟨w.heap.size + 1 + 1, 2, none⟩ (.int .i64 scr.col)).setCell ⟨w.heap.size + 1 + 1, 3, none⟩ (.slice A1 scr.rows.length c1)).heap.size = w1.heap.size := by simp [World.setCell]
  generalize ((w1.setCell ⟨w.heap.size + 1 + 1, 1, none⟩ (.int .i64 scr.row)).setCell ⟨w.heap.size + 1 + 1, 2, none⟩ (.int .i64 scr.col)).setCell ⟨w.heap.size + 1 + 1, 3, none⟩ (.slice A1 scr.rows.length c1) = W1 at *
  refine (toFileS_any F _ cf lo hi files _ (HF.out.below TT.out.2.2.2 hhi) (Nat.le_trans hhi TT.out.2.2.2.size) HS2.out).mono ?_
  rintro e2 w2 ⟨A2, rfl, ho2, hb2⟩
  have T2 := TT.out.call hb2
  have ho1 := own_below O1.out hb2
  have hsz2 := hb2.size
  have hg2 := TT.out.2.2.1.lt
  clear TT O1 hb2
  have f0 := T2.1.cell
  have f2 := T2.2.2.1.cell
  have z2 := T2.2.2.1.frozen
  have TT := Lib.hid (T2.store2 4 (.slice A2 files.length files.length)); clear T2
  have O1 := Lib.hid (ownsRow_setCell_below ho1 (a := ⟨w.heap.size + 1 + 1, 4, none⟩) (by simp) (.slice A2 files.length files.length)); clear ho1
  have O2 := Lib.hid (ho2.far (p := ⟨w.heap.size + 1 + 1, 4, none⟩) hg2 (.slice A2 files.length files.length)); clear ho2
  go_wp2_with fail
  clear f0 f2 z2
  have hz2 : (w2.setCell ⟨w.heap.size + 1 + 1, 4, none⟩ (.slice A2 files.length files.length)).heap.size = w2.heap.size := by simp [World.setCell]
  generalize w2.setCell ⟨w.heap.size + 1 + 1, 4, none⟩ (.slice A2 files.length files.length) = W2 at *
  refine (toStringS_any K _ ck lo hi keys _ (HK.out.below TT.out.2.2.2 hhi) (Nat.le_trans hhi TT.out.2.2.2.size) hk).mono ?_
  rintro e3 w3 ⟨v3, rfl, ⟨⟨A3, c3, rfl⟩, ho3⟩, hb3⟩
  have T3 := TT.out.call hb3
  have ho1 := own_below O1.out hb3
  have ho2 := O2.out.below hb3 (by omega)
  have hlt3 := fun g hg => (ho3.lt g hg).2
  have hsz3 := hb3.size
  clear TT O1 O2 hb3
  have f1 := T3.2.1.cell
  have z1 := T3.2.1.frozen
  have f2 := T3.2.2.1.cell
  have z2 := T3.2.2.1.frozen
  have TT := Lib.hid T3; clear T3
  have O1 := Lib.hid ho1; have O2 := Lib.hid ho2; have O3 := Lib.hid ho3; have HL3 := Lib.hid hlt3; clear ho1 ho2 ho3 hlt3
  go_wp2_with fail
  refine bodyPost_ret (v := .agg (devCs ⟨use, scr, files, keys⟩ A1 c1 A2 files.length A3 c3)) (by simp [results, Try.results37, go_sem, f1]) rfl ⟨_, rfl, ⟨A1, c1, A2, files.length, A3, c3, w.heap.size + 1 + 1 + 1, w1.heap.size, W1.heap.size, w2.heap.size, W2.heap.size, w3.heap.size, rfl, ?_, ?_, ⟨?_, HL1.out⟩, ?_, ?_, HL3.out⟩, ?_⟩
  · simp only [World.setCell, Array.size_modify]; omega
  · exact ⟨.inl (by omega), .inl (by omega), .inl (by omega)⟩
  · iterate 7 (with_reducible refine ownsRow_setCell_below ?_ (by simp; try omega) _)
    exact O1.out
  · iterate 7 (with_reducible refine OwnFils.far ?_ (by simp; try omega) _)
    exact O2.out
  · iterate 7 (with_reducible refine ownsRow_setCell_below ?_ (by simp; try omega) _)
    exact O3.out
  · iterate 7 (with_reducible refine Below.setCell ?_ (by simp; try omega) _)
    exact TT.out.2.2.2

end Go.Proofs.Ytcfmgmbolnifgaa
