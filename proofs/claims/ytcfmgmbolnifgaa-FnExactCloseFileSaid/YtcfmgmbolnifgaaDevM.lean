/- Walks: both NewDevices; eqDevices, markDevices, heldDevices of devices without files. -/
import Derived.Test.YtcfmgmbolnifgaaDevN
import Derived.Test.YtcfmgmbolnifgaaScreenL
namespace Go.Proofs.Ytcfmgmbolnifgaa
open Go.RowKit

def newDevP (xs : List ByteArray) : Scr × List ByteArray × Int := if 20 < xs.length then (noScr, [], 4) else if keysB xs then (blankScr, xs, 0) else (noScr, [], 1)

/-- Devices without files: their value, and where it lies. -/
def DevR0 (w : World) (lo hi : Nat) (v : Value) (s : Scr) (ks : List ByteArray) : Prop :=
  ∃ A c K d, v = .agg #[.int .i64 0, .int .i64 s.row, .int .i64 s.col, .slice A s.rows.length c, .slice none 0 0, .slice K ks.length d] ∧ StrR w lo hi A s.rows.length s.rows ∧ StrR w lo hi K ks.length ks
theorem loc_devR0 (lo hi : Nat) (v : Value) (s : Scr) (ks : List ByteArray) : Loc lo hi (fun w => DevR0 w lo hi v s ks) := fun _ _ hk ⟨A, c, K, d, hv, h1, h2⟩ => ⟨A, c, K, d, hv, h1.keep hk, h2.keep hk⟩
theorem DevR0.below {w w' : World} {lo hi B : Nat} {v : Value} {s : Scr} {ks : List ByteArray} (h : DevR0 w lo hi v s ks) (hb : Below B w w') (hB : hi ≤ B) : DevR0 w' lo hi v s ks := by
  obtain ⟨A, c, K, d, hv, h1, h2⟩ := h
  exact ⟨A, c, K, d, hv, h1.below hb hB, h2.below hb hB⟩

theorem own_reads {w : World} {lo hi : Nat} {t : TypeId} {A : Option Addr} {n c : Nat} {xs : List ByteArray} (h : w.ownsRow lo t 1 (.slice A n c) n (xs.map Value.string)) (hh : ∀ g, (Value.slice A n c).ownBlock = some g → g < hi) : StrR w lo hi A n xs := by
  have hl : xs.length = n := by have := h.1; simpa using this
  refine ⟨hl, fun hn => ?_⟩
  obtain ⟨b, off, e, h2, h3, hc⟩ := (RowR.of_own (d := ByteArray.empty) h).2 hn
  refine ⟨b, off, e, h2, hh b ?_, hc⟩
  subst e
  obtain ⟨g, e2, _⟩ := own_head h hn
  rw [e2]
  injection e2 with e3
  injection e3 with e4
  rw [e4]; rfl

/-- Devices without files, of the call's own: the rows below mid, the keys from it on. -/
def OwnDev0 (w : World) (lo hi : Nat) (v : Value) (s : Scr) (ks : List ByteArray) : Prop :=
  ∃ A c K d mid, v = .agg #[.int .i64 0, .int .i64 s.row, .int .i64 s.col, .slice A s.rows.length c, .slice none 0 0, .slice K ks.length d] ∧ lo ≤ mid ∧ mid ≤ hi ∧
    w.ownsRow lo 9 1 (.slice A s.rows.length c) s.rows.length (s.rows.map Value.string) ∧ (∀ g, (Value.slice A s.rows.length c).ownBlock = some g → g < mid) ∧
    w.ownsRow mid 9 1 (.slice K ks.length d) ks.length (ks.map Value.string) ∧ (∀ g, (Value.slice K ks.length d).ownBlock = some g → g < hi)
theorem loc_ownDev0 (lo hi : Nat) (v : Value) (s : Scr) (ks : List ByteArray) : Loc lo hi (fun w => OwnDev0 w lo hi v s ks) := fun _ _ hk ⟨A, c, K, d, mid, hv, h1, h2, h3, h4, h5, h6⟩ =>
  ⟨A, c, K, d, mid, hv, h1, h2, own_keep h3 h4 (fun b a1 a2 => hk b a1 (by omega)), h4, own_keep h5 h6 (fun b a1 a2 => hk b (by omega) a2), h6⟩
theorem OwnDev0.reads {w : World} {lo hi : Nat} {v : Value} {s : Scr} {ks : List ByteArray} (h : OwnDev0 w lo hi v s ks) : DevR0 w lo hi v s ks := by
  obtain ⟨A, c, K, d, mid, hv, h1, h2, h3, h4, h5, h6⟩ := h
  exact ⟨A, c, K, d, hv, (own_reads h3 h4).more (Nat.le_refl _) h2, (own_reads h5 h6).more h1 (Nat.le_refl _)⟩

/-- Devices without files that bear their marks. -/
def HeldDev0 (w : World) (lo hi : Nat) (v : Value) (m : Int) : Prop :=
  ∃ (s : Scr) (ks : List ByteArray) (A : Option Addr) (c : Nat) (K : Option Addr) (d : Nat), v = .agg #[.int .i64 0, .int .i64 s.row, .int .i64 s.col, .slice A s.rows.length c, .slice none 0 0, .slice K ks.length d] ∧ s.rows.length ≤ 1048576 ∧ ks.length ≤ 1048576 ∧
    StrR w lo hi A s.rows.length (marksFrom 1 s.rows.length) ∧ StrR w lo hi K ks.length (marksFrom (1 + s.rows.length) ks.length) ∧ m = ((1 + s.rows.length + ks.length : Nat) : Int)
theorem loc_heldDev0 (lo hi : Nat) (v : Value) (m : Int) : Loc lo hi (fun w => HeldDev0 w lo hi v m) := fun _ _ hk ⟨s, ks, A, c, K, d, hv, h1, h2, h3, h4, h5⟩ => ⟨s, ks, A, c, K, d, hv, h1, h2, h3.keep hk, h4.keep hk, h5⟩

set_option maxHeartbeats 1000000 in
theorem eqFileS_none (w : World) : Calls Try.prog 88 #[.slice none 0 0, .slice none 0 0] w fun e w' => e = .returned (.bool true) ∧ w = w' := by
  go_enter Try.func88, Try.ntmps88
  go_wp2
  refine wp_loop_rounds 1 ?_
  rw [rounds_succ]
  go_wp2
  go_ret
  exact ⟨rfl, rfl⟩
set_option maxHeartbeats 1000000 in
theorem markFileS_none (k : Nat) (w : World) : Calls Try.prog 93 #[.slice none 0 0, .int .i64 k] w fun e w' => e = .returned (.int .i64 k) ∧ w = w' := by
  go_enter Try.func93, Try.ntmps93
  go_wp2
  refine wp_loop_rounds 1 ?_
  rw [rounds_succ]
  go_wp2
  go_ret
  exact ⟨rfl, rfl⟩
set_option maxHeartbeats 1000000 in
theorem heldFileS_none (k : Nat) (w : World) : Calls Try.prog 94 #[.slice none 0 0, .int .i64 k] w fun e w' => e = .returned (.int .i64 k) ∧ w = w' := by
  go_enter Try.func94, Try.ntmps94
  go_wp2
  refine wp_loop_rounds 1 ?_
  rw [rounds_succ]
  go_wp2
  go_ret
  exact ⟨rfl, rfl⟩

theorem loc_strR (lo hi : Nat) (A : Option Addr) (n : Nat) (xs : List ByteArray) : Loc lo hi (fun w => StrR w lo hi A n xs) := fun _ _ hk h => h.keep hk
theorem loc_own (lo hi : Nat) (A : Option Addr) (n c : Nat) (xs : List Value) (t : TypeId) (hh : ∀ g, (Value.slice A n c).ownBlock = some g → g < hi) : Loc lo hi (fun w => w.ownsRow lo t 1 (.slice A n c) n xs) := fun _ _ hk h => own_keep h hh hk

set_option maxHeartbeats 2000000 in
theorem eqDevices_same0 (s : Scr) (ks : List ByteArray) (v v' : Value) (lo hi lo' hi' : Nat) (w : World) (hx : DevR0 w lo hi v s ks) (hx' : DevR0 w lo' hi' v' s ks) (hhi : hi ≤ w.heap.size) (hhi' : hi' ≤ w.heap.size) (hs : s.rows.length ≤ 1048576 ∧ ks.length ≤ 1048576) :
    Calls Try.prog 39 #[v, v'] w fun e w' => e = .returned (.bool true) ∧ Below w.heap.size w w' := by
  obtain ⟨A, c, K, d, rfl, hA, hK⟩ := hx
  obtain ⟨A', c', K', d', rfl, hA', hK'⟩ := hx'
  obtain ⟨hs1, hs2⟩ := hs
  have R0 := (((((Stand.nil w).add lo hi _ (loc_strR lo hi A _ s.rows) hhi hA).add lo hi _ (loc_strR lo hi K _ ks) hhi hK).add lo' hi' _ (loc_strR lo' hi' A' _ s.rows) hhi' hA').add lo' hi' _ (loc_strR lo' hi' K' _ ks) hhi' hK').box 61 #[.int .i64 0, .int .i64 s.row, .int .i64 s.col, .slice A s.rows.length c, .slice none 0 0, .slice K ks.length d]
  have R1 := R0.box 61 #[.int .i64 0, .int .i64 s.row, .int .i64 s.col, .slice A' s.rows.length c', .slice none 0 0, .slice K' ks.length d']
  rw [World.heap_size_alloc'] at R1
  have HR1 := Lib.hid R1
  clear hA hK hA' hK' R0 R1
  go_enter Try.func39, Try.ntmps39
  go_wp2_with fail
  refine (eqScreen_same s _ _ lo hi lo' hi' _ ⟨A, c, rfl, HR1.out.get 5 rfl⟩ ⟨A', c', rfl, HR1.out.get 3 rfl⟩ (HR1.out.le 5 rfl) (HR1.out.le 3 rfl) hs1).mono ?_
  rintro e1 w1 ⟨rfl, hb1⟩
  have HR2 := Lib.hid (HR1.out.below hb1)
  clear hb1 HR1
  have f1 := (HR2.out.get 1 rfl).cell
  have f0 := (HR2.out.get 0 rfl).cell
  go_wp2_with fail
  refine (eqFileS_none _).mono ?_
  rintro e2 w2 ⟨rfl, rfl⟩
  go_wp2_with fail
  refine (eqStringS_b _ _ _ _ _ _ lo hi lo' hi' ks ks _ (HR2.out.get 4 rfl) (HR2.out.get 2 rfl) (by omega) (by omega)).mono ?_
  rintro e3 w3 ⟨rfl, hb3⟩
  rw [decide_eq_true rfl]
  have HB := Lib.hid (HR2.out.below hb3).1; clear hb3 f0 f1 HR2
  go_wp2_with fail
  go_ret
  exact ⟨rfl, HB.out⟩

set_option maxHeartbeats 2000000 in
theorem markDevices_I0 (s : Scr) (ks : List ByteArray) (v : Value) (lo hi : Nat) (w : World) (h : OwnDev0 w lo hi v s ks) (hhi : hi ≤ w.heap.size) (hs : s.rows.length ≤ 1048576 ∧ ks.length ≤ 1048576) :
    Calls Try.prog 44 #[v, .int .i64 1] w fun e w' => ∃ m : Int, e = .returned (.int .i64 m) ∧ 0 ≤ m ∧ HeldDev0 w' lo hi v m ∧ Within lo hi w w' := by
  obtain ⟨A, c, K, d, mid, rfl, hm1, hm2, hA, hAb, hK, hKb⟩ := h
  obtain ⟨hs1, hs2⟩ := hs
  have hbx := (Below.refl w.heap.size w).alloc (Nat.le_refl _) (.cells #[.int .i64 0, .int .i64 s.row, .int .i64 s.col, .slice A s.rows.length c, .slice none 0 0, .slice K ks.length d] 61)
  have W0 : Within lo hi w (w.alloc (.cells #[.int .i64 0, .int .i64 s.row, .int .i64 s.col, .slice A s.rows.length c, .slice none 0 0, .slice K ks.length d] 61)) := Within.of_below hbx
  have B0 := Blk.new w 61 #[.int .i64 0, .int .i64 s.row, .int .i64 s.col, .slice A s.rows.length c, .slice none 0 0, .slice K ks.length d]
  have HA := Lib.hid (own_below hA hbx); have HK := Lib.hid (own_below hK hbx); have HB0 := Lib.hid B0; have HW0 := Lib.hid W0
  have HAB := Lib.hid hAb; have HKB := Lib.hid hKb
  have HAL := Lib.hid (fun g hg => (hA.lt g hg).1); have HKL := Lib.hid (fun g hg => (hK.lt g hg).1)
  clear hA hK hbx W0 B0 hAb hKb
  go_enter Try.func44, Try.ntmps44
  go_wp2_with fail
  refine (markScreen_one s A c lo _ HA.out hs1).mono ?_
  rintro e1 w1 ⟨rfl, ho1, hg1⟩
  have B1 : Blk w1 w.heap.size 61 #[.int .i64 0, .int .i64 s.row, .int .i64 s.col, .slice A s.rows.length c, .slice none 0 0, .slice K ks.length d] := HB0.out.same (hg1.block _ HB0.out.lt (fun e => by have := HAB.out _ e.symm; omega))
  have HK1 := Lib.hid (own_keep (hi := hi) HK.out HKB.out (fun b h1 h2 => hg1.block b (by rw [World.heap_size_alloc']; omega) (fun e => by have := HAB.out _ e.symm; omega)))
  have HW1 := Lib.hid (HW0.out.trans (Within.of_grown (lo := lo) (hi := hi) hg1 (fun g hg => ⟨HAL.out g hg, by have := HAB.out g hg; omega⟩)))
  have HO1 := Lib.hid ho1
  have HB1 := Lib.hid B1
  have f := B1.cell
  have hz1 := hg1.size
  clear hg1 ho1 B1 HA HK HB0 HW0
  go_wp2_with fail
  refine (markFileS_none _ _).mono ?_
  rintro e2 w2 ⟨rfl, rfl⟩
  go_wp2_with fail
  refine (markStringS_any mid K ks.length d (1 + s.rows.length) ks _ HK1.out (by omega) (by omega)).mono ?_
  rintro e3 w3 ⟨rfl, ho3, hg3⟩
  have HO3 := Lib.hid ho3
  have HW3 := Lib.hid (HW1.out.trans (Within.of_grown (lo := lo) (hi := hi) hg3 (fun g hg => ⟨by have := HKL.out g hg; omega, HKB.out g hg⟩)))
  have HA3 := Lib.hid (own_keep (hi := mid) HO1.out HAB.out (fun b h1 h2 => hg3.block b (by rw [World.heap_size_alloc'] at hz1; omega) (fun e => by have := HKL.out _ e.symm; omega)))
  clear ho3 hg3 f
  go_wp2_with fail
  go_ret
  refine ⟨_, rfl, by omega, ⟨s, ks, A, c, K, d, rfl, hs1, hs2, (own_reads HA3.out HAB.out).more (Nat.le_refl _) hm2, (own_reads HO3.out HKB.out).more hm1 (Nat.le_refl _), rfl⟩, HW3.out⟩

set_option maxHeartbeats 2000000 in
theorem heldDevices_I0 (v : Value) (m : Int) (lo hi : Nat) (w : World) (h : HeldDev0 w lo hi v m) (hhi : hi ≤ w.heap.size) :
    Calls Try.prog 45 #[v, .int .i64 1] w fun e w' => e = .returned (.int .i64 m) ∧ Below w.heap.size w w' := by
  obtain ⟨s, ks, A, c, K, d, rfl, hs1, hs2, hA, hK, rfl⟩ := h
  have R0 := (((Stand.nil w).add lo hi _ (loc_strR lo hi A _ _) hhi hA).add lo hi _ (loc_strR lo hi K _ _) hhi hK).box 61 #[.int .i64 0, .int .i64 s.row, .int .i64 s.col, .slice A s.rows.length c, .slice none 0 0, .slice K ks.length d]
  have HR0 := Lib.hid R0
  clear hA hK R0
  go_enter Try.func45, Try.ntmps45
  go_wp2_with fail
  refine (heldScreen_one s A c lo hi _ (HR0.out.get 2 rfl) (HR0.out.le 2 rfl) hs1).mono ?_
  rintro e1 w1 ⟨rfl, hb1⟩
  have HR1 := Lib.hid (HR0.out.below hb1)
  have f := (HR1.out.get 0 rfl).cell
  have n1 : ¬ (((1 + s.rows.length : Nat) : Int) < 0) := by omega
  clear hb1 HR0
  go_wp2_with fail
  refine (heldFileS_none _ _).mono ?_
  rintro e2 w2 ⟨rfl, rfl⟩
  go_wp2_with fail
  refine (heldStringS_any K ks.length d (1 + s.rows.length) lo hi _ (HR1.out.get 1 rfl) (HR1.out.le 1 rfl) (by omega) (by omega)).mono ?_
  rintro e3 w3 ⟨rfl, hb3⟩
  have HB := Lib.hid (HR1.out.below hb3).1
  have n3 : ¬ (((1 + s.rows.length + ks.length : Nat) : Int) < 0) := by omega
  clear hb3 f HR1
  go_wp2_with fail
  go_ret
  exact ⟨rfl, HB.out⟩

end Go.Proofs.Ytcfmgmbolnifgaa
