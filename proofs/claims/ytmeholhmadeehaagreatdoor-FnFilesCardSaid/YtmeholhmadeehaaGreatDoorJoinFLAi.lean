/- Walks: both NewDevices; eqDevices, markDevices, heldDevices of devices without files. -/
import Derived.Test.YtmeholhmadeehaaGreatDoorJoinFLAh
import Derived.Test.YtmeholhmadeehaaGreatDoorJoinFLAg
import Derived.Test.YtmeholhmadeehaaGreatDoorJoinFLAd
namespace Go.Proofs.YtmeholhmadeehaaGreatDoor
open Go.RowKit

def newDevP (xs : List ByteArray) : Scr × List ByteArray × Int := if 20 < xs.length then (noScr, [], 4) else if keysB xs then (blankScr, xs, 0) else (noScr, [], 1)

/-- Devices without files: their value, and where it lies. -/
def DevR0 (w : World) (lo hi : Nat) (v : Value) (s : Scr) (ks : List ByteArray) : Prop :=
  ∃ A c K d, v = .agg #[.int .i64 0, .int .i64 s.row, .int .i64 s.col, .slice A s.rows.length c, .slice none 0 0, .slice K ks.length d] ∧ StrR w lo hi A s.rows.length s.rows ∧ StrR w lo hi K ks.length ks
theorem loc_devR0 (lo hi : Nat) (v : Value) (s : Scr) (ks : List ByteArray) : Loc lo hi (fun w => DevR0 w lo hi v s ks) := fun _ _ hk ⟨A, c, K, d, hv, h1, h2⟩ => ⟨A, c, K, d, hv, h1.keep hk, h2.keep hk⟩
theorem DevR0.below {w w' : World} {lo hi B : Nat} {v : Value} {s : Scr} {ks : List ByteArray} (h : DevR0 w lo hi v s ks) (hb : Below B w w') (hB : hi ≤ B) : DevR0 w' lo hi v s ks := by
  obtain ⟨A, c, K, d, hv, h1, h2⟩ := h
  exact ⟨A, c, K, d, hv, h1.below hb hB, h2.below hb hB⟩

theorem own_reads {w : World} {lo hi : Nat} {t : TypeId} {A : Option Addr} {n c : Nat} {xs : List ByteArray} (h : w.ownsRow lo t 1 (.slice A n c) n (xs.map Value.string)) (hh : ∀ g, (Value.slice A n c).ownBlock = some g → g < hi) : StrR w lo hi A n xs := by
  have hl : xs.length = n := by have := h.1; simpa using this
  refine ⟨hl, fun hn => ?_⟩
  obtain ⟨b, off, e, h2, h3, hc⟩ := (RowR.of_own (d := ByteArray.empty) h).2 hn
  refine ⟨b, off, e, h2, hh b ?_, hc⟩
  subst e
  obtain ⟨g, e2, _⟩ := own_head h hn
  rw [e2]
  injection e2 with e3
  injection e3 with e4
  rw [e4]; rfl

/-- Devices without files, of the call's own: the rows below mid, the keys from it on. -/
def OwnDev0 (w : World) (lo hi : Nat) (v : Value) (s : Scr) (ks : List ByteArray) : Prop :=
  ∃ A c K d mid, v = .agg #[.int .i64 0, .int .i64 s.row, .int .i64 s.col, .slice A s.rows.length c, .slice none 0 0, .slice K ks.length d] ∧ lo ≤ mid ∧ mid ≤ hi ∧
    w.ownsRow lo 9 1 (.slice A s.rows.length c) s.rows.length (s.rows.map Value.string) ∧ (∀ g, (Value.slice A s.rows.length c).ownBlock = some g → g < mid) ∧
    w.ownsRow mid 9 1 (.slice K ks.length d) ks.length (ks.map Value.string) ∧ (∀ g, (Value.slice K ks.length d).ownBlock = some g → g < hi)
theorem loc_ownDev0 (lo hi : Nat) (v : Value) (s : Scr) (ks : List ByteArray) : Loc lo hi (fun w => OwnDev0 w lo hi v s ks) := fun _ _ hk ⟨A, c, K, d, mid, hv, h1, h2, h3, h4, h5, h6⟩ =>
  ⟨A, c, K, d, mid, hv, h1, h2, own_keep h3 h4 (fun b a1 a2 => hk b a1 (by omega)), h4, own_keep h5 h6 (fun b a1 a2 => hk b (by omega) a2), h6⟩
theorem OwnDev0.reads {w : World} {lo hi : Nat} {v : Value} {s : Scr} {ks : List ByteArray} (h : OwnDev0 w lo hi v s ks) : DevR0 w lo hi v s ks := by
  obtain ⟨A, c, K, d, mid, hv, h1, h2, h3, h4, h5, h6⟩ := h
  exact ⟨A, c, K, d, hv, (own_reads h3 h4).more (Nat.le_refl _) h2, (own_reads h5 h6).more h1 (Nat.le_refl _)⟩

/-- Devices without files that bear their marks. -/
def HeldDev0 (w : World) (lo hi : Nat) (v : Value) (m : Int) : Prop :=
  ∃ (s : Scr) (ks : List ByteArray) (A : Option Addr) (c : Nat) (K : Option Addr) (d : Nat), v = .agg #[.int .i64 0, .int .i64 s.row, .int .i64 s.col, .slice A s.rows.length c, .slice none 0 0, .slice K ks.length d] ∧ s.rows.length ≤ 1048576 ∧ ks.length ≤ 1048576 ∧
    StrR w lo hi A s.rows.length (marksFrom 1 s.rows.length) ∧ StrR w lo hi K ks.length (marksFrom (1 + s.rows.length) ks.length) ∧ m = ((1 + s.rows.length + ks.length : Nat) : Int)
theorem loc_heldDev0 (lo hi : Nat) (v : Value) (m : Int) : Loc lo hi (fun w => HeldDev0 w lo hi v m) := fun _ _ hk ⟨s, ks, A, c, K, d, hv, h1, h2, h3, h4, h5⟩ => ⟨s, ks, A, c, K, d, hv, h1, h2, h3.keep hk, h4.keep hk, h5⟩

set_option maxHeartbeats 1000000 in
theorem eqFileS_none (w : World) : Calls Tryz.prog 39 #[.slice none 0 0, .slice none 0 0] w fun e w' => e = .returned (.bool true) ∧ w = w' := by
  go_enter Tryz.func39, Tryz.ntmps39
  go_wp2
  refine wp_loop_rounds 1 ?_
  rw [rounds_succ]
  go_wp2
  go_ret
  exact ⟨rfl, rfl⟩
set_option maxHeartbeats 1000000 in
theorem markFileS_none (k : Nat) (w : World) : Calls Tryz.prog 42 #[.slice none 0 0, .int .i64 k] w fun e w' => e = .returned (.int .i64 k) ∧ w = w' := by
  go_enter Tryz.func42, Tryz.ntmps42
  go_wp2
  refine wp_loop_rounds 1 ?_
  rw [rounds_succ]
  go_wp2
  go_ret
  exact ⟨rfl, rfl⟩
set_option maxHeartbeats 1000000 in
theorem heldFileS_none (k : Nat) (w : World) : Calls Tryz.prog 45 #[.slice none 0 0, .int .i64 k] w fun e w' => e = .returned (.int .i64 k) ∧ w = w' := by
  go_enter Tryz.func45, Tryz.ntmps45
  go_wp2
  refine wp_loop_rounds 1 ?_
  rw [rounds_succ]
  go_wp2
  go_ret
  exact ⟨rfl, rfl⟩

theorem loc_strR (lo hi : Nat) (A : Option Addr) (n : Nat) (xs : List ByteArray) : Loc lo hi (fun w => StrR w lo hi A n xs) := fun _ _ hk h => h.keep hk
theorem loc_own (lo hi : Nat) (A : Option Addr) (n c : Nat) (xs : List Value) (t : TypeId) (hh : ∀ g, (Value.slice A n c).ownBlock = some g → g < hi) : Loc lo hi (fun w => w.ownsRow lo t 1 (.slice A n c) n xs) := fun _ _ hk h => own_keep h hh hk

set_option maxHeartbeats 2000000 in
theorem eqDevices_same0 (s : Scr) (ks : List ByteArray) (v v' : Value) (lo hi lo' hi' : Nat) (w : World) (hx : DevR0 w lo hi v s ks) (hx' : DevR0 w lo' hi' v' s ks) (hhi : hi ≤ w.heap.size) (hhi' : hi' ≤ w.heap.size) (hs : s.rows.length ≤ 1048576 ∧ ks.length ≤ 1048576) :
    Calls Tryz.prog 9 #[v, v'] w fun e w' => e = .returned (.bool true) ∧ Below w.heap.size w w' := by
  obtain ⟨A, c, K, d, rfl, hA, hK⟩ := hx
  obtain ⟨A', c', K', d', rfl, hA', hK'⟩ := hx'
  obtain ⟨hs1, hs2⟩ := hs
  have R0 := (((((Stand.nil w).add lo hi _ (loc_strR lo hi A _ s.rows) hhi hA).add lo hi _ (loc_strR lo hi K _ ks) hhi hK).add lo' hi' _ (loc_strR lo' hi' A' _ s.rows) hhi' hA').add lo' hi' _ (loc_strR lo' hi' K' _ ks) hhi' hK').box 32 #[.int .i64 0, .int .i64 s.row, .int .i64 s.col, .slice A s.rows.length c, .slice none 0 0, .slice K ks.length d]
  have R1 := R0.box 32 #[.int .i64 0, .int .i64 s.row, .int .i64 s.col, .slice A' s.rows.length c', .slice none 0 0, .slice K' ks.length d']
  rw [World.heap_size_alloc'] at R1
  have HR1 := Lib.hid R1
  clear hA hK hA' hK' R0 R1
  go_enter Tryz.func9, Tryz.ntmps9
  go_wp2_with fail
  refine (eqScreen_same s _ _ lo hi lo' hi' _ ⟨A, c, rfl, HR1.out.get 5 rfl⟩ ⟨A', c', rfl, HR1.out.get 3 rfl⟩ (HR1.out.le 5 rfl) (HR1.out.le 3 rfl) hs1).mono ?_
  rintro e1 w1 ⟨rfl, hb1⟩
  have HR2 := Lib.hid (HR1.out.below hb1)
  clear hb1 HR1
  have f1 := (HR2.out.get 1 rfl).cell
  have f0 := (HR2.out.get 0 rfl).cell
  go_wp2_with fail
  refine (eqFileS_none _).mono ?_
  rintro e2 w2 ⟨rfl, rfl⟩
  go_wp2_with fail
  refine (eqStringS_b _ _ _ _ _ _ lo hi lo' hi' ks ks _ (HR2.out.get 4 rfl) (HR2.out.get 2 rfl) (by omega) (by omega)).mono ?_
  rintro e3 w3 ⟨rfl, hb3⟩
  rw [decide_eq_true rfl]
  have HB := Lib.hid (HR2.out.below hb3).1; clear hb3 f0 f1 HR2
  go_wp2_with fail
  go_ret
  exact ⟨rfl, HB.out⟩

set_option maxHeartbeats 2000000 in
theorem markDevices_I0 (s : Scr) (ks : List ByteArray) (v : Value) (lo hi : Nat) (w : World) (h : OwnDev0 w lo hi v s ks) (hhi : hi ≤ w.heap.size) (hs : s.rows.length ≤ 1048576 ∧ ks.length ≤ 1048576) :
    Calls Tryz.prog 10 #[v, .int .i64 1] w fun e w' => ∃ m : Int, e = .returned (.int .i64 m) ∧ 0 ≤ m ∧ HeldDev0 w' lo hi v m ∧ Within lo hi w w' := by
  obtain ⟨A, c, K, d, mid, rfl, hm1, hm2, hA, hAb, hK, hKb⟩ := h
  obtain ⟨hs1, hs2⟩ := hs
  have hbx := (Below.refl w.heap.size w).alloc (Nat.le_refl _) (.cells #[.int .i64 0, .int .i64 s.row, .int .i64 s.col, .slice A s.rows.length c, .slice none 0 0, .slice K ks.length d] 32)
  have W0 : Within lo hi w (w.alloc (.cells #[.int .i64 0, .int .i64 s.row, .int .i64 s.col, .slice A s.rows.length c, .slice none 0 0, .slice K ks.length d] 32)) := Within.of_below hbx
  have B0 := Blk.new w 32 #[.int .i64 0, .int .i64 s.row, .int .i64 s.col, .slice A s.rows.length c, .slice none 0 0, .slice K ks.length d]
  have HA := Lib.hid (own_below hA hbx); have HK := Lib.hid (own_below hK hbx); have HB0 := Lib.hid B0; have HW0 := Lib.hid W0
  have HAB := Lib.hid hAb; have HKB := Lib.hid hKb
  have HAL := Lib.hid (fun g hg => (hA.lt g hg).1); have HKL := Lib.hid (fun g hg => (hK.lt g hg).1)
  clear hA hK hbx W0 B0 hAb hKb
  go_enter Tryz.func10, Tryz.ntmps10
  go_wp2_with fail
  refine (markScreen_one s A c lo _ HA.out hs1).mono ?_
  rintro e1 w1 ⟨rfl, ho1, hg1⟩
  have B1 : Blk w1 w.heap.size 32 #[.int .i64 0, .int .i64 s.row, .int .i64 s.col, .slice A s.rows.length c, .slice none 0 0, .slice K ks.length d] := HB0.out.same (hg1.block _ HB0.out.lt (fun e => by have := HAB.out _ e.symm; omega))
  have HK1 := Lib.hid (own_keep (hi := hi) HK.out HKB.out (fun b h1 h2 => hg1.block b (by rw [World.heap_size_alloc']; omega) (fun e => by have := HAB.out _ e.symm; omega)))
  have HW1 := Lib.hid (HW0.out.trans (Within.of_grown (lo := lo) (hi := hi) hg1 (fun g hg => ⟨HAL.out g hg, by have := HAB.out g hg; omega⟩)))
  have HO1 := Lib.hid ho1
  have HB1 := Lib.hid B1
  have f := B1.cell
  have hz1 := hg1.size
  clear hg1 ho1 B1 HA HK HB0 HW0
  go_wp2_with fail
  refine (markFileS_none _ _).mono ?_
  rintro e2 w2 ⟨rfl, rfl⟩
  go_wp2_with fail
  refine (markStringS_any mid K ks.length d (1 + s.rows.length) ks _ HK1.out (by omega) (by omega)).mono ?_
  rintro e3 w3 ⟨rfl, ho3, hg3⟩
  have HO3 := Lib.hid ho3
  have HW3 := Lib.hid (HW1.out.trans (Within.of_grown (lo := lo) (hi := hi) hg3 (fun g hg => ⟨by have := HKL.out g hg; omega, HKB.out g hg⟩)))
  have HA3 := Lib.hid (own_keep (hi := mid) HO1.out HAB.out (fun b h1 h2 => hg3.block b (by rw [World.heap_size_alloc'] at hz1; omega) (fun e => by have := HKL.out _ e.symm; omega)))
  clear ho3 hg3 f
  go_wp2_with fail
  go_ret
  refine ⟨_, rfl, by omega, ⟨s, ks, A, c, K, d, rfl, hs1, hs2, (own_reads HA3.out HAB.out).more (Nat.le_refl _) hm2, (own_reads HO3.out HKB.out).more hm1 (Nat.le_refl _), rfl⟩, HW3.out⟩

set_option maxHeartbeats 2000000 in
theorem heldDevices_I0 (v : Value) (m : Int) (lo hi : Nat) (w : World) (h : HeldDev0 w lo hi v m) (hhi : hi ≤ w.heap.size) :
    Calls Tryz.prog 11 #[v, .int .i64 1] w fun e w' => e = .returned (.int .i64 m) ∧ Below w.heap.size w w' := by
  obtain ⟨s, ks, A, c, K, d, rfl, hs1, hs2, hA, hK, rfl⟩ := h
  have R0 := (((Stand.nil w).add lo hi _ (loc_strR lo hi A _ _) hhi hA).add lo hi _ (loc_strR lo hi K _ _) hhi hK).box 32 #[.int .i64 0, .int .i64 s.row, .int .i64 s.col, .slice A s.rows.length c, .slice none 0 0, .slice K ks.length d]
  have HR0 := Lib.hid R0
  clear hA hK R0
  go_enter Tryz.func11, Tryz.ntmps11
  go_wp2_with fail
  refine (heldScreen_one s A c lo hi _ (HR0.out.get 2 rfl) (HR0.out.le 2 rfl) hs1).mono ?_
  rintro e1 w1 ⟨rfl, hb1⟩
  have HR1 := Lib.hid (HR0.out.below hb1)
  have f := (HR1.out.get 0 rfl).cell
  have n1 : ¬ (((1 + s.rows.length : Nat) : Int) < 0) := by omega
  clear hb1 HR0
  go_wp2_with fail
  refine (heldFileS_none _ _).mono ?_
  rintro e2 w2 ⟨rfl, rfl⟩
  go_wp2_with fail
  refine (heldStringS_any K ks.length d (1 + s.rows.length) lo hi _ (HR1.out.get 1 rfl) (HR1.out.le 1 rfl) (by omega) (by omega)).mono ?_
  rintro e3 w3 ⟨rfl, hb3⟩
  have HB := Lib.hid (HR1.out.below hb3).1
  have n3 : ¬ (((1 + s.rows.length + ks.length : Nat) : Int) < 0) := by omega
  clear hb3 f HR1
  go_wp2_with fail
  go_ret
  exact ⟨rfl, HB.out⟩

end Go.Proofs.YtmeholhmadeehaaGreatDoor

/- Devices: their values; szDevices, toDevices, eqDevices walked. -/
namespace Go.Proofs.YtmeholhmadeehaaGreatDoor
open Go.RowKit

structure Dev where
  use : Int
  scr : Scr
  files : List Fil
  keys : List ByteArray

abbrev devCs (d : Dev) (A : Option Addr) (c : Nat) (F : Option Addr) (cf : Nat) (K : Option Addr) (ck : Nat) : Array Value :=
  #[.int .i64 d.use, .int .i64 d.scr.row, .int .i64 d.scr.col, .slice A d.scr.rows.length c, .slice F d.files.length cf, .slice K d.keys.length ck]

/-- The value v of devices reads as d. -/
def DevR (w : World) (lo hi : Nat) (v : Value) (d : Dev) : Prop :=
  ∃ A c F cf K ck, v = .agg (devCs d A c F cf K ck) ∧ StrR w lo hi A d.scr.rows.length d.scr.rows ∧ FilesR w lo hi F d.files.length d.files ∧ StrR w lo hi K d.keys.length d.keys
theorem loc_devR (lo hi : Nat) (v : Value) (d : Dev) : Loc lo hi (fun w => DevR w lo hi v d) := fun _ _ hk ⟨A, c, F, cf, K, ck, hv, h1, h2, h3⟩ => ⟨A, c, F, cf, K, ck, hv, h1.keep hk, h2.keep hk, h3.keep hk⟩

def DevReach (d : Dev) : Prop := (d.scr.rows.length ≤ 9223372036854775807 ∧ ∀ r ∈ d.scr.rows, r.size ≤ 9223372036854775807) ∧ (d.files.length ≤ 9223372036854775807 ∧ ∀ f ∈ d.files, FilReach f) ∧ (d.keys.length ≤ 9223372036854775807 ∧ ∀ r ∈ d.keys, r.size ≤ 9223372036854775807)
def DevSmall (d : Dev) : Prop := ScrSmall d.scr ∧ FilsSmall d.files ∧ (d.keys.length ≤ 1048576 ∧ ∀ r ∈ d.keys, r.size ≤ 1048576)
def costDev (d : Dev) : Nat := costStrs d.scr.rows + costFils d.files + costStrs d.keys
theorem DevSmall.of_cost {d : Dev} (h : costDev d ≤ 1048576) : DevSmall d := by
  unfold costDev at h
  refine ⟨ScrSmall.of_cost (by omega), FilsSmall.of_cost (by omega), ?_⟩
  have h2 : costStrs d.keys ≤ 1048576 := by omega
  unfold costStrs at h2
  exact ⟨by omega, fun y hy => by have := mem_le_sizeAll hy; omega⟩

set_option maxHeartbeats 2000000 in
theorem szDevices_any (d : Dev) (v : Value) (lo hi : Nat) (left : Int) (w : World) (hx : DevR w lo hi v d) (hhi : hi ≤ w.heap.size) (hr : DevReach d) (hl0 : 0 ≤ left) (hl : left ≤ 1048576) :
    Calls Tryz.prog 5 #[v, .int .i64 left] w fun e w' => ∃ m, e = .returned (.int .i64 m) ∧ Left left (costDev d) m ∧ Below w.heap.size w w' := by
  obtain ⟨A, c, F, cf, K, ck, rfl, hA, hF, hK⟩ := hx
  have HQ := Lib.hid (show costDev d = costStrs d.scr.rows + costFils d.files + costStrs d.keys from rfl)
  generalize costDev d = Q at *
  obtain ⟨use, scr, files, keys⟩ := d
  dsimp only at *
  have R0 := ((((Stand.nil w).add lo hi _ (loc_strR0 lo hi A _ scr.rows) hhi hA).add lo hi _ (loc_filesR lo hi F _ files) hhi hF).add lo hi _ (loc_strR0 lo hi K _ keys) hhi hK).box 27 (devCs ⟨use, scr, files, keys⟩ A c F cf K ck)
  have HR0 := Lib.hid R0; have HR := Lib.hid hr
  clear hA hF hK R0 hr
  go_enter Tryz.func5, Tryz.ntmps5
  go_wp2_with fail
  refine (szScreen_any scr _ lo hi _ _ ⟨A, c, rfl, HR0.out.get 3 rfl⟩ (HR0.out.le 3 rfl) HR.out.1 hl0 hl).mono ?_
  rintro e1 w1 ⟨m1, rfl, hm1, hb1⟩
  have HR1 := Lib.hid (HR0.out.below hb1); clear hb1 HR0
  rcases hm1 with rfl | ⟨hm10, hm1⟩
  · go_wp2_with fail
    go_ret
    exact ⟨_, rfl, .inl rfl, HR1.out.1⟩
  have n1 : ¬ (m1 < 0) := by omega
  have l1 : m1 ≤ 1048576 := by omega
  have HM1 := Lib.hid hm1; clear hm1
  have f := (HR1.out.get 0 rfl).cell
  go_wp2_with fail
  refine (szFileS_any F _ cf lo hi _ files _ (HR1.out.get 2 rfl) (HR1.out.le 2 rfl) HR.out.2.1.1 HR.out.2.1.2 hm10 l1).mono ?_
  rintro e2 w2 ⟨m2, rfl, hm2, hb2⟩
  have HR2 := Lib.hid (HR1.out.below hb2); clear hb2 HR1 f
  rcases hm2 with rfl | ⟨hm20, hm2⟩
  · go_wp2_with fail
    go_ret
    exact ⟨_, rfl, .inl rfl, HR2.out.1⟩
  have n2 : ¬ (m2 < 0) := by omega
  have l2 : m2 ≤ 1048576 := by omega
  have HM2 := Lib.hid hm2; clear hm2
  have f := (HR2.out.get 0 rfl).cell
  go_wp2_with fail
  refine (szStringS_m K _ ck lo hi _ keys _ (HR2.out.get 1 rfl) HR.out.2.2.1 hm20 l2 HR.out.2.2.2).mono ?_
  rintro e3 w3 ⟨m3, rfl, hm3, rfl⟩
  clear f
  rcases hm3 with rfl | ⟨hm30, hm3⟩
  · go_wp2_with fail
    go_ret
    exact ⟨_, rfl, .inl rfl, HR2.out.1⟩
  have n3 : ¬ (m3 < 0) := by omega
  have HM3 := Lib.hid hm3; clear hm3
  go_wp2_with fail
  go_ret
  refine ⟨_, rfl, .inr ⟨hm30, ?_⟩, HR2.out.1⟩
  have := HM1.out; have := HM2.out; have := HM3.out; have := HQ.out
  omega

set_option maxHeartbeats 2000000 in
theorem eqDevices_same (d : Dev) (v v' : Value) (lo hi lo' hi' : Nat) (w : World) (hx : DevR w lo hi v d) (hx' : DevR w lo' hi' v' d) (hhi : hi ≤ w.heap.size) (hhi' : hi' ≤ w.heap.size) (hs : DevSmall d) :
    Calls Tryz.prog 9 #[v, v'] w fun e w' => e = .returned (.bool true) ∧ Below w.heap.size w w' := by
  obtain ⟨A, c, F, cf, K, ck, rfl, hA, hF, hK⟩ := hx
  obtain ⟨A', c', F', cf', K', ck', rfl, hA', hF', hK'⟩ := hx'
  obtain ⟨use, scr, files, keys⟩ := d
  obtain ⟨hs1, hs2, hs3⟩ := hs
  dsimp only at *
  have R0 := (((((((Stand.nil w).add lo hi _ (loc_strR0 lo hi A _ scr.rows) hhi hA).add lo hi _ (loc_filesR lo hi F _ files) hhi hF).add lo hi _ (loc_strR0 lo hi K _ keys) hhi hK).add lo' hi' _ (loc_strR0 lo' hi' A' _ scr.rows) hhi' hA').add lo' hi' _ (loc_filesR lo' hi' F' _ files) hhi' hF').add lo' hi' _ (loc_strR0 lo' hi' K' _ keys) hhi' hK').box 32 (devCs ⟨use, scr, files, keys⟩ A c F cf K ck)
  have R1 := R0.box 32 (devCs ⟨use, scr, files, keys⟩ A' c' F' cf' K' ck')
  rw [heap_size_alloc1] at R1
  have HR1 := Lib.hid R1; have HS1 := Lib.hid hs1; have HS2 := Lib.hid hs2
  have hk := hs3.1
  clear hA hF hK hA' hF' hK' R0 R1 hs1 hs2 hs3
  go_enter Tryz.func9, Tryz.ntmps9
  go_wp2_with fail
  refine (eqScreen_same scr _ _ lo hi lo' hi' _ ⟨A, c, rfl, HR1.out.get 7 rfl⟩ ⟨A', c', rfl, HR1.out.get 4 rfl⟩ (HR1.out.le 7 rfl) (HR1.out.le 4 rfl) HS1.out.1).mono ?_
  rintro e1 w1 ⟨rfl, hb1⟩
  have HR2 := Lib.hid (HR1.out.below hb1)
  clear hb1 HR1
  have f1 := (HR2.out.get 1 rfl).cell
  have f0 := (HR2.out.get 0 rfl).cell
  go_wp2_with fail
  refine (eqFileS_same F F' _ cf cf' lo hi lo' hi' files _ (HR2.out.get 6 rfl) (HR2.out.get 3 rfl) (HR2.out.le 6 rfl) (HR2.out.le 3 rfl) HS2.out).mono ?_
  rintro e2 w2 ⟨rfl, hb2⟩
  have HR3 := Lib.hid (HR2.out.below hb2)
  clear hb2 HR2 f0 f1
  have f1 := (HR3.out.get 1 rfl).cell
  have f0 := (HR3.out.get 0 rfl).cell
  go_wp2_with fail
  refine (eqStringS_b _ _ _ _ _ _ lo hi lo' hi' keys keys _ (HR3.out.get 5 rfl) (HR3.out.get 2 rfl) (by omega) (by omega)).mono ?_
  rintro e3 w3 ⟨rfl, hb3⟩
  rw [decide_eq_true rfl]
  have HB := Lib.hid (HR3.out.below hb3).1; clear hb3 f0 f1 HR3
  go_wp2_with fail
  go_ret
  exact ⟨rfl, HB.out⟩

end Go.Proofs.YtmeholhmadeehaaGreatDoor

/- Devices of the call's own; toDevices walked. -/
namespace Go.Proofs.YtmeholhmadeehaaGreatDoor
open Go.RowKit

def apart2 (a b c d : Nat) : Prop := b ≤ c ∨ d ≤ a

/-- Devices of the call's own: rows, files and keys lie apart. -/
def OwnDev (w : World) (lo hi : Nat) (v : Value) (d : Dev) : Prop :=
  ∃ A c F cf K ck a1 b1 a2 b2 a3 b3, v = .agg (devCs d A c F cf K ck) ∧ (lo ≤ a1 ∧ b1 ≤ hi ∧ lo ≤ a2 ∧ b2 ≤ hi ∧ lo ≤ a3 ∧ b3 ≤ hi) ∧ (apart2 a1 b1 a2 b2 ∧ apart2 a1 b1 a3 b3 ∧ apart2 a2 b2 a3 b3) ∧
    (w.ownsRow a1 9 1 (.slice A d.scr.rows.length c) d.scr.rows.length (d.scr.rows.map Value.string) ∧ ∀ g, rowOf A d.scr.rows.length c = some g → g < b1) ∧
    OwnFils w a2 b2 F d.files ∧
    (w.ownsRow a3 9 1 (.slice K d.keys.length ck) d.keys.length (d.keys.map Value.string) ∧ ∀ g, rowOf K d.keys.length ck = some g → g < b3)

theorem FilesR.more {w : World} {lo hi lo' hi' : Nat} {A : Option Addr} {n : Nat} {fs : List Fil} (h : FilesR w lo hi A n fs) (h1 : lo' ≤ lo) (h2 : hi ≤ hi') : FilesR w lo' hi' A n fs :=
  ⟨h.1, fun hn => by
    obtain ⟨b, off, e, a1, a2, hc⟩ := h.2 hn
    refine ⟨b, off, e, by omega, by omega, fun j hj => ?_⟩
    obtain ⟨L, c, e0, e1, e2, e3, hL⟩ := hc j hj
    exact ⟨L, c, e0, e1, e2, e3, hL.more h1 h2⟩⟩

theorem OwnDev.reads {w : World} {lo hi : Nat} {v : Value} {d : Dev} (h : OwnDev w lo hi v d) : DevR w lo hi v d := by
  obtain ⟨A, c, F, cf, K, ck, a1, b1, a2, b2, a3, b3, hv, ⟨p1, p2, p3, p4, p5, p6⟩, _, ⟨h1, h2⟩, h3, h4, h5⟩ := h
  exact ⟨A, c, F, cf, K, ck, hv, (own_reads h1 h2).more p1 p2, h3.reads.more p3 p4, (own_reads h4 h5).more p5 p6⟩
theorem loc_ownDev (lo hi : Nat) (v : Value) (d : Dev) : Loc lo hi (fun w => OwnDev w lo hi v d) := fun w w' hk ⟨A, c, F, cf, K, ck, a1, b1, a2, b2, a3, b3, hv, hp, ha, ⟨h1, h2⟩, h3, h4, h5⟩ => by
  obtain ⟨p1, p2, p3, p4, p5, p6⟩ := hp
  exact ⟨A, c, F, cf, K, ck, a1, b1, a2, b2, a3, b3, hv, ⟨p1, p2, p3, p4, p5, p6⟩, ha, ⟨own_keep h1 h2 (fun b q1 q2 => hk b (by omega) (by omega)), h2⟩, loc_ownFils a2 b2 F d.files w w' (fun b q1 q2 => hk b (by omega) (by omega)) h3, own_keep h4 h5 (fun b q1 q2 => hk b (by omega) (by omega)), h5⟩

theorem OwnFils.far {w : World} {lo hi : Nat} {A : Option Addr} {fs : List Fil} {p : Addr} (h : OwnFils w lo hi A fs) (hp : p.block < lo) (u : Value) : OwnFils (w.setCell p u) lo hi A fs :=
  loc_ownFils lo hi A fs w _ (fun b h1 _ => Below.heap_setCell w p u b (by omega)) h
theorem OwnFils.below {w w' : World} {lo hi B : Nat} {A : Option Addr} {fs : List Fil} (h : OwnFils w lo hi A fs) (hb : Below B w w') (hB : hi ≤ B) : OwnFils w' lo hi A fs :=
  loc_ownFils lo hi A fs w _ (fun b _ h2 => hb.block b (by omega)) h

set_option maxHeartbeats 4000000 in
set_option maxRecDepth 100000 in
theorem toDevices_any (d : Dev) (v : Value) (lo hi : Nat) (w : World) (hx : DevR w lo hi v d) (hhi : hi ≤ w.heap.size) (hs : DevSmall d) :
    Calls Tryz.prog 7 #[v] w fun e w' => ∃ v', e = .returned v' ∧ OwnDev w' w.heap.size w'.heap.size v' d ∧ Below w.heap.size w w' := by
  obtain ⟨A, c, F, cf, K, ck, rfl, hA, hF, hK⟩ := hx
  obtain ⟨use, scr, files, keys⟩ := d
  obtain ⟨hs1, hs2, hs3⟩ := hs
  dsimp only at *
  have HA := Lib.hid hA; have HF := Lib.hid hF; have HK := Lib.hid hK; have HS1 := Lib.hid hs1; have HS2 := Lib.hid hs2
  have hk := hs3.1
  clear hA hF hK hs1 hs2 hs3
  go_enter Tryz.func7, Tryz.ntmps7
  go_wp2_with fail
  have T0 := Three.start w 27 32 32 (devCs ⟨use, scr, files, keys⟩ A c F cf K ck)
    #[.int .i64 0, .int .i64 0, .int .i64 0, .slice none 0 0, .slice none 0 0, .slice none 0 0] #[.int .i64 use, .int .i64 0, .int .i64 0, .slice none 0 0, .slice none 0 0, .slice none 0 0]
  refine (toScreen_any scr _ lo hi _ ⟨A, c, rfl, HA.out.below T0.2.2.2 hhi⟩ (Nat.le_trans hhi T0.2.2.2.size) HS1.out).mono ?_
  rintro e1 w1 ⟨v1, rfl, ⟨A1, c1, rfl, ho1⟩, hb1⟩
  have T1 := T0.call hb1
  have ho1' := own_mono (base' := w.heap.size + 1 + 1 + 1) ho1 (by simp)
  have hlt1 := fun g hg => (ho1.lt g hg).2
  clear T0 hb1 ho1
  have f0 := T1.1.cell
  have f2 := T1.2.2.1.cell
  have z2 := T1.2.2.1.frozen
  have TT := Lib.hid (((T1.store2 1 (.int .i64 scr.row)).store2 2 (.int .i64 scr.col)).store2 3 (.slice A1 scr.rows.length c1)); clear T1
  have O1 := Lib.hid (ownsRow_setCell_below (ownsRow_setCell_below (ownsRow_setCell_below ho1' (a := ⟨w.heap.size + 1 + 1, 1, none⟩) (by simp) (.int .i64 scr.row)) (a := ⟨w.heap.size + 1 + 1, 2, none⟩) (by simp) (.int .i64 scr.col)) (a := ⟨w.heap.size + 1 + 1, 3, none⟩) (by simp) (.slice A1 scr.rows.length c1)); clear ho1'
  have HL1 := Lib.hid hlt1; clear hlt1
  go_wp2_with fail
  clear f0 f2 z2
  have hz1 : (((w1.setCell ⟨w.heap.size + 1 + 1, 1, none⟩ (.int .i64 scr.row)).setCell ⟨w.heap.size + 1 + 1, 2, none⟩ (.int .i64 scr.col)).setCell ⟨w.heap.size + 1 + 1, 3, none⟩ (.slice A1 scr.rows.length c1)).heap.size = w1.heap.size := by simp [World.setCell]
  generalize ((w1.setCell ⟨w.heap.size + 1 + 1, 1, none⟩ (.int .i64 scr.row)).setCell ⟨w.heap.size + 1 + 1, 2, none⟩ (.int .i64 scr.col)).setCell ⟨w.heap.size + 1 + 1, 3, none⟩ (.slice A1 scr.rows.length c1) = W1 at *
  refine (toFileS_any F _ cf lo hi files _ (HF.out.below TT.out.2.2.2 hhi) (Nat.le_trans hhi TT.out.2.2.2.size) HS2.out).mono ?_
  rintro e2 w2 ⟨A2, rfl, ho2, hb2⟩
  have T2 := TT.out.call hb2
  have ho1 := own_below O1.out hb2
  have hsz2 := hb2.size
  have hg2 := TT.out.2.2.1.lt
  clear TT O1 hb2
  have f0 := T2.1.cell
  have f2 := T2.2.2.1.cell
  have z2 := T2.2.2.1.frozen
  have TT := Lib.hid (T2.store2 4 (.slice A2 files.length files.length)); clear T2
  have O1 := Lib.hid (ownsRow_setCell_below ho1 (a := ⟨w.heap.size + 1 + 1, 4, none⟩) (by simp) (.slice A2 files.length files.length)); clear ho1
  have O2 := Lib.hid (ho2.far (p := ⟨w.heap.size + 1 + 1, 4, none⟩) hg2 (.slice A2 files.length files.length)); clear ho2
  go_wp2_with fail
  clear f0 f2 z2
  have hz2 : (w2.setCell ⟨w.heap.size + 1 + 1, 4, none⟩ (.slice A2 files.length files.length)).heap.size = w2.heap.size := by simp [World.setCell]
  generalize w2.setCell ⟨w.heap.size + 1 + 1, 4, none⟩ (.slice A2 files.length files.length) = W2 at *
  refine (toStringS_any K _ ck lo hi keys _ (HK.out.below TT.out.2.2.2 hhi) (Nat.le_trans hhi TT.out.2.2.2.size) hk).mono ?_
  rintro e3 w3 ⟨v3, rfl, ⟨⟨A3, c3, rfl⟩, ho3⟩, hb3⟩
  have T3 := TT.out.call hb3
  have ho1 := own_below O1.out hb3
  have ho2 := O2.out.below hb3 (by omega)
  have hlt3 := fun g hg => (ho3.lt g hg).2
  have hsz3 := hb3.size
  clear TT O1 O2 hb3
  have f1 := T3.2.1.cell
  have z1 := T3.2.1.frozen
  have f2 := T3.2.2.1.cell
  have z2 := T3.2.2.1.frozen
  have TT := Lib.hid T3; clear T3
  have O1 := Lib.hid ho1; have O2 := Lib.hid ho2; have O3 := Lib.hid ho3; have HL3 := Lib.hid hlt3; clear ho1 ho2 ho3 hlt3
  go_wp2_with fail
  refine bodyPost_ret (v := .agg (devCs ⟨use, scr, files, keys⟩ A1 c1 A2 files.length A3 c3)) (by simp [results, Tryz.results7, go_sem, f1]) rfl ⟨_, rfl, ⟨A1, c1, A2, files.length, A3, c3, w.heap.size + 1 + 1 + 1, w1.heap.size, W1.heap.size, w2.heap.size, W2.heap.size, w3.heap.size, rfl, ?_, ?_, ⟨?_, HL1.out⟩, ?_, ?_, HL3.out⟩, ?_⟩
  · simp only [World.setCell, Array.size_modify]; omega
  · exact ⟨.inl (by omega), .inl (by omega), .inl (by omega)⟩
  · iterate 7 (with_reducible refine ownsRow_setCell_below ?_ (by simp; try omega) _)
    exact O1.out
  · iterate 7 (with_reducible refine OwnFils.far ?_ (by simp; try omega) _)
    exact O2.out
  · iterate 7 (with_reducible refine ownsRow_setCell_below ?_ (by simp; try omega) _)
    exact O3.out
  · iterate 7 (with_reducible refine Below.setCell ?_ (by simp; try omega) _)
    exact TT.out.2.2.2

end Go.Proofs.YtmeholhmadeehaaGreatDoor
