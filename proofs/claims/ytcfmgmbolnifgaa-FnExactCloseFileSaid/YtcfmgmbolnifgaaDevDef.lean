/- Devices: their values; szDevices, toDevices, eqDevices walked. -/
import Derived.Test.YtcfmgmbolnifgaaFilOkI
import Derived.Test.YtcfmgmbolnifgaaScreenL
import Derived.Test.YtcfmgmbolnifgaaDevM
namespace Go.Proofs.Ytcfmgmbolnifgaa
open Go.RowKit

structure Dev where
  use : Int
  scr : Scr
  files : List Fil
  keys : List ByteArray

abbrev devCs (d : Dev) (A : Option Addr) (c : Nat) (F : Option Addr) (cf : Nat) (K : Option Addr) (ck : Nat) : Array Value :=
  #[.int .i64 d.use, .int .i64 d.scr.row, .int .i64 d.scr.col, .slice A d.scr.rows.length c, .slice F d.files.length cf, .slice K d.keys.length ck]

/-- The value v of devices reads as d. -/
def DevR (w : World) (lo hi : Nat) (v : Value) (d : Dev) : Prop :=
  ∃ A c F cf K ck, v = .agg (devCs d A c F cf K ck) ∧ StrR w lo hi A d.scr.rows.length d.scr.rows ∧ FilesR w lo hi F d.files.length d.files ∧ StrR w lo hi K d.keys.length d.keys
theorem loc_devR (lo hi : Nat) (v : Value) (d : Dev) : Loc lo hi (fun w => DevR w lo hi v d) := fun _ _ hk ⟨A, c, F, cf, K, ck, hv, h1, h2, h3⟩ => ⟨A, c, F, cf, K, ck, hv, h1.keep hk, h2.keep hk, h3.keep hk⟩

def DevReach (d : Dev) : Prop := (d.scr.rows.length ≤ 9223372036854775807 ∧ ∀ r ∈ d.scr.rows, r.size ≤ 9223372036854775807) ∧ (d.files.length ≤ 9223372036854775807 ∧ ∀ f ∈ d.files, FilReach f) ∧ (d.keys.length ≤ 9223372036854775807 ∧ ∀ r ∈ d.keys, r.size ≤ 9223372036854775807)
def DevSmall (d : Dev) : Prop := ScrSmall d.scr ∧ FilsSmall d.files ∧ (d.keys.length ≤ 1048576 ∧ ∀ r ∈ d.keys, r.size ≤ 1048576)
def costDev (d : Dev) : Nat := costStrs d.scr.rows + costFils d.files + costStrs d.keys
theorem DevSmall.of_cost {d : Dev} (h : costDev d ≤ 1048576) : DevSmall d := by
  unfold costDev at h
  refine ⟨ScrSmall.of_cost (by omega), FilsSmall.of_cost (by omega), ?_⟩
  have h2 : costStrs d.keys ≤ 1048576 := by omega
  unfold costStrs at h2
  exact ⟨by omega, fun y hy => by have := mem_le_sizeAll hy; omega⟩

set_option maxHeartbeats 2000000 in
theorem szDevices_any (d : Dev) (v : Value) (lo hi : Nat) (left : Int) (w : World) (hx : DevR w lo hi v d) (hhi : hi ≤ w.heap.size) (hr : DevReach d) (hl0 : 0 ≤ left) (hl : left ≤ 1048576) :
    Calls Try.prog 35 #[v, .int .i64 left] w fun e w' => ∃ m, e = .returned (.int .i64 m) ∧ Left left (costDev d) m ∧ Below w.heap.size w w' := by
  obtain ⟨A, c, F, cf, K, ck, rfl, hA, hF, hK⟩ := hx
  have HQ := Lib.hid (show costDev d = costStrs d.scr.rows + costFils d.files + costStrs d.keys from rfl)
  generalize costDev d = Q at *
  obtain ⟨use, scr, files, keys⟩ := d
  dsimp only at *
  have R0 := ((((Stand.nil w).add lo hi _ (loc_strR0 lo hi A _ scr.rows) hhi hA).add lo hi _ (loc_filesR lo hi F _ files) hhi hF).add lo hi _ (loc_strR0 lo hi K _ keys) hhi hK).box 56 (devCs ⟨use, scr, files, keys⟩ A c F cf K ck)
  have HR0 := Lib.hid R0; have HR := Lib.hid hr
  clear hA hF hK R0 hr
  go_enter Try.func35, Try.ntmps35
  go_wp2_with fail
  refine (szScreen_any scr _ lo hi _ _ ⟨A, c, rfl, HR0.out.get 3 rfl⟩ (HR0.out.le 3 rfl) HR.out.1 hl0 hl).mono ?_
  rintro e1 w1 ⟨m1, rfl, hm1, hb1⟩
  have HR1 := Lib.hid (HR0.out.below hb1); clear hb1 HR0
  rcases hm1 with rfl | ⟨hm10, hm1⟩
  · go_wp2_with fail
    go_ret
    exact ⟨_, rfl, .inl rfl, HR1.out.1⟩
  have n1 : ¬ (m1 < 0) := by omega
  have l1 : m1 ≤ 1048576 := by omega
  have HM1 := Lib.hid hm1; clear hm1
  have f := (HR1.out.get 0 rfl).cell
  go_wp2_with fail
  refine (szFileS_any F _ cf lo hi _ files _ (HR1.out.get 2 rfl) (HR1.out.le 2 rfl) HR.out.2.1.1 HR.out.2.1.2 hm10 l1).mono ?_
  rintro e2 w2 ⟨m2, rfl, hm2, hb2⟩
  have HR2 := Lib.hid (HR1.out.below hb2); clear hb2 HR1 f
  rcases hm2 with rfl | ⟨hm20, hm2⟩
  · go_wp2_with fail
    go_ret
    exact ⟨_, rfl, .inl rfl, HR2.out.1⟩
  have n2 : ¬ (m2 < 0) := by omega
  have l2 : m2 ≤ 1048576 := by omega
  have HM2 := Lib.hid hm2; clear hm2
  have f := (HR2.out.get 0 rfl).cell
  go_wp2_with fail
  refine (szStringS_m K _ ck lo hi _ keys _ (HR2.out.get 1 rfl) HR.out.2.2.1 hm20 l2 HR.out.2.2.2).mono ?_
  rintro e3 w3 ⟨m3, rfl, hm3, rfl⟩
  clear f
  rcases hm3 with rfl | ⟨hm30, hm3⟩
  · go_wp2_with fail
    go_ret
    exact ⟨_, rfl, .inl rfl, HR2.out.1⟩
  have n3 : ¬ (m3 < 0) := by omega
  have HM3 := Lib.hid hm3; clear hm3
  go_wp2_with fail
  go_ret
  refine ⟨_, rfl, .inr ⟨hm30, ?_⟩, HR2.out.1⟩
  have := HM1.out; have := HM2.out; have := HM3.out; have := HQ.out
  omega

set_option maxHeartbeats 2000000 in
theorem eqDevices_same (d : Dev) (v v' : Value) (lo hi lo' hi' : Nat) (w : World) (hx : DevR w lo hi v d) (hx' : DevR w lo' hi' v' d) (hhi : hi ≤ w.heap.size) (hhi' : hi' ≤ w.heap.size) (hs : DevSmall d) :
    Calls Try.prog 39 #[v, v'] w fun e w' => e = .returned (.bool true) ∧ Below w.heap.size w w' := by
  obtain ⟨A, c, F, cf, K, ck, rfl, hA, hF, hK⟩ := hx
  obtain ⟨A', c', F', cf', K', ck', rfl, hA', hF', hK'⟩ := hx'
  obtain ⟨use, scr, files, keys⟩ := d
  obtain ⟨hs1, hs2, hs3⟩ := hs
  dsimp only at *
  have R0 := (((((((Stand.nil w).add lo hi _ (loc_strR0 lo hi A _ scr.rows) hhi hA).add lo hi _ (loc_filesR lo hi F _ files) hhi hF).add lo hi _ (loc_strR0 lo hi K _ keys) hhi hK).add lo' hi' _ (loc_strR0 lo' hi' A' _ scr.rows) hhi' hA').add lo' hi' _ (loc_filesR lo' hi' F' _ files) hhi' hF').add lo' hi' _ (loc_strR0 lo' hi' K' _ keys) hhi' hK').box 61 (devCs ⟨use, scr, files, keys⟩ A c F cf K ck)
  have R1 := R0.box 61 (devCs ⟨use, scr, files, keys⟩ A' c' F' cf' K' ck')
  rw [heap_size_alloc1] at R1
  have HR1 := Lib.hid R1; have HS1 := Lib.hid hs1; have HS2 := Lib.hid hs2
  have hk := hs3.1
  clear hA hF hK hA' hF' hK' R0 R1 hs1 hs2 hs3
  go_enter Try.func39, Try.ntmps39
  go_wp2_with fail
  refine (eqScreen_same scr _ _ lo hi lo' hi' _ ⟨A, c, rfl, HR1.out.get 7 rfl⟩ ⟨A', c', rfl, HR1.out.get 4 rfl⟩ (HR1.out.le 7 rfl) (HR1.out.le 4 rfl) HS1.out.1).mono ?_
  rintro e1 w1 ⟨rfl, hb1⟩
  have HR2 := Lib.hid (HR1.out.below hb1)
  clear hb1 HR1
  have f1 := (HR2.out.get 1 rfl).cell
  have f0 := (HR2.out.get 0 rfl).cell
  go_wp2_with fail
  refine (eqFileS_same F F' _ cf cf' lo hi lo' hi' files _ (HR2.out.get 6 rfl) (HR2.out.get 3 rfl) (HR2.out.le 6 rfl) (HR2.out.le 3 rfl) HS2.out).mono ?_
  rintro e2 w2 ⟨rfl, hb2⟩
  have HR3 := Lib.hid (HR2.out.below hb2)
  clear hb2 HR2 f0 f1
  have f1 := (HR3.out.get 1 rfl).cell
  have f0 := (HR3.out.get 0 rfl).cell
  go_wp2_with fail
  refine (eqStringS_b _ _ _ _ _ _ lo hi lo' hi' keys keys _ (HR3.out.get 5 rfl) (HR3.out.get 2 rfl) (by omega) (by omega)).mono ?_
  rintro e3 w3 ⟨rfl, hb3⟩
  rw [decide_eq_true rfl]
  have HB := Lib.hid (HR3.out.below hb3).1; clear hb3 f0 f1 HR3
  go_wp2_with fail
  go_ret
  exact ⟨rfl, HB.out⟩

end Go.Proofs.Ytcfmgmbolnifgaa
