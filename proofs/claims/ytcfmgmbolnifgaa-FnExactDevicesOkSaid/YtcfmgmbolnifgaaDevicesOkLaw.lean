/- FnExactDevicesOk returns true: the walk of the law. -/
import Derived.Test.YtcfmgmbolnifgaaDevOkI
namespace Go.Proofs.Ytcfmgmbolnifgaa
open Go.RowKit

set_option maxHeartbeats 4000000 in
set_option maxRecDepth 100000 in
theorem law_DevicesOk (d : Dev) (v : Value) (w : World) (hx : DevR w 0 w.heap.size v d) (hr : DevReach d) :
    Calls Try.prog 7 #[v] w fun e w' => e = .returned (.bool true) ∧ Below w.heap.size w w' := by
  have HX := Lib.hid hx
  have HR := Lib.hid hr
  obtain ⟨A, c, F, cf, K, ck, rfl, h1, h2, h3⟩ := hx
  clear h1 h2 h3 hr
  have R0 := ((Stand.nil w).add 0 w.heap.size _ (loc_devR 0 w.heap.size (.agg (devCs d A c F cf K ck)) d) (Nat.le_refl _) HX.out).box 56 (devCs d A c F cf K ck)
  have HR0 := Lib.hid R0; clear R0
  go_enter Try.func7, Try.ntmps7
  go_wp2_with fail
  refine (szDevices_any d _ 0 w.heap.size _ _ (HR0.out.get 1 rfl) (HR0.out.le 1 rfl) HR.out (by omega) (by omega)).mono ?_
  rintro e1 w1 ⟨m, rfl, hm, hb1⟩
  have R1 := HR0.out.below hb1
  have HR1 := Lib.hid R1; clear R1 HR0 hb1
  rcases hm with rfl | ⟨hm0, hm1⟩
  · go_wp2_with fail
    go_ret
    exact ⟨rfl, HR1.out.1⟩
  have HS := Lib.hid (DevSmall.of_cost (d := d) (by omega)); clear hm1
  have nm : ¬ (m < 0) := by omega
  have f := (HR1.out.get 0 rfl).cell
  go_wp2_with fail
  refine (toDevices_any d _ 0 w.heap.size _ (HR1.out.get 1 rfl) (HR1.out.le 1 rfl) HS.out).mono ?_
  rintro e2 w2 ⟨v2, rfl, hx2, hb2⟩
  have HX2 := Lib.hid hx2.reads
  have R2 := HR1.out.below hb2
  have HR2 := Lib.hid R2; clear R2 HR1 hb2 hx2 f
  go_wp2_with fail
  refine (specDevicesOk_any d _ _ _ _ HX2.out (Nat.le_refl _) HS.out).mono ?_
  rintro e3 w3 ⟨rfl, hb3⟩
  have R3 := HR2.out.below hb3
  have HR3 := Lib.hid R3; clear R3 HR2 hb3 HX2
  have f := (HR3.out.get 0 rfl).cell
  have HI := Lib.hid (fun lo hi W v h1 h2 => implDevicesOk_any d v lo hi W h1 h2 HS.out)
  generalize devB d = B at *
  go_wp2_with fail
  refine (toDevices_any d _ 0 w.heap.size _ (HR3.out.get 1 rfl) (HR3.out.le 1 rfl) HS.out).mono ?_
  rintro e4 w4 ⟨v4, rfl, hx4, hb4⟩
  have s4 := hb4.size
  have R4 := (HR3.out.below hb4).add _ _ _ (loc_devR w3.heap.size w4.heap.size v4 d) (Nat.le_refl _) hx4.reads
  obtain ⟨A4, c4, F4, cf4, K4, ck4, rfl, h1, h2, h3⟩ := hx4.reads
  have HR4 := Lib.hid R4; clear R4 HR3 hb4 hx4 h1 h2 h3 f
  go_wp2_with fail
  have R5 := HR4.out.box 61 (devCs d A4 c4 F4 cf4 K4 ck4)
  generalize w4.alloc (.cells (devCs d A4 c4 F4 cf4 K4 ck4) 61) = w5 at *
  have HR5 := Lib.hid R5; clear R5 HR4
  refine (HI.out _ _ _ _ (HR5.out.get 1 rfl) (HR5.out.le 1 rfl)).mono ?_
  rintro e6 w6 ⟨rfl, hb6⟩
  have R6 := HR5.out.below hb6
  have HR6 := Lib.hid R6; clear R6 HR5 hb6 HI
  have nb : (B != B) = false := by simp
  obtain ⟨FS, hF, hP, hQ⟩ := HR6.out.pack (fun W => (Blk W w.heap.size 56 (devCs d A c F cf K ck) ∧ Blk W w4.heap.size 61 (devCs d A4 c4 F4 cf4 K4 ck4)) ∧ (DevR W 0 w.heap.size (.agg (devCs d A c F cf K ck)) d ∧ w.heap.size ≤ W.heap.size) ∧ (DevR W w3.heap.size w4.heap.size (.agg (devCs d A4 c4 F4 cf4 K4 ck4)) d ∧ w4.heap.size ≤ W.heap.size)) (fun W h => ⟨⟨h.get 2 rfl, h.get 0 rfl⟩, ⟨h.get 3 rfl, h.le 3 rfl⟩, ⟨h.get 1 rfl, h.le 1 rfl⟩⟩)
  have HF := Lib.hid hF; have HFd := Lib.hid hF.drew; have HP1 := Lib.hid (fun W h => (hP W h).1); have HPA := Lib.hid (fun W h => (hP W h).2.1); have HPX := Lib.hid (fun W h => (hP W h).2.2); have HQ := Lib.hid hQ; clear hF hP hQ HR6
  have f_p := (HP1.out _ HF.out).1.cell; have f_x := (HP1.out _ HF.out).2.cell
  go_wp2_with fail
  clear f_p f_x
  go_region_held3 (fun w' => (∀ i, w'.cell? ⟨w.heap.size, i, none⟩ = (devCs d A c F cf K ck)[i]?) ∧ (∀ i, w'.cell? ⟨w4.heap.size, i, none⟩ = (devCs d A4 c4 F4 cf4 K4 ck4)[i]?) ∧ Stand w FS w')
    (first | (with_reducible exact Stand.show2 HP1.out HF.out) | (with_reducible exact Stand.show2 HP1.out HFd.out) | (with_reducible exact Stand.show2 HP1.out R10) | (with_reducible exact Stand.show2 HP1.out R11))
    (first | (go_at_call 37; (with_reducible refine (toDevices_any d _ 0 w.heap.size _ (HPA.out _ HFd.out).1 (HPA.out _ HFd.out).2 HS.out).mono ?_); rintro e10 w10 ⟨v10, rfl, hx10, hb10⟩; have s10 := hb10.size; have R10 := HFd.out.below hb10) | (go_at_call 39; (with_reducible refine (eqDevices_same d _ _ _ _ _ _ _ (HPX.out _ R10).1 hx10.reads (HPX.out _ R10).2 (Nat.le_refl _) HS.out).mono ?_); rintro e11 w11 ⟨rfl, hb11⟩; have s11 := hb11.size; have R11 := R10.below hb11))
  have HR11 := Lib.hid (HQ.out _ R11); clear R10 R11 hx10 HF HFd HP1 HPA HPX HQ hb10 hb11
  go_wp2_with fail
  go_ret
  exact ⟨rfl, HR11.out.1⟩

end Go.Proofs.Ytcfmgmbolnifgaa
