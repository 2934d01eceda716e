/- The program's WriteTo walked (printed by wip/gen_wto.py). -/
import Derived.Test.YtmeholhmadeehaaGreatDoorJoinFLAq
import Derived.Test.YtmeholhmadeehaaGreatDoorJoinFLAw
import Derived.Test.YtmeholhmadeehaaGreatDoorJoinFLAr
import Derived.Test.YtmeholhmadeehaaGreatDoorJoinFLAm
namespace Go.Proofs.YtmeholhmadeehaaGreatDoor
open Go.RowKit

theorem put3_dev (d : Dev) (A A' : Option Addr) (c c' : Nat) (V : Option Addr) (cv : Nat) (K : Option Addr) (ck : Nat) (S : Scr) :
    put3 (devCs d A c V cv K ck) 1 (.int .i64 S.row) (.int .i64 S.col) (.slice A' S.rows.length c') = devCs ⟨d.use, S, d.files, d.keys⟩ A' c' V cv K ck := rfl

set_option maxHeartbeats 8000000 in
set_option maxRecDepth 100000 in
theorem iWr_bad (d : Dev) (nm : ByteArray) (v : Value) (lo hi : Nat) (w : World) (hx : DevR w lo hi v d) (hhi : hi ≤ w.heap.size) (hs : DevSmall d) (hB : devB d = false) :
    Calls Tryz.prog 16 #[v, .string nm] w fun e w' => ∃ v', e = .returned (.tuple #[v', .int .i64 1]) ∧ OwnDev w' w.heap.size w'.heap.size v' noDev ∧ Below w.heap.size w w' := by
  have HX := Lib.hid hx; have HS := Lib.hid hs
  obtain ⟨A, c, F, cf, J, cj, rfl, h1, h2, h3⟩ := hx
  have R0 := (((Stand.nil w).add lo hi _ (loc_devR lo hi (.agg (devCs d A c F cf J cj)) d) hhi HX.out).box 32 (devCs d A c F cf J cj)).box 32 #[.int .i64 0, .int .i64 0, .int .i64 0, .slice none 0 0, .slice none 0 0, .slice none 0 0]
  rw [heap_size_alloc1] at R0
  have HR0 := Lib.hid R0
  have HOK := Lib.hid (fun W v h1 h2 => implDevicesOk_any d v lo hi W h1 h2 HS.out)
  clear h1 h2 h3 R0 hs
  rw [hB] at HOK
  go_enter Tryz.func16, Tryz.ntmps16
  go_wp2_with fail
  refine (HOK.out _ _ (HR0.out.get 2 rfl) (HR0.out.le 2 rfl)).mono ?_
  rintro e1 w1 ⟨rfl, hb1⟩
  have HR1 := Lib.hid (HR0.out.below hb1); clear hb1 HR0 HOK
  have fr := (HR1.out.get 0 rfl).cell
  have zr := (HR1.out.get 0 rfl).frozen
  have sr := HR1.out.le 0 rfl
  go_wp2_with fail
  refine bodyPost_ret (v := .tuple #[.agg #[.int .i64 0, .int .i64 0, .int .i64 0, .slice none 0 0, .slice none 0 0, .slice none 0 0], .int .i64 1]) (by simp [results, Tryz.results16, go_sem, fr]) rfl ⟨_, rfl, ?_, ?_⟩
  · exact (ownDev_none _ _ _ (by first | (simp [World.setCell]; done) | (simp [World.setCell]; omega)))
  · iterate 6 (with_reducible refine Below.setCell ?_ (by simp; try omega) _)
    exact HR1.out.1

set_option maxHeartbeats 8000000 in
set_option maxRecDepth 100000 in
theorem iWr_scr (d : Dev) (nm : ByteArray) (v : Value) (lo hi : Nat) (w : World) (hx : DevR w lo hi v d) (hhi : hi ≤ w.heap.size) (hs : DevSmall d) (hB : devB d = true) (hu : d.use = 0) (hl : nm.size ≤ 1048576) :
    Calls Tryz.prog 16 #[v, .string nm] w fun e w' => ∃ v', e = .returned (.tuple #[v', .int .i64 0]) ∧ OwnDev w' w.heap.size w'.heap.size v' ⟨d.use, showTo d.scr nm nm.size, d.files, d.keys⟩ ∧ Below w.heap.size w w' := by
  have HX := Lib.hid hx; have HS := Lib.hid hs
  obtain ⟨A, c, F, cf, J, cj, rfl, h1, h2, h3⟩ := hx
  have R0 := (((Stand.nil w).add lo hi _ (loc_devR lo hi (.agg (devCs d A c F cf J cj)) d) hhi HX.out).box 32 (devCs d A c F cf J cj)).box 32 #[.int .i64 0, .int .i64 0, .int .i64 0, .slice none 0 0, .slice none 0 0, .slice none 0 0]
  rw [heap_size_alloc1] at R0
  have HR0 := Lib.hid R0
  have HOK := Lib.hid (fun W v h1 h2 => implDevicesOk_any d v lo hi W h1 h2 HS.out)
  clear h1 h2 h3 R0 hs
  rw [hB] at HOK
  have HGD := Lib.hid (DevGood.of hB)
  have hn3 := HGD.out.n3
  have hr0 : 0 < d.scr.rows.length := by have := HGD.out.fine.len; omega
  have u0 : (d.use == 0) = true := by rw [hu]; rfl
  clear hu
  have hFT := showTo_fine HGD.out.fine nm nm.size
  have HWA := Lib.hid (fun base p b c2 V cv K2 ck2 W h1 h2 => write_any d.scr nm base p 1 32 (devCs d (some ⟨b, 0, none⟩) c2 V cv K2 ck2) b 0 c2 W h1 h2 HGD.out.fine hl)
  generalize hS0 : showTo d.scr nm nm.size = S0 at *
  clear hS0
  go_enter Tryz.func16, Tryz.ntmps16
  go_wp2_with fail
  refine (HOK.out _ _ (HR0.out.get 2 rfl) (HR0.out.le 2 rfl)).mono ?_
  rintro e1 w1 ⟨rfl, hb1⟩
  have HR1 := Lib.hid (HR0.out.below hb1); clear hb1 HR0 HOK
  have f1 := (HR1.out.get 1 rfl).cell
  go_wp2_with fail
  refine (copyDevices_own d _ lo hi _ (HR1.out.get 2 rfl) (HR1.out.le 2 rfl) hr0 HS.out).mono ?_
  rintro e2 w2 ⟨p, A2, c2, V, cv, K2, ck2, rfl, hp1, hp2, hBp, ⟨a1, b1, a3, b3, B, hq, x13, ⟨oA, oAb⟩, ⟨xs, hxs, hfx⟩, oK, oKb⟩, hb2⟩
  have s1 := HR1.out.le 0 rfl
  have s2 := hb2.size
  have HR2 := Lib.hid (HR1.out.below hb2); clear hb2 f1 HR1
  have HQ := Lib.hid hq; have HX13 := Lib.hid x13; have HOA := Lib.hid oA; have HOAB := Lib.hid oAb; have HXS := Lib.hid hxs; have HFX := Lib.hid hfx; have HOK := Lib.hid oK; have HOKB := Lib.hid oKb; have HBP := Lib.hid hBp
  have hpB := hq.2.2.2.2.1; have hBw := hq.2.2.2.2.2; have hwp := hp1
  clear hq x13 oA oAb hxs hfx oK oKb hBp
  obtain ⟨b, rfl, hO⟩ := OwnO.of_own HOA.out hr0
  have hbb := HOAB.out b rfl
  have hab := hO.1
  have hbp := HQ.out.2.1; have ha1 := HQ.out.1
  have HSX : Hid (ScrX w2 a1 p 1 32 (devCs d (some ⟨b, 0, none⟩) c2 V cv K2 ck2) b 0 c2 d.scr) := ⟨by omega, by simp, by rw [put3_dev]; exact HBP.out, hO⟩
  have fp := HBP.out.cell
  clear hO
  go_wp2_with fail
  refine (HWA.out a1 p b c2 V cv K2 ck2 _ HSX.out (by omega)).mono ?_
  rintro e3 w3 ⟨rfl, b3', o3, c3, hp3, hb3, ht3⟩
  have s3 := ht3.size
  have hk3 : ∀ k, k < w2.heap.size → k ≠ p → k ≠ b → w3.heap[k]? = w2.heap[k]? := fun k h1 h2 h3 => ht3.block k h1 h2 h3
  have hB3 := hp3.blk
  rw [put3_dev] at hB3
  have hFX3 := (loc_ownFx _ _ _ xs w2 w3 (fun k h1 h2 => hk3 k (by omega) (by omega) (by omega)) HFX.out).more s3
  have hfr := hFX3.fils.reads
  rw [HXS.out] at hfr
  have hOK3 := own_keep (hi := b3) (w' := w3) HOK.out HOKB.out (fun k h1 h2 => hk3 k (by have := HQ.out.2.2.2.1; omega) (by have := HQ.out.2.2.2.1; omega) (fun e => by have := HX13.out.far (k := b) hab hbb; omega))
  have HDR := Lib.hid (show DevR w3 w1.heap.size w3.heap.size (.agg (devCs ⟨d.use, S0, d.files, d.keys⟩ (some ⟨b3', o3, none⟩) c3 V cv K2 ck2)) ⟨d.use, S0, d.files, d.keys⟩ from ⟨some ⟨b3', o3, none⟩, c3, V, cv, K2, ck2, rfl, RowR.more hp3.own.reads (by have := HQ.out.1; omega) (Nat.le_refl _), FilesR.more hfr (by omega) (Nat.le_refl _), RowR.more (own_reads hOK3 HOKB.out) (by have := HQ.out.2.2.1; omega) (by have := HQ.out.2.2.2.1; omega)⟩)
  have HRB3 := Lib.hid (show Blk w3 (w.heap.size + 1) 32 #[.int .i64 0, .int .i64 0, .int .i64 0, .slice none 0 0, .slice none 0 0, .slice none 0 0] from (hk3 _ (by omega) (by omega) (by omega)).trans (HR2.out.get 0 rfl))
  have HBEL3 := Lib.hid (show Below w.heap.size w w3 from HR2.out.1.trans (ht3.below (base := w.heap.size) (by omega) (by omega) (by omega)))
  have HDS := Lib.hid (show DevSmall ⟨d.use, S0, d.files, d.keys⟩ from ⟨⟨by have := hFT.len; show S0.rows.length ≤ _; omega, fun r hr => by have := hFT.size r hr; omega⟩, HS.out.2.1, HS.out.2.2⟩)
  have hr1 : 0 < S0.rows.length := by have := hFT.len; omega
  have HB3 := Lib.hid hB3
  clear fp hp3 ht3 hk3 hB3 hFX3 hfr hOK3 HSX HWA HR2 HBP HFX HOK HOA hFT
  have fp := HB3.out.cell
  go_wp2_with fail
  refine (copyDevices_own ⟨d.use, S0, d.files, d.keys⟩ _ w1.heap.size w3.heap.size _ HDR.out (Nat.le_refl _) hr1 HDS.out).mono ?_
  rintro e4 w4 ⟨p4, A4, c4, V4, cv4, K4, ck4, rfl, hp41, hp42, hBp4, ⟨a41, b41, a43, b43, B4, hq4, x134, ⟨oA4, oAb4⟩, ⟨xs4, hxs4, hfx4⟩, oK4, oKb4⟩, hb4⟩
  have s4 := hb4.size
  have HRB4 := Lib.hid (HRB3.out.below hb4 HRB3.out.lt); have HBEL := Lib.hid (HBEL3.out.trans (hb4.mono HBEL3.out.size))
  have HQ4 := Lib.hid hq4; have HX134 := Lib.hid x134; have HOA4 := Lib.hid oA4; have HOAB4 := Lib.hid oAb4; have HXS4 := Lib.hid hxs4; have HFX4 := Lib.hid hfx4; have HOK4 := Lib.hid oK4; have HOKB4 := Lib.hid oKb4; have HBP4 := Lib.hid hBp4
  have s0 : w.heap.size + 2 ≤ w3.heap.size := by omega
  clear hq4 x134 oA4 oAb4 hxs4 hfx4 oK4 oKb4 hBp4 hb4 fp HB3 HDR HRB3 HBEL3 HDS HQ HX13 HOAB HXS HOKB
  have fp := HBP4.out.cell; have fr := HRB4.out.cell; have zr := HRB4.out.frozen
  go_wp2_with fail
  refine bodyPost_ret (v := .tuple #[.agg (devCs ⟨d.use, S0, d.files, d.keys⟩ A4 c4 V4 cv4 K4 ck4), .int .i64 0]) (by simp [results, Tryz.results16, go_sem, fr]) rfl ⟨_, rfl, ?_, ?_⟩
  · obtain ⟨q1, q2, q3, q4, q5, q6⟩ := HQ4.out
    refine ownDev_mk (W := w4) (p := p4) (r := w.heap.size + 1) (d := ⟨d.use, S0, d.files, d.keys⟩) (lo := w.heap.size) ⟨by omega, q2, by omega, q4, q5, by omega⟩ ⟨by omega, by omega, by omega⟩ (by omega) HX134.out HOA4.out HOAB4.out HXS4.out HFX4.out HOK4.out HOKB4.out (fun b h1 h2 => ?_) (by simp [World.setCell])
    iterate 6 (with_reducible rw [Below.heap_setCell _ _ _ b (by simp; omega)])
  · iterate 6 (with_reducible refine Below.setCell ?_ (by simp; try omega) _)
    exact HBEL.out

set_option maxHeartbeats 8000000 in
set_option maxRecDepth 100000 in
theorem iWr_fil (d : Dev) (nm : ByteArray) (v : Value) (lo hi : Nat) (w : World) (hx : DevR w lo hi v d) (hhi : hi ≤ w.heap.size) (hs : DevSmall d) (hB : devB d = true) (hu : ¬ d.use = 0) (hl : nm.size ≤ 1048576) :
    Calls Tryz.prog 16 #[v, .string nm] w fun e w' => ∃ v', e = .returned (.tuple #[v', .int .i64 (writeFil d nm.data.toList).2]) ∧ OwnDev w' w.heap.size w'.heap.size v' (writeFil d nm.data.toList).1 ∧ Below w.heap.size w w' := by
  have HX := Lib.hid hx; have HS := Lib.hid hs
  obtain ⟨A, c, F, cf, J, cj, rfl, h1, h2, h3⟩ := hx
  have R0 := (((Stand.nil w).add lo hi _ (loc_devR lo hi (.agg (devCs d A c F cf J cj)) d) hhi HX.out).box 32 (devCs d A c F cf J cj)).box 32 #[.int .i64 0, .int .i64 0, .int .i64 0, .slice none 0 0, .slice none 0 0, .slice none 0 0]
  rw [heap_size_alloc1] at R0
  have HR0 := Lib.hid R0
  have HOK := Lib.hid (fun W v h1 h2 => implDevicesOk_any d v lo hi W h1 h2 HS.out)
  clear h1 h2 h3 R0 hs
  rw [hB] at HOK
  have HGD := Lib.hid (DevGood.of hB)
  have hn3 := HGD.out.n3
  have hr0 : 0 < d.scr.rows.length := by have := HGD.out.fine.len; omega
  have u0 : (d.use == 0) = false := by rw [beq_eq_false_iff_ne]; exact hu
  have u1 := HGD.out.use0; have u2 := HGD.out.usen
  obtain ⟨j, hju⟩ : ∃ j : Nat, d.use = (j : Int) + 1 := ⟨(d.use - 1).toNat, by omega⟩
  have hjn : j < d.files.length := by omega
  have HJU := Lib.hid hju
  have HFG := Lib.hid (HGD.out.files _ (getD_mem (d := filD) hjn))
  have HWF := Lib.hid (show writeFil d nm.data.toList = if wrOk (d.files.getD j filD) nm.data.toList then (⟨d.use, d.scr, d.files.set j (wrF (d.files.getD j filD) nm.data.toList), d.keys⟩, 0) else (noDev, 4) by unfold writeFil; rw [show (d.use - 1).toNat = j by omega])
  generalize writeFil d nm.data.toList = WF at *
  clear hu hju
  go_enter Tryz.func16, Tryz.ntmps16
  go_wp2_with fail
  refine (HOK.out _ _ (HR0.out.get 2 rfl) (HR0.out.le 2 rfl)).mono ?_
  rintro e1 w1 ⟨rfl, hb1⟩
  have HR1 := Lib.hid (HR0.out.below hb1); clear hb1 HR0 HOK
  have f1 := (HR1.out.get 1 rfl).cell
  go_wp2_with fail
  refine (copyDevices_own d _ lo hi _ (HR1.out.get 2 rfl) (HR1.out.le 2 rfl) hr0 HS.out).mono ?_
  rintro e2 w2 ⟨p, A2, c2, V, cv, K2, ck2, rfl, hp1, hp2, hBp, ⟨a1, b1, a3, b3, B, hq, x13, ⟨oA, oAb⟩, ⟨xs, hxs, hfx⟩, oK, oKb⟩, hb2⟩
  have s1 := HR1.out.le 0 rfl
  have s2 := hb2.size
  have HR2 := Lib.hid (HR1.out.below hb2); clear hb2 f1 HR1
  have HQ := Lib.hid hq; have HX13 := Lib.hid x13; have HOA := Lib.hid oA; have HOAB := Lib.hid oAb; have HXS := Lib.hid hxs; have HFX := Lib.hid hfx; have HOK := Lib.hid oK; have HOKB := Lib.hid oKb; have HBP := Lib.hid hBp
  have hpB := hq.2.2.2.2.1; have hBw := hq.2.2.2.2.2; have hwp := hp1
  clear hq x13 oA oAb hxs hfx oK oKb hBp
  have HXL := Lib.hid (show xs.length = d.files.length by rw [← HXS.out]; simp)
  have hrw := HFX.out.row
  rw [HXL.out] at hrw
  obtain ⟨g, rfl, hgB, hgl, hnc, hcm, -⟩ := row_flat hrw (by omega)
  clear hrw
  have HXJ := Lib.hid (show ∃ x, xs[j]'(by rw [HXL.out]; exact hjn) = x ∧ x.f = d.files.getD j filD from ⟨_, rfl, by have hjx : j < xs.length := (by rw [HXL.out]; exact hjn); have e := congrArg (fun l => l.getD j filD) HXS.out; simp only [List.getD_eq_getElem?_getD, List.getElem?_map, List.getElem?_eq_getElem hjx] at e ⊢; exact e⟩)
  obtain ⟨x, hxj, hxf⟩ := HXJ.out
  clear HXJ
  have HFW := Lib.hid (fun W h => fileWrite_any g cv d.files.length j B xs x nm W h HXL.out (by rw [HXL.out]; exact hjn) hxj (by rw [hxf]; exact FilW.of_ok HFG.out) hl)
  rw [hxf] at HFW
  have HXJ := Lib.hid hxj; clear hxj hxf
  have fp := HBP.out.cell
  have j0 : (0 : Int) ≤ (j : Int) := by omega
  have j1 : (j : Int) < (d.files.length : Int) := by omega
  have ju : d.use - 1 = (j : Int) := by have := HJU.out; omega
  have wju : IntKind.i64.wrap (d.use - 1) = (j : Int) := by rw [ju]; exact IntWalk.i64_in _ (by omega)
  clear ju
  have HFB := Lib.hid (fun h => (HFW.out w2.drew h (show B ≤ w2.drew.heap.size from hBw)))
  go_wp2_with fail
  refine AnyT.region (fun _ => false) (fun w' => ∀ i, w'.cell? ⟨p, i, none⟩ = (devCs d A2 c2 (some ⟨g, 0, none⟩) cv K2 ck2)[i]?) (by kernel_rfl) fp (fun hHeld => ?_)
  ((refine AnyT.takeAny 0 29 ?_ rfl (by kernel_rfl) (by kernel_rfl) (by kernel_rfl) rfl rfl (fun _ _ _ _ h => h) rfl ?_ (by assumption) ?_); rotate_left; (intro w; go_simp; (try (with_reducible rfl))); simp only [Act.put, List.setIfInBounds_toArray, List.set_cons_zero, List.set_cons_succ])
  ((refine AnyT.takeAny 1 30 ?_ rfl (by kernel_rfl) (by kernel_rfl) (by kernel_rfl) rfl rfl (fun _ _ _ _ h => h) rfl ?_ (by assumption) ?_); rotate_left; (intro w; go_simp; (try (with_reducible rfl))); simp only [Act.put, List.setIfInBounds_toArray, List.set_cons_zero, List.set_cons_succ])
  ((refine AnyT.takeAny 2 31 ?_ rfl (by kernel_rfl) (by kernel_rfl) (by kernel_rfl) rfl rfl (fun _ _ _ _ h => h) rfl ?_ (by assumption) ?_); rotate_left; (intro w; go_simp; (try (with_reducible rfl))); simp only [Act.put, List.setIfInBounds_toArray, List.set_cons_zero, List.set_cons_succ])
  ((refine AnyT.take 3 32 ?_ rfl (by kernel_rfl) (by kernel_rfl) (by kernel_rfl) (by kernel_rfl) rfl (by kernel_rfl) rfl (fun _ _ _ _ h => h) rfl ?_ (by assumption) ?_); rotate_left; (intro w hSw; (try dsimp only at hSw); go_simp; (try (with_reducible rfl))); simp only [Act.put, List.setIfInBounds_toArray, List.set_cons_zero, List.set_cons_succ])
  ((refine AnyT.takeAny 4 33 ?_ rfl (by kernel_rfl) (by kernel_rfl) (by kernel_rfl) rfl rfl (fun _ _ _ _ h => h) rfl ?_ (by assumption) ?_); rotate_left; (intro w; go_simp; (try (with_reducible rfl))); simp only [Act.put, List.setIfInBounds_toArray, List.set_cons_zero, List.set_cons_succ])
  ((refine AnyT.takeAny 5 34 ?_ rfl (by kernel_rfl) (by kernel_rfl) (by kernel_rfl) rfl rfl (fun _ _ _ _ h => h) rfl ?_ (by assumption) ?_); rotate_left; (intro w; go_simp; (try (with_reducible rfl))); simp only [Act.put, List.setIfInBounds_toArray, List.set_cons_zero, List.set_cons_succ])
  ((refine AnyT.takeAny 6 35 ?_ rfl (by kernel_rfl) (by kernel_rfl) (by kernel_rfl) rfl rfl (fun _ _ _ _ h => h) rfl ?_ (by assumption) ?_); rotate_left; (intro w; go_simp; (try (with_reducible rfl))); simp only [Act.put, List.setIfInBounds_toArray, List.set_cons_zero, List.set_cons_succ])
  ((refine AnyT.take 7 36 ?_ rfl (by kernel_rfl) (by kernel_rfl) (by kernel_rfl) (by kernel_rfl) rfl (by kernel_rfl) rfl (fun _ _ _ _ h => h) rfl ?_ (by assumption) ?_); rotate_left; (intro w hSw; (try dsimp only at hSw); go_simp; (try (with_reducible rfl))); simp only [Act.put, List.setIfInBounds_toArray, List.set_cons_zero, List.set_cons_succ])
  ((refine AnyT.takeAny 8 37 ?_ rfl (by kernel_rfl) (by kernel_rfl) (by kernel_rfl) rfl rfl (fun _ _ _ _ h => h) rfl ?_ (by assumption) ?_); rotate_left; (intro w; go_simp; (try (with_reducible rfl))); simp only [Act.put, List.setIfInBounds_toArray, List.set_cons_zero, List.set_cons_succ])
  ((refine AnyT.takeAny 9 38 ?_ rfl (by kernel_rfl) (by kernel_rfl) (by kernel_rfl) rfl rfl (fun _ _ _ _ h => h) rfl ?_ (by assumption) ?_); rotate_left; (intro w; go_simp; (try (with_reducible rfl))); simp only [Act.put, List.setIfInBounds_toArray, List.set_cons_zero, List.set_cons_succ])
  ((refine AnyT.takeAny 10 39 ?_ rfl (by kernel_rfl) (by kernel_rfl) (by kernel_rfl) rfl rfl (fun _ _ _ _ h => h) rfl ?_ (by assumption) ?_); rotate_left; (intro w; go_simp; (try (with_reducible rfl))); simp only [Act.put, List.setIfInBounds_toArray, List.set_cons_zero, List.set_cons_succ])
  ((refine AnyT.one (i := 11) (by kernel_rfl) rfl (fun K hK => ?_)))
  go_simp
  refine (HFB.out (loc_ownFx _ _ _ xs w2 w2.drew (fun b _ _ => rfl) HFX.out)).mono ?_
  rintro e3 w3 ⟨rfl, hb3, hres⟩
  have s3 : w2.heap.size ≤ w3.heap.size := hb3.size
  have hfp : ∀ i, w3.cell? ⟨p, i, none⟩ = (devCs d A2 c2 (some ⟨g, 0, none⟩) cv K2 ck2)[i]? := fun i => (hb3.cell (p := ⟨p, i, none⟩) hpB).trans (hHeld i)
  have ha1 := HQ.out.1
  have HRB3 := Lib.hid (show Blk w3 (w.heap.size + 1) 32 #[.int .i64 0, .int .i64 0, .int .i64 0, .slice none 0 0, .slice none 0 0, .slice none 0 0] from (hb3.block (w.heap.size + 1) (by omega)).trans (HR2.out.get 0 rfl))
  have HBEL := Lib.hid (show Below w.heap.size w w3 from (HR2.out.1.drew).trans (hb3.mono (by omega)))
  have HOA3 := Lib.hid (own_keep (hi := b1) (w' := w3) HOA.out HOAB.out (fun b h1 h2 => hb3.block b (by have := HQ.out.2.1; omega)))
  have HOK3 := Lib.hid (own_keep (hi := b3) (w' := w3) HOK.out HOKB.out (fun b h1 h2 => hb3.block b (by have := HQ.out.2.2.2.1; omega)))
  have HRES := Lib.hid hres; clear hres hb3 HFB HFW
  generalize wrOk (d.files.getD j filD) nm.data.toList = OKB at *
  generalize wrF (d.files.getD j filD) nm.data.toList = F1 at *
  refine hK.out _ _ hfp (fun hHeld => ?_)
  clear hK K hfp
  (try simp only [Act.put, List.setIfInBounds_toArray, List.set_cons_zero, List.set_cons_succ])
  ((refine AnyT.takeAny 12 41 ?_ rfl (by kernel_rfl) (by kernel_rfl) (by kernel_rfl) rfl rfl (fun _ _ _ _ h => h) rfl ?_ (by assumption) ?_); rotate_left; (intro w; go_simp; (try (with_reducible rfl))); simp only [Act.put, List.setIfInBounds_toArray, List.set_cons_zero, List.set_cons_succ])
  refine AnyT.done (by kernel_rfl) ?_ _
  have fr := HRB3.out.cell; have zr := HRB3.out.frozen; have sr := HBEL.out.size
  have fp3 := hHeld; clear hHeld fp
  have s0 : w.heap.size + 1 < w3.heap.size := by omega
  cases hOK : OKB
  · rw [hOK] at HWF HRES
    have HW1 := Lib.hid (show WF = (noDev, 4) from HWF.out)
    clear hOK HWF
    go_wp2_with fail
    refine bodyPost_ret (v := .tuple #[.agg #[.int .i64 0, .int .i64 0, .int .i64 0, .slice none 0 0, .slice none 0 0, .slice none 0 0], .int .i64 4]) (by simp [results, Tryz.results16, go_sem, fr]) rfl ⟨_, by rw [HW1.out], ?_, ?_⟩
    · rw [HW1.out]; exact ownDev_none _ _ _ (by first | (simp [World.setCell]; done) | (simp [World.setCell]; omega))
    · iterate 6 (with_reducible refine Below.setCell ?_ (by simp; try omega) _)
      exact HBEL.out
  · rw [hOK] at HWF HRES
    have HW1 := Lib.hid (show WF = (⟨d.use, d.scr, d.files.set j F1, d.keys⟩, 0) from HWF.out)
    clear hOK HWF
    obtain ⟨L, c, hfx3⟩ := HRES.out rfl
    have HFX3 := Lib.hid hfx3; have HSL := Lib.hid (show (d.files.set j F1).length = d.files.length from List.length_set); have HSM := Lib.hid (show (xs.set j (⟨F1, L, c⟩ : Fx)).map Fx.f = d.files.set j F1 by rw [List.map_set, HXS.out])
    clear hfx3
    go_wp2_with fail
    refine bodyPost_ret (v := .tuple #[.agg (devCs d A2 c2 (some ⟨g, 0, none⟩) cv K2 ck2), .int .i64 0]) (by simp [results, Tryz.results16, go_sem, fr]) rfl ⟨_, by rw [HW1.out], ?_, ?_⟩
    · obtain ⟨q1, q2, q3, q4, q5, q6⟩ := HQ.out
      rw [HW1.out]
      unfold devCs
      rw [← HSL.out]
      refine ownDev_mk (W := w3) (p := p) (r := w.heap.size + 1) (d := ⟨d.use, d.scr, d.files.set j F1, d.keys⟩) (lo := w.heap.size) ⟨by omega, q2, by omega, q4, q5, by omega⟩ ⟨by omega, by omega, by omega⟩ (by omega) HX13.out HOA3.out HOAB.out HSM.out (by have := HFX3.out; rw [← HSL.out] at this; exact this) HOK3.out HOKB.out (fun b h1 h2 => ?_) (by simp [World.setCell])
      iterate 6 (with_reducible rw [Below.heap_setCell _ _ _ b (by simp; omega)])
    · iterate 6 (with_reducible refine Below.setCell ?_ (by simp; try omega) _)
      exact HBEL.out

theorem implWriteTo_any (d : Dev) (nm : ByteArray) (v : Value) (lo hi : Nat) (w : World) (hx : DevR w lo hi v d) (hhi : hi ≤ w.heap.size) (hs : DevSmall d) (hl : nm.size ≤ 1048576) :
    Calls Tryz.prog 16 #[v, .string nm] w fun e w' => ∃ v', e = .returned (.tuple #[v', .int .i64 (writeP d nm).2]) ∧ OwnDev w' w.heap.size w'.heap.size v' (writeP d nm).1 ∧ Below w.heap.size w w' := by
  cases hB : devB d
  · rw [show writeP d nm = (noDev, 1) by simp [writeP, hB]]
    exact iWr_bad d nm v lo hi w hx hhi hs hB
  · by_cases hu : d.use = 0
    · rw [show writeP d nm = (⟨d.use, showTo d.scr nm nm.size, d.files, d.keys⟩, 0) by simp [writeP, hB, hu]]
      exact iWr_scr d nm v lo hi w hx hhi hs hB hu hl
    · rw [show writeP d nm = writeFil d nm.data.toList by simp [writeP, hB, hu]]
      exact iWr_fil d nm v lo hi w hx hhi hs hB hu hl

end Go.Proofs.YtmeholhmadeehaaGreatDoor

/- The program's ReadFrom walked (printed by wip/gen_rd.py). -/
namespace Go.Proofs.YtmeholhmadeehaaGreatDoor
open Go.RowKit

theorem inB_le {a lo hi : Int} (h : inB a lo hi = true) : lo ≤ a ∧ a ≤ hi := by simpa [inB] using h

theorem TabsIn.below {w w' : World} (h : TabsIn w) (hb : Below w.heap.size w w') : TabsIn w' := by
  unfold TabsIn Lib.TabIs World.var? at h ⊢
  cases hg : Tryz.prog.globalNamed "internal/strconv.uint64pow10" with
  | none => rw [hg] at h; cases h
  | some g =>
    rw [hg] at h
    simp only [Option.bind_some] at h ⊢
    have hlt : g < w.heap.size := by
      rcases Nat.lt_or_ge g w.heap.size with h' | h'
      · exact h'
      · rw [Array.getElem?_eq_none h'] at h; cases h
    rw [hb.block g hlt]
    exact h

theorem devCs_keys (d : Dev) (A : Option Addr) (c : Nat) (V : Option Addr) (cv : Nat) (K K' : Option Addr) (ck ck' : Nat) :
    (devCs d A c V cv K ck).setIfInBounds 5 (.slice K' (d.keys.length - 1) ck') = devCs ⟨d.use, d.scr, d.files, d.keys.drop 1⟩ A c V cv K' ck' := by
  unfold devCs
  simp [List.length_drop]

theorem own_cap {w : World} {base : Nat} {e : TypeId} {A : Option Addr} {n c : Nat} {xs : List Value} (h : w.ownsRow base e 1 (.slice A n c) n xs) (hn : 0 < n) : n ≤ c ∧ c ≤ maxLen := by
  rcases h.2 with ⟨_, h0⟩ | ⟨g, cap, cur, hv, hg, hh, hnc, hm, _⟩
  · omega
  · injection hv with _ _ hc
    subst hc
    exact ⟨hnc, hm⟩

/-- All keys but the first. -/
theorem keys_drop {w w' : World} {lo hi kb off off' : Nat} {ks : List ByteArray} (h : StrR w lo hi (some ⟨kb, off, none⟩) ks.length ks) (hoff : 1 < ks.length → off' = off + 1) (hk : ∀ b, lo ≤ b → b < hi → w'.heap[b]? = w.heap[b]?) :
    StrR w' lo hi (some ⟨kb, off', none⟩) (ks.drop 1).length (ks.drop 1) := by
  refine ⟨rfl, fun hn => ?_⟩
  rw [List.length_drop] at hn
  obtain ⟨b, o, e, h1, h2, hc⟩ := h.2 (by omega)
  injection e with e; injection e with e1 e2
  subst e1; subst e2
  have ho := hoff (by omega)
  subst ho
  refine ⟨kb, off + 1, rfl, h1, h2, fun j hj => ?_⟩
  rw [List.length_drop] at hj
  have := hc (1 + j) (by omega)
  rw [← Nat.add_assoc] at this
  refine (World.cell?_of_block (hk kb h1 h2)).trans (this.trans ?_)
  rw [List.getD_eq_getElem?_getD, List.getD_eq_getElem?_getD, List.getElem?_drop]

theorem fil_at {f : Fil} (h : filB f = true) : 0 ≤ f.at_ ∧ f.at_ ≤ f.lines.length ∧ f.lines.length ≤ 20 ∧ ∀ s ∈ f.lines, s.size ≤ 80 := by
  unfold filB inB at h
  simp only [Bool.and_eq_true, decide_eq_true_eq, List.all_eq_true] at h
  refine ⟨h.1.2.1, h.1.2.2, h.1.1.1.2, fun s hs => ?_⟩
  have := h.2 s hs
  unfold lineB at this
  simp only [Bool.and_eq_true, decide_eq_true_eq] at this
  exact this.1
theorem devCs_files (d : Dev) (fs : List Fil) (hl : fs.length = d.files.length) (A : Option Addr) (c : Nat) (V : Option Addr) (cv : Nat) (K : Option Addr) (ck : Nat) :
    devCs d A c V cv K ck = devCs ⟨d.use, d.scr, fs, d.keys⟩ A c V cv K ck := by
  unfold devCs
  rw [hl]

theorem ScrStep.trans {w w1 w2 : World} {base g o b b1 off1 cap1 : Nat} {t : TypeId} {cs : Array Value} {s1 s2 : Scr} (hX : ScrX w1 base g o t cs b1 off1 cap1 s1) (hb : b1 = b ∨ w.heap.size ≤ b1) (ht : Touch g b w w1) (h2 : ScrStep w1 base g o t cs b1 w2 s2) : ScrStep w base g o t cs b w2 s2 := by
  obtain ⟨b2, o2, c2, hX2, hb2, ht2⟩ := h2
  have hs := ht.size
  exact ⟨b2, o2, c2, hX2, by omega, ht.trans ht2 hb⟩

set_option maxHeartbeats 8000000 in
set_option maxRecDepth 100000 in
theorem iRd_bad (d : Dev) (most : Int) (v : Value) (lo hi : Nat) (w : World) (hx : DevR w lo hi v d) (hhi : hi ≤ w.heap.size) (hs : DevSmall d) (hB : devB d = false) :
    Calls Tryz.prog 8 #[v, .int .i64 most] w fun e w' => ∃ v', e = .returned (.tuple #[v', .string ⟨#[]⟩, .int .i64 1]) ∧ OwnDev w' w.heap.size w'.heap.size v' noDev ∧ Below w.heap.size w w' := by
  have HX := Lib.hid hx; have HS := Lib.hid hs
  obtain ⟨A, c, F, cf, J, cj, rfl, h1, h2, h3⟩ := hx
  have R0 := (((Stand.nil w).add lo hi _ (loc_devR lo hi (.agg (devCs d A c F cf J cj)) d) hhi HX.out).box 32 (devCs d A c F cf J cj)).box 32 #[.int .i64 0, .int .i64 0, .int .i64 0, .slice none 0 0, .slice none 0 0, .slice none 0 0]
  rw [heap_size_alloc1] at R0
  have HR0 := Lib.hid R0
  have HOK := Lib.hid (fun W v h1 h2 => implDevicesOk_any d v lo hi W h1 h2 HS.out)
  clear h1 h2 h3 R0 hs
  rw [hB] at HOK
  go_enter Tryz.func8, Tryz.ntmps8
  go_wp2_with fail
  refine (HOK.out _ _ (HR0.out.get 2 rfl) (HR0.out.le 2 rfl)).mono ?_
  rintro e1 w1 ⟨rfl, hb1⟩
  have HR1 := Lib.hid (HR0.out.below hb1); clear hb1 HR0 HOK
  have fr := (HR1.out.get 0 rfl).cell
  have zr := (HR1.out.get 0 rfl).frozen
  have sr := HR1.out.le 0 rfl
  go_wp2_with fail
  refine bodyPost_ret (v := .tuple #[.agg #[.int .i64 0, .int .i64 0, .int .i64 0, .slice none 0 0, .slice none 0 0, .slice none 0 0], .string ⟨#[]⟩, .int .i64 1]) (by simp [results, Tryz.results8, go_sem, fr]) rfl ⟨_, rfl, ?_, ?_⟩
  · exact (ownDev_none _ _ _ (by first | (simp [World.setCell]; done) | (simp [World.setCell]; omega)))
  · iterate 6 (with_reducible refine Below.setCell ?_ (by simp; try omega) _)
    exact HR1.out.1

set_option maxHeartbeats 8000000 in
set_option maxRecDepth 100000 in
theorem iRd_rng (d : Dev) (most : Int) (v : Value) (lo hi : Nat) (w : World) (hx : DevR w lo hi v d) (hhi : hi ≤ w.heap.size) (hs : DevSmall d) (hB : devB d = true) (hr : inB most (-1) 80 = false) :
    Calls Tryz.prog 8 #[v, .int .i64 most] w fun e w' => ∃ v', e = .returned (.tuple #[v', .string ⟨#[]⟩, .int .i64 2]) ∧ OwnDev w' w.heap.size w'.heap.size v' noDev ∧ Below w.heap.size w w' := by
  have HX := Lib.hid hx; have HS := Lib.hid hs
  obtain ⟨A, c, F, cf, J, cj, rfl, h1, h2, h3⟩ := hx
  have R0 := (((Stand.nil w).add lo hi _ (loc_devR lo hi (.agg (devCs d A c F cf J cj)) d) hhi HX.out).box 32 (devCs d A c F cf J cj)).box 32 #[.int .i64 0, .int .i64 0, .int .i64 0, .slice none 0 0, .slice none 0 0, .slice none 0 0]
  rw [heap_size_alloc1] at R0
  have HR0 := Lib.hid R0
  have HOK := Lib.hid (fun W v h1 h2 => implDevicesOk_any d v lo hi W h1 h2 HS.out)
  clear h1 h2 h3 R0 hs
  rw [hB] at HOK
  go_enter Tryz.func8, Tryz.ntmps8
  go_wp2_with fail
  refine (HOK.out _ _ (HR0.out.get 2 rfl) (HR0.out.le 2 rfl)).mono ?_
  rintro e1 w1 ⟨rfl, hb1⟩
  have HR1 := Lib.hid (HR0.out.below hb1); clear hb1 HR0 HOK
  go_wp2_with fail
  refine (within_any most (-1) 80 w1).mono ?_
  rintro e1' w1' ⟨rfl, rfl⟩
  rw [hr]
  have fr := (HR1.out.get 0 rfl).cell
  have zr := (HR1.out.get 0 rfl).frozen
  have sr := HR1.out.le 0 rfl
  go_wp2_with fail
  refine bodyPost_ret (v := .tuple #[.agg #[.int .i64 0, .int .i64 0, .int .i64 0, .slice none 0 0, .slice none 0 0, .slice none 0 0], .string ⟨#[]⟩, .int .i64 2]) (by simp [results, Tryz.results8, go_sem, fr]) rfl ⟨_, rfl, ?_, ?_⟩
  · exact (ownDev_none _ _ _ (by first | (simp [World.setCell]; done) | (simp [World.setCell]; omega)))
  · iterate 6 (with_reducible refine Below.setCell ?_ (by simp; try omega) _)
    exact HR1.out.1

set_option maxHeartbeats 8000000 in
set_option maxRecDepth 100000 in
theorem iRd_nokey (d : Dev) (most : Int) (v : Value) (lo hi : Nat) (w : World) (hx : DevR w lo hi v d) (hhi : hi ≤ w.heap.size) (hs : DevSmall d) (hB : devB d = true) (hr : inB most (-1) 80 = true) (hu : d.use = 0) (hk : d.keys.length = 0) :
    Calls Tryz.prog 8 #[v, .int .i64 most] w fun e w' => ∃ v', e = .returned (.tuple #[v', .string ⟨#[]⟩, .int .i64 3]) ∧ OwnDev w' w.heap.size w'.heap.size v' noDev ∧ Below w.heap.size w w' := by
  have HX := Lib.hid hx; have HS := Lib.hid hs
  obtain ⟨A, c, F, cf, J, cj, rfl, h1, h2, h3⟩ := hx
  have R0 := (((Stand.nil w).add lo hi _ (loc_devR lo hi (.agg (devCs d A c F cf J cj)) d) hhi HX.out).box 32 (devCs d A c F cf J cj)).box 32 #[.int .i64 0, .int .i64 0, .int .i64 0, .slice none 0 0, .slice none 0 0, .slice none 0 0]
  rw [heap_size_alloc1] at R0
  have HR0 := Lib.hid R0
  have HOK := Lib.hid (fun W v h1 h2 => implDevicesOk_any d v lo hi W h1 h2 HS.out)
  clear h1 h2 h3 R0 hs
  rw [hB] at HOK
  have HGD := Lib.hid (DevGood.of hB)
  have hn3 := HGD.out.n3
  have hr0 : 0 < d.scr.rows.length := by have := HGD.out.fine.len; omega
  have HU := Lib.hid hu; have HKL := Lib.hid hk; clear hu hk
  go_enter Tryz.func8, Tryz.ntmps8
  go_wp2_with fail
  refine (HOK.out _ _ (HR0.out.get 2 rfl) (HR0.out.le 2 rfl)).mono ?_
  rintro e1 w1 ⟨rfl, hb1⟩
  have HR1 := Lib.hid (HR0.out.below hb1); clear hb1 HR0 HOK
  go_wp2_with fail
  refine (within_any most (-1) 80 w1).mono ?_
  rintro e1' w1' ⟨rfl, rfl⟩
  rw [hr]
  have f1 := (HR1.out.get 1 rfl).cell
  go_wp2_with fail
  refine (copyDevices_own d _ lo hi _ (HR1.out.get 2 rfl) (HR1.out.le 2 rfl) hr0 HS.out).mono ?_
  rintro e2 w2 ⟨p, A2, c2, V, cv, K2, ck2, rfl, hp1, hp2, hBp, ⟨a1, b1, a3, b3, B, hq, x13, ⟨oA, oAb⟩, ⟨xs, hxs, hfx⟩, oK, oKb⟩, hb2⟩
  have s1 := HR1.out.le 0 rfl
  have s2 := hb2.size
  have HR2 := Lib.hid (HR1.out.below hb2); clear hb2 f1 HR1
  have HQ := Lib.hid hq; have HX13 := Lib.hid x13; have HOA := Lib.hid oA; have HOAB := Lib.hid oAb; have HXS := Lib.hid hxs; have HFX := Lib.hid hfx; have HOK := Lib.hid oK; have HOKB := Lib.hid oKb; have HBP := Lib.hid hBp
  have hpB := hq.2.2.2.2.1; have hBw := hq.2.2.2.2.2; have hwp := hp1
  clear hq x13 oA oAb hxs hfx oK oKb hBp
  go_wp2_with fail
  refine (lineKey_none HBP.out HU.out HKL.out).mono ?_
  rintro e3 w3 ⟨rfl, hb3⟩
  have HR3 := Lib.hid (HR2.out.below hb3); clear hb3
  have fr := (HR3.out.get 0 rfl).cell
  have zr := (HR3.out.get 0 rfl).frozen
  have sr := HR3.out.le 0 rfl
  go_wp2_with fail
  refine bodyPost_ret (v := .tuple #[.agg #[.int .i64 0, .int .i64 0, .int .i64 0, .slice none 0 0, .slice none 0 0, .slice none 0 0], .string ⟨#[]⟩, .int .i64 3]) (by simp [results, Tryz.results8, go_sem, fr]) rfl ⟨_, rfl, ?_, ?_⟩
  · exact (ownDev_none _ _ _ (by first | (simp [World.setCell]; done) | (simp [World.setCell]; omega)))
  · iterate 6 (with_reducible refine Below.setCell ?_ (by simp; try omega) _)
    exact HR3.out.1

set_option maxHeartbeats 8000000 in
set_option maxRecDepth 100000 in
theorem iRd_keyS (d : Dev) (most : Int) (v : Value) (lo hi : Nat) (w : World) (hx : DevR w lo hi v d) (hhi : hi ≤ w.heap.size) (hs : DevSmall d) (hB : devB d = true) (hr : inB most (-1) 80 = true) (hu : d.use = 0) (hk : 0 < d.keys.length) (hTB : Hid (TabsIn w)) (hm : 0 ≤ most) (D0 : Dev) (hD : D0 = ⟨d.use, newRow (showTo d.scr (shownT (d.keys.getD 0 ByteArray.empty) most) (shownT (d.keys.getD 0 ByteArray.empty) most).size), d.files, d.keys.drop 1⟩) (T : ByteArray) (hT : T = wantT (d.keys.getD 0 ByteArray.empty) most) :
    Calls Tryz.prog 8 #[v, .int .i64 most] w fun e w' => ∃ v', e = .returned (.tuple #[v', .string T, .int .i64 0]) ∧ OwnDev w' w.heap.size w'.heap.size v' D0 ∧ Below w.heap.size w w' := by
  have HX := Lib.hid hx; have HS := Lib.hid hs
  obtain ⟨A, c, F, cf, J, cj, rfl, h1, h2, h3⟩ := hx
  have R0 := (((Stand.nil w).add lo hi _ (loc_devR lo hi (.agg (devCs d A c F cf J cj)) d) hhi HX.out).box 32 (devCs d A c F cf J cj)).box 32 #[.int .i64 0, .int .i64 0, .int .i64 0, .slice none 0 0, .slice none 0 0, .slice none 0 0]
  rw [heap_size_alloc1] at R0
  have HR0 := Lib.hid R0
  have HOK := Lib.hid (fun W v h1 h2 => implDevicesOk_any d v lo hi W h1 h2 HS.out)
  clear h1 h2 h3 R0 hs
  rw [hB] at HOK
  have HGD := Lib.hid (DevGood.of hB)
  have hn3 := HGD.out.n3
  have hr0 : 0 < d.scr.rows.length := by have := HGD.out.fine.len; omega
  have HU := Lib.hid hu; have HKP := Lib.hid hk; have HD0 := Lib.hid hD; have HTT := Lib.hid hT
  have u0 : (d.use == 0) = true := by rw [hu]; rfl
  have HRM := Lib.hid (inB_le hr)
  have HKM := Lib.hid (show (d.keys.getD 0 ByteArray.empty).size ≤ 1048576 from HS.out.2.2.2 _ (by rw [List.getD_eq_getElem?_getD, List.getElem?_eq_getElem hk]; exact List.getElem_mem hk))
  have HSH := Lib.hid (show shownT (d.keys.getD 0 ByteArray.empty) most = T by rw [hT]; unfold shownT; rw [if_neg (by omega)])
  have HM := Lib.hid hm
  clear hu hk hD hT hm
  go_enter Tryz.func8, Tryz.ntmps8
  go_wp2_with fail
  refine (HOK.out _ _ (HR0.out.get 2 rfl) (HR0.out.le 2 rfl)).mono ?_
  rintro e1 w1 ⟨rfl, hb1⟩
  have HR1 := Lib.hid (HR0.out.below hb1); clear hb1 HR0 HOK
  go_wp2_with fail
  refine (within_any most (-1) 80 w1).mono ?_
  rintro e1' w1' ⟨rfl, rfl⟩
  rw [hr]
  have f1 := (HR1.out.get 1 rfl).cell
  clear hr
  go_wp2_with fail
  refine (copyDevices_own d _ lo hi _ (HR1.out.get 2 rfl) (HR1.out.le 2 rfl) hr0 HS.out).mono ?_
  rintro e2 w2 ⟨p, A2, c2, V, cv, K2, ck2, rfl, hp1, hp2, hBp, ⟨a1, b1, a3, b3, B, hq, x13, ⟨oA, oAb⟩, ⟨xs, hxs, hfx⟩, oK, oKb⟩, hb2⟩
  have s1 := HR1.out.le 0 rfl
  have s2 := hb2.size
  have HR2 := Lib.hid (HR1.out.below hb2); clear hb2 f1 HR1
  have HQ := Lib.hid hq; have HX13 := Lib.hid x13; have HOA := Lib.hid oA; have HOAB := Lib.hid oAb; have HXS := Lib.hid hxs; have HFX := Lib.hid hfx; have HOK := Lib.hid oK; have HOKB := Lib.hid oKb; have HBP := Lib.hid hBp
  have hpB := hq.2.2.2.2.1; have hBw := hq.2.2.2.2.2; have hwp := hp1
  clear hq x13 oA oAb hxs hfx oK oKb hBp
  have hkr := own_reads HOK.out HOKB.out
  obtain ⟨kb, koff, rfl, hkb1, hkb2, hkc⟩ := hkr.at_ HKP.out
  rw [Nat.add_zero] at hkc
  have HCAP := Lib.hid (own_cap HOK.out HKP.out)
  have HKR := Lib.hid hkr; have HKC := Lib.hid hkc; clear hkr hkc
  obtain ⟨b, rfl, hO⟩ := OwnO.of_own HOA.out hr0
  have hbb := HOAB.out b rfl
  have hab := hO.1
  have hbp := HQ.out.2.1; have ha1 := HQ.out.1; have HO := Lib.hid hO; clear hO
  go_wp2_with fail
  refine (lineKey_some HBP.out HU.out HKP.out HCAP.out.1 HKC.out).mono ?_
  rintro e3 w3 ⟨rfl, off', rfl, hoff⟩
  have hB3 := HBP.out.set_ 5 (.slice (some ⟨kb, off', none⟩) (d.keys.length - 1) (ck2 - 1))
  rw [devCs_keys] at hB3
  have hk3 : ∀ k, k ≠ p → (w2.setCell ⟨p, 5, none⟩ (.slice (some ⟨kb, off', none⟩) (d.keys.length - 1) (ck2 - 1))).heap[k]? = w2.heap[k]? := fun k hk => Below.heap_setCell w2 ⟨p, 5, none⟩ _ k hk
  have hz3 : (w2.setCell ⟨p, 5, none⟩ (.slice (some ⟨kb, off', none⟩) (d.keys.length - 1) (ck2 - 1))).heap.size = w2.heap.size := by simp [World.setCell]
  have hbl3 : Below w.heap.size w (w2.setCell ⟨p, 5, none⟩ (.slice (some ⟨kb, off', none⟩) (d.keys.length - 1) (ck2 - 1))) := HR2.out.1.setCell (by show _ ≤ p; omega) _
  have hkd := keys_drop (off' := off') HKR.out hoff (w' := w2.setCell ⟨p, 5, none⟩ (.slice (some ⟨kb, off', none⟩) (d.keys.length - 1) (ck2 - 1))) (fun b h1 h2 => hk3 b (by have := HQ.out.2.2.2.1; omega))
  generalize w2.setCell ⟨p, 5, none⟩ (.slice (some ⟨kb, off', none⟩) (d.keys.length - 1) (ck2 - 1)) = w3 at *
  have HB3' := Lib.hid hB3; have HK3 := Lib.hid hk3; have HBL3 := Lib.hid hbl3; have HKD := Lib.hid hkd; clear hB3 hk3 hbl3 hkd hoff
  have HRR := Lib.hid (readResult_any (d.keys.getD 0 ByteArray.empty) most w3 (hTB.out.below HBL3.out) HKM.out HRM.out.1 HRM.out.2)
  rw [← HTT.out] at HRR
  go_wp2_with fail
  refine HRR.out.mono ?_
  rintro e4 w4 ⟨rfl, hb4⟩
  have s4 := hb4.size
  have HB4 := Lib.hid (HB3'.out.below hb4 HB3'.out.lt); have HK4 := Lib.hid (show ∀ k, k < w2.heap.size → k ≠ p → w4.heap[k]? = w2.heap[k]? from fun k h1 h2 => (hb4.block k (by omega)).trans (HK3.out k h2)); have HBL4 := Lib.hid (HBL3.out.trans (hb4.mono HBL3.out.size))
  have HKD4 := Lib.hid (HKD.out.below hb4 (by have := HQ.out.2.2.2.1; omega))
  clear hb4 HRR HB3' HK3 HBL3 HKD
  obtain ⟨d1, hd1⟩ : ∃ X : Dev, X = ⟨d.use, d.scr, d.files, d.keys.drop 1⟩ := ⟨_, rfl⟩
  rw [← hd1] at HB4
  have HD1 := Lib.hid hd1; clear hd1
  have u1 : (d1.use == 0) = true := by rw [HD1.out]; exact u0
  have HSX : Hid (ScrX w4 a1 p 1 32 (devCs d1 (some ⟨b, 0, none⟩) c2 V cv (some ⟨kb, off', none⟩) (ck2 - 1)) b 0 c2 d.scr) := ⟨by omega, by simp, by rw [put3_dev]; have := HB4.out; rw [HD1.out] at this ⊢; exact this, HO.out.keep (HK4.out b (by omega) (by omega))⟩
  have fp := HB4.out.cell
  have hl1 := HGD.out.fine.len
  have tm : (0 : Int) ≤ most := HM.out
  have HTS := Lib.hid (show T.size ≤ 1048576 by rw [HTT.out]; exact wantT_size _ _ HKM.out)
  go_wp2_with fail
  refine (write_any d.scr T a1 p 1 32 (devCs d1 (some ⟨b, 0, none⟩) c2 V cv (some ⟨kb, off', none⟩) (ck2 - 1)) b 0 c2 w4 HSX.out (by omega) HGD.out.fine HTS.out).mono ?_
  rintro e5 w5 ⟨rfl, b5, o5, c5, hp5, hb5, ht5⟩
  have hf5 := showTo_fine HGD.out.fine T T.size
  have HP5 := Lib.hid hp5; have HT5 := Lib.hid ht5; have s5 := ht5.size
  have HF5 := Lib.hid hf5
  clear hp5 ht5 hf5 fp
  go_wp2_with fail
  refine (begin_any (showTo d.scr T T.size) a1 p 1 32 _ b5 o5 c5 w5 HP5.out (by omega) HF5.out.len HF5.out.row0 HF5.out.row5).mono ?_
  rintro e6 w6 ⟨rfl, hst6⟩
  have hst := ScrStep.trans HP5.out hb5 HT5.out hst6
  have HFN := Lib.hid (newRow_fine HF5.out.len HF5.out.row0 HF5.out.row5 HF5.out.size)
  have HDE := Lib.hid (show D0 = ⟨d1.use, newRow (showTo d.scr T T.size), d1.files, d1.keys⟩ by rw [HD0.out, HSH.out, HD1.out])
  generalize newRow (showTo d.scr T T.size) = S0 at *
  obtain ⟨b6, o6, c6, hp6, hb6, ht6⟩ := hst
  have s6 := ht6.size
  have hk6 : ∀ k, k < w2.heap.size → k ≠ p → k ≠ b → w6.heap[k]? = w2.heap[k]? := fun k h1 h2 h3 => (ht6.block k (by omega) h2 h3).trans (HK4.out k h1 h2)
  have hB6 := hp6.blk
  rw [put3_dev, ← HDE.out] at hB6
  have hFX6 := (loc_ownFx _ _ _ xs w2 w6 (fun k h1 h2 => hk6 k (by omega) (by omega) (by omega)) HFX.out).more (show w2.heap.size ≤ w6.heap.size by omega)
  have hfr := hFX6.fils.reads
  rw [HXS.out] at hfr
  have hkd6 := HKD4.out.keep (w' := w6) (fun k h1 h2 => ht6.block k (by have := HQ.out.2.2.2.1; omega) (by have := HQ.out.2.2.2.1; omega) (fun e => by have := HX13.out.far (k := b) hab hbb; omega))
  have HDR := Lib.hid (show DevR w6 w1.heap.size w6.heap.size (.agg (devCs D0 (some ⟨b6, o6, none⟩) c6 V cv (some ⟨kb, off', none⟩) (ck2 - 1))) D0 from by rw [HDE.out, HD1.out]; exact ⟨some ⟨b6, o6, none⟩, c6, V, cv, some ⟨kb, off', none⟩, ck2 - 1, rfl, RowR.more hp6.own.reads (by have := HQ.out.1; omega) (Nat.le_refl _), FilesR.more hfr (by omega) (Nat.le_refl _), RowR.more hkd6 (by have := HQ.out.2.2.1; omega) (by have := HQ.out.2.2.2.1; omega)⟩)
  have HRB3 := Lib.hid (show Blk w6 (w.heap.size + 1) 32 #[.int .i64 0, .int .i64 0, .int .i64 0, .slice none 0 0, .slice none 0 0, .slice none 0 0] from (hk6 _ (by omega) (by omega) (by omega)).trans (HR2.out.get 0 rfl))
  have HBEL3 := Lib.hid (show Below w.heap.size w w6 from HBL4.out.trans (ht6.below (base := w.heap.size) (by omega) (by omega) (by omega)))
  have HDS := Lib.hid (show DevSmall D0 from by rw [HDE.out, HD1.out]; exact ⟨⟨by have := HFN.out.len; show S0.rows.length ≤ _; omega, fun r hr => by have := HFN.out.size r hr; omega⟩, HS.out.2.1, by have := HS.out.2.2.1; show (d.keys.drop 1).length ≤ _; rw [List.length_drop]; omega, fun r hr => HS.out.2.2.2 r (List.mem_of_mem_drop hr)⟩)
  have hr1 : 0 < D0.scr.rows.length := by rw [HDE.out]; have := HFN.out.len; show 0 < S0.rows.length; omega
  have HB3 := Lib.hid hB6
  have s0 : w.heap.size + 2 ≤ w6.heap.size := by omega
  clear hp6 ht6 hk6 hB6 hFX6 hfr hkd6 HSX HR2 HBP HFX HOK HOA HB4 HK4 HBL4 HKD4 HQ HX13 HOAB HXS HOKB HDE HFN HKR HKC HO hTB HTT HD1 HP5 HT5 HF5 HTS
  have fp := HB3.out.cell
  go_wp2_with fail
  refine (copyDevices_own D0 _ w1.heap.size w6.heap.size _ HDR.out (Nat.le_refl _) hr1 HDS.out).mono ?_
  rintro e8 w8 ⟨p4, A4, c4, V4, cv4, K4, ck4, rfl, hp41, hp42, hBp4, ⟨a41, b41, a43, b43, B4, hq4, x134, ⟨oA4, oAb4⟩, ⟨xs4, hxs4, hfx4⟩, oK4, oKb4⟩, hb8⟩
  have s8 := hb8.size
  have HRB8 := Lib.hid (HRB3.out.below hb8 HRB3.out.lt); have HBEL := Lib.hid (HBEL3.out.trans (hb8.mono HBEL3.out.size))
  have HQ4 := Lib.hid hq4; have HX134 := Lib.hid x134; have HOA4 := Lib.hid oA4; have HOAB4 := Lib.hid oAb4; have HXS4 := Lib.hid hxs4; have HFX4 := Lib.hid hfx4; have HOK4 := Lib.hid oK4; have HOKB4 := Lib.hid oKb4; have HBP4 := Lib.hid hBp4
  clear hq4 x134 oA4 oAb4 hxs4 hfx4 oK4 oKb4 hBp4 hb8 fp HB3 HDR HRB3 HBEL3 HDS
  have fp := HBP4.out.cell; have fr := HRB8.out.cell; have zr := HRB8.out.frozen
  go_wp2_with fail
  refine bodyPost_ret (v := .tuple #[.agg (devCs D0 A4 c4 V4 cv4 K4 ck4), .string T, .int .i64 0]) (by simp [results, Tryz.results8, go_sem, fr]) rfl ⟨_, rfl, ?_, ?_⟩
  · obtain ⟨q1, q2, q3, q4, q5, q6⟩ := HQ4.out
    refine ownDev_mk (W := w8) (p := p4) (r := w.heap.size + 1) (d := D0) (lo := w.heap.size) ⟨by omega, q2, by omega, q4, q5, by omega⟩ ⟨by omega, by omega, by omega⟩ (by omega) HX134.out HOA4.out HOAB4.out HXS4.out HFX4.out HOK4.out HOKB4.out (fun b h1 h2 => ?_) (by simp [World.setCell])
    iterate 6 (with_reducible rw [Below.heap_setCell _ _ _ b (by simp; omega)])
  · iterate 6 (with_reducible refine Below.setCell ?_ (by simp; try omega) _)
    exact HBEL.out

set_option maxHeartbeats 8000000 in
set_option maxRecDepth 100000 in
theorem iRd_keyN (d : Dev) (most : Int) (v : Value) (lo hi : Nat) (w : World) (hx : DevR w lo hi v d) (hhi : hi ≤ w.heap.size) (hs : DevSmall d) (hB : devB d = true) (hr : inB most (-1) 80 = true) (hu : d.use = 0) (hk : 0 < d.keys.length) (hTB : Hid (TabsIn w)) (hm : most = -1) (D0 : Dev) (hD : D0 = ⟨d.use, newRow (showTo d.scr (shownT (d.keys.getD 0 ByteArray.empty) most) (shownT (d.keys.getD 0 ByteArray.empty) most).size), d.files, d.keys.drop 1⟩) (T : ByteArray) (hT : T = wantT (d.keys.getD 0 ByteArray.empty) most) :
    Calls Tryz.prog 8 #[v, .int .i64 most] w fun e w' => ∃ v', e = .returned (.tuple #[v', .string T, .int .i64 0]) ∧ OwnDev w' w.heap.size w'.heap.size v' D0 ∧ Below w.heap.size w w' := by
  have HX := Lib.hid hx; have HS := Lib.hid hs
  obtain ⟨A, c, F, cf, J, cj, rfl, h1, h2, h3⟩ := hx
  have R0 := (((Stand.nil w).add lo hi _ (loc_devR lo hi (.agg (devCs d A c F cf J cj)) d) hhi HX.out).box 32 (devCs d A c F cf J cj)).box 32 #[.int .i64 0, .int .i64 0, .int .i64 0, .slice none 0 0, .slice none 0 0, .slice none 0 0]
  rw [heap_size_alloc1] at R0
  have HR0 := Lib.hid R0
  have HOK := Lib.hid (fun W v h1 h2 => implDevicesOk_any d v lo hi W h1 h2 HS.out)
  clear h1 h2 h3 R0 hs
  rw [hB] at HOK
  have HGD := Lib.hid (DevGood.of hB)
  have hn3 := HGD.out.n3
  have hr0 : 0 < d.scr.rows.length := by have := HGD.out.fine.len; omega
  have HU := Lib.hid hu; have HKP := Lib.hid hk; have HD0 := Lib.hid hD; have HTT := Lib.hid hT
  have u0 : (d.use == 0) = true := by rw [hu]; rfl
  have HRM := Lib.hid (inB_le hr)
  have HKM := Lib.hid (show (d.keys.getD 0 ByteArray.empty).size ≤ 1048576 from HS.out.2.2.2 _ (by rw [List.getD_eq_getElem?_getD, List.getElem?_eq_getElem hk]; exact List.getElem_mem hk))
  have HSH := Lib.hid (show shownT (d.keys.getD 0 ByteArray.empty) most = ⟨#[]⟩ by unfold shownT; rw [if_pos hm])
  have HM := Lib.hid hm
  clear hu hk hD hT hm
  go_enter Tryz.func8, Tryz.ntmps8
  go_wp2_with fail
  refine (HOK.out _ _ (HR0.out.get 2 rfl) (HR0.out.le 2 rfl)).mono ?_
  rintro e1 w1 ⟨rfl, hb1⟩
  have HR1 := Lib.hid (HR0.out.below hb1); clear hb1 HR0 HOK
  go_wp2_with fail
  refine (within_any most (-1) 80 w1).mono ?_
  rintro e1' w1' ⟨rfl, rfl⟩
  rw [hr]
  have f1 := (HR1.out.get 1 rfl).cell
  clear hr
  go_wp2_with fail
  refine (copyDevices_own d _ lo hi _ (HR1.out.get 2 rfl) (HR1.out.le 2 rfl) hr0 HS.out).mono ?_
  rintro e2 w2 ⟨p, A2, c2, V, cv, K2, ck2, rfl, hp1, hp2, hBp, ⟨a1, b1, a3, b3, B, hq, x13, ⟨oA, oAb⟩, ⟨xs, hxs, hfx⟩, oK, oKb⟩, hb2⟩
  have s1 := HR1.out.le 0 rfl
  have s2 := hb2.size
  have HR2 := Lib.hid (HR1.out.below hb2); clear hb2 f1 HR1
  have HQ := Lib.hid hq; have HX13 := Lib.hid x13; have HOA := Lib.hid oA; have HOAB := Lib.hid oAb; have HXS := Lib.hid hxs; have HFX := Lib.hid hfx; have HOK := Lib.hid oK; have HOKB := Lib.hid oKb; have HBP := Lib.hid hBp
  have hpB := hq.2.2.2.2.1; have hBw := hq.2.2.2.2.2; have hwp := hp1
  clear hq x13 oA oAb hxs hfx oK oKb hBp
  have hkr := own_reads HOK.out HOKB.out
  obtain ⟨kb, koff, rfl, hkb1, hkb2, hkc⟩ := hkr.at_ HKP.out
  rw [Nat.add_zero] at hkc
  have HCAP := Lib.hid (own_cap HOK.out HKP.out)
  have HKR := Lib.hid hkr; have HKC := Lib.hid hkc; clear hkr hkc
  obtain ⟨b, rfl, hO⟩ := OwnO.of_own HOA.out hr0
  have hbb := HOAB.out b rfl
  have hab := hO.1
  have hbp := HQ.out.2.1; have ha1 := HQ.out.1; have HO := Lib.hid hO; clear hO
  go_wp2_with fail
  refine (lineKey_some HBP.out HU.out HKP.out HCAP.out.1 HKC.out).mono ?_
  rintro e3 w3 ⟨rfl, off', rfl, hoff⟩
  have hB3 := HBP.out.set_ 5 (.slice (some ⟨kb, off', none⟩) (d.keys.length - 1) (ck2 - 1))
  rw [devCs_keys] at hB3
  have hk3 : ∀ k, k ≠ p → (w2.setCell ⟨p, 5, none⟩ (.slice (some ⟨kb, off', none⟩) (d.keys.length - 1) (ck2 - 1))).heap[k]? = w2.heap[k]? := fun k hk => Below.heap_setCell w2 ⟨p, 5, none⟩ _ k hk
  have hz3 : (w2.setCell ⟨p, 5, none⟩ (.slice (some ⟨kb, off', none⟩) (d.keys.length - 1) (ck2 - 1))).heap.size = w2.heap.size := by simp [World.setCell]
  have hbl3 : Below w.heap.size w (w2.setCell ⟨p, 5, none⟩ (.slice (some ⟨kb, off', none⟩) (d.keys.length - 1) (ck2 - 1))) := HR2.out.1.setCell (by show _ ≤ p; omega) _
  have hkd := keys_drop (off' := off') HKR.out hoff (w' := w2.setCell ⟨p, 5, none⟩ (.slice (some ⟨kb, off', none⟩) (d.keys.length - 1) (ck2 - 1))) (fun b h1 h2 => hk3 b (by have := HQ.out.2.2.2.1; omega))
  generalize w2.setCell ⟨p, 5, none⟩ (.slice (some ⟨kb, off', none⟩) (d.keys.length - 1) (ck2 - 1)) = w3 at *
  have HB3' := Lib.hid hB3; have HK3 := Lib.hid hk3; have HBL3 := Lib.hid hbl3; have HKD := Lib.hid hkd; clear hB3 hk3 hbl3 hkd hoff
  have HRR := Lib.hid (readResult_any (d.keys.getD 0 ByteArray.empty) most w3 (hTB.out.below HBL3.out) HKM.out HRM.out.1 HRM.out.2)
  rw [← HTT.out] at HRR
  go_wp2_with fail
  refine HRR.out.mono ?_
  rintro e4 w4 ⟨rfl, hb4⟩
  have s4 := hb4.size
  have HB4 := Lib.hid (HB3'.out.below hb4 HB3'.out.lt); have HK4 := Lib.hid (show ∀ k, k < w2.heap.size → k ≠ p → w4.heap[k]? = w2.heap[k]? from fun k h1 h2 => (hb4.block k (by omega)).trans (HK3.out k h2)); have HBL4 := Lib.hid (HBL3.out.trans (hb4.mono HBL3.out.size))
  have HKD4 := Lib.hid (HKD.out.below hb4 (by have := HQ.out.2.2.2.1; omega))
  clear hb4 HRR HB3' HK3 HBL3 HKD
  obtain ⟨d1, hd1⟩ : ∃ X : Dev, X = ⟨d.use, d.scr, d.files, d.keys.drop 1⟩ := ⟨_, rfl⟩
  rw [← hd1] at HB4
  have HD1 := Lib.hid hd1; clear hd1
  have u1 : (d1.use == 0) = true := by rw [HD1.out]; exact u0
  have HSX : Hid (ScrX w4 a1 p 1 32 (devCs d1 (some ⟨b, 0, none⟩) c2 V cv (some ⟨kb, off', none⟩) (ck2 - 1)) b 0 c2 d.scr) := ⟨by omega, by simp, by rw [put3_dev]; have := HB4.out; rw [HD1.out] at this ⊢; exact this, HO.out.keep (HK4.out b (by omega) (by omega))⟩
  have fp := HB4.out.cell
  have hl1 := HGD.out.fine.len
  have tm : ¬ (0 : Int) ≤ most := by have := HM.out; omega
  clear fp
  have fp := HB4.out.cell
  go_wp2_with fail
  refine (begin_any d.scr a1 p 1 32 (devCs d1 (some ⟨b, 0, none⟩) c2 V cv (some ⟨kb, off', none⟩) (ck2 - 1)) b 0 c2 w4 HSX.out (by omega) HGD.out.fine.len HGD.out.fine.row0 HGD.out.fine.row5).mono ?_
  rintro e6 w6 ⟨rfl, hst⟩
  have HFN := Lib.hid (newRow_fine HGD.out.fine.len HGD.out.fine.row0 HGD.out.fine.row5 HGD.out.fine.size)
  have HDE := Lib.hid (show D0 = ⟨d1.use, newRow d.scr, d1.files, d1.keys⟩ by rw [HD0.out, HSH.out, HD1.out]; rfl)
  generalize newRow d.scr = S0 at *
  obtain ⟨b6, o6, c6, hp6, hb6, ht6⟩ := hst
  have s6 := ht6.size
  have hk6 : ∀ k, k < w2.heap.size → k ≠ p → k ≠ b → w6.heap[k]? = w2.heap[k]? := fun k h1 h2 h3 => (ht6.block k (by omega) h2 h3).trans (HK4.out k h1 h2)
  have hB6 := hp6.blk
  rw [put3_dev, ← HDE.out] at hB6
  have hFX6 := (loc_ownFx _ _ _ xs w2 w6 (fun k h1 h2 => hk6 k (by omega) (by omega) (by omega)) HFX.out).more (show w2.heap.size ≤ w6.heap.size by omega)
  have hfr := hFX6.fils.reads
  rw [HXS.out] at hfr
  have hkd6 := HKD4.out.keep (w' := w6) (fun k h1 h2 => ht6.block k (by have := HQ.out.2.2.2.1; omega) (by have := HQ.out.2.2.2.1; omega) (fun e => by have := HX13.out.far (k := b) hab hbb; omega))
  have HDR := Lib.hid (show DevR w6 w1.heap.size w6.heap.size (.agg (devCs D0 (some ⟨b6, o6, none⟩) c6 V cv (some ⟨kb, off', none⟩) (ck2 - 1))) D0 from by rw [HDE.out, HD1.out]; exact ⟨some ⟨b6, o6, none⟩, c6, V, cv, some ⟨kb, off', none⟩, ck2 - 1, rfl, RowR.more hp6.own.reads (by have := HQ.out.1; omega) (Nat.le_refl _), FilesR.more hfr (by omega) (Nat.le_refl _), RowR.more hkd6 (by have := HQ.out.2.2.1; omega) (by have := HQ.out.2.2.2.1; omega)⟩)
  have HRB3 := Lib.hid (show Blk w6 (w.heap.size + 1) 32 #[.int .i64 0, .int .i64 0, .int .i64 0, .slice none 0 0, .slice none 0 0, .slice none 0 0] from (hk6 _ (by omega) (by omega) (by omega)).trans (HR2.out.get 0 rfl))
  have HBEL3 := Lib.hid (show Below w.heap.size w w6 from HBL4.out.trans (ht6.below (base := w.heap.size) (by omega) (by omega) (by omega)))
  have HDS := Lib.hid (show DevSmall D0 from by rw [HDE.out, HD1.out]; exact ⟨⟨by have := HFN.out.len; show S0.rows.length ≤ _; omega, fun r hr => by have := HFN.out.size r hr; omega⟩, HS.out.2.1, by have := HS.out.2.2.1; show (d.keys.drop 1).length ≤ _; rw [List.length_drop]; omega, fun r hr => HS.out.2.2.2 r (List.mem_of_mem_drop hr)⟩)
  have hr1 : 0 < D0.scr.rows.length := by rw [HDE.out]; have := HFN.out.len; show 0 < S0.rows.length; omega
  have HB3 := Lib.hid hB6
  have s0 : w.heap.size + 2 ≤ w6.heap.size := by omega
  clear hp6 ht6 hk6 hB6 hFX6 hfr hkd6 HSX HR2 HBP HFX HOK HOA HB4 HK4 HBL4 HKD4 HQ HX13 HOAB HXS HOKB HDE HFN HKR HKC HO hTB HTT HD1 fp
  have fp := HB3.out.cell
  go_wp2_with fail
  refine (copyDevices_own D0 _ w1.heap.size w6.heap.size _ HDR.out (Nat.le_refl _) hr1 HDS.out).mono ?_
  rintro e8 w8 ⟨p4, A4, c4, V4, cv4, K4, ck4, rfl, hp41, hp42, hBp4, ⟨a41, b41, a43, b43, B4, hq4, x134, ⟨oA4, oAb4⟩, ⟨xs4, hxs4, hfx4⟩, oK4, oKb4⟩, hb8⟩
  have s8 := hb8.size
  have HRB8 := Lib.hid (HRB3.out.below hb8 HRB3.out.lt); have HBEL := Lib.hid (HBEL3.out.trans (hb8.mono HBEL3.out.size))
  have HQ4 := Lib.hid hq4; have HX134 := Lib.hid x134; have HOA4 := Lib.hid oA4; have HOAB4 := Lib.hid oAb4; have HXS4 := Lib.hid hxs4; have HFX4 := Lib.hid hfx4; have HOK4 := Lib.hid oK4; have HOKB4 := Lib.hid oKb4; have HBP4 := Lib.hid hBp4
  clear hq4 x134 oA4 oAb4 hxs4 hfx4 oK4 oKb4 hBp4 hb8 fp HB3 HDR HRB3 HBEL3 HDS
  have fp := HBP4.out.cell; have fr := HRB8.out.cell; have zr := HRB8.out.frozen
  go_wp2_with fail
  refine bodyPost_ret (v := .tuple #[.agg (devCs D0 A4 c4 V4 cv4 K4 ck4), .string T, .int .i64 0]) (by simp [results, Tryz.results8, go_sem, fr]) rfl ⟨_, rfl, ?_, ?_⟩
  · obtain ⟨q1, q2, q3, q4, q5, q6⟩ := HQ4.out
    refine ownDev_mk (W := w8) (p := p4) (r := w.heap.size + 1) (d := D0) (lo := w.heap.size) ⟨by omega, q2, by omega, q4, q5, by omega⟩ ⟨by omega, by omega, by omega⟩ (by omega) HX134.out HOA4.out HOAB4.out HXS4.out HFX4.out HOK4.out HOKB4.out (fun b h1 h2 => ?_) (by simp [World.setCell])
    iterate 6 (with_reducible rw [Below.heap_setCell _ _ _ b (by simp; omega)])
  · iterate 6 (with_reducible refine Below.setCell ?_ (by simp; try omega) _)
    exact HBEL.out

set_option maxHeartbeats 8000000 in
set_option maxRecDepth 100000 in
theorem iRd_nofil (d : Dev) (most : Int) (v : Value) (lo hi : Nat) (w : World) (hx : DevR w lo hi v d) (hhi : hi ≤ w.heap.size) (hs : DevSmall d) (hB : devB d = true) (hr : inB most (-1) 80 = true) (hu : ¬ d.use = 0) (f0 : Fil) (hf0 : d.files.getD (d.use - 1).toNat filD = f0) (ha : (f0.lines.length : Int) ≤ f0.at_) :
    Calls Tryz.prog 8 #[v, .int .i64 most] w fun e w' => ∃ v', e = .returned (.tuple #[v', .string ⟨#[]⟩, .int .i64 3]) ∧ OwnDev w' w.heap.size w'.heap.size v' noDev ∧ Below w.heap.size w w' := by
  have HX := Lib.hid hx; have HS := Lib.hid hs
  obtain ⟨A, c, F, cf, J, cj, rfl, h1, h2, h3⟩ := hx
  have R0 := (((Stand.nil w).add lo hi _ (loc_devR lo hi (.agg (devCs d A c F cf J cj)) d) hhi HX.out).box 32 (devCs d A c F cf J cj)).box 32 #[.int .i64 0, .int .i64 0, .int .i64 0, .slice none 0 0, .slice none 0 0, .slice none 0 0]
  rw [heap_size_alloc1] at R0
  have HR0 := Lib.hid R0
  have HOK := Lib.hid (fun W v h1 h2 => implDevicesOk_any d v lo hi W h1 h2 HS.out)
  clear h1 h2 h3 R0 hs
  rw [hB] at HOK
  have HGD := Lib.hid (DevGood.of hB)
  have hn3 := HGD.out.n3
  have hr0 : 0 < d.scr.rows.length := by have := HGD.out.fine.len; omega
  have u0 : (d.use == 0) = false := by rw [beq_eq_false_iff_ne]; exact hu
  have u1 := HGD.out.use0; have u2 := HGD.out.usen
  obtain ⟨j, hju⟩ : ∃ j : Nat, d.use = (j : Int) + 1 := ⟨(d.use - 1).toNat, by omega⟩
  have hjt : (d.use - 1).toNat = j := by omega
  rw [hjt] at hf0
  have hjn : j < d.files.length := by omega
  have HJU := Lib.hid hju
  have HFA := Lib.hid (fil_at (HGD.out.files _ (getD_mem (d := filD) hjn)))
  rw [hf0] at HFA
  have HF0 := Lib.hid hf0; have HA := Lib.hid ha; have HRM := Lib.hid (inB_le hr)
  clear hu hju hf0 ha hjt
  go_enter Tryz.func8, Tryz.ntmps8
  go_wp2_with fail
  refine (HOK.out _ _ (HR0.out.get 2 rfl) (HR0.out.le 2 rfl)).mono ?_
  rintro e1 w1 ⟨rfl, hb1⟩
  have HR1 := Lib.hid (HR0.out.below hb1); clear hb1 HR0 HOK
  go_wp2_with fail
  refine (within_any most (-1) 80 w1).mono ?_
  rintro e1' w1' ⟨rfl, rfl⟩
  rw [hr]
  clear hr
  have f1 := (HR1.out.get 1 rfl).cell
  go_wp2_with fail
  refine (copyDevices_own d _ lo hi _ (HR1.out.get 2 rfl) (HR1.out.le 2 rfl) hr0 HS.out).mono ?_
  rintro e2 w2 ⟨p, A2, c2, V, cv, K2, ck2, rfl, hp1, hp2, hBp, ⟨a1, b1, a3, b3, B, hq, x13, ⟨oA, oAb⟩, ⟨xs, hxs, hfx⟩, oK, oKb⟩, hb2⟩
  have s1 := HR1.out.le 0 rfl
  have s2 := hb2.size
  have HR2 := Lib.hid (HR1.out.below hb2); clear hb2 f1 HR1
  have HQ := Lib.hid hq; have HX13 := Lib.hid x13; have HOA := Lib.hid oA; have HOAB := Lib.hid oAb; have HXS := Lib.hid hxs; have HFX := Lib.hid hfx; have HOK := Lib.hid oK; have HOKB := Lib.hid oKb; have HBP := Lib.hid hBp
  have hpB := hq.2.2.2.2.1; have hBw := hq.2.2.2.2.2; have hwp := hp1
  clear hq x13 oA oAb hxs hfx oK oKb hBp
  have HXL := Lib.hid (show xs.length = d.files.length by rw [← HXS.out]; simp)
  have hrw := HFX.out.row
  rw [HXL.out] at hrw
  obtain ⟨g, rfl, hgB, hgl, hnc, hcm, -⟩ := row_flat hrw (by omega)
  clear hrw
  have HXJ := Lib.hid (show ∃ x, xs[j]'(by rw [HXL.out]; exact hjn) = x ∧ x.f = d.files.getD j filD from ⟨_, rfl, by have hjx : j < xs.length := (by rw [HXL.out]; exact hjn); have e := congrArg (fun l => l.getD j filD) HXS.out; simp only [List.getD_eq_getElem?_getD, List.getElem?_map, List.getElem?_eq_getElem hjx] at e ⊢; exact e⟩)
  obtain ⟨x, hxj, hxf⟩ := HXJ.out
  clear HXJ
  rw [HF0.out] at hxf
  have HLF := Lib.hid (lineFile_any (x := x) HBP.out HJU.out HXL.out (by rw [HXL.out]; exact hjn) hxj HFX.out hBw hpB (by rw [hxf]; exact HFA.out.1) (by rw [hxf]; exact HFA.out.2.1) (by omega) (by rw [hxf]; have := HFA.out.2.2.1; omega))
  rw [hxf] at HLF
  have HXF := Lib.hid hxf; have HXJ := Lib.hid hxj; clear hxf hxj
  go_wp2_with fail
  refine HLF.out.mono ?_
  rintro e3 w3 ⟨hb3, hno, hso⟩
  have s3 := hb3.size
  obtain rfl := hno HA.out
  have HRB := Lib.hid (show Blk w3 (w.heap.size + 1) 32 #[.int .i64 0, .int .i64 0, .int .i64 0, .slice none 0 0, .slice none 0 0, .slice none 0 0] from (hb3.block (w.heap.size + 1) (by omega)).trans (HR2.out.get 0 rfl))
  have HBEL := Lib.hid (show Below w.heap.size w w3 from HR2.out.1.trans (hb3.mono (by omega)))
  clear hb3 hno hso HLF
  have fr := HRB.out.cell; have zr := HRB.out.frozen; have sr : w.heap.size + 1 + 1 ≤ w3.heap.size := HRB.out.lt
  go_wp2_with fail
  refine bodyPost_ret (v := .tuple #[.agg #[.int .i64 0, .int .i64 0, .int .i64 0, .slice none 0 0, .slice none 0 0, .slice none 0 0], .string ⟨#[]⟩, .int .i64 3]) (by simp [results, Tryz.results8, go_sem, fr]) rfl ⟨_, rfl, ?_, ?_⟩
  · exact (ownDev_none _ _ _ (by first | (simp [World.setCell]; done) | (simp [World.setCell]; omega)))
  · iterate 6 (with_reducible refine Below.setCell ?_ (by simp; try omega) _)
    exact HBEL.out

set_option maxHeartbeats 8000000 in
set_option maxRecDepth 100000 in
theorem iRd_fil (d : Dev) (most : Int) (v : Value) (lo hi : Nat) (w : World) (hx : DevR w lo hi v d) (hhi : hi ≤ w.heap.size) (hs : DevSmall d) (hB : devB d = true) (hr : inB most (-1) 80 = true) (hu : ¬ d.use = 0) (hTB : Hid (TabsIn w)) (f0 : Fil) (hf0 : d.files.getD (d.use - 1).toNat filD = f0) (ha : ¬ (f0.lines.length : Int) ≤ f0.at_) (D0 : Dev) (hD : D0 = ⟨d.use, d.scr, d.files.set (d.use - 1).toNat (atNext f0), d.keys⟩) (T : ByteArray) (hT : T = wantT (f0.lines.getD f0.at_.toNat ByteArray.empty) most) :
    Calls Tryz.prog 8 #[v, .int .i64 most] w fun e w' => ∃ v', e = .returned (.tuple #[v', .string T, .int .i64 0]) ∧ OwnDev w' w.heap.size w'.heap.size v' D0 ∧ Below w.heap.size w w' := by
  have HX := Lib.hid hx; have HS := Lib.hid hs
  obtain ⟨A, c, F, cf, J, cj, rfl, h1, h2, h3⟩ := hx
  have R0 := (((Stand.nil w).add lo hi _ (loc_devR lo hi (.agg (devCs d A c F cf J cj)) d) hhi HX.out).box 32 (devCs d A c F cf J cj)).box 32 #[.int .i64 0, .int .i64 0, .int .i64 0, .slice none 0 0, .slice none 0 0, .slice none 0 0]
  rw [heap_size_alloc1] at R0
  have HR0 := Lib.hid R0
  have HOK := Lib.hid (fun W v h1 h2 => implDevicesOk_any d v lo hi W h1 h2 HS.out)
  clear h1 h2 h3 R0 hs
  rw [hB] at HOK
  have HGD := Lib.hid (DevGood.of hB)
  have hn3 := HGD.out.n3
  have hr0 : 0 < d.scr.rows.length := by have := HGD.out.fine.len; omega
  have u0 : (d.use == 0) = false := by rw [beq_eq_false_iff_ne]; exact hu
  have u1 := HGD.out.use0; have u2 := HGD.out.usen
  obtain ⟨j, hju⟩ : ∃ j : Nat, d.use = (j : Int) + 1 := ⟨(d.use - 1).toNat, by omega⟩
  have hjt : (d.use - 1).toNat = j := by omega
  rw [hjt] at hf0 hD
  have hjn : j < d.files.length := by omega
  have HJU := Lib.hid hju
  have HFA := Lib.hid (fil_at (HGD.out.files _ (getD_mem (d := filD) hjn)))
  rw [hf0] at HFA
  have HF0 := Lib.hid hf0; have HA := Lib.hid ha; have HRM := Lib.hid (inB_le hr); have HD0 := Lib.hid hD; have HTT := Lib.hid hT
  clear hu hju hf0 ha hjt hD hT
  go_enter Tryz.func8, Tryz.ntmps8
  go_wp2_with fail
  refine (HOK.out _ _ (HR0.out.get 2 rfl) (HR0.out.le 2 rfl)).mono ?_
  rintro e1 w1 ⟨rfl, hb1⟩
  have HR1 := Lib.hid (HR0.out.below hb1); clear hb1 HR0 HOK
  go_wp2_with fail
  refine (within_any most (-1) 80 w1).mono ?_
  rintro e1' w1' ⟨rfl, rfl⟩
  rw [hr]
  clear hr
  have f1 := (HR1.out.get 1 rfl).cell
  go_wp2_with fail
  refine (copyDevices_own d _ lo hi _ (HR1.out.get 2 rfl) (HR1.out.le 2 rfl) hr0 HS.out).mono ?_
  rintro e2 w2 ⟨p, A2, c2, V, cv, K2, ck2, rfl, hp1, hp2, hBp, ⟨a1, b1, a3, b3, B, hq, x13, ⟨oA, oAb⟩, ⟨xs, hxs, hfx⟩, oK, oKb⟩, hb2⟩
  have s1 := HR1.out.le 0 rfl
  have s2 := hb2.size
  have HR2 := Lib.hid (HR1.out.below hb2); clear hb2 f1 HR1
  have HQ := Lib.hid hq; have HX13 := Lib.hid x13; have HOA := Lib.hid oA; have HOAB := Lib.hid oAb; have HXS := Lib.hid hxs; have HFX := Lib.hid hfx; have HOK := Lib.hid oK; have HOKB := Lib.hid oKb; have HBP := Lib.hid hBp
  have hpB := hq.2.2.2.2.1; have hBw := hq.2.2.2.2.2; have hwp := hp1
  clear hq x13 oA oAb hxs hfx oK oKb hBp
  have HXL := Lib.hid (show xs.length = d.files.length by rw [← HXS.out]; simp)
  have hrw := HFX.out.row
  rw [HXL.out] at hrw
  obtain ⟨g, rfl, hgB, hgl, hnc, hcm, -⟩ := row_flat hrw (by omega)
  clear hrw
  have HXJ := Lib.hid (show ∃ x, xs[j]'(by rw [HXL.out]; exact hjn) = x ∧ x.f = d.files.getD j filD from ⟨_, rfl, by have hjx : j < xs.length := (by rw [HXL.out]; exact hjn); have e := congrArg (fun l => l.getD j filD) HXS.out; simp only [List.getD_eq_getElem?_getD, List.getElem?_map, List.getElem?_eq_getElem hjx] at e ⊢; exact e⟩)
  obtain ⟨x, hxj, hxf⟩ := HXJ.out
  clear HXJ
  rw [HF0.out] at hxf
  have HLF := Lib.hid (lineFile_any (x := x) HBP.out HJU.out HXL.out (by rw [HXL.out]; exact hjn) hxj HFX.out hBw hpB (by rw [hxf]; exact HFA.out.1) (by rw [hxf]; exact HFA.out.2.1) (by omega) (by rw [hxf]; have := HFA.out.2.2.1; omega))
  rw [hxf] at HLF
  have HXF := Lib.hid hxf; have HXJ := Lib.hid hxj; clear hxf hxj
  go_wp2_with fail
  refine HLF.out.mono ?_
  rintro e3 w3 ⟨hb3, hno, hso⟩
  have s3 := hb3.size
  obtain ⟨rfl, hfx3⟩ := hso HA.out
  have ha1 := HQ.out.1; have hb1p := HQ.out.2.1; have hb3p := HQ.out.2.2.2.1
  have HB3' := Lib.hid (show Blk w3 p 32 _ from (hb3.block p hpB).trans HBP.out)
  have HRB3' := Lib.hid (show Blk w3 (w.heap.size + 1) 32 #[.int .i64 0, .int .i64 0, .int .i64 0, .slice none 0 0, .slice none 0 0, .slice none 0 0] from (hb3.block (w.heap.size + 1) (by omega)).trans (HR2.out.get 0 rfl))
  have HBL3 := Lib.hid (show Below w.heap.size w w3 from HR2.out.1.trans (hb3.mono (by omega)))
  have HOA3 := Lib.hid (own_keep (hi := b1) (w' := w3) HOA.out HOAB.out (fun b h1 h2 => hb3.block b (by omega)))
  have HOK3 := Lib.hid (own_keep (hi := b3) (w' := w3) HOK.out HOKB.out (fun b h1 h2 => hb3.block b (by omega)))
  have HFX3 := Lib.hid hfx3; clear hfx3 hso hno hb3 HLF
  have HAN : f0.at_.toNat < f0.lines.length := by have := HA.out; have := HFA.out.1; omega
  have HRR := Lib.hid (readResult_any (f0.lines.getD f0.at_.toNat ByteArray.empty) most w3 (hTB.out.below HBL3.out) (by have := HFA.out.2.2.2 _ (getD_mem (d := ByteArray.empty) HAN); omega) HRM.out.1 HRM.out.2)
  rw [← HTT.out] at HRR
  clear HAN
  generalize f0.lines.getD f0.at_.toNat ByteArray.empty = LN at *
  go_wp2_with fail
  refine HRR.out.mono ?_
  rintro e4 w4 ⟨rfl, hb4⟩
  have s4 := hb4.size
  have hDl : D0.files.length = d.files.length := by rw [HD0.out]; exact List.length_set
  have hBD : devCs d A2 c2 (some ⟨g, 0, none⟩) cv K2 ck2 = devCs D0 A2 c2 (some ⟨g, 0, none⟩) cv K2 ck2 := by rw [HD0.out]; exact devCs_files d _ List.length_set _ _ _ _ _ _
  have hB4 := HB3'.out.below hb4 HB3'.out.lt
  rw [hBD] at hB4
  have HB3 := Lib.hid hB4
  have hu4 : D0.use = d.use := by rw [HD0.out]
  have u0' : (D0.use == 0) = false := by rw [hu4]; exact u0
  clear hu4
  have HRB3 := Lib.hid (HRB3'.out.below hb4 HRB3'.out.lt); have HBEL3 := Lib.hid (HBL3.out.trans (hb4.mono HBL3.out.size))
  have hfr := FilesR.below HFX3.out.fils.reads hb4 (Nat.le_refl _)
  have hmap : (xs.set j (⟨atNext x.f, x.L, x.c⟩ : Fx)).map Fx.f = D0.files := by rw [List.map_set, HXS.out, HD0.out, HXF.out]
  rw [← HXF.out, hmap] at hfr
  have hor := RowR.below (own_reads HOA3.out HOAB.out) hb4 (by omega)
  have hok := RowR.below (own_reads HOK3.out HOKB.out) hb4 (by omega)
  have HDR := Lib.hid (show DevR w4 w1.heap.size w4.heap.size (.agg (devCs D0 A2 c2 (some ⟨g, 0, none⟩) cv K2 ck2)) D0 from ⟨A2, c2, some ⟨g, 0, none⟩, cv, K2, ck2, rfl, by rw [HD0.out]; exact RowR.more hor (by omega) (by omega), FilesR.more hfr (by omega) (by omega), by rw [HD0.out]; exact RowR.more hok (by have := HQ.out.2.2.1; omega) (by omega)⟩)
  have HDS := Lib.hid (show DevSmall D0 from by rw [HD0.out]; exact ⟨HS.out.1, ⟨by have := HS.out.2.1.1; show (d.files.set _ _).length ≤ _; rw [List.length_set]; exact this, fun f hf => by
    rcases List.mem_or_eq_of_mem_set hf with hf | rfl
    · exact HS.out.2.1.2 f hf
    · have := HS.out.2.1.2 f0 (by rw [← HF0.out]; exact getD_mem (d := filD) hjn); exact this⟩, HS.out.2.2⟩)
  have hr1 : 0 < D0.scr.rows.length := by rw [HD0.out]; exact hr0
  have s0 : w.heap.size + 2 ≤ w4.heap.size := by omega
  clear hb4 hB4 hBD hfr hmap hor hok HRR HB3' HRB3' HBL3 HOA3 HOK3 HFX3 HR2 HBP HFX HOK HOA HX13 HOAB HXS HOKB HQ hTB HTT HXF HXJ HA HFA HF0 HD0 hDl
  have fp := HB3.out.cell
  go_wp2_with fail
  refine (copyDevices_own D0 _ w1.heap.size w4.heap.size _ HDR.out (Nat.le_refl _) hr1 HDS.out).mono ?_
  rintro e8 w8 ⟨p4, A4, c4, V4, cv4, K4, ck4, rfl, hp41, hp42, hBp4, ⟨a41, b41, a43, b43, B4, hq4, x134, ⟨oA4, oAb4⟩, ⟨xs4, hxs4, hfx4⟩, oK4, oKb4⟩, hb8⟩
  have s8 := hb8.size
  have HRB8 := Lib.hid (HRB3.out.below hb8 HRB3.out.lt); have HBEL := Lib.hid (HBEL3.out.trans (hb8.mono HBEL3.out.size))
  have HQ4 := Lib.hid hq4; have HX134 := Lib.hid x134; have HOA4 := Lib.hid oA4; have HOAB4 := Lib.hid oAb4; have HXS4 := Lib.hid hxs4; have HFX4 := Lib.hid hfx4; have HOK4 := Lib.hid oK4; have HOKB4 := Lib.hid oKb4; have HBP4 := Lib.hid hBp4
  clear hq4 x134 oA4 oAb4 hxs4 hfx4 oK4 oKb4 hBp4 hb8 fp HB3 HDR HRB3 HBEL3 HDS
  have fp := HBP4.out.cell; have fr := HRB8.out.cell; have zr := HRB8.out.frozen
  go_wp2_with fail
  refine bodyPost_ret (v := .tuple #[.agg (devCs D0 A4 c4 V4 cv4 K4 ck4), .string T, .int .i64 0]) (by simp [results, Tryz.results8, go_sem, fr]) rfl ⟨_, rfl, ?_, ?_⟩
  · obtain ⟨q1, q2, q3, q4, q5, q6⟩ := HQ4.out
    refine ownDev_mk (W := w8) (p := p4) (r := w.heap.size + 1) (d := D0) (lo := w.heap.size) ⟨by omega, q2, by omega, q4, q5, by omega⟩ ⟨by omega, by omega, by omega⟩ (by omega) HX134.out HOA4.out HOAB4.out HXS4.out HFX4.out HOK4.out HOKB4.out (fun b h1 h2 => ?_) (by simp [World.setCell])
    iterate 6 (with_reducible rw [Below.heap_setCell _ _ _ b (by simp; omega)])
  · iterate 6 (with_reducible refine Below.setCell ?_ (by simp; try omega) _)
    exact HBEL.out

theorem implReadFrom_any (d : Dev) (most : Int) (v : Value) (lo hi : Nat) (w : World) (hTB : TabsIn w) (hx : DevR w lo hi v d) (hhi : hi ≤ w.heap.size) (hs : DevSmall d) :
    Calls Tryz.prog 8 #[v, .int .i64 most] w fun e w' => ∃ v', e = .returned (.tuple #[v', .string (readP d most).text, .int .i64 (readP d most).code]) ∧ OwnDev w' w.heap.size w'.heap.size v' (readP d most).dev ∧ Below w.heap.size w w' := by
  cases hB : devB d
  · rw [show readP d most = noRd 1 by simp [readP, hB]]
    exact iRd_bad d most v lo hi w hx hhi hs hB
  cases hr : inB most (-1) 80
  · rw [show readP d most = noRd 2 by simp [readP, hB, hr]]
    exact iRd_rng d most v lo hi w hx hhi hs hB hr
  by_cases hu : d.use = 0
  · rw [show readP d most = readKey d most by simp [readP, hB, hr, hu]]
    by_cases hk : d.keys.length = 0
    · rw [show readKey d most = noRd 3 by simp [readKey, hk]]
      exact iRd_nokey d most v lo hi w hx hhi hs hB hr hu hk
    · rw [show readKey d most = ⟨⟨d.use, newRow (showTo d.scr (shownT (d.keys.getD 0 ByteArray.empty) most) (shownT (d.keys.getD 0 ByteArray.empty) most).size), d.files, d.keys.drop 1⟩, wantT (d.keys.getD 0 ByteArray.empty) most, 0⟩ by unfold readKey; rw [if_neg hk]]
      by_cases hm : 0 ≤ most
      · exact iRd_keyS d most v lo hi w hx hhi hs hB hr hu (by omega) (Lib.hid hTB) hm _ rfl _ rfl
      · exact iRd_keyN d most v lo hi w hx hhi hs hB hr hu (by omega) (Lib.hid hTB) (by have := (inB_le hr).1; omega) _ rfl _ rfl
  · rw [show readP d most = readFil d most by simp [readP, hB, hr, hu]]
    by_cases ha : ((d.files.getD (d.use - 1).toNat filD).lines.length : Int) ≤ (d.files.getD (d.use - 1).toNat filD).at_
    · rw [show readFil d most = noRd 3 by unfold readFil; rw [if_pos ha]]
      exact iRd_nofil d most v lo hi w hx hhi hs hB hr hu _ rfl ha
    · rw [show readFil d most = ⟨⟨d.use, d.scr, d.files.set (d.use - 1).toNat (atNext (d.files.getD (d.use - 1).toNat filD)), d.keys⟩, wantT ((d.files.getD (d.use - 1).toNat filD).lines.getD (d.files.getD (d.use - 1).toNat filD).at_.toNat ByteArray.empty) most, 0⟩ by unfold readFil; rw [if_neg ha]]
      exact iRd_fil d most v lo hi w hx hhi hs hB hr hu (Lib.hid hTB) _ rfl ha _ rfl _ rfl

end Go.Proofs.YtmeholhmadeehaaGreatDoor

/- The program's CloseFile walked (printed by wip/gen_closei.py). -/
namespace Go.Proofs.YtmeholhmadeehaaGreatDoor
open Go.RowKit

theorem map_erase {α β : Type} (f : α → β) : ∀ (xs : List α) (k : Nat), (xs.eraseIdx k).map f = (xs.map f).eraseIdx k
  | [], _ => by simp
  | _ :: _, 0 => by simp
  | x :: xs, k + 1 => by simp [map_erase f xs k]

set_option maxHeartbeats 8000000 in
set_option maxRecDepth 100000 in
theorem implCloseFile_any (d : Dev) (nm : ByteArray) (v : Value) (lo hi : Nat) (w : World) (hx : DevR w lo hi v d) (hhi : hi ≤ w.heap.size) (hs : DevSmall d) :
    Calls Tryz.prog 17 #[v, .string nm] w fun e w' => ∃ v', e = .returned (.tuple #[v', .int .i64 (closeP d nm).2]) ∧ OwnDev w' w.heap.size w'.heap.size v' (closeP d nm).1 ∧ Below w.heap.size w w' := by
  have HX := Lib.hid hx; have HS := Lib.hid hs
  obtain ⟨A, c, F, cf, J, cj, rfl, h1, h2, h3⟩ := hx
  have R0 := (((Stand.nil w).add lo hi _ (loc_devR lo hi (.agg (devCs d A c F cf J cj)) d) hhi HX.out).box 32 (devCs d A c F cf J cj)).box 32 #[.int .i64 0, .int .i64 0, .int .i64 0, .slice none 0 0, .slice none 0 0, .slice none 0 0]
  rw [heap_size_alloc1] at R0
  have HR0 := Lib.hid R0
  have HQ := Lib.hid (show closeP d nm = if devB d then (if thereB d.files nm then (closeDev d (place d.files nm), 0) else (noDev, 3)) else (noDev, 1) from rfl)
  have HG := Lib.hid (fun h => DevGood.of (d := d) h)
  have HOK := Lib.hid (fun W v h1 h2 => implDevicesOk_any d v lo hi W h1 h2 HS.out)
  generalize closeP d nm = Q at *
  clear h1 h2 h3 R0 hs
  cases hB : devB d
  · rw [hB] at HQ HOK
    have HQ1 := Lib.hid (show Q = (noDev, 1) from HQ.out)
    clear HQ hB
    go_enter Tryz.func17, Tryz.ntmps17
    go_wp2_with fail
    refine (HOK.out _ _ (HR0.out.get 2 rfl) (HR0.out.le 2 rfl)).mono ?_
    rintro e1 w1 ⟨rfl, hb1⟩
    have HR1 := Lib.hid (HR0.out.below hb1); clear hb1
    have f := (HR1.out.get 0 rfl).cell
    have z := (HR1.out.get 0 rfl).frozen
    have s1 := HR1.out.le 0 rfl
    go_wp2_with fail
    refine bodyPost_ret (v := .tuple #[.agg #[.int .i64 0, .int .i64 0, .int .i64 0, .slice none 0 0, .slice none 0 0, .slice none 0 0], .int .i64 1]) (by simp [results, Tryz.results17, go_sem, f]) rfl ⟨_, by rw [HQ1.out], ?_, ?_⟩
    · rw [HQ1.out]; exact ownDev_none _ _ _ (by first | (simp [World.setCell]; done) | (simp [World.setCell]; omega))
    · iterate 6 (with_reducible refine Below.setCell ?_ (by simp; try omega) _)
      exact HR1.out.1
  rw [hB] at HQ HOK
  have hg := HG.out hB
  have HGD := Lib.hid hg
  have hr0 : 0 < d.scr.rows.length := by have := hg.fine.len; omega
  have hn3 := hg.n3
  have u0 := hg.use0
  have un := hg.usen
  clear hg HG hB
  go_enter Tryz.func17, Tryz.ntmps17
  go_wp2_with fail
  refine (HOK.out _ _ (HR0.out.get 2 rfl) (HR0.out.le 2 rfl)).mono ?_
  rintro e1 w1 ⟨rfl, hb1⟩
  have HR1 := Lib.hid (HR0.out.below hb1); clear hb1 HR0 HOK
  have f1 := (HR1.out.get 1 rfl).cell
  go_wp2_with fail
  refine (copyDevices_any d _ lo hi _ (HR1.out.get 2 rfl) (HR1.out.le 2 rfl) hr0 HS.out).mono ?_
  rintro e2 w2 ⟨p, A2, c2, V, cv, K2, ck2, rfl, hp1, hp2, hBp, hO, hb2⟩
  have s1 := HR1.out.le 0 rfl
  have s2 := hb2.size
  have HR2 := Lib.hid (HR1.out.below hb2); clear hb2 f1 HR1
  obtain ⟨a1, b1, a2, b2, a3, b3, ⟨p1, p2, p3, p4, p5, p6⟩, ⟨x12, x13, x23⟩, ⟨y1, y2, y3⟩, ⟨oA, oAb⟩, ⟨xs, hxs, hfx⟩, oK, oKb⟩ := hO
  have hfr := hfx.fils.reads
  rw [hxs] at hfr
  have fp := hBp.cell
  have zp := hBp.frozen
  have HBp := Lib.hid hBp; have HOA := Lib.hid oA; have HOAB := Lib.hid oAb; have HOK3 := Lib.hid oK; have HOKB := Lib.hid oKb; have HXS := Lib.hid hxs; have HFX := Lib.hid hfx; have HFR := Lib.hid hfr
  have HX12 := Lib.hid x12; have HX13 := Lib.hid x13; have HX23 := Lib.hid x23; have HY := Lib.hid (And.intro y1 (And.intro y2 y3))
  have HFI := Lib.hid (fun W (hB : Blk W p 32 (devCs d A2 c2 V cv K2 ck2)) h1 h2 => file_any p d A2 c2 V cv K2 ck2 a2 b2 nm W hB h1 h2 (by omega) HGD.out.sorted)
  clear hBp oA oAb oK oKb hxs hfx hfr x12 x13 x23 y1 y2 y3
  go_wp2_with fail
  refine (HFI.out _ HBp.out HFR.out p4).mono ?_
  rintro e3 w3 ⟨rfl, hb3⟩
  have hTL := Lib.hid (fun h => thereB_lt (fs := d.files) (nm := nm) h)
  generalize hPL : place d.files nm = P at *
  clear hPL
  have HB3 := Lib.hid hb3
  have s3 := hb3.size
  have HR3 := Lib.hid (HR2.out.below hb3)
  have HBp3 := Lib.hid (HBp.out.below hb3 (by omega))
  clear hb3 HR2 HBp HFI HFR fp zp
  have fr := (HR3.out.get 0 rfl).cell
  have zr := (HR3.out.get 0 rfl).frozen
  cases hT : thereB d.files nm
  · rw [hT] at HQ
    have HQ1 := Lib.hid (show Q = (noDev, 3) from HQ.out)
    clear HQ hT
    go_wp2_with fail
    refine bodyPost_ret (v := .tuple #[.agg #[.int .i64 0, .int .i64 0, .int .i64 0, .slice none 0 0, .slice none 0 0, .slice none 0 0], .int .i64 3]) (by simp [results, Tryz.results17, go_sem, fr]) rfl ⟨_, by rw [HQ1.out], ?_, ?_⟩
    · rw [HQ1.out]; exact ownDev_none _ _ _ (by first | (simp [World.setCell]; done) | (simp [World.setCell]; omega))
    · iterate 6 (with_reducible refine Below.setCell ?_ (by simp; try omega) _)
      exact HR3.out.1
  rw [hT] at HQ
  have hPn := hTL.out hT
  have HQ1 := Lib.hid (show Q = (closeDev d P, 0) from HQ.out)
  clear HQ hT hTL
  have HXL := Lib.hid (show xs.length = d.files.length by rw [← HXS.out]; simp)
  have HFX3 := Lib.hid (loc_ownFx a2 b2 _ xs w2 w3 (fun b h1 h2 => HB3.out.block b (by omega)) HFX.out)
  obtain ⟨g, cap, hV, hgl, _⟩ := HFX3.out.row.form (by rw [HXL.out]; omega)
  rw [HXL.out] at hV
  injection hV with hV _ hcv
  subst hV hcv
  have hrow := HFX3.out.row
  rw [HXL.out] at hrow
  rcases hrow.2 with ⟨_, hbad⟩ | ⟨g', cap', cur, hv, hg2, hh, hnc, hm, hcs, htk⟩
  · omega
  injection hv with hv _ hcc
  injection hv with hv; injection hv with hv
  subst hv hcc
  have HBF : Blk w3 g 55 cur := hh
  have gt := HFX3.out.top g rfl
  have HDEL := Lib.hid (fun W (hW : Blk W g 55 cur) => deleteFil_any g cv d.files.length P cur W hW hcs hnc hm hPn (by rw [htk]; exact flat_one xs))
  have hpg : p ≠ g := fun e => by have := HY.out.2.1; omega
  have HBFH := Lib.hid HBF
  clear hrow hh htk hnc hm hcs HBF
  have fp := HBp3.out.cell
  have zp := HBp3.out.frozen
  have j0 : (P : Int) + 1 ≤ 4 := by omega
  clear fr zr
  go_wp2_with fail
  refine (HDEL.out _ HBFH.out).mono ?_
  rintro e4 w4 ⟨rfl, cs', hB4, hs4, hc4, hO4⟩
  have hfx4 := OwnFx.erase (by rw [HXL.out]; exact HFX3.out) HBFH.out (by rw [HXL.out]; exact hPn) hO4 hB4 hs4 (by rw [HXL.out]; exact hc4)
  rw [HXL.out] at hfx4
  obtain ⟨q1, q2, q3, q4, q5⟩ := hO4
  have HBp4 := Lib.hid ((q5 p hpg).trans HBp3.out)
  have fp4 := Blk.cell HBp4.out
  have zp4 := Blk.frozen HBp4.out
  have HFX4 := Lib.hid hfx4
  have hrg : w.heap.size + 1 ≠ g := by omega
  have HRB4 := Lib.hid (show Blk w4 (w.heap.size + 1) 32 #[.int .i64 0, .int .i64 0, .int .i64 0, .slice none 0 0, .slice none 0 0, .slice none 0 0] from (q5 _ hrg).trans (HR3.out.get 0 rfl))
  have HBel4 := Lib.hid (show Below w.heap.size w w4 from HR3.out.1.trans ⟨q1, q2, q3, by omega, fun k hk => q5 k (by omega)⟩)
  have HA4 := Lib.hid (own_keep (hi := b1) HOA.out HOAB.out (fun b h1 h2 => (q5 b (fun e => by have := HX12.out.far h1 h2; omega)).trans (HB3.out.block b (by omega))))
  have HK4 := Lib.hid (own_keep (hi := b3) HOK3.out HOKB.out (fun b h1 h2 => (q5 b (fun e => by have := HX23.out.far' h1 h2; omega)).trans (HB3.out.block b (by omega))))
  have s4 : w4.heap.size = w3.heap.size := q4
  have s4' : w3.heap.size ≤ w4.heap.size := by omega
  clear q1 q2 q3 q4 q5 hB4 hs4 hc4 hfx4 fp zp HDEL s4 HBFH HFX3 HFX HBp3 HR3
  have fr := HRB4.out.cell
  have zr := HRB4.out.frozen
  have HUS := Lib.hid (show closeDev d P = ⟨closeUse d.use P, d.scr, d.files.eraseIdx P, d.keys⟩ from rfl)
  have HLE := Lib.hid (show (d.files.eraseIdx P).length = d.files.length - 1 by rw [List.length_eraseIdx, if_pos hPn])
  have HMX := Lib.hid (show (xs.eraseIdx P).map Fx.f = d.files.eraseIdx P by rw [← HXS.out, map_erase])
  have HCU := Lib.hid (show closeUse d.use P = if d.use = (P : Int) + 1 then 0 else if (P : Int) + 1 < d.use then d.use - 1 else d.use from rfl)
  generalize closeUse d.use P = CU at *
  by_cases hu1 : d.use = (P : Int) + 1
  · have HU := Lib.hid (show CU = 0 by rw [HCU.out, if_pos hu1])
    have t1 : (d.use == (P : Int) + 1) = true := by rw [beq_iff_eq]; exact hu1
    clear hu1
    go_wp2_with fail
    refine bodyPost_ret (v := .tuple #[.agg #[.int .i64 (0), .int .i64 d.scr.row, .int .i64 d.scr.col, .slice A2 d.scr.rows.length c2, .slice (some ⟨g, 0, none⟩) (d.files.length - 1) cv, .slice K2 d.keys.length ck2], .int .i64 0]) (by simp [results, Tryz.results17, go_sem, fr]) rfl ⟨_, by rw [HQ1.out], ?_, ?_⟩
    · rw [HQ1.out, HUS.out, HU.out]
      refine ⟨A2, c2, some ⟨g, 0, none⟩, cv, K2, ck2, a1, b1, a2, b2, a3, b3, ?_, ?_, ⟨HX12.out, HX13.out, HX23.out⟩, ⟨?_, HOAB.out⟩, ?_, ?_, HOKB.out⟩
      · unfold devCs; dsimp only; rw [HLE.out]
      · simp only [World.setCell, Array.size_modify]; omega
      · refine own_keep (hi := b1) HA4.out HOAB.out (fun b h1 h2 => ?_)
        have hy := HY.out.1
        iterate 8 (with_reducible rw [Below.heap_setCell _ _ _ b (by simp; omega)])
      · dsimp only; rw [← HMX.out]
        refine OwnFx.fils (n := d.files.length - 1) (c := cv) (loc_ownFx a2 b2 _ _ w4 _ (fun b h1 h2 => ?_) HFX4.out)
        have hy := HY.out.2.1
        iterate 8 (with_reducible rw [Below.heap_setCell _ _ _ b (by simp; omega)])
      · refine own_keep (hi := b3) HK4.out HOKB.out (fun b h1 h2 => ?_)
        have hy := HY.out.2.2
        iterate 8 (with_reducible rw [Below.heap_setCell _ _ _ b (by simp; omega)])
    · iterate 8 (with_reducible refine Below.setCell ?_ (by simp; try omega) _)
      exact HBel4.out
  · by_cases hu2 : (P : Int) + 1 < d.use
    · have HU := Lib.hid (show CU = d.use - 1 by rw [HCU.out, if_neg hu1, if_pos hu2])
      have t1 : (d.use == (P : Int) + 1) = false := by rw [beq_eq_false_iff_ne]; exact hu1
      have t2 : decide ((P : Int) + 1 < d.use) = true := decide_eq_true hu2
      go_wp2_with fail
      refine bodyPost_ret (v := .tuple #[.agg #[.int .i64 (d.use - 1), .int .i64 d.scr.row, .int .i64 d.scr.col, .slice A2 d.scr.rows.length c2, .slice (some ⟨g, 0, none⟩) (d.files.length - 1) cv, .slice K2 d.keys.length ck2], .int .i64 0]) (by simp [results, Tryz.results17, go_sem, fr]) rfl ⟨_, by rw [HQ1.out], ?_, ?_⟩
      · rw [HQ1.out, HUS.out, HU.out]
        refine ⟨A2, c2, some ⟨g, 0, none⟩, cv, K2, ck2, a1, b1, a2, b2, a3, b3, ?_, ?_, ⟨HX12.out, HX13.out, HX23.out⟩, ⟨?_, HOAB.out⟩, ?_, ?_, HOKB.out⟩
        · unfold devCs; dsimp only; rw [HLE.out]
        · simp only [World.setCell, Array.size_modify]; omega
        · refine own_keep (hi := b1) HA4.out HOAB.out (fun b h1 h2 => ?_)
          have hy := HY.out.1
          iterate 8 (with_reducible rw [Below.heap_setCell _ _ _ b (by simp; omega)])
        · dsimp only; rw [← HMX.out]
          refine OwnFx.fils (n := d.files.length - 1) (c := cv) (loc_ownFx a2 b2 _ _ w4 _ (fun b h1 h2 => ?_) HFX4.out)
          have hy := HY.out.2.1
          iterate 8 (with_reducible rw [Below.heap_setCell _ _ _ b (by simp; omega)])
        · refine own_keep (hi := b3) HK4.out HOKB.out (fun b h1 h2 => ?_)
          have hy := HY.out.2.2
          iterate 8 (with_reducible rw [Below.heap_setCell _ _ _ b (by simp; omega)])
      · iterate 8 (with_reducible refine Below.setCell ?_ (by simp; try omega) _)
        exact HBel4.out
    · have HU := Lib.hid (show CU = d.use by rw [HCU.out, if_neg hu1, if_neg hu2])
      have t1 : (d.use == (P : Int) + 1) = false := by rw [beq_eq_false_iff_ne]; exact hu1
      have t2 : decide ((P : Int) + 1 < d.use) = false := decide_eq_false hu2
      go_wp2_with fail
      refine bodyPost_ret (v := .tuple #[.agg #[.int .i64 (d.use), .int .i64 d.scr.row, .int .i64 d.scr.col, .slice A2 d.scr.rows.length c2, .slice (some ⟨g, 0, none⟩) (d.files.length - 1) cv, .slice K2 d.keys.length ck2], .int .i64 0]) (by simp [results, Tryz.results17, go_sem, fr]) rfl ⟨_, by rw [HQ1.out], ?_, ?_⟩
      · rw [HQ1.out, HUS.out, HU.out]
        refine ⟨A2, c2, some ⟨g, 0, none⟩, cv, K2, ck2, a1, b1, a2, b2, a3, b3, ?_, ?_, ⟨HX12.out, HX13.out, HX23.out⟩, ⟨?_, HOAB.out⟩, ?_, ?_, HOKB.out⟩
        · unfold devCs; dsimp only; rw [HLE.out]
        · simp only [World.setCell, Array.size_modify]; omega
        · refine own_keep (hi := b1) HA4.out HOAB.out (fun b h1 h2 => ?_)
          have hy := HY.out.1
          iterate 7 (with_reducible rw [Below.heap_setCell _ _ _ b (by simp; omega)])
        · dsimp only; rw [← HMX.out]
          refine OwnFx.fils (n := d.files.length - 1) (c := cv) (loc_ownFx a2 b2 _ _ w4 _ (fun b h1 h2 => ?_) HFX4.out)
          have hy := HY.out.2.1
          iterate 7 (with_reducible rw [Below.heap_setCell _ _ _ b (by simp; omega)])
        · refine own_keep (hi := b3) HK4.out HOKB.out (fun b h1 h2 => ?_)
          have hy := HY.out.2.2
          iterate 7 (with_reducible rw [Below.heap_setCell _ _ _ b (by simp; omega)])
      · iterate 7 (with_reducible refine Below.setCell ?_ (by simp; try omega) _)
        exact HBel4.out

end Go.Proofs.YtmeholhmadeehaaGreatDoor
