/- The reference's UseDevice walked (printed by wip/gen_use.py). -/
import Derived.Test.YtcfmgmbolnifgaaJoinUAo
import Derived.Test.YtcfmgmbolnifgaaJoinUAl
import Derived.Test.YtcfmgmbolnifgaaJoinUAn
import Derived.Test.YtcfmgmbolnifgaaRows
import Derived.WalkKit
import Derived.ProofKit
import Derived.OpenShut
import Derived.ShutString
import Derived.Deep.Slices
import Derived.Deep.Fields
import Derived.ChangeSame
import Derived.SizedLaws
namespace Go.Proofs.Ytcfmgmbolnifgaa
open Go.RowKit

theorem newFlat {W : World} {b : Nat} {nm : ByteArray} (h : Blk W b 91 #[.string nm, .slice none 0 0, .string ⟨#[]⟩, .int .i64 0]) : FlatR W (some ⟨b, 0, none⟩) [⟨filNew nm, none, 0⟩] :=
  .inr ⟨b, 0, rfl, fun j u hj => by rw [Nat.zero_add, h.cell]; simpa [flat, Fx.cells, Fx.sl, filNew] using hj⟩

set_option maxHeartbeats 8000000 in
set_option maxRecDepth 100000 in
theorem sUse_bad (d : Dev) (nm : ByteArray) (v : Value) (lo hi : Nat) (w : World) (hx : DevR w lo hi v d) (hhi : hi ≤ w.heap.size) (hs : DevSmall d) (hB : devB d = false) :
    Calls Try.prog 50 #[v, .string nm] w fun e w' => ∃ v', e = .returned (.tuple #[v', .int .i64 1]) ∧ DevR w' w.heap.size w'.heap.size v' noDev ∧ Below w.heap.size w w' := by
  have HX := Lib.hid hx; have HS := Lib.hid hs
  obtain ⟨A, c, F, cf, J, cj, rfl, h1, h2, h3⟩ := hx
  have R0 := (((Stand.nil w).add lo hi _ (loc_devR lo hi (.agg (devCs d A c F cf J cj)) d) hhi HX.out).box 61 (devCs d A c F cf J cj)).box 61 #[.int .i64 0, .int .i64 0, .int .i64 0, .slice none 0 0, .slice none 0 0, .slice none 0 0]
  rw [heap_size_alloc1] at R0
  have HR0 := Lib.hid R0
  have HOK := Lib.hid (fun W v h1 h2 => specDevicesOk_any d v lo hi W h1 h2 HS.out)
  clear h1 h2 h3 R0 hs
  rw [hB] at HOK
  go_enter Try.func50, Try.ntmps50
  go_wp2_with fail
  refine (HOK.out _ _ (HR0.out.get 2 rfl) (HR0.out.le 2 rfl)).mono ?_
  rintro e1 w1 ⟨rfl, hb1⟩
  have HR1 := Lib.hid (HR0.out.below hb1); clear hb1 HR0 HOK
  have fr := (HR1.out.get 0 rfl).cell
  have zr := (HR1.out.get 0 rfl).frozen
  have sr := HR1.out.le 0 rfl
  go_wp2_with fail
  refine bodyPost_ret (v := .tuple #[.agg #[.int .i64 0, .int .i64 0, .int .i64 0, .slice none 0 0, .slice none 0 0, .slice none 0 0], .int .i64 1]) (by simp [results, Try.results50, go_sem, fr]) rfl ⟨_, rfl, ?_, ?_⟩
  · exact (ownDev_none _ _ _ (by first | (simp [World.setCell]; done) | (simp [World.setCell]; omega))).reads
  · iterate 6 (with_reducible refine Below.setCell ?_ (by simp; try omega) _)
    exact HR1.out.1

set_option maxHeartbeats 8000000 in
set_option maxRecDepth 100000 in
theorem sUse_name (d : Dev) (nm : ByteArray) (v : Value) (lo hi : Nat) (w : World) (hx : DevR w lo hi v d) (hhi : hi ≤ w.heap.size) (hs : DevSmall d) (hB : devB d = true) (hz : ¬ nm.size = 0) (hN : nameB nm = false) (hl : nm.size ≤ 1048576) :
    Calls Try.prog 50 #[v, .string nm] w fun e w' => ∃ v', e = .returned (.tuple #[v', .int .i64 1]) ∧ DevR w' w.heap.size w'.heap.size v' noDev ∧ Below w.heap.size w w' := by
  have HX := Lib.hid hx; have HS := Lib.hid hs
  obtain ⟨A, c, F, cf, J, cj, rfl, h1, h2, h3⟩ := hx
  have R0 := (((Stand.nil w).add lo hi _ (loc_devR lo hi (.agg (devCs d A c F cf J cj)) d) hhi HX.out).box 61 (devCs d A c F cf J cj)).box 61 #[.int .i64 0, .int .i64 0, .int .i64 0, .slice none 0 0, .slice none 0 0, .slice none 0 0]
  rw [heap_size_alloc1] at R0
  have HR0 := Lib.hid R0
  have HOK := Lib.hid (fun W v h1 h2 => specDevicesOk_any d v lo hi W h1 h2 HS.out)
  clear h1 h2 h3 R0 hs
  rw [hB] at HOK
  have e1 : nm.toList.isEmpty = false := by rw [ByteArray.toList_eq]; cases h : nm.data.toList with | nil => exact absurd (by rw [ByteArray.size, ← Array.length_toList, h]; rfl) hz | cons a l => rfl
  have e2 : (!nm.toList.isEmpty) = true := by rw [e1]; rfl
  go_enter Try.func50, Try.ntmps50
  go_wp2_with fail
  refine (HOK.out _ _ (HR0.out.get 2 rfl) (HR0.out.le 2 rfl)).mono ?_
  rintro e1 w1 ⟨rfl, hb1⟩
  have HR1 := Lib.hid (HR0.out.below hb1); clear hb1 HR0 HOK
  have fr := (HR1.out.get 0 rfl).cell
  have zr := (HR1.out.get 0 rfl).frozen
  have sr := HR1.out.le 0 rfl
  go_wp2_with fail
  refine (specNameOk_any nm _ (by omega)).mono ?_
  rintro e9 w9 ⟨rfl, rfl⟩
  rw [hN]
  go_wp2_with fail
  refine bodyPost_ret (v := .tuple #[.agg #[.int .i64 0, .int .i64 0, .int .i64 0, .slice none 0 0, .slice none 0 0, .slice none 0 0], .int .i64 1]) (by simp [results, Try.results50, go_sem, fr]) rfl ⟨_, rfl, ?_, ?_⟩
  · exact (ownDev_none _ _ _ (by first | (simp [World.setCell]; done) | (simp [World.setCell]; omega))).reads
  · iterate 6 (with_reducible refine Below.setCell ?_ (by simp; try omega) _)
    exact HR1.out.1

set_option maxHeartbeats 8000000 in
set_option maxRecDepth 100000 in
theorem sUse_empty (d : Dev) (nm : ByteArray) (v : Value) (lo hi : Nat) (w : World) (hx : DevR w lo hi v d) (hhi : hi ≤ w.heap.size) (hs : DevSmall d) (hB : devB d = true) (hz : nm = ⟨#[]⟩) :
    Calls Try.prog 50 #[v, .string nm] w fun e w' => ∃ v', e = .returned (.tuple #[v', .int .i64 0]) ∧ DevR w' w.heap.size w'.heap.size v' ⟨0, d.scr, d.files, d.keys⟩ ∧ Below w.heap.size w w' := by
  subst hz
  have HX := Lib.hid hx; have HS := Lib.hid hs
  obtain ⟨A, c, F, cf, J, cj, rfl, h1, h2, h3⟩ := hx
  have R0 := (((Stand.nil w).add lo hi _ (loc_devR lo hi (.agg (devCs d A c F cf J cj)) d) hhi HX.out).box 61 (devCs d A c F cf J cj)).box 61 #[.int .i64 0, .int .i64 0, .int .i64 0, .slice none 0 0, .slice none 0 0, .slice none 0 0]
  rw [heap_size_alloc1] at R0
  have HR0 := Lib.hid R0
  have HOK := Lib.hid (fun W v h1 h2 => specDevicesOk_any d v lo hi W h1 h2 HS.out)
  clear h1 h2 h3 R0 hs
  rw [hB] at HOK
  have HGD := Lib.hid (DevGood.of hB)
  have hn3 := HGD.out.n3
  go_enter Try.func50, Try.ntmps50
  go_wp2_with fail
  refine (HOK.out _ _ (HR0.out.get 2 rfl) (HR0.out.le 2 rfl)).mono ?_
  rintro e1 w1 ⟨rfl, hb1⟩
  have HR1 := Lib.hid (HR0.out.below hb1); clear hb1 HR0 HOK
  have f1 := (HR1.out.get 1 rfl).cell
  go_wp2_with fail
  refine (l31Own_own d _ lo hi _ (HR1.out.get 2 rfl) (HR1.out.le 2 rfl) HGD.out.fine HS.out).mono ?_
  rintro e3 w3 ⟨v3, rfl, hx3, hb3⟩
  have s3 := hb3.size
  have s1 := HR1.out.le 0 rfl
  obtain ⟨A3, c3, F3, cf3, K3, ck3, B3, xs, rfl, ⟨q1, q2⟩, hA3, hK3, hxs, hfx⟩ := id hx3
  have hfr := hfx.row
  have HXL := Lib.hid (show xs.length = d.files.length by rw [← hxs]; simp)
  rw [HXL.out] at hfr
  have R3 := ((((HR1.out.below hb3).add w1.heap.size B3 _ (loc_strR0 w1.heap.size B3 A3 _ d.scr.rows) (by omega) hA3).add w1.heap.size B3 _ (loc_strR0 w1.heap.size B3 K3 _ d.keys) (by omega) hK3).add B3 w3.heap.size _ (loc_ownFx B3 w3.heap.size _ xs) (Nat.le_refl _) hfx).add w1.heap.size w3.heap.size _ (loc_devR w1.heap.size w3.heap.size _ d) (Nat.le_refl _) hx3.reads
  have HXS := Lib.hid hxs
  have R4 := R3.box 61 (devCs d A3 c3 F3 cf3 K3 ck3)
  have e4 : (w3.alloc (.cells (devCs d A3 c3 F3 cf3 K3 ck3) 61)).heap.size = w3.heap.size + 1 := by simp
  have HG4 := Lib.hid (fun g hg => Below.heap_alloc w3 (.cells (devCs d A3 c3 F3 cf3 K3 ck3) 61) g hg)
  have HR3 := Lib.hid R3; have HX3 := Lib.hid hx3.reads
  clear hb3 HR1 f1 R3 hA3 hK3 hxs hfx hfr hx3 HG4
  have HEND := Lib.hid (show ∀ (W' : World), (∀ b, b < w3.heap.size → b ≠ w.heap.size + 1 → W'.heap[b]? = w3.heap[b]?) → w3.heap.size ≤ W'.heap.size →
      DevR W' w.heap.size W'.heap.size (.agg #[.int .i64 (0), .int .i64 d.scr.row, .int .i64 d.scr.col, .slice A3 d.scr.rows.length c3, .slice F3 d.files.length cf3, .slice K3 d.keys.length ck3]) ⟨0, d.scr, d.files, d.keys⟩ from fun W' hk hz => by
    obtain ⟨A', c', F', f', K', k', e, g1, g2, g3⟩ := (loc_devR w1.heap.size w3.heap.size _ d) w3 W' (fun b h1 h2 => hk b (by omega) (by omega)) HX3.out
    injection e with e
    simp only [devCs, Array.mk.injEq, List.cons.injEq, Value.slice.injEq, and_true, true_and] at e
    obtain ⟨⟨rfl, rfl⟩, ⟨rfl, rfl⟩, rfl, rfl⟩ := e
    exact ⟨_, _, _, _, _, _, rfl, RowR.more g1 (by omega) (by omega), FilesR.more g2 (by omega) (by omega), RowR.more g3 (by omega) (by omega)⟩)
  have gr := fun o => ((HR3.out.alloc o).get 4 rfl).cell
  have gz := fun o => ((HR3.out.alloc o).get 4 rfl).frozen
  have HBEL := Lib.hid HR3.out.1
  clear HR3
  clear R4 e4
  go_wp2_with fail
  refine bodyPost_ret (v := .tuple #[.agg #[.int .i64 (0), .int .i64 d.scr.row, .int .i64 d.scr.col, .slice A3 d.scr.rows.length c3, .slice F3 d.files.length cf3, .slice K3 d.keys.length ck3], .int .i64 0]) (by simp [results, Try.results50, go_sem, gr]) rfl ⟨_, rfl, ?_, ?_⟩
  · refine HEND.out _ (fun b h1 h2 => ?_) (by simp [World.setCell])
    iterate 6 (with_reducible rw [Below.heap_setCell _ _ _ b (by simp; omega)])
    exact Below.heap_alloc w3 _ b h1
  · iterate 6 (with_reducible refine Below.setCell ?_ (by simp; try omega) _)
    exact HBEL.out.alloc (by omega) _

set_option maxHeartbeats 8000000 in
set_option maxRecDepth 100000 in
theorem sUse_there (d : Dev) (nm : ByteArray) (v : Value) (lo hi : Nat) (w : World) (hx : DevR w lo hi v d) (hhi : hi ≤ w.heap.size) (hs : DevSmall d) (hB : devB d = true) (hz : ¬ nm.size = 0) (hN : nameB nm = true) (hl : nm.size ≤ 1048576) (hT : thereB d.files nm = true) :
    Calls Try.prog 50 #[v, .string nm] w fun e w' => ∃ v', e = .returned (.tuple #[v', .int .i64 0]) ∧ DevR w' w.heap.size w'.heap.size v' ⟨(place d.files nm : Int) + 1, d.scr, d.files, d.keys⟩ ∧ Below w.heap.size w w' := by
  have HX := Lib.hid hx; have HS := Lib.hid hs
  obtain ⟨A, c, F, cf, J, cj, rfl, h1, h2, h3⟩ := hx
  have R0 := (((Stand.nil w).add lo hi _ (loc_devR lo hi (.agg (devCs d A c F cf J cj)) d) hhi HX.out).box 61 (devCs d A c F cf J cj)).box 61 #[.int .i64 0, .int .i64 0, .int .i64 0, .slice none 0 0, .slice none 0 0, .slice none 0 0]
  rw [heap_size_alloc1] at R0
  have HR0 := Lib.hid R0
  have HOK := Lib.hid (fun W v h1 h2 => specDevicesOk_any d v lo hi W h1 h2 HS.out)
  clear h1 h2 h3 R0 hs
  rw [hB] at HOK
  have HGD := Lib.hid (DevGood.of hB)
  have hn3 := HGD.out.n3
  have HAT := Lib.hid (fun lo hi W v h1 h2 => l31At_any d nm v lo hi W h1 h2 (by omega))
  rw [hT] at HAT
  have hPn := place_le d.files nm
  generalize hPL : place d.files nm = P at *
  clear hPL
  have e1 : nm.toList.isEmpty = false := by rw [ByteArray.toList_eq]; cases h : nm.data.toList with | nil => exact absurd (by rw [ByteArray.size, ← Array.length_toList, h]; rfl) hz | cons a l => rfl
  have e2 : (!nm.toList.isEmpty) = true := by rw [e1]; rfl
  go_enter Try.func50, Try.ntmps50
  go_wp2_with fail
  refine (HOK.out _ _ (HR0.out.get 2 rfl) (HR0.out.le 2 rfl)).mono ?_
  rintro e1 w1 ⟨rfl, hb1⟩
  have HR1 := Lib.hid (HR0.out.below hb1); clear hb1 HR0 HOK
  have f1 := (HR1.out.get 1 rfl).cell
  go_wp2_with fail
  refine (specNameOk_any nm _ (by omega)).mono ?_
  rintro e9 w9 ⟨rfl, rfl⟩
  rw [hN]
  go_wp2_with fail
  refine (l31Own_own d _ lo hi _ (HR1.out.get 2 rfl) (HR1.out.le 2 rfl) HGD.out.fine HS.out).mono ?_
  rintro e3 w3 ⟨v3, rfl, hx3, hb3⟩
  have s3 := hb3.size
  have s1 := HR1.out.le 0 rfl
  obtain ⟨A3, c3, F3, cf3, K3, ck3, B3, xs, rfl, ⟨q1, q2⟩, hA3, hK3, hxs, hfx⟩ := id hx3
  have hfr := hfx.row
  have HXL := Lib.hid (show xs.length = d.files.length by rw [← hxs]; simp)
  rw [HXL.out] at hfr
  have R3 := ((((HR1.out.below hb3).add w1.heap.size B3 _ (loc_strR0 w1.heap.size B3 A3 _ d.scr.rows) (by omega) hA3).add w1.heap.size B3 _ (loc_strR0 w1.heap.size B3 K3 _ d.keys) (by omega) hK3).add B3 w3.heap.size _ (loc_ownFx B3 w3.heap.size _ xs) (Nat.le_refl _) hfx).add w1.heap.size w3.heap.size _ (loc_devR w1.heap.size w3.heap.size _ d) (Nat.le_refl _) hx3.reads
  have HXS := Lib.hid hxs
  have R4 := R3.box 61 (devCs d A3 c3 F3 cf3 K3 ck3)
  have e4 : (w3.alloc (.cells (devCs d A3 c3 F3 cf3 K3 ck3) 61)).heap.size = w3.heap.size + 1 := by simp
  have HG4 := Lib.hid (fun g hg => Below.heap_alloc w3 (.cells (devCs d A3 c3 F3 cf3 K3 ck3) 61) g hg)
  have HR3 := Lib.hid R3; have HX3 := Lib.hid hx3.reads
  clear hb3 HR1 f1 R3 hA3 hK3 hxs hfx hfr hx3 HG4
  go_wp2_with fail
  generalize w3.alloc (.cells (devCs d A3 c3 F3 cf3 K3 ck3) 61) = w4 at *
  have HR4 := Lib.hid R4; clear R4
  clear HR3 HX3
  refine (HAT.out _ _ _ _ (HR4.out.get 1 rfl) (HR4.out.le 1 rfl)).mono ?_
  rintro e5 w5 ⟨rfl, hb5⟩
  have R5 := HR4.out.below hb5
  have HR5 := Lib.hid R5
  have s5 := R5.le 0 rfl
  have HBEL := Lib.hid R5.1
  clear hb5 HR4 e4 R5
  have HEND := Lib.hid (show ∀ (W' : World), (∀ b, b ≠ w3.heap.size → b ≠ w.heap.size + 1 → W'.heap[b]? = w5.heap[b]?) → w5.heap.size ≤ W'.heap.size →
      DevR W' w.heap.size W'.heap.size (.agg #[.int .i64 ((P : Int) + 1), .int .i64 d.scr.row, .int .i64 d.scr.col, .slice A3 d.scr.rows.length c3, .slice F3 d.files.length cf3, .slice K3 d.keys.length ck3]) ⟨(P : Int) + 1, d.scr, d.files, d.keys⟩ from fun W' hk hz => by
    obtain ⟨A', c', F', f', K', k', e, g1, g2, g3⟩ := (loc_devR w1.heap.size w3.heap.size _ d) w5 W' (fun b h1 h2 => hk b (by omega) (by omega)) (HR5.out.get 1 rfl)
    injection e with e
    simp only [devCs, Array.mk.injEq, List.cons.injEq, Value.slice.injEq, and_true, true_and] at e
    obtain ⟨⟨rfl, rfl⟩, ⟨rfl, rfl⟩, rfl, rfl⟩ := e
    exact ⟨_, _, _, _, _, _, rfl, RowR.more g1 (by omega) (by omega), FilesR.more g2 (by omega) (by omega), RowR.more g3 (by omega) (by omega)⟩)
  have fo := (HR5.out.get 0 rfl).cell
  have zo := (HR5.out.get 0 rfl).frozen
  have fr := (HR5.out.get 5 rfl).cell
  have zr := (HR5.out.get 5 rfl).frozen
  clear HR5
  go_wp2_with fail
  refine bodyPost_ret (v := .tuple #[.agg #[.int .i64 ((P : Int) + 1), .int .i64 d.scr.row, .int .i64 d.scr.col, .slice A3 d.scr.rows.length c3, .slice F3 d.files.length cf3, .slice K3 d.keys.length ck3], .int .i64 0]) (by simp [results, Try.results50, go_sem, fr]) rfl ⟨_, rfl, ?_, ?_⟩
  · refine HEND.out _ (fun b h1 h2 => ?_) ?_
    rotate_left
    · simp [World.setCell]
    iterate 7 (with_reducible rw [Below.heap_setCell _ _ _ b (by simp; omega)])
  · iterate 7 (with_reducible refine Below.setCell ?_ (by simp; try omega) _)
    exact HBEL.out

set_option maxHeartbeats 8000000 in
set_option maxRecDepth 100000 in
theorem sUse_many (d : Dev) (nm : ByteArray) (v : Value) (lo hi : Nat) (w : World) (hx : DevR w lo hi v d) (hhi : hi ≤ w.heap.size) (hs : DevSmall d) (hB : devB d = true) (hz : ¬ nm.size = 0) (hN : nameB nm = true) (hl : nm.size ≤ 1048576) (hT : thereB d.files nm = false) (h3 : d.files.length = 3) :
    Calls Try.prog 50 #[v, .string nm] w fun e w' => ∃ v', e = .returned (.tuple #[v', .int .i64 4]) ∧ DevR w' w.heap.size w'.heap.size v' noDev ∧ Below w.heap.size w w' := by
  have H3 := Lib.hid h3; clear h3
  have HX := Lib.hid hx; have HS := Lib.hid hs
  obtain ⟨A, c, F, cf, J, cj, rfl, h1, h2, h3⟩ := hx
  have R0 := (((Stand.nil w).add lo hi _ (loc_devR lo hi (.agg (devCs d A c F cf J cj)) d) hhi HX.out).box 61 (devCs d A c F cf J cj)).box 61 #[.int .i64 0, .int .i64 0, .int .i64 0, .slice none 0 0, .slice none 0 0, .slice none 0 0]
  rw [heap_size_alloc1] at R0
  have HR0 := Lib.hid R0
  have HOK := Lib.hid (fun W v h1 h2 => specDevicesOk_any d v lo hi W h1 h2 HS.out)
  clear h1 h2 h3 R0 hs
  rw [hB] at HOK
  have HGD := Lib.hid (DevGood.of hB)
  have hn3 := HGD.out.n3
  have HAT := Lib.hid (fun lo hi W v h1 h2 => l31At_any d nm v lo hi W h1 h2 (by omega))
  rw [hT] at HAT
  have hPn := place_le d.files nm
  generalize hPL : place d.files nm = P at *
  clear hPL
  have e1 : nm.toList.isEmpty = false := by rw [ByteArray.toList_eq]; cases h : nm.data.toList with | nil => exact absurd (by rw [ByteArray.size, ← Array.length_toList, h]; rfl) hz | cons a l => rfl
  have e2 : (!nm.toList.isEmpty) = true := by rw [e1]; rfl
  go_enter Try.func50, Try.ntmps50
  go_wp2_with fail
  refine (HOK.out _ _ (HR0.out.get 2 rfl) (HR0.out.le 2 rfl)).mono ?_
  rintro e1 w1 ⟨rfl, hb1⟩
  have HR1 := Lib.hid (HR0.out.below hb1); clear hb1 HR0 HOK
  have f1 := (HR1.out.get 1 rfl).cell
  go_wp2_with fail
  refine (specNameOk_any nm _ (by omega)).mono ?_
  rintro e9 w9 ⟨rfl, rfl⟩
  rw [hN]
  go_wp2_with fail
  refine (l31Own_own d _ lo hi _ (HR1.out.get 2 rfl) (HR1.out.le 2 rfl) HGD.out.fine HS.out).mono ?_
  rintro e3 w3 ⟨v3, rfl, hx3, hb3⟩
  have s3 := hb3.size
  have s1 := HR1.out.le 0 rfl
  obtain ⟨A3, c3, F3, cf3, K3, ck3, B3, xs, rfl, ⟨q1, q2⟩, hA3, hK3, hxs, hfx⟩ := id hx3
  have hfr := hfx.row
  have HXL := Lib.hid (show xs.length = d.files.length by rw [← hxs]; simp)
  rw [HXL.out] at hfr
  have R3 := ((((HR1.out.below hb3).add w1.heap.size B3 _ (loc_strR0 w1.heap.size B3 A3 _ d.scr.rows) (by omega) hA3).add w1.heap.size B3 _ (loc_strR0 w1.heap.size B3 K3 _ d.keys) (by omega) hK3).add B3 w3.heap.size _ (loc_ownFx B3 w3.heap.size _ xs) (Nat.le_refl _) hfx).add w1.heap.size w3.heap.size _ (loc_devR w1.heap.size w3.heap.size _ d) (Nat.le_refl _) hx3.reads
  have HXS := Lib.hid hxs
  have R4 := R3.box 61 (devCs d A3 c3 F3 cf3 K3 ck3)
  have e4 : (w3.alloc (.cells (devCs d A3 c3 F3 cf3 K3 ck3) 61)).heap.size = w3.heap.size + 1 := by simp
  have HG4 := Lib.hid (fun g hg => Below.heap_alloc w3 (.cells (devCs d A3 c3 F3 cf3 K3 ck3) 61) g hg)
  have HR3 := Lib.hid R3; have HX3 := Lib.hid hx3.reads
  clear hb3 HR1 f1 R3 hA3 hK3 hxs hfx hfr hx3 HG4
  go_wp2_with fail
  generalize w3.alloc (.cells (devCs d A3 c3 F3 cf3 K3 ck3) 61) = w4 at *
  have HR4 := Lib.hid R4; clear R4
  clear HR3 HX3
  refine (HAT.out _ _ _ _ (HR4.out.get 1 rfl) (HR4.out.le 1 rfl)).mono ?_
  rintro e5 w5 ⟨rfl, hb5⟩
  have R5 := HR4.out.below hb5
  have HR5 := Lib.hid R5
  have s5 := R5.le 0 rfl
  have HBEL := Lib.hid R5.1
  clear hb5 HR4 e4 R5
  have l3 : (3 : Int) ≤ (d.files.length : Int) := by have := H3.out; omega
  have fp := (HR5.out.get 6 rfl).cell
  have fr := (HR5.out.get 5 rfl).cell
  have zr := (HR5.out.get 5 rfl).frozen
  go_wp2_with fail
  refine bodyPost_ret (v := .tuple #[.agg #[.int .i64 0, .int .i64 0, .int .i64 0, .slice none 0 0, .slice none 0 0, .slice none 0 0], .int .i64 4]) (by simp [results, Try.results50, go_sem, fr]) rfl ⟨_, rfl, ?_, ?_⟩
  · exact (ownDev_none _ _ _ (by first | (simp [World.setCell]; done) | (simp [World.setCell]; omega))).reads
  · iterate 6 (with_reducible refine Below.setCell ?_ (by simp; try omega) _)
    exact HR5.out.1

set_option maxHeartbeats 8000000 in
set_option maxRecDepth 100000 in
theorem sUse_new (d : Dev) (nm : ByteArray) (v : Value) (lo hi : Nat) (w : World) (hx : DevR w lo hi v d) (hhi : hi ≤ w.heap.size) (hs : DevSmall d) (hB : devB d = true) (hz : ¬ nm.size = 0) (hN : nameB nm = true) (hl : nm.size ≤ 1048576) (hT : thereB d.files nm = false) (h3 : ¬ d.files.length = 3) :
    Calls Try.prog 50 #[v, .string nm] w fun e w' => ∃ v', e = .returned (.tuple #[v', .int .i64 0]) ∧ DevR w' w.heap.size w'.heap.size v' ⟨(place d.files nm : Int) + 1, d.scr, ins (place d.files nm) (filNew nm) d.files, d.keys⟩ ∧ Below w.heap.size w w' := by
  have HX := Lib.hid hx; have HS := Lib.hid hs
  obtain ⟨A, c, F, cf, J, cj, rfl, h1, h2, h3⟩ := hx
  have R0 := (((Stand.nil w).add lo hi _ (loc_devR lo hi (.agg (devCs d A c F cf J cj)) d) hhi HX.out).box 61 (devCs d A c F cf J cj)).box 61 #[.int .i64 0, .int .i64 0, .int .i64 0, .slice none 0 0, .slice none 0 0, .slice none 0 0]
  rw [heap_size_alloc1] at R0
  have HR0 := Lib.hid R0
  have HOK := Lib.hid (fun W v h1 h2 => specDevicesOk_any d v lo hi W h1 h2 HS.out)
  clear h1 h2 h3 R0 hs
  rw [hB] at HOK
  have HGD := Lib.hid (DevGood.of hB)
  have hn3 := HGD.out.n3
  have HAT := Lib.hid (fun lo hi W v h1 h2 => l31At_any d nm v lo hi W h1 h2 (by omega))
  rw [hT] at HAT
  have hPn := place_le d.files nm
  generalize hPL : place d.files nm = P at *
  clear hPL
  have e1 : nm.toList.isEmpty = false := by rw [ByteArray.toList_eq]; cases h : nm.data.toList with | nil => exact absurd (by rw [ByteArray.size, ← Array.length_toList, h]; rfl) hz | cons a l => rfl
  have e2 : (!nm.toList.isEmpty) = true := by rw [e1]; rfl
  go_enter Try.func50, Try.ntmps50
  go_wp2_with fail
  refine (HOK.out _ _ (HR0.out.get 2 rfl) (HR0.out.le 2 rfl)).mono ?_
  rintro e1 w1 ⟨rfl, hb1⟩
  have HR1 := Lib.hid (HR0.out.below hb1); clear hb1 HR0 HOK
  have f1 := (HR1.out.get 1 rfl).cell
  go_wp2_with fail
  refine (specNameOk_any nm _ (by omega)).mono ?_
  rintro e9 w9 ⟨rfl, rfl⟩
  rw [hN]
  go_wp2_with fail
  refine (l31Own_own d _ lo hi _ (HR1.out.get 2 rfl) (HR1.out.le 2 rfl) HGD.out.fine HS.out).mono ?_
  rintro e3 w3 ⟨v3, rfl, hx3, hb3⟩
  have s3 := hb3.size
  have s1 := HR1.out.le 0 rfl
  obtain ⟨A3, c3, F3, cf3, K3, ck3, B3, xs, rfl, ⟨q1, q2⟩, hA3, hK3, hxs, hfx⟩ := id hx3
  have hfr := hfx.row
  have HXL := Lib.hid (show xs.length = d.files.length by rw [← hxs]; simp)
  rw [HXL.out] at hfr
  have R3 := ((((HR1.out.below hb3).add w1.heap.size B3 _ (loc_strR0 w1.heap.size B3 A3 _ d.scr.rows) (by omega) hA3).add w1.heap.size B3 _ (loc_strR0 w1.heap.size B3 K3 _ d.keys) (by omega) hK3).add B3 w3.heap.size _ (loc_ownFx B3 w3.heap.size _ xs) (Nat.le_refl _) hfx).add w1.heap.size w3.heap.size _ (loc_devR w1.heap.size w3.heap.size _ d) (Nat.le_refl _) hx3.reads
  have HXS := Lib.hid hxs
  have R4 := R3.box 61 (devCs d A3 c3 F3 cf3 K3 ck3)
  have e4 : (w3.alloc (.cells (devCs d A3 c3 F3 cf3 K3 ck3) 61)).heap.size = w3.heap.size + 1 := by simp
  have HG4 := Lib.hid (fun g hg => Below.heap_alloc w3 (.cells (devCs d A3 c3 F3 cf3 K3 ck3) 61) g hg)
  have HR3 := Lib.hid R3; have HX3 := Lib.hid hx3.reads
  clear hb3 HR1 f1 R3 hA3 hK3 hxs hfx hfr hx3 HG4
  go_wp2_with fail
  generalize w3.alloc (.cells (devCs d A3 c3 F3 cf3 K3 ck3) 61) = w4 at *
  have HR4 := Lib.hid R4; clear R4
  clear HR3 HX3
  refine (HAT.out _ _ _ _ (HR4.out.get 1 rfl) (HR4.out.le 1 rfl)).mono ?_
  rintro e5 w5 ⟨rfl, hb5⟩
  have R5 := HR4.out.below hb5
  have HR5 := Lib.hid R5
  have s5 := R5.le 0 rfl
  have HBEL := Lib.hid R5.1
  clear hb5 HR4 e4 R5
  have hfr5 : w5.ownsRow B3 91 4 (.slice F3 d.files.length cf3) d.files.length (flat xs) := by have := (HR5.out.get 2 rfl).row; rwa [HXL.out] at this
  rcases row_cases hfr5 with ⟨rfl, h0, rfl⟩ | ⟨g, rfl, hgB, hgl, hnc, hcm, hcell⟩
  · obtain rfl : P = 0 := by omega
    clear hfr5
    have HLIT := Lib.hid (litFx w5 w5.heap.size (Nat.le_refl _))
    have HLE5 := Lib.hid (show w5.heap.size ≤ (w5.alloc (.cells #[] 91)).heap.size by simp)
    have HBA := Lib.hid ((Below.refl w5.heap.size w5).alloc (Nat.le_refl _) (.cells #[] 91))
    have l3 : ¬ ((3 : Int) ≤ (d.files.length : Int)) := by omega
    have fp := (HR5.out.get 6 rfl).cell
    have fo := fun o => ((HR5.out.alloc o).get 0 rfl).cell
    have fo5 := (HR5.out.get 0 rfl).cell
    go_wp2_with (first | (at_builtin; refine wpList_appFx (by rfl) (.tmp 42) (.tmp 46) 59 (by rfl) Try.underlying59 _ w5.heap.size _ [] (xs.take 0) 0 0 (by rfl) HLIT.out rfl none 0 rfl (by simp) (.inl (by rw [List.take_zero])) (fun _ => ⟨rfl, rfl⟩) (by omega) HLE5.out ?_; intro A6 c6 w6 hr6 hg6 hb6; simp only [Nat.zero_add, List.nil_append] at hr6 ⊢; have s6 := Nat.le_trans HLE5.out hb6.size; have HR6 := Lib.hid hr6; have HB6 := Lib.hid (HBA.out.trans hb6); have HBX := Lib.hid (hb6.trans ((Below.refl w5.heap.size w6).alloc s6 (.cells #[.string nm, .slice none 0 0, .string ⟨#[]⟩, .int .i64 0] 91))); have HY := Lib.hid (Blk.new w6 91 #[.string nm, .slice none 0 0, .string ⟨#[]⟩, .int .i64 0]); clear hr6 hg6 hb6 fo fo5) | (at_builtin; refine wpList_appFx (by rfl) (.tmp 48) (.tmp 51) 59 (by rfl) Try.underlying59 _ w5.heap.size (.slice A6 0 c6) (xs.take 0) [⟨filNew nm, none, 0⟩] 0 1 (by rfl) (HR6.out.alloc _) (by rw [List.length_take, HXL.out]; omega) (some ⟨w6.heap.size, 0, none⟩) 1 (by rfl) rfl (newFlat HY.out) (fun h => by cases h) (by omega) (by simp; omega) ?_; intro A7 c7 w7 hr7 hg7 hb7; have s7 := hb7.size; rw [World.heap_size_alloc'] at s7; have HB7 := Lib.hid (((HB6.out.alloc s6 _)).trans hb7); have HR7 := Lib.hid hr7; have fo := ((HR5.out.below HB7.out).get 0 rfl).cell; have HZ7 := Lib.hid (HR5.out.below HB7.out); clear hr7 hg7 hb7) | (at_builtin; refine wpList_appFx (by rfl) (.tmp 53) (.tmp 57) 59 (by rfl) Try.underlying59 w7 w5.heap.size (.slice A7 (0 + 1) c7) (xs.take 0 ++ [⟨filNew nm, none, 0⟩]) (xs.drop 0) (0 + 1) 0 (by rfl) HR7.out (by rw [List.length_append, List.length_take, HXL.out, List.length_singleton]; omega) none 0 (by rfl) (by rw [List.length_drop, HXL.out]; omega) (.inl (List.drop_eq_nil_of_le (by rw [HXL.out]; omega))) (fun _ => ⟨rfl, rfl⟩) (by omega) (by omega) ?_; intro A8 c8 w8 hr8 hg8 hb8; have HB8 := Lib.hid (HB7.out.trans hb8); have HR8 := Lib.hid hr8; have s8 := hb8.size; have HZ8 := Lib.hid (HR5.out.below HB8.out); have fo8 := (HZ8.out.get 0 rfl).cell; have zo8 := (HZ8.out.get 0 rfl).frozen; have fr8 := (HZ8.out.get 5 rfl).cell; have zr8 := (HZ8.out.get 5 rfl).frozen; clear hr8 hg8 hb8 fo))
    have HEND := Lib.hid (show ∀ (W' : World), (∀ b, b ≠ w3.heap.size → b ≠ w.heap.size + 1 → W'.heap[b]? = w8.heap[b]?) → W'.heap.size = w8.heap.size →
        DevR W' w.heap.size W'.heap.size (.agg #[.int .i64 (1), .int .i64 d.scr.row, .int .i64 d.scr.col, .slice A3 d.scr.rows.length c3, .slice A8 1 c8, .slice K3 d.keys.length ck3]) ⟨((0 : Nat) : Int) + 1, d.scr, ins 0 (filNew nm) d.files, d.keys⟩ from fun W' hk hz => by
      have hL : (ins 0 (filNew nm) d.files).length = 1 := by have := ins_len 0 (filNew nm) d.files; omega
      refine ⟨A3, c3, A8, c8, K3, ck3, by unfold devCs; dsimp only; rw [hL]; try rfl, ?_⟩
      dsimp only
      rw [hL]
      have hln : ∀ x ∈ xs, StrR W' w.heap.size W'.heap.size x.L x.f.lines.length x.f.lines := fun x hx => RowR.more (((HZ8.out.get 2 rfl).lines x hx).keep (fun b h1 h2 => hk b (by omega) (by omega))) (by omega) (by omega)
      refine ⟨RowR.more ((HZ8.out.get 4 rfl).keep (fun b h1 h2 => hk b (by omega) (by omega))) (by omega) (by omega), ?_, RowR.more ((HZ8.out.get 3 rfl).keep (fun b h1 h2 => hk b (by omega) (by omega))) (by omega) (by omega)⟩
      have hr8 : w8.ownsRow w5.heap.size 91 4 (.slice A8 1 c8) 1 (flat ((xs.take 0 ++ [⟨filNew nm, none, 0⟩]) ++ xs.drop 0)) := HR8.out
      have hrow := own_keep (hi := w8.heap.size) (w' := W') hr8 (fun g hg => (hr8.lt g hg).2) (fun b h1 h2 => hk b (by omega) (by omega))
      have hm : ((xs.take 0 ++ [(⟨filNew nm, none, 0⟩ : Fx)]) ++ xs.drop 0).map Fx.f = ins 0 (filNew nm) d.files := by rw [← HXS.out]; simp [ins]
      have hlen : ((xs.take 0 ++ [(⟨filNew nm, none, 0⟩ : Fx)]) ++ xs.drop 0).length = 1 := by rw [← hL, ← hm, List.length_map]
      rw [← hm]
      refine filesR_row hrow hlen (by omega) (by omega) (fun x hx => ?_)
      rcases List.mem_append.1 hx with hx | hx
      · rcases List.mem_append.1 hx with hx | hx
        · exact hln x (List.mem_of_mem_take hx)
        · obtain rfl : x = ⟨filNew nm, none, 0⟩ := by simpa using hx
          exact ⟨rfl, fun h => absurd h (by simp [filNew])⟩
      · exact hln x (List.mem_of_mem_drop hx))
    refine bodyPost_ret (v := .tuple #[.agg #[.int .i64 (1), .int .i64 d.scr.row, .int .i64 d.scr.col, .slice A3 d.scr.rows.length c3, .slice A8 1 c8, .slice K3 d.keys.length ck3], .int .i64 0]) (by simp [results, Try.results50, go_sem, fr8]) rfl ⟨_, rfl, ?_, ?_⟩
    · refine HEND.out _ (fun b h1 h2 => ?_) (by simp [World.setCell])
      iterate 8 (with_reducible rw [Below.heap_setCell _ _ _ b (by simp; omega)])
    · iterate 8 (with_reducible refine Below.setCell ?_ (by simp; try omega) _)
      exact HBEL.out.trans (HB8.out.mono HBEL.out.size)
  · have hg3 := (HR5.out.get 2 rfl).top g rfl
    unfold maxLen at hcm
    clear hfr5
    have HC5 := Lib.hid (show ∀ W : World, W.heap[g]? = w5.heap[g]? → ∀ j u, (flat xs)[j]? = some u → W.cell? ⟨g, j, none⟩ = some u from fun W hW j u hj => (World.cell?_of_block hW).trans (hcell j u hj))
    obtain ⟨AD, hAD, hSD⟩ : ∃ AD : Addr, (if cf3 = P then (some ⟨g, 0, none⟩ : Option Addr) else some ⟨g, P * 4, none⟩) = some AD ∧ Hid (∀ W : World, W.heap[g]? = w5.heap[g]? → FlatR W (some AD) (xs.drop P)) := by
      by_cases h : cf3 = P
      · exact ⟨⟨g, 0, none⟩, by simp [h], fun W _ => .inl (List.drop_eq_nil_of_le (by rw [HXL.out]; omega))⟩
      · exact ⟨⟨g, P * 4, none⟩, by simp [h], fun W hW => flatR_drop (HC5.out W hW) _⟩
    have j0 : (0 : Int) ≤ (P : Int) := by omega
    have j1 : (P : Int) + 1 ≤ 4 := by omega
    have j2 : (P : Int) ≤ (d.files.length : Int) := by omega
    have j3 : (d.files.length : Int) ≤ (cf3 : Int) := by omega
    have j4 : (P : Int) ≤ (cf3 : Int) := by omega
    have j5 : P ≤ d.files.length := by omega
    have j6 : P ≤ cf3 := by omega
    have HG5 := Lib.hid (Below.heap_alloc w5 (.cells #[] 91) g (by omega))
    clear hcell
    have HLIT := Lib.hid (litFx w5 w5.heap.size (Nat.le_refl _))
    have HLE5 := Lib.hid (show w5.heap.size ≤ (w5.alloc (.cells #[] 91)).heap.size by simp)
    have HBA := Lib.hid ((Below.refl w5.heap.size w5).alloc (Nat.le_refl _) (.cells #[] 91))
    have l3 : ¬ ((3 : Int) ≤ (d.files.length : Int)) := by omega
    have fp := (HR5.out.get 6 rfl).cell
    have fo := fun o => ((HR5.out.alloc o).get 0 rfl).cell
    have fo5 := (HR5.out.get 0 rfl).cell
    go_wp2_with (first | (at_builtin; refine wpList_appFx (by rfl) (.tmp 42) (.tmp 46) 59 (by rfl) Try.underlying59 _ w5.heap.size _ [] (xs.take P) 0 P (by rfl) HLIT.out rfl (some ⟨g, 0, none⟩) cf3 (by rfl) (by rw [List.length_take, HXL.out]; omega) (flatR_take (HC5.out _ HG5.out) P) (fun h => by cases h) (by omega) HLE5.out ?_; intro A6 c6 w6 hr6 hg6 hb6; simp only [Nat.zero_add, List.nil_append] at hr6 ⊢; have s6 := Nat.le_trans HLE5.out hb6.size; have HR6 := Lib.hid hr6; have HB6 := Lib.hid (HBA.out.trans hb6); have HBX := Lib.hid (hb6.trans ((Below.refl w5.heap.size w6).alloc s6 (.cells #[.string nm, .slice none 0 0, .string ⟨#[]⟩, .int .i64 0] 91))); have HY := Lib.hid (Blk.new w6 91 #[.string nm, .slice none 0 0, .string ⟨#[]⟩, .int .i64 0]); clear hr6 hg6 hb6 fo fo5) | (at_builtin; refine wpList_appFx (by rfl) (.tmp 48) (.tmp 51) 59 (by rfl) Try.underlying59 _ w5.heap.size (.slice A6 P c6) (xs.take P) [⟨filNew nm, none, 0⟩] P 1 (by rfl) (HR6.out.alloc _) (by rw [List.length_take, HXL.out]; omega) (some ⟨w6.heap.size, 0, none⟩) 1 (by rfl) rfl (newFlat HY.out) (fun h => by cases h) (by omega) (by simp; omega) ?_; intro A7 c7 w7 hr7 hg7 hb7; have s7 := hb7.size; rw [World.heap_size_alloc'] at s7; have HB7 := Lib.hid (((HB6.out.alloc s6 _)).trans hb7); have HR7 := Lib.hid hr7; have fo := ((HR5.out.below HB7.out).get 0 rfl).cell; have HZ7 := Lib.hid (HR5.out.below HB7.out); clear hr7 hg7 hb7) | (at_builtin; have HG7 := Lib.hid (HB7.out.block g (by omega)); refine wpList_appFx (by rfl) (.tmp 53) (.tmp 57) 59 (by rfl) Try.underlying59 w7 w5.heap.size (.slice A7 (P + 1) c7) (xs.take P ++ [⟨filNew nm, none, 0⟩]) (xs.drop P) (P + 1) (d.files.length - P) (by rfl) HR7.out (by rw [List.length_append, List.length_take, HXL.out, List.length_singleton]; omega) (some AD) (cf3 - P) (by rfl) (by rw [List.length_drop, HXL.out]) (hSD.out _ HG7.out) (fun h => by cases h) (by omega) (by omega) ?_; intro A8 c8 w8 hr8 hg8 hb8; have en : P + 1 + (d.files.length - P) = d.files.length + 1 := (by omega); rw [en] at hr8 ⊢; clear en; have HB8 := Lib.hid (HB7.out.trans hb8); have HR8 := Lib.hid hr8; have s8 := hb8.size; have HZ8 := Lib.hid (HR5.out.below HB8.out); have fo8 := (HZ8.out.get 0 rfl).cell; have zo8 := (HZ8.out.get 0 rfl).frozen; have fr8 := (HZ8.out.get 5 rfl).cell; have zr8 := (HZ8.out.get 5 rfl).frozen; clear hr8 hg8 hb8 fo))
    have HEND := Lib.hid (show ∀ (W' : World), (∀ b, b ≠ w3.heap.size → b ≠ w.heap.size + 1 → W'.heap[b]? = w8.heap[b]?) → W'.heap.size = w8.heap.size →
        DevR W' w.heap.size W'.heap.size (.agg #[.int .i64 ((P : Int) + 1), .int .i64 d.scr.row, .int .i64 d.scr.col, .slice A3 d.scr.rows.length c3, .slice A8 (d.files.length + 1) c8, .slice K3 d.keys.length ck3]) ⟨((P : Nat) : Int) + 1, d.scr, ins P (filNew nm) d.files, d.keys⟩ from fun W' hk hz => by
      have hL : (ins P (filNew nm) d.files).length = (d.files.length + 1) := by have := ins_len P (filNew nm) d.files; omega
      refine ⟨A3, c3, A8, c8, K3, ck3, by unfold devCs; dsimp only; rw [hL]; try rfl, ?_⟩
      dsimp only
      rw [hL]
      have hln : ∀ x ∈ xs, StrR W' w.heap.size W'.heap.size x.L x.f.lines.length x.f.lines := fun x hx => RowR.more (((HZ8.out.get 2 rfl).lines x hx).keep (fun b h1 h2 => hk b (by omega) (by omega))) (by omega) (by omega)
      refine ⟨RowR.more ((HZ8.out.get 4 rfl).keep (fun b h1 h2 => hk b (by omega) (by omega))) (by omega) (by omega), ?_, RowR.more ((HZ8.out.get 3 rfl).keep (fun b h1 h2 => hk b (by omega) (by omega))) (by omega) (by omega)⟩
      have hr8 : w8.ownsRow w5.heap.size 91 4 (.slice A8 (d.files.length + 1) c8) (d.files.length + 1) (flat ((xs.take P ++ [⟨filNew nm, none, 0⟩]) ++ xs.drop P)) := HR8.out
      have hrow := own_keep (hi := w8.heap.size) (w' := W') hr8 (fun g hg => (hr8.lt g hg).2) (fun b h1 h2 => hk b (by omega) (by omega))
      have hm : ((xs.take P ++ [(⟨filNew nm, none, 0⟩ : Fx)]) ++ xs.drop P).map Fx.f = ins P (filNew nm) d.files := by rw [← HXS.out]; simp [ins]
      have hlen : ((xs.take P ++ [(⟨filNew nm, none, 0⟩ : Fx)]) ++ xs.drop P).length = (d.files.length + 1) := by rw [← hL, ← hm, List.length_map]
      rw [← hm]
      refine filesR_row hrow hlen (by omega) (by omega) (fun x hx => ?_)
      rcases List.mem_append.1 hx with hx | hx
      · rcases List.mem_append.1 hx with hx | hx
        · exact hln x (List.mem_of_mem_take hx)
        · obtain rfl : x = ⟨filNew nm, none, 0⟩ := by simpa using hx
          exact ⟨rfl, fun h => absurd h (by simp [filNew])⟩
      · exact hln x (List.mem_of_mem_drop hx))
    refine bodyPost_ret (v := .tuple #[.agg #[.int .i64 ((P : Int) + 1), .int .i64 d.scr.row, .int .i64 d.scr.col, .slice A3 d.scr.rows.length c3, .slice A8 (d.files.length + 1) c8, .slice K3 d.keys.length ck3], .int .i64 0]) (by simp [results, Try.results50, go_sem, fr8]) rfl ⟨_, rfl, ?_, ?_⟩
    · refine HEND.out _ (fun b h1 h2 => ?_) (by simp [World.setCell])
      iterate 8 (with_reducible rw [Below.heap_setCell _ _ _ b (by simp; omega)])
    · iterate 8 (with_reducible refine Below.setCell ?_ (by simp; try omega) _)
      exact HBEL.out.trans (HB8.out.mono HBEL.out.size)

theorem specUseDevice_any (d : Dev) (nm : ByteArray) (v : Value) (lo hi : Nat) (w : World) (hx : DevR w lo hi v d) (hhi : hi ≤ w.heap.size) (hs : DevSmall d) (hl : nm.size ≤ 1048576) :
    Calls Try.prog 50 #[v, .string nm] w fun e w' => ∃ v', e = .returned (.tuple #[v', .int .i64 (useP d nm).2]) ∧ DevR w' w.heap.size w'.heap.size v' (useP d nm).1 ∧ Below w.heap.size w w' := by
  cases hB : devB d
  · rw [show useP d nm = (noDev, 1) by simp [useP, hB]]
    exact sUse_bad d nm v lo hi w hx hhi hs hB
  · by_cases hz : nm.size = 0
    · rw [show useP d nm = (⟨0, d.scr, d.files, d.keys⟩, 0) by simp [useP, useDev, hB, hz]]
      refine sUse_empty d nm v lo hi w hx hhi hs hB ?_
      obtain ⟨a⟩ := nm
      have : a = #[] := Array.eq_empty_of_size_eq_zero hz
      rw [this]
    · cases hN : nameB nm
      · rw [show useP d nm = (noDev, 1) by simp [useP, hB, hz, hN]]
        exact sUse_name d nm v lo hi w hx hhi hs hB hz hN hl
      · cases hT : thereB d.files nm
        · by_cases h3 : d.files.length = 3
          · rw [show useP d nm = (noDev, 4) by simp [useP, useDev, hB, hz, hN, hT, h3]]
            exact sUse_many d nm v lo hi w hx hhi hs hB hz hN hl hT h3
          · rw [show useP d nm = (⟨(place d.files nm : Int) + 1, d.scr, ins (place d.files nm) (filNew nm) d.files, d.keys⟩, 0) by simp [useP, useDev, hB, hz, hN, hT, h3]]
            exact sUse_new d nm v lo hi w hx hhi hs hB hz hN hl hT h3
        · rw [show useP d nm = (⟨(place d.files nm : Int) + 1, d.scr, d.files, d.keys⟩, 0) by simp [useP, useDev, hB, hz, hN, hT]]
          exact sUse_there d nm v lo hi w hx hhi hs hB hz hN hl hT

end Go.Proofs.Ytcfmgmbolnifgaa

/- FnExactUseDevice returns true: the walk of the law (printed by wip/gen_lawdev.py). -/
namespace Go.Proofs.Ytcfmgmbolnifgaa
open Go.RowKit

set_option maxHeartbeats 8000000 in
set_option maxRecDepth 100000 in
theorem law_UseDevice (d : Dev) (nm : ByteArray) (v : Value) (w : World) (hx : DevR w 0 w.heap.size v d) (hr : DevReach d) (htl : nm.size ≤ 9223372036854775807) :
    Calls Try.prog 11 #[v, .string nm] w fun e w' => e = .returned (.bool true) ∧ Below w.heap.size w w' := by
  have HX := Lib.hid hx
  obtain ⟨A, c, F, f, K, k, rfl, h1, h2, h3⟩ := hx
  clear h1 h2 h3
  have HR := Lib.hid hr; clear hr
  by_cases hlt : 1048576 < nm.size
  · have hD := (Below.refl w.heap.size w).alloc (Nat.le_refl _) (.cells (devCs d A c F f K k) 56)
    have HD := Lib.hid hD; clear hD
    go_enter Try.func11, Try.ntmps11
    go_wp2_with fail
    go_ret
    exact ⟨rfl, HD.out⟩
  have ht : nm.size ≤ 1048576 := by omega
  clear hlt htl
  have HS0 := Lib.hid ((Stand.nil w).add 0 w.heap.size _ (loc_devR 0 w.heap.size (.agg (devCs d A c F f K k)) d) (Nat.le_refl _) HX.out)
  go_enter Try.func11, Try.ntmps11
  go_wp2_with fail
  have R0 := HS0.out.box 56 (devCs d A c F f K k)
  refine (szDevices_any d _ 0 w.heap.size _ _ (R0.get 1 rfl) (R0.le 1 rfl) HR.out (by omega) (by omega)).mono ?_
  rintro e1 w1 ⟨m, rfl, hm, hb1⟩
  have R1 := R0.below hb1; clear hb1 R0
  have f_p := (R1.get 0 rfl).cell
  rcases hm with rfl | ⟨hm0, hm1⟩
  · have HB := Lib.hid R1.1; clear R1
    go_wp2_with fail
    go_ret
    exact ⟨rfl, HB.out⟩
  have HS := Lib.hid (DevSmall.of_cost (d := d) (by omega)); have HW := Lib.hid (DevFew.of_cost (d := d) (by omega)); clear hm1
  have nm1 : ¬ (m < 0) := by omega
  have HR1 := Lib.hid R1; clear R1
  have s1 := HR1.out.le 0 rfl
  go_wp2_with fail
  refine (toDevices_any d _ 0 w.heap.size _ (HR1.out.get 1 rfl) (HR1.out.le 1 rfl) HS.out).mono ?_
  rintro e2 w2 ⟨v2, rfl, hx2, hb2⟩
  have s2 := hb2.size
  have R2 := HR1.out.below hb2; have HX2 := Lib.hid hx2.reads
  have HR2 := Lib.hid R2; clear R2 HR1 hb2 hx2
  clear f_p
  go_wp2_with fail
  refine (specUseDevice_any d nm _ _ _ _ HX2.out (Nat.le_refl _) HS.out ht).mono ?_
  rintro e3 w3 ⟨v3, rfl, hx3, hb3⟩
  have s3 := hb3.size
  have HT := Lib.hid (useP_low d nm)
  have HI := Lib.hid (fun v lo hi W h1 h2 => implUseDevice_any d nm v lo hi W h1 h2 HS.out ht)
  generalize useP d nm = T at *
  have nT : (T.2 != T.2) = false := by simp
  have R3 := (HR2.out.below hb3).add _ _ _ (loc_devR w2.heap.size w3.heap.size v3 T.1) (Nat.le_refl _) hx3
  obtain ⟨A3, c3, F3, f3, K3, k3, rfl, hA3⟩ := hx3
  have HR3 := Lib.hid R3; clear R3 HR2 hb3 hA3 HX2
  have f_p := (HR3.out.get 1 rfl).cell; have g_p := fun o => ((HR3.out.alloc o).get 1 rfl).cell
  go_wp2_with fail
  have R4 := HR3.out.box 61 (devCs T.1 A3 c3 F3 f3 K3 k3)
  have s4 : w3.heap.size + 1 ≤ (w3.alloc (.cells (devCs T.1 A3 c3 F3 f3 K3 k3) 61)).heap.size := by simp
  clear f_p g_p
  generalize w3.alloc (.cells (devCs T.1 A3 c3 F3 f3 K3 k3) 61) = w4 at *
  have HR4 := Lib.hid R4; clear R4 HR3
  refine (toDevices_any d _ 0 w.heap.size _ (HR4.out.get 3 rfl) (HR4.out.le 3 rfl) HS.out).mono ?_
  rintro e5 w5 ⟨v5, rfl, hx5, hb5⟩
  have s5 := hb5.size
  have R5 := (HR4.out.below hb5).add _ _ _ (loc_ownDev w4.heap.size w5.heap.size v5 d) (Nat.le_refl _) hx5
  obtain ⟨A5, c5, F5, f5, K5, k5, rfl, hA5⟩ := hx5.reads
  have HR5 := Lib.hid R5; clear R5 HR4 hb5 hx5 hA5
  go_wp2_with fail
  have R6 := HR5.out.box 61 (devCs d A5 c5 F5 f5 K5 k5)
  have s6 : w5.heap.size + 1 ≤ (w5.alloc (.cells (devCs d A5 c5 F5 f5 K5 k5) 61)).heap.size := by simp
  generalize w5.alloc (.cells (devCs d A5 c5 F5 f5 K5 k5) 61) = w6 at *
  have HR6 := Lib.hid R6; clear R6 HR5
  refine (HI.out _ _ _ _ ((HR6.out.get 1 rfl).reads) (HR6.out.le 1 rfl)).mono ?_
  rintro e7 w7 ⟨v7, rfl, hx7, hb7⟩
  have s7 := hb7.size
  have R7 := (HR6.out.below hb7).add _ _ _ (loc_ownDev _ w7.heap.size v7 T.1) (Nat.le_refl _) hx7
  obtain ⟨A7, c7, F7, f7, K7, k7, rfl, hA7⟩ := hx7.reads
  have HR7 := Lib.hid R7; clear R7 HR6 hb7 hx7 hA7
  have f_w := (HR7.out.get 3 rfl).cell; have g_w := fun o => ((HR7.out.alloc o).get 3 rfl).cell
  go_wp2_with fail
  have R8 := HR7.out.box 61 (devCs T.1 A7 c7 F7 f7 K7 k7)
  have s8 : w7.heap.size + 1 ≤ (w7.alloc (.cells (devCs T.1 A7 c7 F7 f7 K7 k7) 61)).heap.size := by simp
  clear f_w g_w
  generalize w7.alloc (.cells (devCs T.1 A7 c7 F7 f7 K7 k7) 61) = w8 at *
  have HR8 := Lib.hid R8; clear R8 HR7
  refine (eqDevices_same T.1 _ _ _ _ _ _ _ (HR8.out.get 1 rfl).reads (HR8.out.get 5 rfl) (HR8.out.le 1 rfl) (HR8.out.le 5 rfl) HT.out.small).mono ?_
  rintro e9 w9 ⟨rfl, hb9⟩
  have R9 := HR8.out.below hb9; have s9 := hb9.size
  have HR9 := Lib.hid R9; clear R9 HR8 hb9
  have f_g := (HR9.out.get 0 rfl).cell; have g_g := fun o => ((HR9.out.alloc o).get 0 rfl).cell
  have f_w := (HR9.out.get 4 rfl).cell; have g_w := fun o => ((HR9.out.alloc o).get 4 rfl).cell
  obtain ⟨FS, hF, hP, hQ⟩ := HR9.out.pack (fun W => (Blk W w.heap.size 56 (devCs d A c F f K k) ∧ Blk W w5.heap.size 61 (devCs d A5 c5 F5 f5 K5 k5)) ∧ (DevR W 0 w.heap.size (.agg (devCs d A c F f K k)) d ∧ w.heap.size ≤ W.heap.size) ∧ (DevR W w4.heap.size w5.heap.size (.agg (devCs d A5 c5 F5 f5 K5 k5)) d ∧ w5.heap.size ≤ W.heap.size)) (fun W h => ⟨⟨h.get 6 rfl, h.get 2 rfl⟩, ⟨h.get 7 rfl, h.le 7 rfl⟩, ⟨(h.get 3 rfl).reads, h.le 3 rfl⟩⟩)
  have HF := Lib.hid hF; have HFd := Lib.hid hF.drew; have HP1 := Lib.hid (fun W h => (hP W h).1); have HPA := Lib.hid (fun W h => (hP W h).2.1); have HPX := Lib.hid (fun W h => (hP W h).2.2); have HQ := Lib.hid hQ; clear hF hP hQ HR9
  have f_p := (HP1.out _ HF.out).1.cell; have f_x := (HP1.out _ HF.out).2.cell
  go_wp2_with fail
  clear f_g g_g f_w g_w
  clear f_p f_x
  go_region_held3 (fun w' => (∀ i, w'.cell? ⟨w.heap.size, i, none⟩ = (devCs d A c F f K k)[i]?) ∧ (∀ i, w'.cell? ⟨w5.heap.size, i, none⟩ = (devCs d A5 c5 F5 f5 K5 k5)[i]?) ∧ Stand w FS w')
    (first | (with_reducible exact Stand.show2 HP1.out HF.out) | (with_reducible exact Stand.show2 HP1.out HFd.out) | (with_reducible exact Stand.show2 HP1.out R10) | (with_reducible exact Stand.show2 HP1.out R11))
    (first | (go_at_call 37; (with_reducible refine (toDevices_any d _ 0 w.heap.size _ (HPA.out _ HFd.out).1 (HPA.out _ HFd.out).2 HS.out).mono ?_); rintro e10 w10 ⟨v10, rfl, hx10, hb10⟩; have s10 := hb10.size; have R10 := HFd.out.below hb10) | (go_at_call 39; (with_reducible refine (eqDevices_same d _ _ _ _ _ _ _ (HPX.out _ R10).1 hx10.reads (HPX.out _ R10).2 (Nat.le_refl _) HS.out).mono ?_); rintro e11 w11 ⟨rfl, hb11⟩; have s11 := hb11.size; have R11 := R10.below hb11))
  have HR11 := Lib.hid (HQ.out _ R11); clear R10 R11 hx10 HF HFd HP1 HPA HPX HQ hb10 hb11
  have s9' : w9.drew.heap.size = w9.heap.size := rfl
  rw [s9'] at s10; clear s9'
  have f_x := (HR11.out.get 2 rfl).cell; have g_x := fun o => ((HR11.out.alloc o).get 2 rfl).cell
  go_wp2_with fail
  refine (markDevices_any d _ _ _ _ (HR11.out.get 3 rfl) (HR11.out.le 3 rfl) HW.out).mono ?_
  rintro e12 w12 ⟨m12, rfl, hm12, he12, hh12, hw12⟩
  have s12 := hw12.size; have HE12 := Lib.hid he12; clear he12
  have R12 := ((HR11.out.only [0, 1, 2, 4, 5, 6, 7]).within hw12 (by omega) (by
    intro f hf
    simp only [List.filterMap_cons, List.filterMap_nil, List.getElem?_cons_zero, List.getElem?_cons_succ, List.mem_cons, List.not_mem_nil, or_false] at hf
    rcases hf with rfl | rfl | rfl | rfl | rfl | rfl | rfl
    all_goals (simp only; omega)))
  have HR12 := Lib.hid R12; clear R12 HR11 hw12 hh12
  have nm12 : ¬ (m12 < 0) := by omega
  clear f_x g_x
  have f_g := (HR12.out.get 0 rfl).cell; have g_g := fun o => ((HR12.out.alloc o).get 0 rfl).cell
  have f_w := (HR12.out.get 3 rfl).cell; have g_w := fun o => ((HR12.out.alloc o).get 3 rfl).cell
  go_wp2_with fail
  refine (eqDevices_same T.1 _ _ _ _ _ _ _ (HR12.out.get 1 rfl).reads (HR12.out.get 4 rfl) (HR12.out.le 1 rfl) (HR12.out.le 4 rfl) HT.out.small).mono ?_
  rintro e13 w13 ⟨rfl, hb13⟩
  have R13 := HR12.out.below hb13; have s13 := hb13.size
  have HR13 := Lib.hid R13; clear R13 HR12 hb13
  clear f_g g_g f_w g_w
  have f_g := (HR13.out.get 0 rfl).cell; have g_g := fun o => ((HR13.out.alloc o).get 0 rfl).cell
  go_wp2_with fail
  refine (markDevices_any T.1 _ _ _ _ (HR13.out.get 1 rfl) (HR13.out.le 1 rfl) HT.out.few).mono ?_
  rintro e14 w14 ⟨m14, rfl, hm14, he14, hh14, hw14⟩
  have s14 := hw14.size; have HE14 := Lib.hid he14; clear he14
  have R14 := ((HR13.out.only [0, 2, 3, 4, 5, 6]).within hw14 (by omega) (by
    intro f hf
    simp only [List.filterMap_cons, List.filterMap_nil, List.getElem?_cons_zero, List.getElem?_cons_succ, List.mem_cons, List.not_mem_nil, or_false] at hf
    rcases hf with rfl | rfl | rfl | rfl | rfl | rfl
    all_goals (simp only; omega)))
  have R14' := R14.add _ _ _ (loc_devR _ _ _ (markDev T.1)) (by omega) hh14; clear R14; have R14 := R14'; clear R14'
  have HR14 := Lib.hid R14; clear R14 HR13 hw14 hh14
  have nm14 : ¬ (m14 < 0) := by omega
  clear f_g g_g
  have f_g := (HR14.out.get 1 rfl).cell; have g_g := fun o => ((HR14.out.alloc o).get 1 rfl).cell
  go_wp2_with fail
  have nq : (m14 != m14) = false := by simp
  refine (heldDevices_any T.1 _ m14 _ _ _ (HR14.out.get 0 rfl) HE14.out (HR14.out.le 0 rfl) HT.out.few).mono ?_
  rintro e15 w15 ⟨rfl, hb15⟩
  have R15 := HR14.out.below hb15; have s15 := hb15.size
  have HR15 := Lib.hid R15; clear R15 HR14 hb15
  clear f_g g_g
  have f_p := (HR15.out.get 5 rfl).cell; have g_p := fun o => ((HR15.out.alloc o).get 5 rfl).cell
  go_wp2_with fail
  refine (toDevices_any d _ 0 w.heap.size _ (HR15.out.get 6 rfl) (HR15.out.le 6 rfl) HS.out).mono ?_
  rintro e16 w16 ⟨v16, rfl, hx16, hb16⟩
  have s16 := hb16.size
  have R16 := HR15.out.below hb16; have HX16 := Lib.hid hx16.reads
  have HR16 := Lib.hid R16; clear R16 HR15 hb16 hx16
  clear f_p g_p
  go_wp2_with fail
  refine (HI.out _ _ _ _ (HX16.out) (Nat.le_refl _)).mono ?_
  rintro e17 w17 ⟨v17, rfl, hx17, hb17⟩
  have s17 := hb17.size
  have R17 := (HR16.out.below hb17).add _ _ _ (loc_ownDev _ w17.heap.size v17 T.1) (Nat.le_refl _) hx17
  obtain ⟨A17, c17, F17, f17, K17, k17, rfl, hA17⟩ := hx17.reads
  have HR17 := Lib.hid R17; clear R17 HR16 hb17 hx17 hA17
  have f_w := (HR17.out.get 4 rfl).cell; have g_w := fun o => ((HR17.out.alloc o).get 4 rfl).cell
  have f_g := (HR17.out.get 2 rfl).cell; have g_g := fun o => ((HR17.out.alloc o).get 2 rfl).cell
  go_wp2_with fail
  have R18 := HR17.out.box 61 (devCs T.1 A17 c17 F17 f17 K17 k17)
  have s18 : w17.heap.size + 1 ≤ (w17.alloc (.cells (devCs T.1 A17 c17 F17 f17 K17 k17) 61)).heap.size := by simp
  clear f_w g_w f_g g_g
  generalize w17.alloc (.cells (devCs T.1 A17 c17 F17 f17 K17 k17) 61) = w18 at *
  have HR18 := Lib.hid R18; clear R18 HR17
  have f_h := (HR18.out.get 0 rfl).cell; have g_h := fun o => ((HR18.out.alloc o).get 0 rfl).cell
  have f_w := (HR18.out.get 5 rfl).cell; have g_w := fun o => ((HR18.out.alloc o).get 5 rfl).cell
  have f_g := (HR18.out.get 3 rfl).cell; have g_g := fun o => ((HR18.out.alloc o).get 3 rfl).cell
  refine (eqDevices_same T.1 _ _ _ _ _ _ _ (HR18.out.get 1 rfl).reads (HR18.out.get 6 rfl) (HR18.out.le 1 rfl) (HR18.out.le 6 rfl) HT.out.small).mono ?_
  rintro e19 w19 ⟨rfl, hb19⟩
  have R19 := HR18.out.below hb19; have s19 := hb19.size
  have HR19 := Lib.hid R19; clear R19 HR18 hb19
  clear f_h g_h f_w g_w f_g g_g
  have f_g := (HR19.out.get 3 rfl).cell; have g_g := fun o => ((HR19.out.alloc o).get 3 rfl).cell
  go_wp2_with fail
  refine (heldDevices_any T.1 _ m14 _ _ _ (HR19.out.get 2 rfl) HE14.out (HR19.out.le 2 rfl) HT.out.few).mono ?_
  rintro e20 w20 ⟨rfl, hb20⟩
  have R20 := HR19.out.below hb20; have s20 := hb20.size
  have HR20 := Lib.hid R20; clear R20 HR19 hb20
  clear f_g g_g
  go_wp2_with fail
  go_ret
  exact ⟨rfl, HR20.out.1⟩

end Go.Proofs.Ytcfmgmbolnifgaa

/- From the walk of a law to its row: a law that returns true and leaves what was there as it was. -/
namespace Go.Proofs.Ytcfmgmbolnifgaa
open Go.ChangeShapes Go.WideShapes Go.ChangeAt Go.RowKit

theorem own_knob : ownKnob Try.prog.godebug = none := by kernel_rfl
theorem laid_out : laidOutB Try.prog = true := by kernel_rfl

theorem trodAll_below {H : Type} {enc : TypeId × Value → H} {P : Program} (hl : laidOutB P = true) {W W' : World} (hb : Below W.heap.size W W') :
    ∀ (ts : List TypeId) (vs : List Value) (ds : List (DataW H)) (ps : List MemPlace), (∀ t ∈ ts, P.readableRec t = true ∧ t < P.types.size) → (∀ x ∈ ps, x.block < W.heap.size) →
    DataW.TrodAll enc P W 0 (fun _ => true) true ts vs ds ps → DataW.TrodAll enc P W' 0 (fun b => decide (b < W.heap.size)) true ts vs ds ps
  | [], [], [], _, _, _, h => h
  | t :: ts, v :: vs, d :: ds, ps, hr, hlt, h => by
    obtain ⟨p, q, h1, h2, rfl⟩ := h
    exact ⟨p, q, Below.trod hl (hr t (by simp)).1 (hr t (by simp)).2 h1 hb (fun x hx => hlt x (by simp [hx])),
      trodAll_below hl hb ts vs ds q (fun t ht => hr t (by simp [ht])) (fun x hx => hlt x (by simp [hx])) h2, rfl⟩
  | [], [], _ :: _, _, _, _, h => h.elim
  | [], _ :: _, _, _, _, _, h => h.elim
  | _ :: _, [], _, _, _, _, h => h.elim
  | _ :: _, _ :: _, [], _, _, _, h => h.elim

/-- The row's end of a law. -/
theorem law_post {H : Type} {enc : TypeId × Value → H} {P : Program} {f : Func} {s : ChangeSpec} {W W' : World} {args : Array Value} {ds gs : List (DataW H)} {before : List MemPlace} {tb : TypeId}
    (hvars : s.vars = []) (hW : DataW.Whole enc P f.params.toList s.vars false W args.toList ds gs before)
    (hfn : s.fn H (ds ++ gs) = { results := [.lit (.bool true)], args := ds }) (hl : laidOutB P = true) (hr : ∀ t ∈ f.params.toList, P.readableRec t = true ∧ t < P.types.size)
    (hrt : f.resultTypes = #[tb]) (htb : P.underlying tb = some .bool) (hb : Below W.heap.size W W') :
    s.post enc P f false true false false W args (.bool true) W' := by
  have hW' := hW
  have hlt : ∀ p ∈ before, p.block < W.heap.size := fun p hp => hW.lt p hp
  obtain ⟨p, q, hA, hV, rfl, hfz, hnd⟩ := hW
  rw [hvars] at hV
  obtain ⟨rfl, rfl⟩ := trodVars_none hV
  refine ⟨ds, [], p ++ [], [], p, [], hW', ?_, ?_, ?_, hb.frame _, fun h => by cases h⟩
  · rw [hfn, hrt]
    exact trodAll_cons_mk (shut_bool htb _) trodAll_mk0
  · rw [hfn]
    exact trodAll_below hl hb _ _ _ _ hr (fun x hx => hlt x (by simp [hx])) hA
  · rw [hfn, hvars]; rfl

end Go.Proofs.Ytcfmgmbolnifgaa
