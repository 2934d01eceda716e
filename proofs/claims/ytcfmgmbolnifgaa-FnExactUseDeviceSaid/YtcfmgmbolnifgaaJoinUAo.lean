/- The program's UseDevice walked (printed by wip/gen_use.py). -/
import Derived.Test.YtcfmgmbolnifgaaJoinUAn
import Derived.Test.YtcfmgmbolnifgaaJoinUAm
import Derived.Test.YtcfmgmbolnifgaaJoinUAj
import Derived.Test.YtcfmgmbolnifgaaJoinUAk
namespace Go.Proofs.Ytcfmgmbolnifgaa
open Go.RowKit

/-- Devices of the call's own at the end: nothing but the blocks p and r has been written since W. -/
theorem ownDev_mk {W W' : World} {lo p r a1 b1 a3 b3 B : Nat} {d : Dev} {A : Option Addr} {c : Nat} {F : Option Addr} {cf : Nat} {K : Option Addr} {ck : Nat} {xs : List Fx}
    (hq : lo ≤ a1 ∧ b1 ≤ p ∧ lo ≤ a3 ∧ b3 ≤ p ∧ p < B ∧ B ≤ W.heap.size) (hr : r < a1 ∧ r < a3 ∧ r < B) (hlo : lo ≤ B) (x13 : apart2 a1 b1 a3 b3)
    (oA : W.ownsRow a1 9 1 (.slice A d.scr.rows.length c) d.scr.rows.length (d.scr.rows.map Value.string)) (oAb : ∀ g, rowOf A d.scr.rows.length c = some g → g < b1)
    (hxs : xs.map Fx.f = d.files) (hfx : OwnFx W B W.heap.size (.slice F d.files.length cf) xs)
    (oK : W.ownsRow a3 9 1 (.slice K d.keys.length ck) d.keys.length (d.keys.map Value.string)) (oKb : ∀ g, rowOf K d.keys.length ck = some g → g < b3)
    (hk : ∀ b, b ≠ p → b ≠ r → W'.heap[b]? = W.heap[b]?) (hz : W'.heap.size = W.heap.size) : OwnDev W' lo W'.heap.size (.agg (devCs d A c F cf K ck)) d := by
  obtain ⟨q1, q2, q3, q4, q5, q6⟩ := hq
  obtain ⟨r1, r2, r3⟩ := hr
  refine ⟨A, c, F, cf, K, ck, a1, b1, B, W'.heap.size, a3, b3, rfl, ⟨q1, by omega, hlo, Nat.le_refl _, q3, by omega⟩, ⟨.inl (by omega), x13, .inr (by omega)⟩, ⟨own_keep (hi := b1) oA oAb (fun b h1 h2 => hk b (by omega) (by omega)), oAb⟩, ?_, own_keep (hi := b3) oK oKb (fun b h1 h2 => hk b (by omega) (by omega)), oKb⟩
  rw [← hxs]
  have := loc_ownFx B W.heap.size _ xs W W' (fun b h1 h2 => hk b (by omega) (by omega)) hfx
  rw [hz]
  exact this.fils

set_option maxHeartbeats 8000000 in
set_option maxRecDepth 100000 in
theorem iUse_bad (d : Dev) (nm : ByteArray) (v : Value) (lo hi : Nat) (w : World) (hx : DevR w lo hi v d) (hhi : hi ≤ w.heap.size) (hs : DevSmall d) (hB : devB d = false) :
    Calls Try.prog 51 #[v, .string nm] w fun e w' => ∃ v', e = .returned (.tuple #[v', .int .i64 1]) ∧ OwnDev w' w.heap.size w'.heap.size v' noDev ∧ Below w.heap.size w w' := by
  have HX := Lib.hid hx; have HS := Lib.hid hs
  obtain ⟨A, c, F, cf, J, cj, rfl, h1, h2, h3⟩ := hx
  have R0 := (((Stand.nil w).add lo hi _ (loc_devR lo hi (.agg (devCs d A c F cf J cj)) d) hhi HX.out).box 61 (devCs d A c F cf J cj)).box 61 #[.int .i64 0, .int .i64 0, .int .i64 0, .slice none 0 0, .slice none 0 0, .slice none 0 0]
  rw [heap_size_alloc1] at R0
  have HR0 := Lib.hid R0
  have HOK := Lib.hid (fun W v h1 h2 => implDevicesOk_any d v lo hi W h1 h2 HS.out)
  clear h1 h2 h3 R0 hs
  rw [hB] at HOK
  go_enter Try.func51, Try.ntmps51
  go_wp2_with fail
  refine (HOK.out _ _ (HR0.out.get 2 rfl) (HR0.out.le 2 rfl)).mono ?_
  rintro e1 w1 ⟨rfl, hb1⟩
  have HR1 := Lib.hid (HR0.out.below hb1); clear hb1 HR0 HOK
  have fr := (HR1.out.get 0 rfl).cell
  have zr := (HR1.out.get 0 rfl).frozen
  have sr := HR1.out.le 0 rfl
  go_wp2_with fail
  refine bodyPost_ret (v := .tuple #[.agg #[.int .i64 0, .int .i64 0, .int .i64 0, .slice none 0 0, .slice none 0 0, .slice none 0 0], .int .i64 1]) (by simp [results, Try.results51, go_sem, fr]) rfl ⟨_, rfl, ?_, ?_⟩
  · exact (ownDev_none _ _ _ (by first | (simp [World.setCell]; done) | (simp [World.setCell]; omega)))
  · iterate 6 (with_reducible refine Below.setCell ?_ (by simp; try omega) _)
    exact HR1.out.1

set_option maxHeartbeats 8000000 in
set_option maxRecDepth 100000 in
theorem iUse_name (d : Dev) (nm : ByteArray) (v : Value) (lo hi : Nat) (w : World) (hx : DevR w lo hi v d) (hhi : hi ≤ w.heap.size) (hs : DevSmall d) (hB : devB d = true) (hz : ¬ nm.size = 0) (hN : nameB nm = false) (hl : nm.size ≤ 1048576) :
    Calls Try.prog 51 #[v, .string nm] w fun e w' => ∃ v', e = .returned (.tuple #[v', .int .i64 1]) ∧ OwnDev w' w.heap.size w'.heap.size v' noDev ∧ Below w.heap.size w w' := by
  have HX := Lib.hid hx; have HS := Lib.hid hs
  obtain ⟨A, c, F, cf, J, cj, rfl, h1, h2, h3⟩ := hx
  have R0 := (((Stand.nil w).add lo hi _ (loc_devR lo hi (.agg (devCs d A c F cf J cj)) d) hhi HX.out).box 61 (devCs d A c F cf J cj)).box 61 #[.int .i64 0, .int .i64 0, .int .i64 0, .slice none 0 0, .slice none 0 0, .slice none 0 0]
  rw [heap_size_alloc1] at R0
  have HR0 := Lib.hid R0
  have HOK := Lib.hid (fun W v h1 h2 => implDevicesOk_any d v lo hi W h1 h2 HS.out)
  clear h1 h2 h3 R0 hs
  rw [hB] at HOK
  have e1 : nm.toList.isEmpty = false := by rw [ByteArray.toList_eq]; cases h : nm.data.toList with | nil => exact absurd (by rw [ByteArray.size, ← Array.length_toList, h]; rfl) hz | cons a l => rfl
  have e2 : (!nm.toList.isEmpty) = true := by rw [e1]; rfl
  go_enter Try.func51, Try.ntmps51
  go_wp2_with fail
  refine (HOK.out _ _ (HR0.out.get 2 rfl) (HR0.out.le 2 rfl)).mono ?_
  rintro e1 w1 ⟨rfl, hb1⟩
  have HR1 := Lib.hid (HR0.out.below hb1); clear hb1 HR0 HOK
  have fr := (HR1.out.get 0 rfl).cell
  have zr := (HR1.out.get 0 rfl).frozen
  have sr := HR1.out.le 0 rfl
  go_wp2_with fail
  refine (implNameOk_any nm _ (by omega)).mono ?_
  rintro e9 w9 ⟨rfl, rfl⟩
  rw [hN]
  go_wp2_with fail
  refine bodyPost_ret (v := .tuple #[.agg #[.int .i64 0, .int .i64 0, .int .i64 0, .slice none 0 0, .slice none 0 0, .slice none 0 0], .int .i64 1]) (by simp [results, Try.results51, go_sem, fr]) rfl ⟨_, rfl, ?_, ?_⟩
  · exact (ownDev_none _ _ _ (by first | (simp [World.setCell]; done) | (simp [World.setCell]; omega)))
  · iterate 6 (with_reducible refine Below.setCell ?_ (by simp; try omega) _)
    exact HR1.out.1

set_option maxHeartbeats 8000000 in
set_option maxRecDepth 100000 in
theorem iUse_empty (d : Dev) (nm : ByteArray) (v : Value) (lo hi : Nat) (w : World) (hx : DevR w lo hi v d) (hhi : hi ≤ w.heap.size) (hs : DevSmall d) (hB : devB d = true) (hz : nm = ⟨#[]⟩) :
    Calls Try.prog 51 #[v, .string nm] w fun e w' => ∃ v', e = .returned (.tuple #[v', .int .i64 0]) ∧ OwnDev w' w.heap.size w'.heap.size v' ⟨0, d.scr, d.files, d.keys⟩ ∧ Below w.heap.size w w' := by
  subst hz
  have HX := Lib.hid hx; have HS := Lib.hid hs
  obtain ⟨A, c, F, cf, J, cj, rfl, h1, h2, h3⟩ := hx
  have R0 := (((Stand.nil w).add lo hi _ (loc_devR lo hi (.agg (devCs d A c F cf J cj)) d) hhi HX.out).box 61 (devCs d A c F cf J cj)).box 61 #[.int .i64 0, .int .i64 0, .int .i64 0, .slice none 0 0, .slice none 0 0, .slice none 0 0]
  rw [heap_size_alloc1] at R0
  have HR0 := Lib.hid R0
  have HOK := Lib.hid (fun W v h1 h2 => implDevicesOk_any d v lo hi W h1 h2 HS.out)
  clear h1 h2 h3 R0 hs
  rw [hB] at HOK
  have HGD := Lib.hid (DevGood.of hB)
  have hn3 := HGD.out.n3
  have hr0 : 0 < d.scr.rows.length := by have := HGD.out.fine.len; omega
  go_enter Try.func51, Try.ntmps51
  go_wp2_with fail
  refine (HOK.out _ _ (HR0.out.get 2 rfl) (HR0.out.le 2 rfl)).mono ?_
  rintro e1 w1 ⟨rfl, hb1⟩
  have HR1 := Lib.hid (HR0.out.below hb1); clear hb1 HR0 HOK
  have f1 := (HR1.out.get 1 rfl).cell
  go_wp2_with fail
  refine (copyDevices_own d _ lo hi _ (HR1.out.get 2 rfl) (HR1.out.le 2 rfl) hr0 HS.out).mono ?_
  rintro e2 w2 ⟨p, A2, c2, V, cv, K2, ck2, rfl, hp1, hp2, hBp, ⟨a1, b1, a3, b3, B, hq, x13, ⟨oA, oAb⟩, ⟨xs, hxs, hfx⟩, oK, oKb⟩, hb2⟩
  have s1 := HR1.out.le 0 rfl
  have s2 := hb2.size
  have HR2 := Lib.hid (HR1.out.below hb2); clear hb2 f1 HR1
  have HQ := Lib.hid hq; have HX13 := Lib.hid x13; have HOA := Lib.hid oA; have HOAB := Lib.hid oAb; have HXS := Lib.hid hxs; have HFX := Lib.hid hfx; have HOK := Lib.hid oK; have HOKB := Lib.hid oKb; have HBP := Lib.hid hBp
  have hpB := hq.2.2.2.2.1; have hBw := hq.2.2.2.2.2; have hwp := hp1
  clear hq x13 oA oAb hxs hfx oK oKb hBp
  have fp := HBP.out.cell; have zp := HBP.out.frozen; have fr := (HR2.out.get 0 rfl).cell; have zr := (HR2.out.get 0 rfl).frozen
  have HBEL := Lib.hid HR2.out.1; clear HR2
  go_wp2_with fail
  refine bodyPost_ret (v := .tuple #[.agg #[.int .i64 (0), .int .i64 d.scr.row, .int .i64 d.scr.col, .slice A2 d.scr.rows.length c2, .slice V d.files.length cv, .slice K2 d.keys.length ck2], .int .i64 0]) (by simp [results, Try.results51, go_sem, fr]) rfl ⟨_, rfl, ?_, ?_⟩
  · obtain ⟨q1, q2, q3, q4, q5, q6⟩ := HQ.out
    refine ownDev_mk (W := w2) (p := p) (r := w.heap.size + 1) (d := ⟨0, d.scr, d.files, d.keys⟩) (lo := w.heap.size) ⟨by omega, q2, by omega, q4, q5, by omega⟩ ⟨by omega, by omega, by omega⟩ (by omega) HX13.out HOA.out HOAB.out HXS.out HFX.out HOK.out HOKB.out (fun b h1 h2 => ?_) (by simp [World.setCell])
    iterate 7 (with_reducible rw [Below.heap_setCell _ _ _ b (by simp; omega)])
  · iterate 7 (with_reducible refine Below.setCell ?_ (by simp; try omega) _)
    exact HBEL.out

set_option maxHeartbeats 8000000 in
set_option maxRecDepth 100000 in
theorem iUse_there (d : Dev) (nm : ByteArray) (v : Value) (lo hi : Nat) (w : World) (hx : DevR w lo hi v d) (hhi : hi ≤ w.heap.size) (hs : DevSmall d) (hB : devB d = true) (hz : ¬ nm.size = 0) (hN : nameB nm = true) (hl : nm.size ≤ 1048576) (hT : thereB d.files nm = true) :
    Calls Try.prog 51 #[v, .string nm] w fun e w' => ∃ v', e = .returned (.tuple #[v', .int .i64 0]) ∧ OwnDev w' w.heap.size w'.heap.size v' ⟨(place d.files nm : Int) + 1, d.scr, d.files, d.keys⟩ ∧ Below w.heap.size w w' := by
  have HX := Lib.hid hx; have HS := Lib.hid hs
  obtain ⟨A, c, F, cf, J, cj, rfl, h1, h2, h3⟩ := hx
  have R0 := (((Stand.nil w).add lo hi _ (loc_devR lo hi (.agg (devCs d A c F cf J cj)) d) hhi HX.out).box 61 (devCs d A c F cf J cj)).box 61 #[.int .i64 0, .int .i64 0, .int .i64 0, .slice none 0 0, .slice none 0 0, .slice none 0 0]
  rw [heap_size_alloc1] at R0
  have HR0 := Lib.hid R0
  have HOK := Lib.hid (fun W v h1 h2 => implDevicesOk_any d v lo hi W h1 h2 HS.out)
  clear h1 h2 h3 R0 hs
  rw [hB] at HOK
  have HGD := Lib.hid (DevGood.of hB)
  have hn3 := HGD.out.n3
  have hr0 : 0 < d.scr.rows.length := by have := HGD.out.fine.len; omega
  have HFI := Lib.hid (fun p A2 c2 V cv K2 ck2 lo hi W hB h1 h2 => file_any p d A2 c2 V cv K2 ck2 lo hi nm W hB h1 h2 (by omega) HGD.out.sorted)
  rw [hT] at HFI
  have hPn := place_le d.files nm
  generalize hPL : place d.files nm = P at *
  clear hPL
  have e1 : nm.toList.isEmpty = false := by rw [ByteArray.toList_eq]; cases h : nm.data.toList with | nil => exact absurd (by rw [ByteArray.size, ← Array.length_toList, h]; rfl) hz | cons a l => rfl
  have e2 : (!nm.toList.isEmpty) = true := by rw [e1]; rfl
  go_enter Try.func51, Try.ntmps51
  go_wp2_with fail
  refine (HOK.out _ _ (HR0.out.get 2 rfl) (HR0.out.le 2 rfl)).mono ?_
  rintro e1 w1 ⟨rfl, hb1⟩
  have HR1 := Lib.hid (HR0.out.below hb1); clear hb1 HR0 HOK
  have f1 := (HR1.out.get 1 rfl).cell
  go_wp2_with fail
  refine (implNameOk_any nm _ (by omega)).mono ?_
  rintro e9 w9 ⟨rfl, rfl⟩
  rw [hN]
  go_wp2_with fail
  refine (copyDevices_own d _ lo hi _ (HR1.out.get 2 rfl) (HR1.out.le 2 rfl) hr0 HS.out).mono ?_
  rintro e2 w2 ⟨p, A2, c2, V, cv, K2, ck2, rfl, hp1, hp2, hBp, ⟨a1, b1, a3, b3, B, hq, x13, ⟨oA, oAb⟩, ⟨xs, hxs, hfx⟩, oK, oKb⟩, hb2⟩
  have s1 := HR1.out.le 0 rfl
  have s2 := hb2.size
  have HR2 := Lib.hid (HR1.out.below hb2); clear hb2 f1 HR1
  have HQ := Lib.hid hq; have HX13 := Lib.hid x13; have HOA := Lib.hid oA; have HOAB := Lib.hid oAb; have HXS := Lib.hid hxs; have HFX := Lib.hid hfx; have HOK := Lib.hid oK; have HOKB := Lib.hid oKb; have HBP := Lib.hid hBp
  have hpB := hq.2.2.2.2.1; have hBw := hq.2.2.2.2.2; have hwp := hp1
  clear hq x13 oA oAb hxs hfx oK oKb hBp
  have hfr := HFX.out.fils.reads
  rw [HXS.out] at hfr
  have HFR := Lib.hid hfr; clear hfr
  have fp := HBP.out.cell
  go_wp2_with fail
  refine (HFI.out _ _ _ _ _ _ _ _ _ _ HBP.out HFR.out (Nat.le_refl _)).mono ?_
  rintro e3 w3 ⟨rfl, hb3⟩
  have s3 := hb3.size
  have HR3 := Lib.hid (HR2.out.below hb3); have HBP3 := Lib.hid (HBP.out.below hb3 HBP.out.lt); have HOA3 := Lib.hid (own_below HOA.out hb3); have HOK3 := Lib.hid (own_below HOK.out hb3)
  have HFX3 := Lib.hid ((loc_ownFx _ _ _ xs w2 w3 (fun b h1 h2 => hb3.block b h2) HFX.out).more s3)
  clear hb3 HR2 HBP HOA HOK HFX HFR HFI fp
  have fp := HBP3.out.cell; have zp := HBP3.out.frozen; have fr := (HR3.out.get 0 rfl).cell; have zr := (HR3.out.get 0 rfl).frozen
  have HBEL := Lib.hid HR3.out.1; clear HR3
  have j0 : (P : Int) + 1 ≤ 4 := by omega
  go_wp2_with fail
  refine bodyPost_ret (v := .tuple #[.agg #[.int .i64 ((P : Int) + 1), .int .i64 d.scr.row, .int .i64 d.scr.col, .slice A2 d.scr.rows.length c2, .slice V d.files.length cv, .slice K2 d.keys.length ck2], .int .i64 0]) (by simp [results, Try.results51, go_sem, fr]) rfl ⟨_, rfl, ?_, ?_⟩
  · obtain ⟨q1, q2, q3, q4, q5, q6⟩ := HQ.out
    refine ownDev_mk (W := w3) (p := p) (r := w.heap.size + 1) (d := ⟨(P : Int) + 1, d.scr, d.files, d.keys⟩) (lo := w.heap.size) ⟨by omega, q2, by omega, q4, q5, by omega⟩ ⟨by omega, by omega, by omega⟩ (by omega) HX13.out HOA3.out HOAB.out HXS.out HFX3.out HOK3.out HOKB.out (fun b h1 h2 => ?_) (by simp [World.setCell])
    iterate 7 (with_reducible rw [Below.heap_setCell _ _ _ b (by simp; omega)])
  · iterate 7 (with_reducible refine Below.setCell ?_ (by simp; try omega) _)
    exact HBEL.out

set_option maxHeartbeats 8000000 in
set_option maxRecDepth 100000 in
theorem iUse_many (d : Dev) (nm : ByteArray) (v : Value) (lo hi : Nat) (w : World) (hx : DevR w lo hi v d) (hhi : hi ≤ w.heap.size) (hs : DevSmall d) (hB : devB d = true) (hz : ¬ nm.size = 0) (hN : nameB nm = true) (hl : nm.size ≤ 1048576) (hT : thereB d.files nm = false) (h3 : d.files.length = 3) :
    Calls Try.prog 51 #[v, .string nm] w fun e w' => ∃ v', e = .returned (.tuple #[v', .int .i64 4]) ∧ OwnDev w' w.heap.size w'.heap.size v' noDev ∧ Below w.heap.size w w' := by
  have H3 := Lib.hid h3; clear h3
  have HX := Lib.hid hx; have HS := Lib.hid hs
  obtain ⟨A, c, F, cf, J, cj, rfl, h1, h2, h3⟩ := hx
  have R0 := (((Stand.nil w).add lo hi _ (loc_devR lo hi (.agg (devCs d A c F cf J cj)) d) hhi HX.out).box 61 (devCs d A c F cf J cj)).box 61 #[.int .i64 0, .int .i64 0, .int .i64 0, .slice none 0 0, .slice none 0 0, .slice none 0 0]
  rw [heap_size_alloc1] at R0
  have HR0 := Lib.hid R0
  have HOK := Lib.hid (fun W v h1 h2 => implDevicesOk_any d v lo hi W h1 h2 HS.out)
  clear h1 h2 h3 R0 hs
  rw [hB] at HOK
  have HGD := Lib.hid (DevGood.of hB)
  have hn3 := HGD.out.n3
  have hr0 : 0 < d.scr.rows.length := by have := HGD.out.fine.len; omega
  have HFI := Lib.hid (fun p A2 c2 V cv K2 ck2 lo hi W hB h1 h2 => file_any p d A2 c2 V cv K2 ck2 lo hi nm W hB h1 h2 (by omega) HGD.out.sorted)
  rw [hT] at HFI
  have hPn := place_le d.files nm
  generalize hPL : place d.files nm = P at *
  clear hPL
  have e1 : nm.toList.isEmpty = false := by rw [ByteArray.toList_eq]; cases h : nm.data.toList with | nil => exact absurd (by rw [ByteArray.size, ← Array.length_toList, h]; rfl) hz | cons a l => rfl
  have e2 : (!nm.toList.isEmpty) = true := by rw [e1]; rfl
  go_enter Try.func51, Try.ntmps51
  go_wp2_with fail
  refine (HOK.out _ _ (HR0.out.get 2 rfl) (HR0.out.le 2 rfl)).mono ?_
  rintro e1 w1 ⟨rfl, hb1⟩
  have HR1 := Lib.hid (HR0.out.below hb1); clear hb1 HR0 HOK
  have f1 := (HR1.out.get 1 rfl).cell
  go_wp2_with fail
  refine (implNameOk_any nm _ (by omega)).mono ?_
  rintro e9 w9 ⟨rfl, rfl⟩
  rw [hN]
  go_wp2_with fail
  refine (copyDevices_own d _ lo hi _ (HR1.out.get 2 rfl) (HR1.out.le 2 rfl) hr0 HS.out).mono ?_
  rintro e2 w2 ⟨p, A2, c2, V, cv, K2, ck2, rfl, hp1, hp2, hBp, ⟨a1, b1, a3, b3, B, hq, x13, ⟨oA, oAb⟩, ⟨xs, hxs, hfx⟩, oK, oKb⟩, hb2⟩
  have s1 := HR1.out.le 0 rfl
  have s2 := hb2.size
  have HR2 := Lib.hid (HR1.out.below hb2); clear hb2 f1 HR1
  have HQ := Lib.hid hq; have HX13 := Lib.hid x13; have HOA := Lib.hid oA; have HOAB := Lib.hid oAb; have HXS := Lib.hid hxs; have HFX := Lib.hid hfx; have HOK := Lib.hid oK; have HOKB := Lib.hid oKb; have HBP := Lib.hid hBp
  have hpB := hq.2.2.2.2.1; have hBw := hq.2.2.2.2.2; have hwp := hp1
  clear hq x13 oA oAb hxs hfx oK oKb hBp
  have hfr := HFX.out.fils.reads
  rw [HXS.out] at hfr
  have HFR := Lib.hid hfr; clear hfr
  have fp := HBP.out.cell
  go_wp2_with fail
  refine (HFI.out _ _ _ _ _ _ _ _ _ _ HBP.out HFR.out (Nat.le_refl _)).mono ?_
  rintro e3 w3 ⟨rfl, hb3⟩
  have s3 := hb3.size
  have HR3 := Lib.hid (HR2.out.below hb3); have HBP3 := Lib.hid (HBP.out.below hb3 HBP.out.lt); have HOA3 := Lib.hid (own_below HOA.out hb3); have HOK3 := Lib.hid (own_below HOK.out hb3)
  have HFX3 := Lib.hid ((loc_ownFx _ _ _ xs w2 w3 (fun b h1 h2 => hb3.block b h2) HFX.out).more s3)
  clear hb3 HR2 HBP HOA HOK HFX HFR HFI fp
  have t3 : ((d.files.length : Int) == 3) = true := by rw [H3.out]; rfl
  have fp := HBP3.out.cell; have fr := (HR3.out.get 0 rfl).cell; have zr := (HR3.out.get 0 rfl).frozen; have sr := HR3.out.le 0 rfl
  go_wp2_with fail
  refine bodyPost_ret (v := .tuple #[.agg #[.int .i64 0, .int .i64 0, .int .i64 0, .slice none 0 0, .slice none 0 0, .slice none 0 0], .int .i64 4]) (by simp [results, Try.results51, go_sem, fr]) rfl ⟨_, rfl, ?_, ?_⟩
  · exact (ownDev_none _ _ _ (by first | (simp [World.setCell]; done) | (simp [World.setCell]; omega)))
  · iterate 6 (with_reducible refine Below.setCell ?_ (by simp; try omega) _)
    exact HR3.out.1

set_option maxHeartbeats 8000000 in
set_option maxRecDepth 100000 in
theorem iUse_new (d : Dev) (nm : ByteArray) (v : Value) (lo hi : Nat) (w : World) (hx : DevR w lo hi v d) (hhi : hi ≤ w.heap.size) (hs : DevSmall d) (hB : devB d = true) (hz : ¬ nm.size = 0) (hN : nameB nm = true) (hl : nm.size ≤ 1048576) (hT : thereB d.files nm = false) (h3 : ¬ d.files.length = 3) :
    Calls Try.prog 51 #[v, .string nm] w fun e w' => ∃ v', e = .returned (.tuple #[v', .int .i64 0]) ∧ OwnDev w' w.heap.size w'.heap.size v' ⟨(place d.files nm : Int) + 1, d.scr, ins (place d.files nm) (filNew nm) d.files, d.keys⟩ ∧ Below w.heap.size w w' := by
  have HX := Lib.hid hx; have HS := Lib.hid hs
  obtain ⟨A, c, F, cf, J, cj, rfl, h1, h2, h3⟩ := hx
  have R0 := (((Stand.nil w).add lo hi _ (loc_devR lo hi (.agg (devCs d A c F cf J cj)) d) hhi HX.out).box 61 (devCs d A c F cf J cj)).box 61 #[.int .i64 0, .int .i64 0, .int .i64 0, .slice none 0 0, .slice none 0 0, .slice none 0 0]
  rw [heap_size_alloc1] at R0
  have HR0 := Lib.hid R0
  have HOK := Lib.hid (fun W v h1 h2 => implDevicesOk_any d v lo hi W h1 h2 HS.out)
  clear h1 h2 h3 R0 hs
  rw [hB] at HOK
  have HGD := Lib.hid (DevGood.of hB)
  have hn3 := HGD.out.n3
  have hr0 : 0 < d.scr.rows.length := by have := HGD.out.fine.len; omega
  have HFI := Lib.hid (fun p A2 c2 V cv K2 ck2 lo hi W hB h1 h2 => file_any p d A2 c2 V cv K2 ck2 lo hi nm W hB h1 h2 (by omega) HGD.out.sorted)
  rw [hT] at HFI
  have hPn := place_le d.files nm
  generalize hPL : place d.files nm = P at *
  clear hPL
  have e1 : nm.toList.isEmpty = false := by rw [ByteArray.toList_eq]; cases h : nm.data.toList with | nil => exact absurd (by rw [ByteArray.size, ← Array.length_toList, h]; rfl) hz | cons a l => rfl
  have e2 : (!nm.toList.isEmpty) = true := by rw [e1]; rfl
  go_enter Try.func51, Try.ntmps51
  go_wp2_with fail
  refine (HOK.out _ _ (HR0.out.get 2 rfl) (HR0.out.le 2 rfl)).mono ?_
  rintro e1 w1 ⟨rfl, hb1⟩
  have HR1 := Lib.hid (HR0.out.below hb1); clear hb1 HR0 HOK
  have f1 := (HR1.out.get 1 rfl).cell
  go_wp2_with fail
  refine (implNameOk_any nm _ (by omega)).mono ?_
  rintro e9 w9 ⟨rfl, rfl⟩
  rw [hN]
  go_wp2_with fail
  refine (copyDevices_own d _ lo hi _ (HR1.out.get 2 rfl) (HR1.out.le 2 rfl) hr0 HS.out).mono ?_
  rintro e2 w2 ⟨p, A2, c2, V, cv, K2, ck2, rfl, hp1, hp2, hBp, ⟨a1, b1, a3, b3, B, hq, x13, ⟨oA, oAb⟩, ⟨xs, hxs, hfx⟩, oK, oKb⟩, hb2⟩
  have s1 := HR1.out.le 0 rfl
  have s2 := hb2.size
  have HR2 := Lib.hid (HR1.out.below hb2); clear hb2 f1 HR1
  have HQ := Lib.hid hq; have HX13 := Lib.hid x13; have HOA := Lib.hid oA; have HOAB := Lib.hid oAb; have HXS := Lib.hid hxs; have HFX := Lib.hid hfx; have HOK := Lib.hid oK; have HOKB := Lib.hid oKb; have HBP := Lib.hid hBp
  have hpB := hq.2.2.2.2.1; have hBw := hq.2.2.2.2.2; have hwp := hp1
  clear hq x13 oA oAb hxs hfx oK oKb hBp
  have hfr := HFX.out.fils.reads
  rw [HXS.out] at hfr
  have HFR := Lib.hid hfr; clear hfr
  have fp := HBP.out.cell
  go_wp2_with fail
  refine (HFI.out _ _ _ _ _ _ _ _ _ _ HBP.out HFR.out (Nat.le_refl _)).mono ?_
  rintro e3 w3 ⟨rfl, hb3⟩
  have s3 := hb3.size
  have HR3 := Lib.hid (HR2.out.below hb3); have HBP3 := Lib.hid (HBP.out.below hb3 HBP.out.lt); have HOA3 := Lib.hid (own_below HOA.out hb3); have HOK3 := Lib.hid (own_below HOK.out hb3)
  have HFX3 := Lib.hid ((loc_ownFx _ _ _ xs w2 w3 (fun b h1 h2 => hb3.block b h2) HFX.out).more s3)
  clear hb3 HR2 HBP HOA HOK HFX HFR HFI fp
  have t3 : ((d.files.length : Int) == 3) = false := by rw [beq_eq_false_iff_ne]; omega
  have HXL := Lib.hid (show xs.length = d.files.length by rw [← HXS.out]; simp)
  have fp := HBP3.out.cell; have j0 : (P : Int) + 1 ≤ 4 := by omega
  go_wp2_with fail
  have hfb := (loc_ownFx _ _ _ xs w3 (w3.alloc (.cells #[.string nm, .slice none 0 0, .string ⟨#[]⟩, .int .i64 0] 91)) (fun b _ h2 => Below.heap_alloc w3 _ b h2) HFX3.out)
  have hrw := hfb.row
  rw [HXL.out] at hrw
  have hsa : (w3.alloc (.cells #[.string nm, .slice none 0 0, .string ⟨#[]⟩, .int .i64 0] 91)).heap.size = w3.heap.size + 1 := by simp
  have hvb : ∀ g, (Value.slice V d.files.length cv).ownBlock = some g → g < w3.heap.size := fun g hg => HFX3.out.top g hg
  refine (insertFil_any (.slice V d.files.length cv) d.files.length P w3.heap.size 1 B (flat xs) (Fx.cells ⟨filNew nm, none, 0⟩) _ hrw hPn (by omega) (by omega) (Blk.new w3 91 #[.string nm, .slice none 0 0, .string ⟨#[]⟩, .int .i64 0]) (fun e => by have := hvb _ e; omega) rfl (by intro u hu; simp only [Fx.cells, Fx.sl, List.mem_cons, List.not_mem_nil, or_false] at hu; rcases hu with rfl | rfl | rfl | rfl <;> rfl) (flat_one xs)).mono ?_
  rintro e4 w4 ⟨g', cap', rfl, hr4, hg4, hat4⟩
  have s4 : w3.heap.size + 1 ≤ w4.heap.size := by have := hg4.size; omega
  have hfx4 := OwnFx.insert (k := P) (y := ⟨filNew nm, none, 0⟩) hfb (by rw [hsa]; omega) rfl rfl hg4 hat4 (by rw [HXL.out]; exact hr4)
  rw [HXL.out] at hfx4
  have hkb : ∀ b, b < B → w4.heap[b]? = w3.heap[b]? := fun b hb => (hg4.block b (by omega) (fun e => by have := (hrw.lt b e.symm).1; omega)).trans (Below.heap_alloc w3 _ b (by omega))
  have HBP4 := Lib.hid (show Blk w4 p 61 (devCs d A2 c2 V cv K2 ck2) from (hkb p hpB).trans HBP3.out)
  have HRB4 := Lib.hid (show Blk w4 (w.heap.size + 1) 61 #[.int .i64 0, .int .i64 0, .int .i64 0, .slice none 0 0, .slice none 0 0, .slice none 0 0] from (hkb _ (by omega)).trans (HR3.out.get 0 rfl))
  have HBEL := Lib.hid (show Below w.heap.size w w4 from ((HR3.out.1.alloc (by have := HR3.out.1.size; omega) _).grown hg4 (by omega) (fun k hk => by have := (hrw.lt k hk).1; omega)))
  have HOA4 := Lib.hid (own_keep (hi := b1) HOA3.out HOAB.out (fun b h1 h2 => hkb b (by have := HQ.out.2.1; omega)))
  have HOK4 := Lib.hid (own_keep (hi := b3) HOK3.out HOKB.out (fun b h1 h2 => hkb b (by have := HQ.out.2.2.2.1; omega)))
  have HFX4 := Lib.hid hfx4; have HIL := Lib.hid (ins_len P (filNew nm) d.files); have HIM := Lib.hid (show (ins P (⟨filNew nm, none, 0⟩ : Fx) xs).map Fx.f = ins P (filNew nm) d.files by rw [ins_map, HXS.out])
  clear hfb hrw hsa hvb hr4 hg4 hat4 hfx4 hkb HFX3 HBP3 HOA3 HOK3 HR3 fp
  have fp := HBP4.out.cell; have zp := HBP4.out.frozen; have fr := HRB4.out.cell; have zr := HRB4.out.frozen
  go_wp2_with fail
  refine bodyPost_ret (v := .tuple #[.agg #[.int .i64 ((P : Int) + 1), .int .i64 d.scr.row, .int .i64 d.scr.col, .slice A2 d.scr.rows.length c2, .slice (some ⟨g', 0, none⟩) (d.files.length + 1) cap', .slice K2 d.keys.length ck2], .int .i64 0]) (by simp [results, Try.results51, go_sem, fr]) rfl ⟨_, rfl, ?_, ?_⟩
  · obtain ⟨q1, q2, q3, q4, q5, q6⟩ := HQ.out
    rw [← HIL.out]
    refine ownDev_mk (W := w4) (p := p) (r := w.heap.size + 1) (d := ⟨(P : Int) + 1, d.scr, ins P (filNew nm) d.files, d.keys⟩) (lo := w.heap.size) ⟨by omega, q2, by omega, q4, q5, by omega⟩ ⟨by omega, by omega, by omega⟩ (by omega) HX13.out HOA4.out HOAB.out HIM.out (by have := HFX4.out; rw [← HIL.out] at this; exact this) HOK4.out HOKB.out (fun b h1 h2 => ?_) (by simp [World.setCell])
    iterate 8 (with_reducible rw [Below.heap_setCell _ _ _ b (by simp; omega)])
  · iterate 8 (with_reducible refine Below.setCell ?_ (by simp; try omega) _)
    exact HBEL.out

theorem implUseDevice_any (d : Dev) (nm : ByteArray) (v : Value) (lo hi : Nat) (w : World) (hx : DevR w lo hi v d) (hhi : hi ≤ w.heap.size) (hs : DevSmall d) (hl : nm.size ≤ 1048576) :
    Calls Try.prog 51 #[v, .string nm] w fun e w' => ∃ v', e = .returned (.tuple #[v', .int .i64 (useP d nm).2]) ∧ OwnDev w' w.heap.size w'.heap.size v' (useP d nm).1 ∧ Below w.heap.size w w' := by
  cases hB : devB d
  · rw [show useP d nm = (noDev, 1) by simp [useP, hB]]
    exact iUse_bad d nm v lo hi w hx hhi hs hB
  · by_cases hz : nm.size = 0
    · rw [show useP d nm = (⟨0, d.scr, d.files, d.keys⟩, 0) by simp [useP, useDev, hB, hz]]
      refine iUse_empty d nm v lo hi w hx hhi hs hB ?_
      obtain ⟨a⟩ := nm
      have : a = #[] := Array.eq_empty_of_size_eq_zero hz
      rw [this]
    · cases hN : nameB nm
      · rw [show useP d nm = (noDev, 1) by simp [useP, hB, hz, hN]]
        exact iUse_name d nm v lo hi w hx hhi hs hB hz hN hl
      · cases hT : thereB d.files nm
        · by_cases h3 : d.files.length = 3
          · rw [show useP d nm = (noDev, 4) by simp [useP, useDev, hB, hz, hN, hT, h3]]
            exact iUse_many d nm v lo hi w hx hhi hs hB hz hN hl hT h3
          · rw [show useP d nm = (⟨(place d.files nm : Int) + 1, d.scr, ins (place d.files nm) (filNew nm) d.files, d.keys⟩, 0) by simp [useP, useDev, hB, hz, hN, hT, h3]]
            exact iUse_new d nm v lo hi w hx hhi hs hB hz hN hl hT h3
        · rw [show useP d nm = (⟨(place d.files nm : Int) + 1, d.scr, d.files, d.keys⟩, 0) by simp [useP, useDev, hB, hz, hN, hT]]
          exact iUse_there d nm v lo hi w hx hhi hs hB hz hN hl hT

end Go.Proofs.Ytcfmgmbolnifgaa

/- A region that draws its order and ends in stores that hit what it loaded: the loads are taken first; what is held need not stand behind the stores ('tail operations', which wait for every load). Over any program. -/
namespace Go.Proofs.Ytcfmgmbolnifgaa

/-- Some tail operation has come up. -/
def tailBegun (z : Nat → Bool) (listed : Array Bool) : Bool := (List.range listed.size).any fun j => z j && listed.getD j false
theorem tailBegun_set {z : Nat → Bool} {listed : Array Bool} {i : Nat} (hz : z i = false) : tailBegun z (listed.setIfInBounds i true) = tailBegun z listed := by
  unfold tailBegun
  rw [Array.size_setIfInBounds]
  congr 1
  funext j
  by_cases h : i = j
  · subst h; rw [hz]; rfl
  · rw [getD_set_ne false h]
theorem tailBegun_mono {z : Nat → Bool} {listed : Array Bool} {i : Nat} (h : tailBegun z (listed.setIfInBounds i true) = false) : tailBegun z listed = false := by
  unfold tailBegun at h ⊢
  rw [Array.size_setIfInBounds] at h
  rw [List.any_eq_false] at h ⊢
  intro j hj hc
  refine h j hj ?_
  rw [Bool.and_eq_true] at hc ⊢
  exact ⟨hc.1, getD_set_true hc.2⟩

section
variable {P : Program} {ops : Array Oper} {Q : Exit → Go.Act → World → Prop} {md : Region.Mode} {S : World → Prop} {z : Nat → Bool}

/-- Whatever order is picked: S stands as long as no tail operation has come up. -/
def AnyT (P : Program) (md : Region.Mode) (ops : Array Oper) (Q : Exit → Go.Act → World → Prop) (S : World → Prop) (z : Nat → Bool) : Nat → Array Bool → Go.Act → World → Prop
  | 0, listed, a, w => Region.ready md ops listed = [] ∧ Q .normal a w
  | n + 1, listed, a, w => (Region.ready md ops listed = [] → Q .normal a w) ∧
    ∀ i ∈ Region.ready md ops listed, wpOp P ops Q i (fun a' w' => (tailBegun z (listed.setIfInBounds i true) = false → S w') ∧ AnyT P md ops Q S z n (listed.setIfInBounds i true) a' w') a w

theorem AnyT.any : ∀ (n : Nat) (listed : Array Bool) (a : Go.Act) (w : World), AnyT P md ops Q S z n listed a w → wpAny P md ops Q n listed a w
  | 0, _, _, _, h => h
  | n + 1, _, _, _, h => ⟨h.1, fun i hi => wpOp_mono (fun a' w' h' => AnyT.any n _ a' w' h'.2) (h.2 i hi)⟩

/-- An operation that yields under S comes first, if all tail operations wait for it; one that yields in whatever world comes first anyhow. -/
theorem AnyT.first {S' : World → Prop} {i : Nat} {oi : Oper} {v : Value} (hi : ops[i]? = some oi) (hs : Region.noSelect ops = true) (hQ : ∀ c a w, Q (.panic c) (a.put oi.dst v) w → Q (.panic c) a w) (hzi : z i = false)
    (hz : (∀ w, S w → S' w) ∧ (∀ j oj, ops[j]? = some oj → z j = true → ∃ e ∈ oj.after, Region.binds md e = true ∧ e.on = i) ∨ ∀ w, S' w) :
    ∀ (n : Nat) (listed : Array Bool), (∀ j oj, ops[j]? = some oj → j ≠ i → listed.getD j true = false → (∀ e ∈ oj.after, Region.binds md e = true → e.on ≠ i) → oi.apart ops oj = true) →
      i ∈ Region.ready md ops listed → (tailBegun z listed = false ∨ ∀ w, S' w) → ∀ (a : Go.Act) (w : World), YieldsIf P ops S' oi v a → (tailBegun z listed = false → S w) → AnyT P md ops Q S z n (listed.setIfInBounds i true) (a.put oi.dst v) w → AnyT P md ops Q S z (n + 1) listed a w := by
  have hSS : ∀ (listed : Array Bool) (w : World), (tailBegun z listed = false ∨ ∀ w, S' w) → (tailBegun z listed = false → S w) → S' w := by
    intro listed w ht hS
    rcases hz with hz | hz
    · rcases ht with ht | ht
      · exact hz.1 w (hS ht)
      · exact ht w
    · exact hz w
  intro n
  induction n with
  | zero =>
    intro listed hfree hr ht a w hy hS H
    constructor
    · intro h0; rw [h0] at hr; cases hr
    · intro j hj
      rcases Nat.decEq j i with hne | heq
      · have hm := ready_mono hj hne
        rw [H.1] at hm
        cases hm
      · subst heq
        exact hy.wpOp hi (hSS listed w ht hS) ⟨fun h => hS (tailBegun_mono h), H⟩
  | succ n ih =>
    intro listed hfree hr ht a w hy hS H
    constructor
    · intro h0; rw [h0] at hr; cases hr
    · intro j hj
      rcases Nat.decEq j i with hne | heq
      · have hnext := H.2 j (ready_mono hj hne)
        obtain ⟨hun, oj, hoj, hdone⟩ := mem_ready.1 hj
        have hwait : ∀ e ∈ oj.after, Region.binds md e = true → e.on ≠ i := by
          intro e he hb hon
          have hl := hdone e he hb
          have hu := (mem_ready.1 hr).1
          rw [hon] at hl
          by_cases hlt : i < listed.size
          · simp [hlt] at hl hu; rw [hl] at hu; cases hu
          · simp [Array.getElem?_eq_none (Nat.le_of_not_lt hlt)] at hl
        have ht' : tailBegun z (listed.setIfInBounds j true) = false ∨ ∀ w, S' w := by
          rcases hz with hz | hz
          · rcases ht with ht | ht
            · left
              have hzj : z j = false := by
                cases hzz : z j with
                | false => rfl
                | true =>
                  obtain ⟨e, he, hb, hon⟩ := hz.2 j oj hoj hzz
                  exact absurd hon (hwait e he hb)
              rw [tailBegun_set hzj]; exact ht
            · exact .inr ht
          · exact .inr hz
        have hstep := wpOp_putIf hoj (hfree j oj hoj hne hun hwait) (fun cs b => Region.noSelect_spec hs i oi cs b hi) (fun cs b => Region.noSelect_spec hs j oj cs b hoj) hQ hy hnext
        refine wpOp_mono (fun a' w' h3 => ?_) hstep
        obtain ⟨hy', hS', hrest⟩ := h3
        have hcom : (listed.setIfInBounds i true).setIfInBounds j true = (listed.setIfInBounds j true).setIfInBounds i true := Array.setIfInBounds_comm _ _ (Ne.symm hne)
        rw [hcom, tailBegun_set hzi] at hS'
        refine ⟨hS', ih (listed.setIfInBounds j true) (fun k ok hok hki huk hnk => hfree k ok hok hki ?_ hnk) (ready_mono hr (Ne.symm hne)) ht' a' w' hy' hS' ?_⟩
        · by_cases hjk : j = k
          · subst hjk; exact hun
          · rw [getD_set_ne true hjk] at huk; exact huk
        · rw [← hcom]
          exact hrest
      · subst heq
        exact hy.wpOp hi (hSS listed w ht hS) ⟨fun h => hS (tailBegun_mono h), H⟩

/-- Every tail operation waits for number i. -/
def tailWaits (md : Region.Mode) (ops : Array Oper) (z : Nat → Bool) (i : Nat) : Bool :=
  (List.range ops.size).all fun j => !z j || match ops[j]? with | some oj => oj.after.any (fun e => Region.binds md e && e.on == i) | none => true
theorem tailWaits_spec {i : Nat} (h : tailWaits md ops z i = true) (j : Nat) (oj : Oper) (hj : ops[j]? = some oj) (hz : z j = true) : ∃ e ∈ oj.after, Region.binds md e = true ∧ e.on = i := by
  unfold tailWaits at h
  have h1 := List.all_eq_true.1 h j (List.mem_range.2 (Array.getElem?_eq_some_iff.1 hj).1)
  rw [hz, hj] at h1
  simp only [Bool.not_true, Bool.false_or] at h1
  obtain ⟨e, he, hb⟩ := Array.any_eq_true'.1 h1
  rw [Bool.and_eq_true] at hb
  exact ⟨e, he, hb.1, by simpa using hb.2⟩

theorem AnyT.done {listed : Array Bool} {a : Go.Act} {w : World} (hr : Region.ready md ops listed = []) (h : Q .normal a w) : ∀ n, AnyT P md ops Q S z n listed a w
  | 0 => ⟨hr, h⟩
  | _ + 1 => ⟨fun _ => h, fun i hi => by rw [hr] at hi; cases hi⟩

/-- The beginning. -/
theorem AnyT.region {id : Nat} {a : Go.Act} {w : World} (z : Nat → Bool) (S : World → Prop) (hm : P.follows .mixedOrders = true) (hS : S w.drew) (h : S w.drew → AnyT P .any ops Q S z ops.size (Array.replicate ops.size false) a w.drew) : (Code.region id ops true).wp P Q a w :=
  wp_region_any hm (AnyT.any _ _ _ _ (h hS))

end

section
variable {P : Program} {l : List Oper} {Q : Exit → Go.Act → World → Prop} {md : Region.Mode} {S : World → Prop} {z : Nat → Bool}

/-- A load, or what hangs on S otherwise. -/
theorem AnyT.take (i d : Nat) (v : Value) {oi : Oper} {n : Nat} {listed : Array Bool} {a : Go.Act} {w : World} (hi : l[i]? = some oi) (hs : Region.noSelect l.toArray = true) (hf : Region.free md l.toArray listed i = true)
    (hr : (Region.ready md l.toArray listed).contains i = true) (hz : tailWaits md l.toArray z i = true) (hzi : z i = false) (ht : tailBegun z listed = false) (hd : oi.dst = some d) (hQ : ∀ c (a : Go.Act) v w, Q (.panic c) (a.put (some d) v) w → Q (.panic c) a w)
    (hw : Region.wanted oi (yielded l.toArray a.tmps) = true) (hy : ∀ w, S w → (execOp a.eval oi).run P w = .ok (.value v) w) (hS : S w)
    (h : AnyT P md l.toArray Q S z n (listed.setIfInBounds i true) (a.put (some d) v) w) : AnyT P md l.toArray Q S z (n + 1) listed a w :=
  AnyT.first (i := i) (oi := oi) (v := v) (by simpa using hi) hs (fun c a w h => hQ c a v w (hd ▸ h)) hzi (.inl ⟨fun _ h => h, fun j oj hj hzj => tailWaits_spec hz j oj hj hzj⟩) n listed (fun j oj => Region.free_spec (by simpa using hi) hf j oj) (by simpa using hr) (.inl ht) a w (.inl ⟨hw, hy⟩) (fun _ => hS) (hd ▸ h)
/-- What yields in whatever world. -/
theorem AnyT.takeAny (i d : Nat) (v : Value) {oi : Oper} {n : Nat} {listed : Array Bool} {a : Go.Act} {w : World} (hi : l[i]? = some oi) (hs : Region.noSelect l.toArray = true) (hf : Region.free md l.toArray listed i = true)
    (hr : (Region.ready md l.toArray listed).contains i = true) (hzi : z i = false) (hd : oi.dst = some d) (hQ : ∀ c (a : Go.Act) v w, Q (.panic c) (a.put (some d) v) w → Q (.panic c) a w)
    (hw : Region.wanted oi (yielded l.toArray a.tmps) = true) (hy : ∀ w, (execOp a.eval oi).run P w = .ok (.value v) w) (hS : S w)
    (h : AnyT P md l.toArray Q S z n (listed.setIfInBounds i true) (a.put (some d) v) w) : AnyT P md l.toArray Q S z (n + 1) listed a w :=
  AnyT.first (S' := fun _ => True) (i := i) (oi := oi) (v := v) (by simpa using hi) hs (fun c a w h => hQ c a v w (hd ▸ h)) hzi (.inr fun _ => trivial) n listed (fun j oj => Region.free_spec (by simpa using hi) hf j oj) (by simpa using hr) (.inr fun _ => trivial) a w (.inl ⟨hw, fun w _ => hy w⟩) (fun _ => hS) (hd ▸ h)

/-- One operation alone may come up: behind it S is to be shown. -/
theorem AnyT.one {i : Nat} {o : Oper} {n : Nat} {listed : Array Bool} {a : Go.Act} {w : World} (hr : Region.ready md l.toArray listed = [i]) (ho : l[i]? = some o)
    (h : ∀ K' : Go.Act → World → Prop, Shut (∀ a w, S w → (S w → AnyT P md l.toArray Q S z n (listed.setIfInBounds i true) a w) → K' a w) → if Region.wanted o (yielded l.toArray a.tmps) = true then Oper.wp P o a w K' Q else K' (a.put o.dst undef) w) :
    AnyT P md l.toArray Q S z (n + 1) listed a w := by
  refine ⟨fun h0 => (by rw [hr] at h0; cases h0), fun j hj => ?_⟩
  rw [hr] at hj
  obtain rfl : j = i := by simpa using hj
  exact wpOp_step (by simpa using ho) (fun K' hK => h K' (fun a w hS hW => hK a w ⟨fun _ => hS, hW hS⟩))
/-- One operation alone may come up, and the tail has begun with it at the latest. -/
theorem AnyT.last {i : Nat} {o : Oper} {n : Nat} {listed : Array Bool} {a : Go.Act} {w : World} (hr : Region.ready md l.toArray listed = [i]) (ho : l[i]? = some o) (ht : tailBegun z (listed.setIfInBounds i true) = true)
    (h : ∀ K' : Go.Act → World → Prop, Shut (∀ a w, AnyT P md l.toArray Q S z n (listed.setIfInBounds i true) a w → K' a w) → if Region.wanted o (yielded l.toArray a.tmps) = true then Oper.wp P o a w K' Q else K' (a.put o.dst undef) w) :
    AnyT P md l.toArray Q S z (n + 1) listed a w := by
  refine ⟨fun h0 => (by rw [hr] at h0; cases h0), fun j hj => ?_⟩
  rw [hr] at hj
  obtain rfl : j = i := by simpa using hj
  exact wpOp_step (by simpa using ho) (fun K' hK => h K' (fun a w hW => hK a w ⟨fun h0 => (by rw [ht] at h0; cases h0), hW⟩))

end

end Go.Proofs.Ytcfmgmbolnifgaa

/- append of files to a row of files; files read off a row. -/
namespace Go.Proofs.Ytcfmgmbolnifgaa
open Go.RowKit

/-- The cells from A on are those of the files ys. -/
def FlatR (w : World) (A : Option Addr) (ys : List Fx) : Prop := ys = [] ∨ ∃ b off, A = some ⟨b, off, none⟩ ∧ ∀ j u, (flat ys)[j]? = some u → w.cell? ⟨b, off + j, none⟩ = some u
theorem FlatR.keep {w w' : World} {A : Option Addr} {ys : List Fx} (h : FlatR w A ys) (hk : ∀ b off, A = some ⟨b, off, none⟩ → w'.heap[b]? = w.heap[b]?) : FlatR w' A ys := by
  rcases h with h | ⟨b, off, e, h⟩
  · exact .inl h
  · exact .inr ⟨b, off, e, fun j u hj => (World.cell?_of_block (hk b off e)).trans (h j u hj)⟩

/-- A row's cells. -/
theorem row_flat {w : World} {lo : Nat} {A : Option Addr} {n c : Nat} {xs : List Fx} (h : w.ownsRow lo 91 4 (.slice A n c) n (flat xs)) (hn : 0 < n) :
    ∃ g, A = some ⟨g, 0, none⟩ ∧ lo ≤ g ∧ g < w.heap.size ∧ n ≤ c ∧ c ≤ maxLen ∧ ∀ j u, (flat xs)[j]? = some u → w.cell? ⟨g, j, none⟩ = some u := by
  rcases h.2 with ⟨_, h0⟩ | ⟨g, cap, cur, hv, hg, hh, hnc, hm, hsz, htk⟩
  · omega
  · injection hv with hA _ hc
    subst hc
    have hB : Blk w g 91 cur := hh
    refine ⟨g, hA, hg, hB.lt, hnc, hm, fun j u hj => ?_⟩
    rw [hB.cell, ← Array.getElem?_toList]
    rw [← htk, List.getElem?_take] at hj
    split at hj
    · exact hj
    · cases hj

theorem row_cases {w : World} {lo : Nat} {A : Option Addr} {n c : Nat} {xs : List Fx} (h : w.ownsRow lo 91 4 (.slice A n c) n (flat xs)) :
    (A = none ∧ n = 0 ∧ c = 0) ∨ ∃ g, A = some ⟨g, 0, none⟩ ∧ lo ≤ g ∧ g < w.heap.size ∧ n ≤ c ∧ c ≤ maxLen ∧ ∀ j u, (flat xs)[j]? = some u → w.cell? ⟨g, j, none⟩ = some u := by
  rcases h.2 with ⟨h1, h0⟩ | ⟨g, cap, cur, hv, hg, hh, hnc, hm, hsz, htk⟩
  · injection h1 with h1 _ h2
    exact .inl ⟨h1, h0, h2⟩
  · injection hv with hA _ hc
    subst hc
    have hB : Blk w g 91 cur := hh
    refine .inr ⟨g, hA, hg, hB.lt, hnc, hm, fun j u hj => ?_⟩
    rw [hB.cell, ← Array.getElem?_toList]
    rw [← htk, List.getElem?_take] at hj
    split at hj
    · exact hj
    · cases hj

theorem flat_take (k : Nat) (xs : List Fx) : flat (xs.take k) = (flat xs).take (k * 4) ∧ flat (xs.drop k) = (flat xs).drop (k * 4) := by
  induction k generalizing xs with
  | zero => simp [flat]
  | succ k ih =>
    cases xs with
    | nil => simp [flat]
    | cons x xs =>
      have hc : x.cells.length = 4 := rfl
      have e : flat (x :: xs) = x.cells ++ flat xs := by simp [flat]
      rw [e, List.take_succ_cons, List.drop_succ_cons, (ih xs).2]
      have e2 : flat (x :: xs.take k) = x.cells ++ flat (xs.take k) := by simp [flat]
      rw [e2, (ih xs).1]
      have e3 : (k + 1) * 4 = x.cells.length + k * 4 := by rw [hc]; omega
      rw [e3, List.take_length_add_append, List.drop_length_add_append]
      exact ⟨rfl, rfl⟩

theorem flatR_take {w : World} {g : Nat} {xs : List Fx} (h : ∀ j u, (flat xs)[j]? = some u → w.cell? ⟨g, j, none⟩ = some u) (k : Nat) : FlatR w (some ⟨g, 0, none⟩) (xs.take k) :=
  .inr ⟨g, 0, rfl, fun j u hj => by
    rw [(flat_take k xs).1, List.getElem?_take] at hj
    rw [Nat.zero_add]
    split at hj
    · exact h j u hj
    · cases hj⟩
theorem flatR_drop {w : World} {g : Nat} {xs : List Fx} (h : ∀ j u, (flat xs)[j]? = some u → w.cell? ⟨g, j, none⟩ = some u) (k : Nat) : FlatR w (some ⟨g, k * 4, none⟩) (xs.drop k) :=
  .inr ⟨g, k * 4, rfl, fun j u hj => by
    rw [(flat_take k xs).2, List.getElem?_drop] at hj
    exact h _ u hj⟩

/-- append(v, files...) at a row of files of the call's own. -/
theorem wp_appFx {o : Oper} {a : Go.Act} {K : Go.Act → World → Prop} {Q : Exit → Go.Act → World → Prop} (s x : Operand) (t : TypeId)
    (ho : o.op = .call { callee := .builtin .append, args := #[s, x], argTypes := #[t, t] }) (ht : Try.prog.underlying t = some (.slice 91))
    (w : World) (base : Nat) (v : Value) (xs ys : List Fx) (n m : Nat) (hs : a.eval s = v) (hown : w.ownsRow base 91 4 v n (flat xs)) (hn : xs.length = n)
    (A : Option Addr) (c : Nat) (hx : a.eval x = .slice A m c) (hm : ys.length = m) (hsrc : FlatR w A ys) (hA : A = none → m = 0 ∧ c = 0) (hlen : n + m ≤ 1000000) (hbase : base ≤ w.heap.size)
    (h : ∀ A' c' w', w'.ownsRow base 91 4 (.slice A' (n + m) c') (n + m) (flat (xs ++ ys)) → w.grownBy w' v.ownBlock → Below base w w' → K (a.put o.dst (.slice A' (n + m) c')) w') : o.wp Try.prog a w K Q := by
  obtain ⟨i0, hi0, hz0, hz1, hz2⟩ := info_parts infoFile
  have hform : ∀ {W : World} {u : Value} {k : Nat} {cs : List Value}, W.ownsRow base 91 4 u k cs → ∃ A' c', u = .slice A' k c' := fun hr => by
    rcases hr.2 with ⟨e1, e2⟩ | ⟨g, cap, cur, e1, _⟩
    · subst e2; exact ⟨none, 0, e1⟩
    · exact ⟨_, _, e1⟩
  have hlt : ∀ k, v.ownBlock = some k → base ≤ k := fun k hk => (hown.lt k hk).1
  cases A with
  | none =>
    obtain ⟨rfl, rfl⟩ := hA rfl
    have hy : ys = [] := List.eq_nil_of_length_eq_zero hm
    subst hy
    have hrun := run_append_owned_none (P := Try.prog) (w := w) base t o.type 91 i0 4 ht hi0 v n (flat xs) hown
    obtain ⟨A', c', rfl⟩ := hform hown
    unfold Oper.wp
    simp [execOp, ho, resolve, invoke, builtin, hs, hx, hrun, Result.andThen]
    refine h A' c' w ?_ ⟨rfl, rfl, rfl, Nat.le_refl _, fun _ _ _ => rfl⟩ (Below.refl _ _)
    rw [List.append_nil]
    exact hown
  | some ad =>
    have hc : ∀ j u, (flat ys)[j]? = some u → w.cell? (ad.add j) = some u := by
      rcases hsrc with rfl | ⟨b, off, e, hc⟩
      · intro j u hj; simp [flat] at hj
      · injection e with e
        subst e
        intro j u hj
        rw [Addr.add_lit]
        exact hc j u hj
    refine wp_append_own w s x t ho base 91 i0 _ 4 64 ht hi0 hz0 hz1 hz2 rfl (by decide) v n (flat xs) hs hown ad m c (flat ys) hx (by rw [flat_len, hm]) hc (flat_one ys) (by unfold maxLen; omega) (by omega) hbase fun v' w' h1 h2 _ => ?_
    obtain ⟨A', c', rfl⟩ := hform h1
    refine h A' c' w' (by rw [flat_append]; exact h1) h2 (Below.of_grown h2 hbase hlt)

theorem step_appFx {ops : Array Oper} {o : Oper} {a : Go.Act} {K : Go.Act → World → Prop} {Q : Exit → Go.Act → World → Prop} {E : Prop} (hgd : o.guard = none) (s x : Operand) (t : TypeId)
    (ho : o.op = .call { callee := .builtin .append, args := #[s, x], argTypes := #[t, t] }) (ht : Try.prog.underlying t = some (.slice 91))
    (w : World) (base : Nat) (v : Value) (xs ys : List Fx) (n m : Nat) (hs : a.eval s = v) (hown : w.ownsRow base 91 4 v n (flat xs)) (hn : xs.length = n)
    (A : Option Addr) (c : Nat) (hx : a.eval x = .slice A m c) (hm : ys.length = m) (hsrc : FlatR w A ys) (hA : A = none → m = 0 ∧ c = 0) (hlen : n + m ≤ 1000000) (hbase : base ≤ w.heap.size)
    (h : ∀ A' c' w', w'.ownsRow base 91 4 (.slice A' (n + m) c') (n + m) (flat (xs ++ ys)) → w.grownBy w' v.ownBlock → Below base w w' → K (a.put o.dst (.slice A' (n + m) c')) w') :
    if Region.wanted o (yielded ops a.tmps) = true then Oper.wp Try.prog o a w K Q else E := by
  have hw : Region.wanted o (yielded ops a.tmps) = true := by simp [Region.wanted, hgd]
  rw [if_pos hw]
  exact wp_appFx s x t ho ht w base v xs ys n m hs hown hn A c hx hm hsrc hA hlen hbase h

theorem wpList_appFx {ops : Array Oper} {rest : List Oper} {o : Oper} {a : Go.Act} {Q : Exit → Go.Act → World → Prop} (hgd : o.guard = none) (s x : Operand) (t : TypeId)
    (ho : o.op = .call { callee := .builtin .append, args := #[s, x], argTypes := #[t, t] }) (ht : Try.prog.underlying t = some (.slice 91))
    (w : World) (base : Nat) (v : Value) (xs ys : List Fx) (n m : Nat) (hs : a.eval s = v) (hown : w.ownsRow base 91 4 v n (flat xs)) (hn : xs.length = n)
    (A : Option Addr) (c : Nat) (hx : a.eval x = .slice A m c) (hm : ys.length = m) (hsrc : FlatR w A ys) (hA : A = none → m = 0 ∧ c = 0) (hlen : n + m ≤ 1000000) (hbase : base ≤ w.heap.size)
    (h : ∀ A' c' w', w'.ownsRow base 91 4 (.slice A' (n + m) c') (n + m) (flat (xs ++ ys)) → w.grownBy w' v.ownBlock → Below base w w' → wpList Try.prog ops Q rest (a.put o.dst (.slice A' (n + m) c')) w') : wpList Try.prog ops Q (o :: rest) a w :=
  wpList_plain hgd fun _ hK => wp_appFx s x t ho ht w base v xs ys n m hs hown hn A c hx hm hsrc hA hlen hbase fun A' c' w' h1 h2 h3 => hK _ _ (h A' c' w' h1 h2 h3)

/-- A literal []File{}. -/
theorem litFx (w : World) (base : Nat) (hb : base ≤ w.heap.size) : (w.alloc (.cells #[] 91)).ownsRow base 91 4 (.slice (some ⟨w.heap.size, 0, none⟩) 0 0) 0 (flat []) := by
  simpa [flat] using World.ownsRow_lit (base := base) (e := 91) (size := 4) w #[] 0 hb (by simp) rfl

/-- Files read off a row whose lines lie where they lie. -/
theorem filesR_row {w : World} {lo hi base : Nat} {A : Option Addr} {n c : Nat} {xs : List Fx} (h : w.ownsRow base 91 4 (.slice A n c) n (flat xs)) (hn : xs.length = n) (hb : lo ≤ base) (hh : w.heap.size ≤ hi)
    (hl : ∀ x ∈ xs, StrR w lo hi x.L x.f.lines.length x.f.lines) : FilesR w lo hi A n (xs.map Fx.f) := by
  refine ⟨by rw [List.length_map, hn], fun h0 => ?_⟩
  obtain ⟨g, hA, hg, hgl, _, _, hc⟩ := row_flat h h0
  refine ⟨g, 0, hA, by omega, by omega, fun j hj => ?_⟩
  have hjx : j < xs.length := by omega
  have hgd : (xs.map Fx.f).getD j filD = (xs[j]).f := by
    rw [List.getD_eq_getElem?_getD, List.getElem?_map, List.getElem?_eq_getElem hjx]; rfl
  have hcell : ∀ i u, i < 4 → (xs[j]).cells[i]? = some u → w.cell? ⟨g, 0 + j * 4 + i, none⟩ = some u := fun i u hi hu => by
    rw [Nat.zero_add]
    exact hc _ u (by rw [flat_at xs j hjx i hi]; exact hu)
  rw [hgd]
  exact ⟨(xs[j]).L, (xs[j]).c, hcell 0 _ (by omega) rfl, hcell 1 _ (by omega) rfl, hcell 2 _ (by omega) rfl, hcell 3 _ (by omega) rfl, hl _ (List.getElem_mem _)⟩

theorem OwnFx.lines {w : World} {lo hi : Nat} {v : Value} {xs : List Fx} (h : OwnFx w lo hi v xs) : ∀ x ∈ xs, StrR w lo hi x.L x.f.lines.length x.f.lines := fun x hx =>
  own_reads (h.own x hx).1 (h.own x hx).2

end Go.Proofs.Ytcfmgmbolnifgaa
