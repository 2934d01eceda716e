/- The program's UseDevice walked (printed by wip/gen_use.py). -/
import Derived.Test.YtcfmgmbolnifgaaJoinWAp
import Derived.Test.YtcfmgmbolnifgaaJoinWAm
import Derived.Test.YtcfmgmbolnifgaaJoinWAk
namespace Go.Proofs.Ytcfmgmbolnifgaa
open Go.RowKit

/-- Devices of the call's own at the end: nothing but the blocks p and r has been written since W. -/
theorem ownDev_mk {W W' : World} {lo p r a1 b1 a3 b3 B : Nat} {d : Dev} {A : Option Addr} {c : Nat} {F : Option Addr} {cf : Nat} {K : Option Addr} {ck : Nat} {xs : List Fx}
    (hq : lo ≤ a1 ∧ b1 ≤ p ∧ lo ≤ a3 ∧ b3 ≤ p ∧ p < B ∧ B ≤ W.heap.size) (hr : r < a1 ∧ r < a3 ∧ r < B) (hlo : lo ≤ B) (x13 : apart2 a1 b1 a3 b3)
    (oA : W.ownsRow a1 9 1 (.slice A d.scr.rows.length c) d.scr.rows.length (d.scr.rows.map Value.string)) (oAb : ∀ g, rowOf A d.scr.rows.length c = some g → g < b1)
    (hxs : xs.map Fx.f = d.files) (hfx : OwnFx W B W.heap.size (.slice F d.files.length cf) xs)
    (oK : W.ownsRow a3 9 1 (.slice K d.keys.length ck) d.keys.length (d.keys.map Value.string)) (oKb : ∀ g, rowOf K d.keys.length ck = some g → g < b3)
    (hk : ∀ b, b ≠ p → b ≠ r → W'.heap[b]? = W.heap[b]?) (hz : W'.heap.size = W.heap.size) : OwnDev W' lo W'.heap.size (.agg (devCs d A c F cf K ck)) d := by
  obtain ⟨q1, q2, q3, q4, q5, q6⟩ := hq
  obtain ⟨r1, r2, r3⟩ := hr
  refine ⟨A, c, F, cf, K, ck, a1, b1, B, W'.heap.size, a3, b3, rfl, ⟨q1, by omega, hlo, Nat.le_refl _, q3, by omega⟩, ⟨.inl (by omega), x13, .inr (by omega)⟩, ⟨own_keep (hi := b1) oA oAb (fun b h1 h2 => hk b (by omega) (by omega)), oAb⟩, ?_, own_keep (hi := b3) oK oKb (fun b h1 h2 => hk b (by omega) (by omega)), oKb⟩
  rw [← hxs]
  have := loc_ownFx B W.heap.size _ xs W W' (fun b h1 h2 => hk b (by omega) (by omega)) hfx
  rw [hz]
  exact this.fils

set_option maxHeartbeats 8000000 in
set_option maxRecDepth 100000 in
theorem iUse_bad (d : Dev) (nm : ByteArray) (v : Value) (lo hi : Nat) (w : World) (hx : DevR w lo hi v d) (hhi : hi ≤ w.heap.size) (hs : DevSmall d) (hB : devB d = false) :
    Calls Try.prog 51 #[v, .string nm] w fun e w' => ∃ v', e = .returned (.tuple #[v', .int .i64 1]) ∧ OwnDev w' w.heap.size w'.heap.size v' noDev ∧ Below w.heap.size w w' := by
  have HX := Lib.hid hx; have HS := Lib.hid hs
  obtain ⟨A, c, F, cf, J, cj, rfl, h1, h2, h3⟩ := hx
  have R0 := (((Stand.nil w).add lo hi _ (loc_devR lo hi (.agg (devCs d A c F cf J cj)) d) hhi HX.out).box 61 (devCs d A c F cf J cj)).box 61 #[.int .i64 0, .int .i64 0, .int .i64 0, .slice none 0 0, .slice none 0 0, .slice none 0 0]
  rw [heap_size_alloc1] at R0
  have HR0 := Lib.hid R0
  have HOK := Lib.hid (fun W v h1 h2 => implDevicesOk_any d v lo hi W h1 h2 HS.out)
  clear h1 h2 h3 R0 hs
  rw [hB] at HOK
  go_enter Try.func51, Try.ntmps51
  go_wp2_with fail
  refine (HOK.out _ _ (HR0.out.get 2 rfl) (HR0.out.le 2 rfl)).mono ?_
  rintro e1 w1 ⟨rfl, hb1⟩
  have HR1 := Lib.hid (HR0.out.below hb1); clear hb1 HR0 HOK
  have fr := (HR1.out.get 0 rfl).cell
  have zr := (HR1.out.get 0 rfl).frozen
  have sr := HR1.out.le 0 rfl
  go_wp2_with fail
  refine bodyPost_ret (v := .tuple #[.agg #[.int .i64 0, .int .i64 0, .int .i64 0, .slice none 0 0, .slice none 0 0, .slice none 0 0], .int .i64 1]) (by simp [results, Try.results51, go_sem, fr]) rfl ⟨_, rfl, ?_, ?_⟩
  · exact (ownDev_none _ _ _ (by first | (simp [World.setCell]; done) | (simp [World.setCell]; omega)))
  · iterate 6 (with_reducible refine Below.setCell ?_ (by simp; try omega) _)
    exact HR1.out.1

set_option maxHeartbeats 8000000 in
set_option maxRecDepth 100000 in
theorem iUse_name (d : Dev) (nm : ByteArray) (v : Value) (lo hi : Nat) (w : World) (hx : DevR w lo hi v d) (hhi : hi ≤ w.heap.size) (hs : DevSmall d) (hB : devB d = true) (hz : ¬ nm.size = 0) (hN : nameB nm = false) (hl : nm.size ≤ 1048576) :
    Calls Try.prog 51 #[v, .string nm] w fun e w' => ∃ v', e = .returned (.tuple #[v', .int .i64 1]) ∧ OwnDev w' w.heap.size w'.heap.size v' noDev ∧ Below w.heap.size w w' := by
  have HX := Lib.hid hx; have HS := Lib.hid hs
  obtain ⟨A, c, F, cf, J, cj, rfl, h1, h2, h3⟩ := hx
  have R0 := (((Stand.nil w).add lo hi _ (loc_devR lo hi (.agg (devCs d A c F cf J cj)) d) hhi HX.out).box 61 (devCs d A c F cf J cj)).box 61 #[.int .i64 0, .int .i64 0, .int .i64 0, .slice none 0 0, .slice none 0 0, .slice none 0 0]
  rw [heap_size_alloc1] at R0
  have HR0 := Lib.hid R0
  have HOK := Lib.hid (fun W v h1 h2 => implDevicesOk_any d v lo hi W h1 h2 HS.out)
  clear h1 h2 h3 R0 hs
  rw [hB] at HOK
  have e1 : nm.toList.isEmpty = false := by rw [ByteArray.toList_eq]; cases h : nm.data.toList with | nil => exact absurd (by rw [ByteArray.size, ← Array.length_toList, h]; rfl) hz | cons a l => rfl
  have e2 : (!nm.toList.isEmpty) = true := by rw [e1]; rfl
  go_enter Try.func51, Try.ntmps51
  go_wp2_with fail
  refine (HOK.out _ _ (HR0.out.get 2 rfl) (HR0.out.le 2 rfl)).mono ?_
  rintro e1 w1 ⟨rfl, hb1⟩
  have HR1 := Lib.hid (HR0.out.below hb1); clear hb1 HR0 HOK
  have fr := (HR1.out.get 0 rfl).cell
  have zr := (HR1.out.get 0 rfl).frozen
  have sr := HR1.out.le 0 rfl
  go_wp2_with fail
  refine (implNameOk_any nm _ (by omega)).mono ?_
  rintro e9 w9 ⟨rfl, rfl⟩
  rw [hN]
  go_wp2_with fail
  refine bodyPost_ret (v := .tuple #[.agg #[.int .i64 0, .int .i64 0, .int .i64 0, .slice none 0 0, .slice none 0 0, .slice none 0 0], .int .i64 1]) (by simp [results, Try.results51, go_sem, fr]) rfl ⟨_, rfl, ?_, ?_⟩
  · exact (ownDev_none _ _ _ (by first | (simp [World.setCell]; done) | (simp [World.setCell]; omega)))
  · iterate 6 (with_reducible refine Below.setCell ?_ (by simp; try omega) _)
    exact HR1.out.1

set_option maxHeartbeats 8000000 in
set_option maxRecDepth 100000 in
theorem iUse_empty (d : Dev) (nm : ByteArray) (v : Value) (lo hi : Nat) (w : World) (hx : DevR w lo hi v d) (hhi : hi ≤ w.heap.size) (hs : DevSmall d) (hB : devB d = true) (hz : nm = ⟨#[]⟩) :
    Calls Try.prog 51 #[v, .string nm] w fun e w' => ∃ v', e = .returned (.tuple #[v', .int .i64 0]) ∧ OwnDev w' w.heap.size w'.heap.size v' ⟨0, d.scr, d.files, d.keys⟩ ∧ Below w.heap.size w w' := by
  subst hz
  have HX := Lib.hid hx; have HS := Lib.hid hs
  obtain ⟨A, c, F, cf, J, cj, rfl, h1, h2, h3⟩ := hx
  have R0 := (((Stand.nil w).add lo hi _ (loc_devR lo hi (.agg (devCs d A c F cf J cj)) d) hhi HX.out).box 61 (devCs d A c F cf J cj)).box 61 #[.int .i64 0, .int .i64 0, .int .i64 0, .slice none 0 0, .slice none 0 0, .slice none 0 0]
  rw [heap_size_alloc1] at R0
  have HR0 := Lib.hid R0
  have HOK := Lib.hid (fun W v h1 h2 => implDevicesOk_any d v lo hi W h1 h2 HS.out)
  clear h1 h2 h3 R0 hs
  rw [hB] at HOK
  have HGD := Lib.hid (DevGood.of hB)
  have hn3 := HGD.out.n3
  have hr0 : 0 < d.scr.rows.length := by have := HGD.out.fine.len; omega
  go_enter Try.func51, Try.ntmps51
  go_wp2_with fail
  refine (HOK.out _ _ (HR0.out.get 2 rfl) (HR0.out.le 2 rfl)).mono ?_
  rintro e1 w1 ⟨rfl, hb1⟩
  have HR1 := Lib.hid (HR0.out.below hb1); clear hb1 HR0 HOK
  have f1 := (HR1.out.get 1 rfl).cell
  go_wp2_with fail
  refine (copyDevices_own d _ lo hi _ (HR1.out.get 2 rfl) (HR1.out.le 2 rfl) hr0 HS.out).mono ?_
  rintro e2 w2 ⟨p, A2, c2, V, cv, K2, ck2, rfl, hp1, hp2, hBp, ⟨a1, b1, a3, b3, B, hq, x13, ⟨oA, oAb⟩, ⟨xs, hxs, hfx⟩, oK, oKb⟩, hb2⟩
  have s1 := HR1.out.le 0 rfl
  have s2 := hb2.size
  have HR2 := Lib.hid (HR1.out.below hb2); clear hb2 f1 HR1
  have HQ := Lib.hid hq; have HX13 := Lib.hid x13; have HOA := Lib.hid oA; have HOAB := Lib.hid oAb; have HXS := Lib.hid hxs; have HFX := Lib.hid hfx; have HOK := Lib.hid oK; have HOKB := Lib.hid oKb; have HBP := Lib.hid hBp
  have hpB := hq.2.2.2.2.1; have hBw := hq.2.2.2.2.2; have hwp := hp1
  clear hq x13 oA oAb hxs hfx oK oKb hBp
  have fp := HBP.out.cell; have zp := HBP.out.frozen; have fr := (HR2.out.get 0 rfl).cell; have zr := (HR2.out.get 0 rfl).frozen
  have HBEL := Lib.hid HR2.out.1; clear HR2
  go_wp2_with fail
  refine bodyPost_ret (v := .tuple #[.agg #[.int .i64 (0), .int .i64 d.scr.row, .int .i64 d.scr.col, .slice A2 d.scr.rows.length c2, .slice V d.files.length cv, .slice K2 d.keys.length ck2], .int .i64 0]) (by simp [results, Try.results51, go_sem, fr]) rfl ⟨_, rfl, ?_, ?_⟩
  · obtain ⟨q1, q2, q3, q4, q5, q6⟩ := HQ.out
    refine ownDev_mk (W := w2) (p := p) (r := w.heap.size + 1) (d := ⟨0, d.scr, d.files, d.keys⟩) (lo := w.heap.size) ⟨by omega, q2, by omega, q4, q5, by omega⟩ ⟨by omega, by omega, by omega⟩ (by omega) HX13.out HOA.out HOAB.out HXS.out HFX.out HOK.out HOKB.out (fun b h1 h2 => ?_) (by simp [World.setCell])
    iterate 7 (with_reducible rw [Below.heap_setCell _ _ _ b (by simp; omega)])
  · iterate 7 (with_reducible refine Below.setCell ?_ (by simp; try omega) _)
    exact HBEL.out

set_option maxHeartbeats 8000000 in
set_option maxRecDepth 100000 in
theorem iUse_there (d : Dev) (nm : ByteArray) (v : Value) (lo hi : Nat) (w : World) (hx : DevR w lo hi v d) (hhi : hi ≤ w.heap.size) (hs : DevSmall d) (hB : devB d = true) (hz : ¬ nm.size = 0) (hN : nameB nm = true) (hl : nm.size ≤ 1048576) (hT : thereB d.files nm = true) :
    Calls Try.prog 51 #[v, .string nm] w fun e w' => ∃ v', e = .returned (.tuple #[v', .int .i64 0]) ∧ OwnDev w' w.heap.size w'.heap.size v' ⟨(place d.files nm : Int) + 1, d.scr, d.files, d.keys⟩ ∧ Below w.heap.size w w' := by
  have HX := Lib.hid hx; have HS := Lib.hid hs
  obtain ⟨A, c, F, cf, J, cj, rfl, h1, h2, h3⟩ := hx
  have R0 := (((Stand.nil w).add lo hi _ (loc_devR lo hi (.agg (devCs d A c F cf J cj)) d) hhi HX.out).box 61 (devCs d A c F cf J cj)).box 61 #[.int .i64 0, .int .i64 0, .int .i64 0, .slice none 0 0, .slice none 0 0, .slice none 0 0]
  rw [heap_size_alloc1] at R0
  have HR0 := Lib.hid R0
  have HOK := Lib.hid (fun W v h1 h2 => implDevicesOk_any d v lo hi W h1 h2 HS.out)
  clear h1 h2 h3 R0 hs
  rw [hB] at HOK
  have HGD := Lib.hid (DevGood.of hB)
  have hn3 := HGD.out.n3
  have hr0 : 0 < d.scr.rows.length := by have := HGD.out.fine.len; omega
  have HFI := Lib.hid (fun p A2 c2 V cv K2 ck2 lo hi W hB h1 h2 => file_any p d A2 c2 V cv K2 ck2 lo hi nm W hB h1 h2 (by omega) HGD.out.sorted)
  rw [hT] at HFI
  have hPn := place_le d.files nm
  generalize hPL : place d.files nm = P at *
  clear hPL
  have e1 : nm.toList.isEmpty = false := by rw [ByteArray.toList_eq]; cases h : nm.data.toList with | nil => exact absurd (by rw [ByteArray.size, ← Array.length_toList, h]; rfl) hz | cons a l => rfl
  have e2 : (!nm.toList.isEmpty) = true := by rw [e1]; rfl
  go_enter Try.func51, Try.ntmps51
  go_wp2_with fail
  refine (HOK.out _ _ (HR0.out.get 2 rfl) (HR0.out.le 2 rfl)).mono ?_
  rintro e1 w1 ⟨rfl, hb1⟩
  have HR1 := Lib.hid (HR0.out.below hb1); clear hb1 HR0 HOK
  have f1 := (HR1.out.get 1 rfl).cell
  go_wp2_with fail
  refine (implNameOk_any nm _ (by omega)).mono ?_
  rintro e9 w9 ⟨rfl, rfl⟩
  rw [hN]
  go_wp2_with fail
  refine (copyDevices_own d _ lo hi _ (HR1.out.get 2 rfl) (HR1.out.le 2 rfl) hr0 HS.out).mono ?_
  rintro e2 w2 ⟨p, A2, c2, V, cv, K2, ck2, rfl, hp1, hp2, hBp, ⟨a1, b1, a3, b3, B, hq, x13, ⟨oA, oAb⟩, ⟨xs, hxs, hfx⟩, oK, oKb⟩, hb2⟩
  have s1 := HR1.out.le 0 rfl
  have s2 := hb2.size
  have HR2 := Lib.hid (HR1.out.below hb2); clear hb2 f1 HR1
  have HQ := Lib.hid hq; have HX13 := Lib.hid x13; have HOA := Lib.hid oA; have HOAB := Lib.hid oAb; have HXS := Lib.hid hxs; have HFX := Lib.hid hfx; have HOK := Lib.hid oK; have HOKB := Lib.hid oKb; have HBP := Lib.hid hBp
  have hpB := hq.2.2.2.2.1; have hBw := hq.2.2.2.2.2; have hwp := hp1
  clear hq x13 oA oAb hxs hfx oK oKb hBp
  have hfr := HFX.out.fils.reads
  rw [HXS.out] at hfr
  have HFR := Lib.hid hfr; clear hfr
  have fp := HBP.out.cell
  go_wp2_with fail
  refine (HFI.out _ _ _ _ _ _ _ _ _ _ HBP.out HFR.out (Nat.le_refl _)).mono ?_
  rintro e3 w3 ⟨rfl, hb3⟩
  have s3 := hb3.size
  have HR3 := Lib.hid (HR2.out.below hb3); have HBP3 := Lib.hid (HBP.out.below hb3 HBP.out.lt); have HOA3 := Lib.hid (own_below HOA.out hb3); have HOK3 := Lib.hid (own_below HOK.out hb3)
  have HFX3 := Lib.hid ((loc_ownFx _ _ _ xs w2 w3 (fun b h1 h2 => hb3.block b h2) HFX.out).more s3)
  clear hb3 HR2 HBP HOA HOK HFX HFR HFI fp
  have fp := HBP3.out.cell; have zp := HBP3.out.frozen; have fr := (HR3.out.get 0 rfl).cell; have zr := (HR3.out.get 0 rfl).frozen
  have HBEL := Lib.hid HR3.out.1; clear HR3
  have j0 : (P : Int) + 1 ≤ 4 := by omega
  go_wp2_with fail
  refine bodyPost_ret (v := .tuple #[.agg #[.int .i64 ((P : Int) + 1), .int .i64 d.scr.row, .int .i64 d.scr.col, .slice A2 d.scr.rows.length c2, .slice V d.files.length cv, .slice K2 d.keys.length ck2], .int .i64 0]) (by simp [results, Try.results51, go_sem, fr]) rfl ⟨_, rfl, ?_, ?_⟩
  · obtain ⟨q1, q2, q3, q4, q5, q6⟩ := HQ.out
    refine ownDev_mk (W := w3) (p := p) (r := w.heap.size + 1) (d := ⟨(P : Int) + 1, d.scr, d.files, d.keys⟩) (lo := w.heap.size) ⟨by omega, q2, by omega, q4, q5, by omega⟩ ⟨by omega, by omega, by omega⟩ (by omega) HX13.out HOA3.out HOAB.out HXS.out HFX3.out HOK3.out HOKB.out (fun b h1 h2 => ?_) (by simp [World.setCell])
    iterate 7 (with_reducible rw [Below.heap_setCell _ _ _ b (by simp; omega)])
  · iterate 7 (with_reducible refine Below.setCell ?_ (by simp; try omega) _)
    exact HBEL.out

set_option maxHeartbeats 8000000 in
set_option maxRecDepth 100000 in
theorem iUse_many (d : Dev) (nm : ByteArray) (v : Value) (lo hi : Nat) (w : World) (hx : DevR w lo hi v d) (hhi : hi ≤ w.heap.size) (hs : DevSmall d) (hB : devB d = true) (hz : ¬ nm.size = 0) (hN : nameB nm = true) (hl : nm.size ≤ 1048576) (hT : thereB d.files nm = false) (h3 : d.files.length = 3) :
    Calls Try.prog 51 #[v, .string nm] w fun e w' => ∃ v', e = .returned (.tuple #[v', .int .i64 4]) ∧ OwnDev w' w.heap.size w'.heap.size v' noDev ∧ Below w.heap.size w w' := by
  have H3 := Lib.hid h3; clear h3
  have HX := Lib.hid hx; have HS := Lib.hid hs
  obtain ⟨A, c, F, cf, J, cj, rfl, h1, h2, h3⟩ := hx
  have R0 := (((Stand.nil w).add lo hi _ (loc_devR lo hi (.agg (devCs d A c F cf J cj)) d) hhi HX.out).box 61 (devCs d A c F cf J cj)).box 61 #[.int .i64 0, .int .i64 0, .int .i64 0, .slice none 0 0, .slice none 0 0, .slice none 0 0]
  rw [heap_size_alloc1] at R0
  have HR0 := Lib.hid R0
  have HOK := Lib.hid (fun W v h1 h2 => implDevicesOk_any d v lo hi W h1 h2 HS.out)
  clear h1 h2 h3 R0 hs
  rw [hB] at HOK
  have HGD := Lib.hid (DevGood.of hB)
  have hn3 := HGD.out.n3
  have hr0 : 0 < d.scr.rows.length := by have := HGD.out.fine.len; omega
  have HFI := Lib.hid (fun p A2 c2 V cv K2 ck2 lo hi W hB h1 h2 => file_any p d A2 c2 V cv K2 ck2 lo hi nm W hB h1 h2 (by omega) HGD.out.sorted)
  rw [hT] at HFI
  have hPn := place_le d.files nm
  generalize hPL : place d.files nm = P at *
  clear hPL
  have e1 : nm.toList.isEmpty = false := by rw [ByteArray.toList_eq]; cases h : nm.data.toList with | nil => exact absurd (by rw [ByteArray.size, ← Array.length_toList, h]; rfl) hz | cons a l => rfl
  have e2 : (!nm.toList.isEmpty) = true := by rw [e1]; rfl
  go_enter Try.func51, Try.ntmps51
  go_wp2_with fail
  refine (HOK.out _ _ (HR0.out.get 2 rfl) (HR0.out.le 2 rfl)).mono ?_
  rintro e1 w1 ⟨rfl, hb1⟩
  have HR1 := Lib.hid (HR0.out.below hb1); clear hb1 HR0 HOK
  have f1 := (HR1.out.get 1 rfl).cell
  go_wp2_with fail
  refine (implNameOk_any nm _ (by omega)).mono ?_
  rintro e9 w9 ⟨rfl, rfl⟩
  rw [hN]
  go_wp2_with fail
  refine (copyDevices_own d _ lo hi _ (HR1.out.get 2 rfl) (HR1.out.le 2 rfl) hr0 HS.out).mono ?_
  rintro e2 w2 ⟨p, A2, c2, V, cv, K2, ck2, rfl, hp1, hp2, hBp, ⟨a1, b1, a3, b3, B, hq, x13, ⟨oA, oAb⟩, ⟨xs, hxs, hfx⟩, oK, oKb⟩, hb2⟩
  have s1 := HR1.out.le 0 rfl
  have s2 := hb2.size
  have HR2 := Lib.hid (HR1.out.below hb2); clear hb2 f1 HR1
  have HQ := Lib.hid hq; have HX13 := Lib.hid x13; have HOA := Lib.hid oA; have HOAB := Lib.hid oAb; have HXS := Lib.hid hxs; have HFX := Lib.hid hfx; have HOK := Lib.hid oK; have HOKB := Lib.hid oKb; have HBP := Lib.hid hBp
  have hpB := hq.2.2.2.2.1; have hBw := hq.2.2.2.2.2; have hwp := hp1
  clear hq x13 oA oAb hxs hfx oK oKb hBp
  have hfr := HFX.out.fils.reads
  rw [HXS.out] at hfr
  have HFR := Lib.hid hfr; clear hfr
  have fp := HBP.out.cell
  go_wp2_with fail
  refine (HFI.out _ _ _ _ _ _ _ _ _ _ HBP.out HFR.out (Nat.le_refl _)).mono ?_
  rintro e3 w3 ⟨rfl, hb3⟩
  have s3 := hb3.size
  have HR3 := Lib.hid (HR2.out.below hb3); have HBP3 := Lib.hid (HBP.out.below hb3 HBP.out.lt); have HOA3 := Lib.hid (own_below HOA.out hb3); have HOK3 := Lib.hid (own_below HOK.out hb3)
  have HFX3 := Lib.hid ((loc_ownFx _ _ _ xs w2 w3 (fun b h1 h2 => hb3.block b h2) HFX.out).more s3)
  clear hb3 HR2 HBP HOA HOK HFX HFR HFI fp
  have t3 : ((d.files.length : Int) == 3) = true := by rw [H3.out]; rfl
  have fp := HBP3.out.cell; have fr := (HR3.out.get 0 rfl).cell; have zr := (HR3.out.get 0 rfl).frozen; have sr := HR3.out.le 0 rfl
  go_wp2_with fail
  refine bodyPost_ret (v := .tuple #[.agg #[.int .i64 0, .int .i64 0, .int .i64 0, .slice none 0 0, .slice none 0 0, .slice none 0 0], .int .i64 4]) (by simp [results, Try.results51, go_sem, fr]) rfl ⟨_, rfl, ?_, ?_⟩
  · exact (ownDev_none _ _ _ (by first | (simp [World.setCell]; done) | (simp [World.setCell]; omega)))
  · iterate 6 (with_reducible refine Below.setCell ?_ (by simp; try omega) _)
    exact HR3.out.1

set_option maxHeartbeats 8000000 in
set_option maxRecDepth 100000 in
theorem iUse_new (d : Dev) (nm : ByteArray) (v : Value) (lo hi : Nat) (w : World) (hx : DevR w lo hi v d) (hhi : hi ≤ w.heap.size) (hs : DevSmall d) (hB : devB d = true) (hz : ¬ nm.size = 0) (hN : nameB nm = true) (hl : nm.size ≤ 1048576) (hT : thereB d.files nm = false) (h3 : ¬ d.files.length = 3) :
    Calls Try.prog 51 #[v, .string nm] w fun e w' => ∃ v', e = .returned (.tuple #[v', .int .i64 0]) ∧ OwnDev w' w.heap.size w'.heap.size v' ⟨(place d.files nm : Int) + 1, d.scr, ins (place d.files nm) (filNew nm) d.files, d.keys⟩ ∧ Below w.heap.size w w' := by
  have HX := Lib.hid hx; have HS := Lib.hid hs
  obtain ⟨A, c, F, cf, J, cj, rfl, h1, h2, h3⟩ := hx
  have R0 := (((Stand.nil w).add lo hi _ (loc_devR lo hi (.agg (devCs d A c F cf J cj)) d) hhi HX.out).box 61 (devCs d A c F cf J cj)).box 61 #[.int .i64 0, .int .i64 0, .int .i64 0, .slice none 0 0, .slice none 0 0, .slice none 0 0]
  rw [heap_size_alloc1] at R0
  have HR0 := Lib.hid R0
  have HOK := Lib.hid (fun W v h1 h2 => implDevicesOk_any d v lo hi W h1 h2 HS.out)
  clear h1 h2 h3 R0 hs
  rw [hB] at HOK
  have HGD := Lib.hid (DevGood.of hB)
  have hn3 := HGD.out.n3
  have hr0 : 0 < d.scr.rows.length := by have := HGD.out.fine.len; omega
  have HFI := Lib.hid (fun p A2 c2 V cv K2 ck2 lo hi W hB h1 h2 => file_any p d A2 c2 V cv K2 ck2 lo hi nm W hB h1 h2 (by omega) HGD.out.sorted)
  rw [hT] at HFI
  have hPn := place_le d.files nm
  generalize hPL : place d.files nm = P at *
  clear hPL
  have e1 : nm.toList.isEmpty = false := by rw [ByteArray.toList_eq]; cases h : nm.data.toList with | nil => exact absurd (by rw [ByteArray.size, ← Array.length_toList, h]; rfl) hz | cons a l => rfl
  have e2 : (!nm.toList.isEmpty) = true := by rw [e1]; rfl
  go_enter Try.func51, Try.ntmps51
  go_wp2_with fail
  refine (HOK.out _ _ (HR0.out.get 2 rfl) (HR0.out.le 2 rfl)).mono ?_
  rintro e1 w1 ⟨rfl, hb1⟩
  have HR1 := Lib.hid (HR0.out.below hb1); clear hb1 HR0 HOK
  have f1 := (HR1.out.get 1 rfl).cell
  go_wp2_with fail
  refine (implNameOk_any nm _ (by omega)).mono ?_
  rintro e9 w9 ⟨rfl, rfl⟩
  rw [hN]
  go_wp2_with fail
  refine (copyDevices_own d _ lo hi _ (HR1.out.get 2 rfl) (HR1.out.le 2 rfl) hr0 HS.out).mono ?_
  rintro e2 w2 ⟨p, A2, c2, V, cv, K2, ck2, rfl, hp1, hp2, hBp, ⟨a1, b1, a3, b3, B, hq, x13, ⟨oA, oAb⟩, ⟨xs, hxs, hfx⟩, oK, oKb⟩, hb2⟩
  have s1 := HR1.out.le 0 rfl
  have s2 := hb2.size
  have HR2 := Lib.hid (HR1.out.below hb2); clear hb2 f1 HR1
  have HQ := Lib.hid hq; have HX13 := Lib.hid x13; have HOA := Lib.hid oA; have HOAB := Lib.hid oAb; have HXS := Lib.hid hxs; have HFX := Lib.hid hfx; have HOK := Lib.hid oK; have HOKB := Lib.hid oKb; have HBP := Lib.hid hBp
  have hpB := hq.2.2.2.2.1; have hBw := hq.2.2.2.2.2; have hwp := hp1
  clear hq x13 oA oAb hxs hfx oK oKb hBp
  have hfr := HFX.out.fils.reads
  rw [HXS.out] at hfr
  have HFR := Lib.hid hfr; clear hfr
  have fp := HBP.out.cell
  go_wp2_with fail
  refine (HFI.out _ _ _ _ _ _ _ _ _ _ HBP.out HFR.out (Nat.le_refl _)).mono ?_
  rintro e3 w3 ⟨rfl, hb3⟩
  have s3 := hb3.size
  have HR3 := Lib.hid (HR2.out.below hb3); have HBP3 := Lib.hid (HBP.out.below hb3 HBP.out.lt); have HOA3 := Lib.hid (own_below HOA.out hb3); have HOK3 := Lib.hid (own_below HOK.out hb3)
  have HFX3 := Lib.hid ((loc_ownFx _ _ _ xs w2 w3 (fun b h1 h2 => hb3.block b h2) HFX.out).more s3)
  clear hb3 HR2 HBP HOA HOK HFX HFR HFI fp
  have t3 : ((d.files.length : Int) == 3) = false := by rw [beq_eq_false_iff_ne]; omega
  have HXL := Lib.hid (show xs.length = d.files.length by rw [← HXS.out]; simp)
  have fp := HBP3.out.cell; have j0 : (P : Int) + 1 ≤ 4 := by omega
  go_wp2_with fail
  have hfb := (loc_ownFx _ _ _ xs w3 (w3.alloc (.cells #[.string nm, .slice none 0 0, .string ⟨#[]⟩, .int .i64 0] 91)) (fun b _ h2 => Below.heap_alloc w3 _ b h2) HFX3.out)
  have hrw := hfb.row
  rw [HXL.out] at hrw
  have hsa : (w3.alloc (.cells #[.string nm, .slice none 0 0, .string ⟨#[]⟩, .int .i64 0] 91)).heap.size = w3.heap.size + 1 := by simp
  have hvb : ∀ g, (Value.slice V d.files.length cv).ownBlock = some g → g < w3.heap.size := fun g hg => HFX3.out.top g hg
  refine (insertFil_any (.slice V d.files.length cv) d.files.length P w3.heap.size 1 B (flat xs) (Fx.cells ⟨filNew nm, none, 0⟩) _ hrw hPn (by omega) (by omega) (Blk.new w3 91 #[.string nm, .slice none 0 0, .string ⟨#[]⟩, .int .i64 0]) (fun e => by have := hvb _ e; omega) rfl (by intro u hu; simp only [Fx.cells, Fx.sl, List.mem_cons, List.not_mem_nil, or_false] at hu; rcases hu with rfl | rfl | rfl | rfl <;> rfl) (flat_one xs)).mono ?_
  rintro e4 w4 ⟨g', cap', rfl, hr4, hg4, hat4⟩
  have s4 : w3.heap.size + 1 ≤ w4.heap.size := by have := hg4.size; omega
  have hfx4 := OwnFx.insert (k := P) (y := ⟨filNew nm, none, 0⟩) hfb (by rw [hsa]; omega) rfl rfl hg4 hat4 (by rw [HXL.out]; exact hr4)
  rw [HXL.out] at hfx4
  have hkb : ∀ b, b < B → w4.heap[b]? = w3.heap[b]? := fun b hb => (hg4.block b (by omega) (fun e => by have := (hrw.lt b e.symm).1; omega)).trans (Below.heap_alloc w3 _ b (by omega))
  have HBP4 := Lib.hid (show Blk w4 p 61 (devCs d A2 c2 V cv K2 ck2) from (hkb p hpB).trans HBP3.out)
  have HRB4 := Lib.hid (show Blk w4 (w.heap.size + 1) 61 #[.int .i64 0, .int .i64 0, .int .i64 0, .slice none 0 0, .slice none 0 0, .slice none 0 0] from (hkb _ (by omega)).trans (HR3.out.get 0 rfl))
  have HBEL := Lib.hid (show Below w.heap.size w w4 from ((HR3.out.1.alloc (by have := HR3.out.1.size; omega) _).grown hg4 (by omega) (fun k hk => by have := (hrw.lt k hk).1; omega)))
  have HOA4 := Lib.hid (own_keep (hi := b1) HOA3.out HOAB.out (fun b h1 h2 => hkb b (by have := HQ.out.2.1; omega)))
  have HOK4 := Lib.hid (own_keep (hi := b3) HOK3.out HOKB.out (fun b h1 h2 => hkb b (by have := HQ.out.2.2.2.1; omega)))
  have HFX4 := Lib.hid hfx4; have HIL := Lib.hid (ins_len P (filNew nm) d.files); have HIM := Lib.hid (show (ins P (⟨filNew nm, none, 0⟩ : Fx) xs).map Fx.f = ins P (filNew nm) d.files by rw [ins_map, HXS.out])
  clear hfb hrw hsa hvb hr4 hg4 hat4 hfx4 hkb HFX3 HBP3 HOA3 HOK3 HR3 fp
  have fp := HBP4.out.cell; have zp := HBP4.out.frozen; have fr := HRB4.out.cell; have zr := HRB4.out.frozen
  go_wp2_with fail
  refine bodyPost_ret (v := .tuple #[.agg #[.int .i64 ((P : Int) + 1), .int .i64 d.scr.row, .int .i64 d.scr.col, .slice A2 d.scr.rows.length c2, .slice (some ⟨g', 0, none⟩) (d.files.length + 1) cap', .slice K2 d.keys.length ck2], .int .i64 0]) (by simp [results, Try.results51, go_sem, fr]) rfl ⟨_, rfl, ?_, ?_⟩
  · obtain ⟨q1, q2, q3, q4, q5, q6⟩ := HQ.out
    rw [← HIL.out]
    refine ownDev_mk (W := w4) (p := p) (r := w.heap.size + 1) (d := ⟨(P : Int) + 1, d.scr, ins P (filNew nm) d.files, d.keys⟩) (lo := w.heap.size) ⟨by omega, q2, by omega, q4, q5, by omega⟩ ⟨by omega, by omega, by omega⟩ (by omega) HX13.out HOA4.out HOAB.out HIM.out (by have := HFX4.out; rw [← HIL.out] at this; exact this) HOK4.out HOKB.out (fun b h1 h2 => ?_) (by simp [World.setCell])
    iterate 8 (with_reducible rw [Below.heap_setCell _ _ _ b (by simp; omega)])
  · iterate 8 (with_reducible refine Below.setCell ?_ (by simp; try omega) _)
    exact HBEL.out

theorem implUseDevice_any (d : Dev) (nm : ByteArray) (v : Value) (lo hi : Nat) (w : World) (hx : DevR w lo hi v d) (hhi : hi ≤ w.heap.size) (hs : DevSmall d) (hl : nm.size ≤ 1048576) :
    Calls Try.prog 51 #[v, .string nm] w fun e w' => ∃ v', e = .returned (.tuple #[v', .int .i64 (useP d nm).2]) ∧ OwnDev w' w.heap.size w'.heap.size v' (useP d nm).1 ∧ Below w.heap.size w w' := by
  cases hB : devB d
  · rw [show useP d nm = (noDev, 1) by simp [useP, hB]]
    exact iUse_bad d nm v lo hi w hx hhi hs hB
  · by_cases hz : nm.size = 0
    · rw [show useP d nm = (⟨0, d.scr, d.files, d.keys⟩, 0) by simp [useP, useDev, hB, hz]]
      refine iUse_empty d nm v lo hi w hx hhi hs hB ?_
      obtain ⟨a⟩ := nm
      have : a = #[] := Array.eq_empty_of_size_eq_zero hz
      rw [this]
    · cases hN : nameB nm
      · rw [show useP d nm = (noDev, 1) by simp [useP, hB, hz, hN]]
        exact iUse_name d nm v lo hi w hx hhi hs hB hz hN hl
      · cases hT : thereB d.files nm
        · by_cases h3 : d.files.length = 3
          · rw [show useP d nm = (noDev, 4) by simp [useP, useDev, hB, hz, hN, hT, h3]]
            exact iUse_many d nm v lo hi w hx hhi hs hB hz hN hl hT h3
          · rw [show useP d nm = (⟨(place d.files nm : Int) + 1, d.scr, ins (place d.files nm) (filNew nm) d.files, d.keys⟩, 0) by simp [useP, useDev, hB, hz, hN, hT, h3]]
            exact iUse_new d nm v lo hi w hx hhi hs hB hz hN hl hT h3
        · rw [show useP d nm = (⟨(place d.files nm : Int) + 1, d.scr, d.files, d.keys⟩, 0) by simp [useP, useDev, hB, hz, hN, hT]]
          exact iUse_there d nm v lo hi w hx hhi hs hB hz hN hl hT

end Go.Proofs.Ytcfmgmbolnifgaa

/- The program's WriteTo walked (printed by wip/gen_wto.py). -/
namespace Go.Proofs.Ytcfmgmbolnifgaa
open Go.RowKit

theorem put3_dev (d : Dev) (A A' : Option Addr) (c c' : Nat) (V : Option Addr) (cv : Nat) (K : Option Addr) (ck : Nat) (S : Scr) :
    put3 (devCs d A c V cv K ck) 1 (.int .i64 S.row) (.int .i64 S.col) (.slice A' S.rows.length c') = devCs ⟨d.use, S, d.files, d.keys⟩ A' c' V cv K ck := rfl

set_option maxHeartbeats 8000000 in
set_option maxRecDepth 100000 in
theorem iWr_bad (d : Dev) (nm : ByteArray) (v : Value) (lo hi : Nat) (w : World) (hx : DevR w lo hi v d) (hhi : hi ≤ w.heap.size) (hs : DevSmall d) (hB : devB d = false) :
    Calls Try.prog 53 #[v, .string nm] w fun e w' => ∃ v', e = .returned (.tuple #[v', .int .i64 1]) ∧ OwnDev w' w.heap.size w'.heap.size v' noDev ∧ Below w.heap.size w w' := by
  have HX := Lib.hid hx; have HS := Lib.hid hs
  obtain ⟨A, c, F, cf, J, cj, rfl, h1, h2, h3⟩ := hx
  have R0 := (((Stand.nil w).add lo hi _ (loc_devR lo hi (.agg (devCs d A c F cf J cj)) d) hhi HX.out).box 61 (devCs d A c F cf J cj)).box 61 #[.int .i64 0, .int .i64 0, .int .i64 0, .slice none 0 0, .slice none 0 0, .slice none 0 0]
  rw [heap_size_alloc1] at R0
  have HR0 := Lib.hid R0
  have HOK := Lib.hid (fun W v h1 h2 => implDevicesOk_any d v lo hi W h1 h2 HS.out)
  clear h1 h2 h3 R0 hs
  rw [hB] at HOK
  go_enter Try.func53, Try.ntmps53
  go_wp2_with fail
  refine (HOK.out _ _ (HR0.out.get 2 rfl) (HR0.out.le 2 rfl)).mono ?_
  rintro e1 w1 ⟨rfl, hb1⟩
  have HR1 := Lib.hid (HR0.out.below hb1); clear hb1 HR0 HOK
  have fr := (HR1.out.get 0 rfl).cell
  have zr := (HR1.out.get 0 rfl).frozen
  have sr := HR1.out.le 0 rfl
  go_wp2_with fail
  refine bodyPost_ret (v := .tuple #[.agg #[.int .i64 0, .int .i64 0, .int .i64 0, .slice none 0 0, .slice none 0 0, .slice none 0 0], .int .i64 1]) (by simp [results, Try.results53, go_sem, fr]) rfl ⟨_, rfl, ?_, ?_⟩
  · exact (ownDev_none _ _ _ (by first | (simp [World.setCell]; done) | (simp [World.setCell]; omega)))
  · iterate 6 (with_reducible refine Below.setCell ?_ (by simp; try omega) _)
    exact HR1.out.1

set_option maxHeartbeats 8000000 in
set_option maxRecDepth 100000 in
theorem iWr_scr (d : Dev) (nm : ByteArray) (v : Value) (lo hi : Nat) (w : World) (hx : DevR w lo hi v d) (hhi : hi ≤ w.heap.size) (hs : DevSmall d) (hB : devB d = true) (hu : d.use = 0) (hl : nm.size ≤ 1048576) :
    Calls Try.prog 53 #[v, .string nm] w fun e w' => ∃ v', e = .returned (.tuple #[v', .int .i64 0]) ∧ OwnDev w' w.heap.size w'.heap.size v' ⟨d.use, showTo d.scr nm nm.size, d.files, d.keys⟩ ∧ Below w.heap.size w w' := by
  have HX := Lib.hid hx; have HS := Lib.hid hs
  obtain ⟨A, c, F, cf, J, cj, rfl, h1, h2, h3⟩ := hx
  have R0 := (((Stand.nil w).add lo hi _ (loc_devR lo hi (.agg (devCs d A c F cf J cj)) d) hhi HX.out).box 61 (devCs d A c F cf J cj)).box 61 #[.int .i64 0, .int .i64 0, .int .i64 0, .slice none 0 0, .slice none 0 0, .slice none 0 0]
  rw [heap_size_alloc1] at R0
  have HR0 := Lib.hid R0
  have HOK := Lib.hid (fun W v h1 h2 => implDevicesOk_any d v lo hi W h1 h2 HS.out)
  clear h1 h2 h3 R0 hs
  rw [hB] at HOK
  have HGD := Lib.hid (DevGood.of hB)
  have hn3 := HGD.out.n3
  have hr0 : 0 < d.scr.rows.length := by have := HGD.out.fine.len; omega
  have u0 : (d.use == 0) = true := by rw [hu]; rfl
  clear hu
  have hFT := showTo_fine HGD.out.fine nm nm.size
  have HWA := Lib.hid (fun base p b c2 V cv K2 ck2 W h1 h2 => write_any d.scr nm base p 1 61 (devCs d (some ⟨b, 0, none⟩) c2 V cv K2 ck2) b 0 c2 W h1 h2 HGD.out.fine hl)
  generalize hS0 : showTo d.scr nm nm.size = S0 at *
  clear hS0
  go_enter Try.func53, Try.ntmps53
  go_wp2_with fail
  refine (HOK.out _ _ (HR0.out.get 2 rfl) (HR0.out.le 2 rfl)).mono ?_
  rintro e1 w1 ⟨rfl, hb1⟩
  have HR1 := Lib.hid (HR0.out.below hb1); clear hb1 HR0 HOK
  have f1 := (HR1.out.get 1 rfl).cell
  go_wp2_with fail
  refine (copyDevices_own d _ lo hi _ (HR1.out.get 2 rfl) (HR1.out.le 2 rfl) hr0 HS.out).mono ?_
  rintro e2 w2 ⟨p, A2, c2, V, cv, K2, ck2, rfl, hp1, hp2, hBp, ⟨a1, b1, a3, b3, B, hq, x13, ⟨oA, oAb⟩, ⟨xs, hxs, hfx⟩, oK, oKb⟩, hb2⟩
  have s1 := HR1.out.le 0 rfl
  have s2 := hb2.size
  have HR2 := Lib.hid (HR1.out.below hb2); clear hb2 f1 HR1
  have HQ := Lib.hid hq; have HX13 := Lib.hid x13; have HOA := Lib.hid oA; have HOAB := Lib.hid oAb; have HXS := Lib.hid hxs; have HFX := Lib.hid hfx; have HOK := Lib.hid oK; have HOKB := Lib.hid oKb; have HBP := Lib.hid hBp
  have hpB := hq.2.2.2.2.1; have hBw := hq.2.2.2.2.2; have hwp := hp1
  clear hq x13 oA oAb hxs hfx oK oKb hBp
  obtain ⟨b, rfl, hO⟩ := OwnO.of_own HOA.out hr0
  have hbb := HOAB.out b rfl
  have hab := hO.1
  have hbp := HQ.out.2.1; have ha1 := HQ.out.1
  have HSX : Hid (ScrX w2 a1 p 1 61 (devCs d (some ⟨b, 0, none⟩) c2 V cv K2 ck2) b 0 c2 d.scr) := ⟨by omega, by simp, by rw [put3_dev]; exact HBP.out, hO⟩
  have fp := HBP.out.cell
  clear hO
  go_wp2_with fail
  refine (HWA.out a1 p b c2 V cv K2 ck2 _ HSX.out (by omega)).mono ?_
  rintro e3 w3 ⟨rfl, b3', o3, c3, hp3, hb3, ht3⟩
  have s3 := ht3.size
  have hk3 : ∀ k, k < w2.heap.size → k ≠ p → k ≠ b → w3.heap[k]? = w2.heap[k]? := fun k h1 h2 h3 => ht3.block k h1 h2 h3
  have hB3 := hp3.blk
  rw [put3_dev] at hB3
  have hFX3 := (loc_ownFx _ _ _ xs w2 w3 (fun k h1 h2 => hk3 k (by omega) (by omega) (by omega)) HFX.out).more s3
  have hfr := hFX3.fils.reads
  rw [HXS.out] at hfr
  have hOK3 := own_keep (hi := b3) (w' := w3) HOK.out HOKB.out (fun k h1 h2 => hk3 k (by have := HQ.out.2.2.2.1; omega) (by have := HQ.out.2.2.2.1; omega) (fun e => by have := HX13.out.far (k := b) hab hbb; omega))
  have HDR := Lib.hid (show DevR w3 w1.heap.size w3.heap.size (.agg (devCs ⟨d.use, S0, d.files, d.keys⟩ (some ⟨b3', o3, none⟩) c3 V cv K2 ck2)) ⟨d.use, S0, d.files, d.keys⟩ from ⟨some ⟨b3', o3, none⟩, c3, V, cv, K2, ck2, rfl, RowR.more hp3.own.reads (by have := HQ.out.1; omega) (Nat.le_refl _), FilesR.more hfr (by omega) (Nat.le_refl _), RowR.more (own_reads hOK3 HOKB.out) (by have := HQ.out.2.2.1; omega) (by have := HQ.out.2.2.2.1; omega)⟩)
  have HRB3 := Lib.hid (show Blk w3 (w.heap.size + 1) 61 #[.int .i64 0, .int .i64 0, .int .i64 0, .slice none 0 0, .slice none 0 0, .slice none 0 0] from (hk3 _ (by omega) (by omega) (by omega)).trans (HR2.out.get 0 rfl))
  have HBEL3 := Lib.hid (show Below w.heap.size w w3 from HR2.out.1.trans (ht3.below (base := w.heap.size) (by omega) (by omega) (by omega)))
  have HDS := Lib.hid (show DevSmall ⟨d.use, S0, d.files, d.keys⟩ from ⟨⟨by have := hFT.len; show S0.rows.length ≤ _; omega, fun r hr => by have := hFT.size r hr; omega⟩, HS.out.2.1, HS.out.2.2⟩)
  have hr1 : 0 < S0.rows.length := by have := hFT.len; omega
  have HB3 := Lib.hid hB3
  clear fp hp3 ht3 hk3 hB3 hFX3 hfr hOK3 HSX HWA HR2 HBP HFX HOK HOA hFT
  have fp := HB3.out.cell
  go_wp2_with fail
  refine (copyDevices_own ⟨d.use, S0, d.files, d.keys⟩ _ w1.heap.size w3.heap.size _ HDR.out (Nat.le_refl _) hr1 HDS.out).mono ?_
  rintro e4 w4 ⟨p4, A4, c4, V4, cv4, K4, ck4, rfl, hp41, hp42, hBp4, ⟨a41, b41, a43, b43, B4, hq4, x134, ⟨oA4, oAb4⟩, ⟨xs4, hxs4, hfx4⟩, oK4, oKb4⟩, hb4⟩
  have s4 := hb4.size
  have HRB4 := Lib.hid (HRB3.out.below hb4 HRB3.out.lt); have HBEL := Lib.hid (HBEL3.out.trans (hb4.mono HBEL3.out.size))
  have HQ4 := Lib.hid hq4; have HX134 := Lib.hid x134; have HOA4 := Lib.hid oA4; have HOAB4 := Lib.hid oAb4; have HXS4 := Lib.hid hxs4; have HFX4 := Lib.hid hfx4; have HOK4 := Lib.hid oK4; have HOKB4 := Lib.hid oKb4; have HBP4 := Lib.hid hBp4
  have s0 : w.heap.size + 2 ≤ w3.heap.size := by omega
  clear hq4 x134 oA4 oAb4 hxs4 hfx4 oK4 oKb4 hBp4 hb4 fp HB3 HDR HRB3 HBEL3 HDS HQ HX13 HOAB HXS HOKB
  have fp := HBP4.out.cell; have fr := HRB4.out.cell; have zr := HRB4.out.frozen
  go_wp2_with fail
  refine bodyPost_ret (v := .tuple #[.agg (devCs ⟨d.use, S0, d.files, d.keys⟩ A4 c4 V4 cv4 K4 ck4), .int .i64 0]) (by simp [results, Try.results53, go_sem, fr]) rfl ⟨_, rfl, ?_, ?_⟩
  · obtain ⟨q1, q2, q3, q4, q5, q6⟩ := HQ4.out
    refine ownDev_mk (W := w4) (p := p4) (r := w.heap.size + 1) (d := ⟨d.use, S0, d.files, d.keys⟩) (lo := w.heap.size) ⟨by omega, q2, by omega, q4, q5, by omega⟩ ⟨by omega, by omega, by omega⟩ (by omega) HX134.out HOA4.out HOAB4.out HXS4.out HFX4.out HOK4.out HOKB4.out (fun b h1 h2 => ?_) (by simp [World.setCell])
    iterate 6 (with_reducible rw [Below.heap_setCell _ _ _ b (by simp; omega)])
  · iterate 6 (with_reducible refine Below.setCell ?_ (by simp; try omega) _)
    exact HBEL.out

set_option maxHeartbeats 8000000 in
set_option maxRecDepth 100000 in
theorem iWr_fil (d : Dev) (nm : ByteArray) (v : Value) (lo hi : Nat) (w : World) (hx : DevR w lo hi v d) (hhi : hi ≤ w.heap.size) (hs : DevSmall d) (hB : devB d = true) (hu : ¬ d.use = 0) (hl : nm.size ≤ 1048576) :
    Calls Try.prog 53 #[v, .string nm] w fun e w' => ∃ v', e = .returned (.tuple #[v', .int .i64 (writeFil d nm.data.toList).2]) ∧ OwnDev w' w.heap.size w'.heap.size v' (writeFil d nm.data.toList).1 ∧ Below w.heap.size w w' := by
  have HX := Lib.hid hx; have HS := Lib.hid hs
  obtain ⟨A, c, F, cf, J, cj, rfl, h1, h2, h3⟩ := hx
  have R0 := (((Stand.nil w).add lo hi _ (loc_devR lo hi (.agg (devCs d A c F cf J cj)) d) hhi HX.out).box 61 (devCs d A c F cf J cj)).box 61 #[.int .i64 0, .int .i64 0, .int .i64 0, .slice none 0 0, .slice none 0 0, .slice none 0 0]
  rw [heap_size_alloc1] at R0
  have HR0 := Lib.hid R0
  have HOK := Lib.hid (fun W v h1 h2 => implDevicesOk_any d v lo hi W h1 h2 HS.out)
  clear h1 h2 h3 R0 hs
  rw [hB] at HOK
  have HGD := Lib.hid (DevGood.of hB)
  have hn3 := HGD.out.n3
  have hr0 : 0 < d.scr.rows.length := by have := HGD.out.fine.len; omega
  have u0 : (d.use == 0) = false := by rw [beq_eq_false_iff_ne]; exact hu
  have u1 := HGD.out.use0; have u2 := HGD.out.usen
  obtain ⟨j, hju⟩ : ∃ j : Nat, d.use = (j : Int) + 1 := ⟨(d.use - 1).toNat, by omega⟩
  have hjn : j < d.files.length := by omega
  have HJU := Lib.hid hju
  have HFG := Lib.hid (HGD.out.files _ (getD_mem (d := filD) hjn))
  have HWF := Lib.hid (show writeFil d nm.data.toList = if wrOk (d.files.getD j filD) nm.data.toList then (⟨d.use, d.scr, d.files.set j (wrF (d.files.getD j filD) nm.data.toList), d.keys⟩, 0) else (noDev, 4) by unfold writeFil; rw [show (d.use - 1).toNat = j by omega])
  generalize writeFil d nm.data.toList = WF at *
  clear hu hju
  go_enter Try.func53, Try.ntmps53
  go_wp2_with fail
  refine (HOK.out _ _ (HR0.out.get 2 rfl) (HR0.out.le 2 rfl)).mono ?_
  rintro e1 w1 ⟨rfl, hb1⟩
  have HR1 := Lib.hid (HR0.out.below hb1); clear hb1 HR0 HOK
  have f1 := (HR1.out.get 1 rfl).cell
  go_wp2_with fail
  refine (copyDevices_own d _ lo hi _ (HR1.out.get 2 rfl) (HR1.out.le 2 rfl) hr0 HS.out).mono ?_
  rintro e2 w2 ⟨p, A2, c2, V, cv, K2, ck2, rfl, hp1, hp2, hBp, ⟨a1, b1, a3, b3, B, hq, x13, ⟨oA, oAb⟩, ⟨xs, hxs, hfx⟩, oK, oKb⟩, hb2⟩
  have s1 := HR1.out.le 0 rfl
  have s2 := hb2.size
  have HR2 := Lib.hid (HR1.out.below hb2); clear hb2 f1 HR1
  have HQ := Lib.hid hq; have HX13 := Lib.hid x13; have HOA := Lib.hid oA; have HOAB := Lib.hid oAb; have HXS := Lib.hid hxs; have HFX := Lib.hid hfx; have HOK := Lib.hid oK; have HOKB := Lib.hid oKb; have HBP := Lib.hid hBp
  have hpB := hq.2.2.2.2.1; have hBw := hq.2.2.2.2.2; have hwp := hp1
  clear hq x13 oA oAb hxs hfx oK oKb hBp
  have HXL := Lib.hid (show xs.length = d.files.length by rw [← HXS.out]; simp)
  have hrw := HFX.out.row
  rw [HXL.out] at hrw
  obtain ⟨g, rfl, hgB, hgl, hnc, hcm, -⟩ := row_flat hrw (by omega)
  clear hrw
  have HXJ := Lib.hid (show ∃ x, xs[j]'(by rw [HXL.out]; exact hjn) = x ∧ x.f = d.files.getD j filD from ⟨_, rfl, by have hjx : j < xs.length := (by rw [HXL.out]; exact hjn); have e := congrArg (fun l => l.getD j filD) HXS.out; simp only [List.getD_eq_getElem?_getD, List.getElem?_map, List.getElem?_eq_getElem hjx] at e ⊢; exact e⟩)
  obtain ⟨x, hxj, hxf⟩ := HXJ.out
  clear HXJ
  have HFW := Lib.hid (fun W h => fileWrite_any g cv d.files.length j B xs x nm W h HXL.out (by rw [HXL.out]; exact hjn) hxj (by rw [hxf]; exact FilW.of_ok HFG.out) hl)
  rw [hxf] at HFW
  have HXJ := Lib.hid hxj; clear hxj hxf
  have fp := HBP.out.cell
  have j0 : (0 : Int) ≤ (j : Int) := by omega
  have j1 : (j : Int) < (d.files.length : Int) := by omega
  have ju : d.use - 1 = (j : Int) := by have := HJU.out; omega
  have wju : IntKind.i64.wrap (d.use - 1) = (j : Int) := by rw [ju]; exact IntWalk.i64_in _ (by omega)
  clear ju
  have HFB := Lib.hid (fun h => (HFW.out w2.drew h (show B ≤ w2.drew.heap.size from hBw)))
  go_wp2_with fail
  refine AnyT.region (fun _ => false) (fun w' => ∀ i, w'.cell? ⟨p, i, none⟩ = (devCs d A2 c2 (some ⟨g, 0, none⟩) cv K2 ck2)[i]?) (by kernel_rfl) fp (fun hHeld => ?_)
  ((refine AnyT.takeAny 0 29 ?_ rfl (by kernel_rfl) (by kernel_rfl) (by kernel_rfl) rfl rfl (fun _ _ _ _ h => h) rfl ?_ (by assumption) ?_); rotate_left; (intro w; go_simp; (try (with_reducible rfl))); simp only [Act.put, List.setIfInBounds_toArray, List.set_cons_zero, List.set_cons_succ])
  ((refine AnyT.takeAny 1 30 ?_ rfl (by kernel_rfl) (by kernel_rfl) (by kernel_rfl) rfl rfl (fun _ _ _ _ h => h) rfl ?_ (by assumption) ?_); rotate_left; (intro w; go_simp; (try (with_reducible rfl))); simp only [Act.put, List.setIfInBounds_toArray, List.set_cons_zero, List.set_cons_succ])
  ((refine AnyT.takeAny 2 31 ?_ rfl (by kernel_rfl) (by kernel_rfl) (by kernel_rfl) rfl rfl (fun _ _ _ _ h => h) rfl ?_ (by assumption) ?_); rotate_left; (intro w; go_simp; (try (with_reducible rfl))); simp only [Act.put, List.setIfInBounds_toArray, List.set_cons_zero, List.set_cons_succ])
  ((refine AnyT.take 3 32 ?_ rfl (by kernel_rfl) (by kernel_rfl) (by kernel_rfl) (by kernel_rfl) rfl (by kernel_rfl) rfl (fun _ _ _ _ h => h) rfl ?_ (by assumption) ?_); rotate_left; (intro w hSw; (try dsimp only at hSw); go_simp; (try (with_reducible rfl))); simp only [Act.put, List.setIfInBounds_toArray, List.set_cons_zero, List.set_cons_succ])
  ((refine AnyT.takeAny 4 33 ?_ rfl (by kernel_rfl) (by kernel_rfl) (by kernel_rfl) rfl rfl (fun _ _ _ _ h => h) rfl ?_ (by assumption) ?_); rotate_left; (intro w; go_simp; (try (with_reducible rfl))); simp only [Act.put, List.setIfInBounds_toArray, List.set_cons_zero, List.set_cons_succ])
  ((refine AnyT.takeAny 5 34 ?_ rfl (by kernel_rfl) (by kernel_rfl) (by kernel_rfl) rfl rfl (fun _ _ _ _ h => h) rfl ?_ (by assumption) ?_); rotate_left; (intro w; go_simp; (try (with_reducible rfl))); simp only [Act.put, List.setIfInBounds_toArray, List.set_cons_zero, List.set_cons_succ])
  ((refine AnyT.takeAny 6 35 ?_ rfl (by kernel_rfl) (by kernel_rfl) (by kernel_rfl) rfl rfl (fun _ _ _ _ h => h) rfl ?_ (by assumption) ?_); rotate_left; (intro w; go_simp; (try (with_reducible rfl))); simp only [Act.put, List.setIfInBounds_toArray, List.set_cons_zero, List.set_cons_succ])
  ((refine AnyT.take 7 36 ?_ rfl (by kernel_rfl) (by kernel_rfl) (by kernel_rfl) (by kernel_rfl) rfl (by kernel_rfl) rfl (fun _ _ _ _ h => h) rfl ?_ (by assumption) ?_); rotate_left; (intro w hSw; (try dsimp only at hSw); go_simp; (try (with_reducible rfl))); simp only [Act.put, List.setIfInBounds_toArray, List.set_cons_zero, List.set_cons_succ])
  ((refine AnyT.takeAny 8 37 ?_ rfl (by kernel_rfl) (by kernel_rfl) (by kernel_rfl) rfl rfl (fun _ _ _ _ h => h) rfl ?_ (by assumption) ?_); rotate_left; (intro w; go_simp; (try (with_reducible rfl))); simp only [Act.put, List.setIfInBounds_toArray, List.set_cons_zero, List.set_cons_succ])
  ((refine AnyT.takeAny 9 38 ?_ rfl (by kernel_rfl) (by kernel_rfl) (by kernel_rfl) rfl rfl (fun _ _ _ _ h => h) rfl ?_ (by assumption) ?_); rotate_left; (intro w; go_simp; (try (with_reducible rfl))); simp only [Act.put, List.setIfInBounds_toArray, List.set_cons_zero, List.set_cons_succ])
  ((refine AnyT.takeAny 10 39 ?_ rfl (by kernel_rfl) (by kernel_rfl) (by kernel_rfl) rfl rfl (fun _ _ _ _ h => h) rfl ?_ (by assumption) ?_); rotate_left; (intro w; go_simp; (try (with_reducible rfl))); simp only [Act.put, List.setIfInBounds_toArray, List.set_cons_zero, List.set_cons_succ])
  ((refine AnyT.one (i := 11) (by kernel_rfl) rfl (fun K hK => ?_)))
  go_simp
  refine (HFB.out (loc_ownFx _ _ _ xs w2 w2.drew (fun b _ _ => rfl) HFX.out)).mono ?_
  rintro e3 w3 ⟨rfl, hb3, hres⟩
  have s3 : w2.heap.size ≤ w3.heap.size := hb3.size
  have hfp : ∀ i, w3.cell? ⟨p, i, none⟩ = (devCs d A2 c2 (some ⟨g, 0, none⟩) cv K2 ck2)[i]? := fun i => (hb3.cell (p := ⟨p, i, none⟩) hpB).trans (hHeld i)
  have ha1 := HQ.out.1
  have HRB3 := Lib.hid (show Blk w3 (w.heap.size + 1) 61 #[.int .i64 0, .int .i64 0, .int .i64 0, .slice none 0 0, .slice none 0 0, .slice none 0 0] from (hb3.block (w.heap.size + 1) (by omega)).trans (HR2.out.get 0 rfl))
  have HBEL := Lib.hid (show Below w.heap.size w w3 from (HR2.out.1.drew).trans (hb3.mono (by omega)))
  have HOA3 := Lib.hid (own_keep (hi := b1) (w' := w3) HOA.out HOAB.out (fun b h1 h2 => hb3.block b (by have := HQ.out.2.1; omega)))
  have HOK3 := Lib.hid (own_keep (hi := b3) (w' := w3) HOK.out HOKB.out (fun b h1 h2 => hb3.block b (by have := HQ.out.2.2.2.1; omega)))
  have HRES := Lib.hid hres; clear hres hb3 HFB HFW
  generalize wrOk (d.files.getD j filD) nm.data.toList = OKB at *
  generalize wrF (d.files.getD j filD) nm.data.toList = F1 at *
  refine hK.out _ _ hfp (fun hHeld => ?_)
  clear hK K hfp
  (try simp only [Act.put, List.setIfInBounds_toArray, List.set_cons_zero, List.set_cons_succ])
  ((refine AnyT.takeAny 12 41 ?_ rfl (by kernel_rfl) (by kernel_rfl) (by kernel_rfl) rfl rfl (fun _ _ _ _ h => h) rfl ?_ (by assumption) ?_); rotate_left; (intro w; go_simp; (try (with_reducible rfl))); simp only [Act.put, List.setIfInBounds_toArray, List.set_cons_zero, List.set_cons_succ])
  refine AnyT.done (by kernel_rfl) ?_ _
  have fr := HRB3.out.cell; have zr := HRB3.out.frozen; have sr := HBEL.out.size
  have fp3 := hHeld; clear hHeld fp
  have s0 : w.heap.size + 1 < w3.heap.size := by omega
  cases hOK : OKB
  · rw [hOK] at HWF HRES
    have HW1 := Lib.hid (show WF = (noDev, 4) from HWF.out)
    clear hOK HWF
    go_wp2_with fail
    refine bodyPost_ret (v := .tuple #[.agg #[.int .i64 0, .int .i64 0, .int .i64 0, .slice none 0 0, .slice none 0 0, .slice none 0 0], .int .i64 4]) (by simp [results, Try.results53, go_sem, fr]) rfl ⟨_, by rw [HW1.out], ?_, ?_⟩
    · rw [HW1.out]; exact ownDev_none _ _ _ (by first | (simp [World.setCell]; done) | (simp [World.setCell]; omega))
    · iterate 6 (with_reducible refine Below.setCell ?_ (by simp; try omega) _)
      exact HBEL.out
  · rw [hOK] at HWF HRES
    have HW1 := Lib.hid (show WF = (⟨d.use, d.scr, d.files.set j F1, d.keys⟩, 0) from HWF.out)
    clear hOK HWF
    obtain ⟨L, c, hfx3⟩ := HRES.out rfl
    have HFX3 := Lib.hid hfx3; have HSL := Lib.hid (show (d.files.set j F1).length = d.files.length from List.length_set); have HSM := Lib.hid (show (xs.set j (⟨F1, L, c⟩ : Fx)).map Fx.f = d.files.set j F1 by rw [List.map_set, HXS.out])
    clear hfx3
    go_wp2_with fail
    refine bodyPost_ret (v := .tuple #[.agg (devCs d A2 c2 (some ⟨g, 0, none⟩) cv K2 ck2), .int .i64 0]) (by simp [results, Try.results53, go_sem, fr]) rfl ⟨_, by rw [HW1.out], ?_, ?_⟩
    · obtain ⟨q1, q2, q3, q4, q5, q6⟩ := HQ.out
      rw [HW1.out]
      unfold devCs
      rw [← HSL.out]
      refine ownDev_mk (W := w3) (p := p) (r := w.heap.size + 1) (d := ⟨d.use, d.scr, d.files.set j F1, d.keys⟩) (lo := w.heap.size) ⟨by omega, q2, by omega, q4, q5, by omega⟩ ⟨by omega, by omega, by omega⟩ (by omega) HX13.out HOA3.out HOAB.out HSM.out (by have := HFX3.out; rw [← HSL.out] at this; exact this) HOK3.out HOKB.out (fun b h1 h2 => ?_) (by simp [World.setCell])
      iterate 6 (with_reducible rw [Below.heap_setCell _ _ _ b (by simp; omega)])
    · iterate 6 (with_reducible refine Below.setCell ?_ (by simp; try omega) _)
      exact HBEL.out

theorem implWriteTo_any (d : Dev) (nm : ByteArray) (v : Value) (lo hi : Nat) (w : World) (hx : DevR w lo hi v d) (hhi : hi ≤ w.heap.size) (hs : DevSmall d) (hl : nm.size ≤ 1048576) :
    Calls Try.prog 53 #[v, .string nm] w fun e w' => ∃ v', e = .returned (.tuple #[v', .int .i64 (writeP d nm).2]) ∧ OwnDev w' w.heap.size w'.heap.size v' (writeP d nm).1 ∧ Below w.heap.size w w' := by
  cases hB : devB d
  · rw [show writeP d nm = (noDev, 1) by simp [writeP, hB]]
    exact iWr_bad d nm v lo hi w hx hhi hs hB
  · by_cases hu : d.use = 0
    · rw [show writeP d nm = (⟨d.use, showTo d.scr nm nm.size, d.files, d.keys⟩, 0) by simp [writeP, hB, hu]]
      exact iWr_scr d nm v lo hi w hx hhi hs hB hu hl
    · rw [show writeP d nm = writeFil d nm.data.toList by simp [writeP, hB, hu]]
      exact iWr_fil d nm v lo hi w hx hhi hs hB hu hl

end Go.Proofs.Ytcfmgmbolnifgaa

/- The reference's WriteTo walked (printed by wip/gen_wto.py). -/
namespace Go.Proofs.Ytcfmgmbolnifgaa
open Go.RowKit

theorem extract_one (s : ByteArray) (k : Nat) (h : k < s.size) : s.extract k (k + 1) = ⟨#[s[k]]⟩ := by
  apply ByteArray.ext
  apply Array.ext
  · simp; omega
  · intro i h1 h2
    simp at h2
    subst h2
    simp
    rfl

set_option maxHeartbeats 8000000 in
set_option maxRecDepth 100000 in
theorem sWr_bad (d : Dev) (nm : ByteArray) (v : Value) (lo hi : Nat) (w : World) (hx : DevR w lo hi v d) (hhi : hi ≤ w.heap.size) (hs : DevSmall d) (hB : devB d = false) :
    Calls Try.prog 52 #[v, .string nm] w fun e w' => ∃ v', e = .returned (.tuple #[v', .int .i64 1]) ∧ DevR w' w.heap.size w'.heap.size v' noDev ∧ Below w.heap.size w w' := by
  have HX := Lib.hid hx; have HS := Lib.hid hs
  obtain ⟨A, c, F, cf, J, cj, rfl, h1, h2, h3⟩ := hx
  have R0 := (((Stand.nil w).add lo hi _ (loc_devR lo hi (.agg (devCs d A c F cf J cj)) d) hhi HX.out).box 61 (devCs d A c F cf J cj)).box 61 #[.int .i64 0, .int .i64 0, .int .i64 0, .slice none 0 0, .slice none 0 0, .slice none 0 0]
  rw [heap_size_alloc1] at R0
  have HR0 := Lib.hid R0
  have HOK := Lib.hid (fun W v h1 h2 => specDevicesOk_any d v lo hi W h1 h2 HS.out)
  clear h1 h2 h3 R0 hs
  rw [hB] at HOK
  go_enter Try.func52, Try.ntmps52
  go_wp2_with fail
  refine (HOK.out _ _ (HR0.out.get 2 rfl) (HR0.out.le 2 rfl)).mono ?_
  rintro e1 w1 ⟨rfl, hb1⟩
  have HR1 := Lib.hid (HR0.out.below hb1); clear hb1 HR0 HOK
  have fr := (HR1.out.get 0 rfl).cell
  have zr := (HR1.out.get 0 rfl).frozen
  have sr := HR1.out.le 0 rfl
  go_wp2_with fail
  refine bodyPost_ret (v := .tuple #[.agg #[.int .i64 0, .int .i64 0, .int .i64 0, .slice none 0 0, .slice none 0 0, .slice none 0 0], .int .i64 1]) (by simp [results, Try.results52, go_sem, fr]) rfl ⟨_, rfl, ?_, ?_⟩
  · exact (ownDev_none _ _ _ (by first | (simp [World.setCell]; done) | (simp [World.setCell]; omega))).reads
  · iterate 6 (with_reducible refine Below.setCell ?_ (by simp; try omega) _)
    exact HR1.out.1

set_option maxHeartbeats 8000000 in
set_option maxRecDepth 100000 in
theorem sWr_scr (d : Dev) (nm : ByteArray) (v : Value) (lo hi : Nat) (w : World) (hx : DevR w lo hi v d) (hhi : hi ≤ w.heap.size) (hs : DevSmall d) (hB : devB d = true) (hu : d.use = 0) (hl : nm.size ≤ 1048576) :
    Calls Try.prog 52 #[v, .string nm] w fun e w' => ∃ v', e = .returned (.tuple #[v', .int .i64 0]) ∧ DevR w' w.heap.size w'.heap.size v' ⟨d.use, showTo d.scr nm nm.size, d.files, d.keys⟩ ∧ Below w.heap.size w w' := by
  have HX := Lib.hid hx; have HS := Lib.hid hs
  obtain ⟨A, c, F, cf, J, cj, rfl, h1, h2, h3⟩ := hx
  have R0 := ((((Stand.nil w).add lo hi _ (loc_strR0 lo hi A _ d.scr.rows) hhi h1).add lo hi _ (loc_devR lo hi (.agg (devCs d A c F cf J cj)) d) hhi HX.out).box 61 (devCs d A c F cf J cj)).box 61 #[.int .i64 0, .int .i64 0, .int .i64 0, .slice none 0 0, .slice none 0 0, .slice none 0 0]
  rw [heap_size_alloc1] at R0
  have HR0 := Lib.hid R0
  have HOK := Lib.hid (fun W v h1 h2 => specDevicesOk_any d v lo hi W h1 h2 HS.out)
  clear h1 h2 h3 R0 hs
  rw [hB] at HOK
  have HGD := Lib.hid (DevGood.of hB)
  have hn3 := HGD.out.n3
  have u0 : (d.use == 0) = true := by rw [hu]; rfl
  clear hu
  have HSH := Lib.hid (fun v lo hi W h1 h2 => l31Show_any d.scr nm v lo hi W h1 h2 HGD.out.fine hl)
  generalize hS0 : showTo d.scr nm nm.size = S0 at *
  clear hS0
  go_enter Try.func52, Try.ntmps52
  go_wp2_with fail
  refine (HOK.out _ _ (HR0.out.get 2 rfl) (HR0.out.le 2 rfl)).mono ?_
  rintro e1 w1 ⟨rfl, hb1⟩
  have HR1 := Lib.hid (HR0.out.below hb1); clear hb1 HR0 HOK
  have f1 := (HR1.out.get 1 rfl).cell
  go_wp2_with fail
  refine (l31Own_own d _ lo hi _ (HR1.out.get 2 rfl) (HR1.out.le 2 rfl) HGD.out.fine HS.out).mono ?_
  rintro e3 w3 ⟨v3, rfl, hx3, hb3⟩
  have s3 := hb3.size
  have s1 := HR1.out.le 0 rfl
  obtain ⟨A3, c3, F3, cf3, K3, ck3, B3, xs, rfl, ⟨q1, q2⟩, hA3, hK3, hxs, hfx⟩ := id hx3
  have hfr := hfx.row
  have HXL := Lib.hid (show xs.length = d.files.length by rw [← hxs]; simp)
  rw [HXL.out] at hfr
  have R3 := ((((HR1.out.below hb3).add w1.heap.size B3 _ (loc_strR0 w1.heap.size B3 A3 _ d.scr.rows) (by omega) hA3).add w1.heap.size B3 _ (loc_strR0 w1.heap.size B3 K3 _ d.keys) (by omega) hK3).add B3 w3.heap.size _ (loc_ownFx B3 w3.heap.size _ xs) (Nat.le_refl _) hfx).add w1.heap.size w3.heap.size _ (loc_devR w1.heap.size w3.heap.size _ d) (Nat.le_refl _) hx3.reads
  have HXS := Lib.hid hxs
  have R4 := R3.box 61 (devCs d A3 c3 F3 cf3 K3 ck3)
  have e4 : (w3.alloc (.cells (devCs d A3 c3 F3 cf3 K3 ck3) 61)).heap.size = w3.heap.size + 1 := by simp
  have HR4 := Lib.hid R4; have HE4 := Lib.hid e4; have HFR := Lib.hid hfr
  have gp := fun o => ((R3.alloc o).get 5 rfl).cell
  clear hb3 HR1 f1 R3 R4 e4 hA3 hK3 hxs hfx hfr hx3
  go_wp2_with fail
  clear gp
  generalize w3.alloc (.cells (devCs d A3 c3 F3 cf3 K3 ck3) 61) = w4 at *
  refine (HSH.out _ lo hi _ ⟨A, c, rfl, HR4.out.get 8 rfl⟩ (HR4.out.le 8 rfl)).mono ?_
  rintro e5 w5 ⟨v5, rfl, ⟨A5, c5, rfl, hA5⟩, hb5⟩
  have HR5 := Lib.hid (HR4.out.below hb5); have HA5 := Lib.hid hA5; have s5 := HR5.out.le 0 rfl; have e4 := HE4.out
  clear hb5 hA5 HR4 HE4
  have HEND := Lib.hid (show ∀ (W' : World), (∀ b, b ≠ w3.heap.size → b ≠ w.heap.size + 1 → W'.heap[b]? = w5.heap[b]?) → w5.heap.size ≤ W'.heap.size →
      DevR W' w.heap.size W'.heap.size (.agg #[.int .i64 d.use, .int .i64 S0.row, .int .i64 S0.col, .slice A5 S0.rows.length c5, .slice F3 d.files.length cf3, .slice K3 d.keys.length ck3]) ⟨d.use, S0, d.files, d.keys⟩ from fun W' hk hz => by
    obtain ⟨A', c', F', f', K', k', e, g1, g2, g3⟩ := (loc_devR w1.heap.size w3.heap.size _ d) w5 W' (fun b h1 h2 => hk b (by omega) (by omega)) (HR5.out.get 1 rfl)
    injection e with e
    simp only [devCs, Array.mk.injEq, List.cons.injEq, Value.slice.injEq, and_true, true_and] at e
    obtain ⟨⟨rfl, rfl⟩, ⟨rfl, rfl⟩, rfl, rfl⟩ := e
    exact ⟨_, _, _, _, _, _, rfl, RowR.more (HA5.out.keep (fun b h1 h2 => hk b (by omega) (by omega))) (by omega) hz, FilesR.more g2 (by omega) (by omega), RowR.more g3 (by omega) (by omega)⟩)
  have fo := (HR5.out.get 0 rfl).cell; have zo := (HR5.out.get 0 rfl).frozen; have fr := (HR5.out.get 5 rfl).cell; have zr := (HR5.out.get 5 rfl).frozen; have HBEL := Lib.hid HR5.out.1
  clear HR5 e4
  go_wp2_with fail
  refine bodyPost_ret (v := .tuple #[.agg #[.int .i64 d.use, .int .i64 S0.row, .int .i64 S0.col, .slice A5 S0.rows.length c5, .slice F3 d.files.length cf3, .slice K3 d.keys.length ck3], .int .i64 0]) (by simp [results, Try.results52, go_sem, fr]) rfl ⟨_, rfl, ?_, ?_⟩
  · refine HEND.out _ (fun b h1 h2 => ?_) (by simp [World.setCell])
    iterate 9 (with_reducible rw [Below.heap_setCell _ _ _ b (by simp; omega)])
  · iterate 9 (with_reducible refine Below.setCell ?_ (by simp; try omega) _)
    exact HBEL.out

set_option maxHeartbeats 8000000 in
set_option maxRecDepth 100000 in
theorem sWr_fil (d : Dev) (nm : ByteArray) (v : Value) (lo hi : Nat) (w : World) (hx : DevR w lo hi v d) (hhi : hi ≤ w.heap.size) (hs : DevSmall d) (hB : devB d = true) (hu : ¬ d.use = 0) (hl : nm.size ≤ 1048576) :
    Calls Try.prog 52 #[v, .string nm] w fun e w' => ∃ v', e = .returned (.tuple #[v', .int .i64 (writeFil d nm.data.toList).2]) ∧ DevR w' w.heap.size w'.heap.size v' (writeFil d nm.data.toList).1 ∧ Below w.heap.size w w' := by
  have HX := Lib.hid hx; have HS := Lib.hid hs
  obtain ⟨A, c, F, cf, J, cj, rfl, h1, h2, h3⟩ := hx
  have R0 := ((((Stand.nil w).add lo hi _ (loc_strR0 lo hi A _ d.scr.rows) hhi h1).add lo hi _ (loc_devR lo hi (.agg (devCs d A c F cf J cj)) d) hhi HX.out).box 61 (devCs d A c F cf J cj)).box 61 #[.int .i64 0, .int .i64 0, .int .i64 0, .slice none 0 0, .slice none 0 0, .slice none 0 0]
  rw [heap_size_alloc1] at R0
  have HR0 := Lib.hid R0
  have HOK := Lib.hid (fun W v h1 h2 => specDevicesOk_any d v lo hi W h1 h2 HS.out)
  clear h1 h2 h3 R0 hs
  rw [hB] at HOK
  have HGD := Lib.hid (DevGood.of hB)
  have hn3 := HGD.out.n3
  have u0 : (d.use == 0) = false := by rw [beq_eq_false_iff_ne]; exact hu
  have u1 := HGD.out.use0; have u2 := HGD.out.usen
  obtain ⟨j, hju⟩ : ∃ j : Nat, d.use = (j : Int) + 1 := ⟨(d.use - 1).toNat, by omega⟩
  have hjn : j < d.files.length := by omega
  have HJU := Lib.hid hju
  have HFG := Lib.hid (FilW.of_ok (HGD.out.files _ (getD_mem (d := filD) hjn)))
  have HWF := Lib.hid (show writeFil d nm.data.toList = if wrOk (d.files.getD j filD) nm.data.toList then (⟨d.use, d.scr, d.files.set j (wrF (d.files.getD j filD) nm.data.toList), d.keys⟩, 0) else (noDev, 4) by unfold writeFil; rw [show (d.use - 1).toNat = j by omega])
  generalize writeFil d nm.data.toList = WF at *
  clear hu hju
  go_enter Try.func52, Try.ntmps52
  go_wp2_with fail
  refine (HOK.out _ _ (HR0.out.get 2 rfl) (HR0.out.le 2 rfl)).mono ?_
  rintro e1 w1 ⟨rfl, hb1⟩
  have HR1 := Lib.hid (HR0.out.below hb1); clear hb1 HR0 HOK
  have f1 := (HR1.out.get 1 rfl).cell
  go_wp2_with fail
  refine (l31Own_own d _ lo hi _ (HR1.out.get 2 rfl) (HR1.out.le 2 rfl) HGD.out.fine HS.out).mono ?_
  rintro e3 w3 ⟨v3, rfl, hx3, hb3⟩
  have s3 := hb3.size
  have s1 := HR1.out.le 0 rfl
  obtain ⟨A3, c3, F3, cf3, K3, ck3, B3, xs, rfl, ⟨q1, q2⟩, hA3, hK3, hxs, hfx⟩ := id hx3
  have hfr := hfx.row
  have HXL := Lib.hid (show xs.length = d.files.length by rw [← hxs]; simp)
  rw [HXL.out] at hfr
  have R3 := ((((HR1.out.below hb3).add w1.heap.size B3 _ (loc_strR0 w1.heap.size B3 A3 _ d.scr.rows) (by omega) hA3).add w1.heap.size B3 _ (loc_strR0 w1.heap.size B3 K3 _ d.keys) (by omega) hK3).add B3 w3.heap.size _ (loc_ownFx B3 w3.heap.size _ xs) (Nat.le_refl _) hfx).add w1.heap.size w3.heap.size _ (loc_devR w1.heap.size w3.heap.size _ d) (Nat.le_refl _) hx3.reads
  have HXS := Lib.hid hxs
  have R4 := R3.box 61 (devCs d A3 c3 F3 cf3 K3 ck3)
  have e4 : (w3.alloc (.cells (devCs d A3 c3 F3 cf3 K3 ck3) 61)).heap.size = w3.heap.size + 1 := by simp
  have HR4 := Lib.hid R4; have HE4 := Lib.hid e4; have HFR := Lib.hid hfr
  have gp := fun o => ((R3.alloc o).get 5 rfl).cell
  clear hb3 HR1 f1 R3 R4 e4 hA3 hK3 hxs hfx hfr hx3
  obtain ⟨g, rfl, hgB, hgl, hnc, hcm, -⟩ := row_flat HFR.out (by omega)
  clear HFR
  have hjx : j < xs.length := by rw [HXL.out]; exact hjn
  obtain ⟨x, hxj, hxf⟩ : ∃ x, xs[j] = x ∧ x.f = d.files.getD j filD := ⟨_, rfl, by have e := congrArg (fun l => l.getD j filD) HXS.out; simp only [List.getD_eq_getElem?_getD, List.getElem?_map, List.getElem?_eq_getElem hjx] at e ⊢; exact e⟩
  have hxs : xs.set j x = xs := by rw [← hxj]; exact List.set_getElem_self hjx
  have hfx4 := HR4.out.get 2 rfl
  have hbm : ∀ b, x.sl.ownBlock = some b → b < w3.heap.size := fun b hb => (hfx4.own x (hxj ▸ List.getElem_mem hjx)).2 b hb
  have HST : Hid (WrF (w3.alloc (.cells (devCs d A3 c3 (some ⟨g, 0, none⟩) cf3 K3 ck3) 61)) B3 g cf3 d.files.length j w3.heap.size xs x (w3.alloc (.cells (devCs d A3 c3 (some ⟨g, 0, none⟩) cf3 K3 ck3) 61))) := ⟨by rw [hxs]; exact hfx4.more (by rw [HE4.out]; omega), fun b hb => by have := hbm b hb; omega, rfl, by rw [HE4.out]; omega, Below.refl _ _⟩
  have HJX := Lib.hid hjx; have HXF := Lib.hid hxf; have hgm : g ≠ w3.heap.size := by omega
  have j0 : (0 : Int) ≤ (j : Int) := by omega
  have j1 : (j : Int) < (d.files.length : Int) := by omega
  have ju : d.use - 1 = (j : Int) := by have := HJU.out; omega
  have go_ := fun o => ((HR4.out.alloc o).get 0 rfl).cell
  have fo := (HR4.out.get 0 rfl).cell
  clear hxj hxf hxs hfx4 hbm hjx hnc
  go_wp2_with fail
  clear gp go_ fo
  have HLO := Lib.hid (show B3 ≤ (w3.alloc (.cells (devCs d A3 c3 (some ⟨g, 0, none⟩) cf3 K3 ck3) 61)).heap.size by rw [HE4.out]; omega)
  generalize w3.alloc (.cells (devCs d A3 c3 (some ⟨g, 0, none⟩) cf3 K3 ck3) 61) = w4 at *
  generalize hF0 : d.files.getD j filD = f0 at *
  clear hF0
  go_loopw [8] (fun i wr => ∃ k : Nat, k ≤ nm.size ∧ i = .int .i64 k ∧ ∃ y : Fx, y.f = wrF f0 (nm.data.toList.take k) ∧ wrOk f0 (nm.data.toList.take k) = true ∧ WrF w4 B3 g cf3 d.files.length j w3.heap.size xs y wr) (fun i _ => nm.size - (intOf i).toNat)
  case atStart => exact ⟨0, Nat.zero_le _, rfl, x, by rw [List.take_zero]; exact HXF.out, by rw [List.take_zero]; rfl, HST.out⟩
  case round =>
    obtain ⟨k, hk, rfl, y, hyf, hok, hW⟩ := hrel
    have hres := fun W (h : Below B3 w4 W) => (show Blk W (w.heap.size + 1) 61 #[.int .i64 0, .int .i64 0, .int .i64 0, .slice none 0 0, .slice none 0 0, .slice none 0 0] from (h.block (w.heap.size + 1) (by omega)).trans (HR4.out.get 5 rfl))
    have HRES := Lib.hid hres; clear hres
    have HLOW := Lib.hid (fun W (h : Below B3 w4 W) => (show Below w.heap.size w W from HR4.out.1.trans (h.mono (by omega))))
    by_cases hlt : k < nm.size
    · have h255 := byte_le nm[k]
      have HSTEP := Lib.hid (wr_step hlt hyf hok)
      have hFW : FilW y.f := by rw [hyf]; exact HFG.out.all _ hok
      have hlr : B3 ≤ wr.heap.size := Nat.le_trans HLO.out hW.low.size
      obtain ⟨⟨ynm, yls, ypt, yat⟩, L, c⟩ := y
      obtain ⟨p1, p2, -, -⟩ := hFW
      dsimp only at *
      have f1 := (hW.own.at_ HXL.out HJX.out 1 (by omega) (.slice L yls.length c) rfl).1
      have z1 := (hW.own.at_ HXL.out HJX.out 1 (by omega) (.slice L yls.length c) rfl).2
      have f2 := (hW.own.at_ HXL.out HJX.out 2 (by omega) (.string ypt) rfl).1
      have z2 := (hW.own.at_ HXL.out HJX.out 2 (by omega) (.string ypt) rfl).2
      have HW := Lib.hid hW; clear hW hyf hok
      have HEX := Lib.hid (extract_one nm k hlt)
      by_cases h10 : nm[k] = 10
      · have t10 := byte_ten h10
        have t10n : ((nm[k].toNat : Int) != 10) = false := by rw [bne, t10]; rfl
        have HS := Lib.hid (show wrB ⟨ynm, yls, ypt, yat⟩ nm[k] = ⟨ynm, yls ++ [ypt], ⟨#[]⟩, yat⟩ by unfold wrB; rw [if_pos h10])
        clear h10
        go_wp2_with fail
        refine AnyT.region (fun i => decide (i = 13)) (fun w' => w'.cell? ⟨g, j * 4 + 1, none⟩ = some (.slice L yls.length c) ∧ w'.cell? ⟨g, j * 4 + 2, none⟩ = some (.string ypt)) (by kernel_rfl) ⟨f1, f2⟩ (fun hHeld => ?_)
        ((refine AnyT.takeAny 0 53 ?_ rfl (by kernel_rfl) (by kernel_rfl) (by kernel_rfl) rfl rfl (fun _ _ _ _ h => h) rfl ?_ (by assumption) ?_); rotate_left; (intro w; go_simp; (try (with_reducible rfl))); simp only [Act.put, List.setIfInBounds_toArray, List.set_cons_zero, List.set_cons_succ])
        ((refine AnyT.takeAny 1 54 ?_ rfl (by kernel_rfl) (by kernel_rfl) (by kernel_rfl) rfl rfl (fun _ _ _ _ h => h) rfl ?_ (by assumption) ?_); rotate_left; (intro w; go_simp; (try (with_reducible rfl))); simp only [Act.put, List.setIfInBounds_toArray, List.set_cons_zero, List.set_cons_succ])
        ((refine AnyT.takeAny 2 55 ?_ rfl (by kernel_rfl) (by kernel_rfl) (by kernel_rfl) rfl rfl (fun _ _ _ _ h => h) rfl ?_ (by assumption) ?_); rotate_left; (intro w; go_simp; (try (with_reducible rfl))); simp only [Act.put, List.setIfInBounds_toArray, List.set_cons_zero, List.set_cons_succ])
        ((refine AnyT.takeAny 3 56 ?_ rfl (by kernel_rfl) (by kernel_rfl) (by kernel_rfl) rfl rfl (fun _ _ _ _ h => h) rfl ?_ (by assumption) ?_); rotate_left; (intro w; go_simp; (try (with_reducible rfl))); simp only [Act.put, List.setIfInBounds_toArray, List.set_cons_zero, List.set_cons_succ])
        ((refine AnyT.take 4 57 ?_ rfl (by kernel_rfl) (by kernel_rfl) (by kernel_rfl) (by kernel_rfl) rfl (by kernel_rfl) rfl (fun _ _ _ _ h => h) rfl ?_ (by assumption) ?_); rotate_left; (intro w hSw; (try dsimp only at hSw); go_simp; (try (with_reducible rfl))); simp only [Act.put, List.setIfInBounds_toArray, List.set_cons_zero, List.set_cons_succ])
        ((refine AnyT.takeAny 5 58 ?_ rfl (by kernel_rfl) (by kernel_rfl) (by kernel_rfl) rfl rfl (fun _ _ _ _ h => h) rfl ?_ (by assumption) ?_); rotate_left; (intro w; go_simp; (try (with_reducible rfl))); simp only [Act.put, List.setIfInBounds_toArray, List.set_cons_zero, List.set_cons_succ])
        ((refine AnyT.takeAny 6 59 ?_ rfl (by kernel_rfl) (by kernel_rfl) (by kernel_rfl) rfl rfl (fun _ _ _ _ h => h) rfl ?_ (by assumption) ?_); rotate_left; (intro w; go_simp; (try (with_reducible rfl))); simp only [Act.put, List.setIfInBounds_toArray, List.set_cons_zero, List.set_cons_succ])
        ((refine AnyT.takeAny 7 60 ?_ rfl (by kernel_rfl) (by kernel_rfl) (by kernel_rfl) rfl rfl (fun _ _ _ _ h => h) rfl ?_ (by assumption) ?_); rotate_left; (intro w; go_simp; (try (with_reducible rfl))); simp only [Act.put, List.setIfInBounds_toArray, List.set_cons_zero, List.set_cons_succ])
        ((refine AnyT.take 8 61 ?_ rfl (by kernel_rfl) (by kernel_rfl) (by kernel_rfl) (by kernel_rfl) rfl (by kernel_rfl) rfl (fun _ _ _ _ h => h) rfl ?_ (by assumption) ?_); rotate_left; (intro w hSw; (try dsimp only at hSw); go_simp; (try (with_reducible rfl))); simp only [Act.put, List.setIfInBounds_toArray, List.set_cons_zero, List.set_cons_succ])
        have hgw : g < wr.heap.size := by have := HW.out.lt; omega
        have HBA := Lib.hid (show Below wr.heap.size wr (wr.alloc (.cells #[.string ypt] 9)).drew from ((Below.refl wr.heap.size wr).alloc (Nat.le_refl _) (.cells #[.string ypt] 9)).drew)
        have HCB := Lib.hid (show (wr.alloc (.cells #[.string ypt] 9)).drew.cell? ⟨wr.heap.size, 0, none⟩ = some (.string ypt) from (Blk.new wr 9 #[.string ypt]).cell 0)
        have HSZ := Lib.hid (show (wr.alloc (.cells #[.string ypt] 9)).drew.heap.size = wr.heap.size + 1 by show (wr.alloc _).heap.size = _; simp)
        have HOW := Lib.hid (show (wr.alloc (.cells #[.string ypt] 9)).drew.ownsRow B3 9 1 (.slice L yls.length c) yls.length (yls.map Value.string) from own_below ((HW.out.own.own _ (List.mem_of_getElem (by rw [List.getElem_set_self] : (xs.set j ⟨⟨ynm, yls, ypt, yat⟩, L, c⟩)[j]'(by rw [List.length_set]; exact HJX.out) = ⟨⟨ynm, yls, ypt, yat⟩, L, c⟩))).1) HBA.out)
        ((refine AnyT.one (i := 9) (by kernel_rfl) rfl (fun K hK => ?_)))
        go_simp
        refine hK.out _ _ ⟨(HBA.out.cell (p := ⟨g, j * 4 + 1, none⟩) hgw).trans f1, (HBA.out.cell (p := ⟨g, j * 4 + 2, none⟩) hgw).trans f2⟩ (fun hHeld => ?_)
        clear hK K
        (try simp only [Act.put, List.setIfInBounds_toArray, List.set_cons_zero, List.set_cons_succ])
        generalize hWA : (wr.alloc (.cells #[.string ypt] 9)).drew = wa at *
        clear hWA
        ((refine AnyT.one (i := 10) (by kernel_rfl) rfl (fun K hK => ?_)))
        refine step_appStr (by rfl) (.tmp 57) (.tmp 62) 22 (by rfl) Try.underlying22 wa B3 (.slice L yls.length c) yls ypt yls.length (by rfl) HOW.out wr.heap.size (by rfl) HCB.out (by omega) (by have := HSZ.out; omega) ?_
        intro A6 c6 w6 hr6 hg6 hat6
        have hgy : (Value.slice L yls.length c).ownBlock ≠ some g := by
          intro e
          exact HW.out.own.far _ (List.mem_of_getElem (by rw [List.getElem_set_self] : (xs.set j ⟨⟨ynm, yls, ypt, yat⟩, L, c⟩)[j]'(by rw [List.length_set]; exact HJX.out) = ⟨⟨ynm, yls, ypt, yat⟩, L, c⟩)) g e rfl
        have hg6k : w6.heap[g]? = wa.heap[g]? := hg6.block g (by have := HSZ.out; omega) (fun e => hgy e.symm)
        have c61 := (World.cell?_of_block (a := ⟨g, j * 4 + 1, none⟩) hg6k).trans hHeld.1
        have c62 := (World.cell?_of_block (a := ⟨g, j * 4 + 2, none⟩) hg6k).trans hHeld.2
        refine hK.out _ _ ⟨c61, c62⟩ (fun hHeld => ?_)
        clear hK K
        (try simp only [Act.put, List.setIfInBounds_toArray, List.set_cons_zero, List.set_cons_succ])
        have HL6 := Lib.hid (WrF.line (A := A6) (c := c6) (s := ypt) (wa := wa) (w6 := w6) HW.out HXL.out HJX.out hgm hgB hlr HBA.out hr6 hg6 hat6)
        have HZ6 := Lib.hid (show w6.frozen? ⟨g, j * 4 + 1, none⟩ = false from (show _ = wa.frozen? ⟨g, j * 4 + 1, none⟩ by unfold World.frozen?; rw [hg6k]).trans ((HBA.out.frozen (p := ⟨g, j * 4 + 1, none⟩) hgw).trans z1))
        ((refine AnyT.takeAny 11 64 ?_ rfl (by kernel_rfl) (by kernel_rfl) (by kernel_rfl) rfl rfl (fun _ _ _ _ h => h) rfl ?_ (by assumption) ?_); rotate_left; (intro w; go_simp; (try (with_reducible rfl))); simp only [Act.put, List.setIfInBounds_toArray, List.set_cons_zero, List.set_cons_succ])
        ((refine AnyT.takeAny 12 65 ?_ rfl (by kernel_rfl) (by kernel_rfl) (by kernel_rfl) rfl rfl (fun _ _ _ _ h => h) rfl ?_ (by assumption) ?_); rotate_left; (intro w; go_simp; (try (with_reducible rfl))); simp only [Act.put, List.setIfInBounds_toArray, List.set_cons_zero, List.set_cons_succ])
        have zz := HZ6.out
        ((refine AnyT.last (i := 13) (by kernel_rfl) rfl (by kernel_rfl) (fun K hK => ?_)))
        go_simp
        refine hK.out _ _ ?_
        clear hK K
        (try simp only [Act.put, List.setIfInBounds_toArray, List.set_cons_zero, List.set_cons_succ])
        refine AnyT.done (by kernel_rfl) ?_ _
        generalize w6.setCell ⟨g, j * 4 + 1, none⟩ (.slice A6 (yls.length + 1) c6) = w6' at *
        clear c61 c62 hg6k hgy hr6 hg6 hat6 hHeld zz HZ6 HBA HCB HSZ HOW f1 z1 f2 z2
        have f1 := (HL6.out.own.at_ HXL.out HJX.out 1 (by omega) (.slice A6 (yls.length + 1) c6) (by simp [Fx.cells, Fx.sl])).1
        have f2 := (HL6.out.own.at_ HXL.out HJX.out 2 (by omega) (.string ypt) rfl).1; have z2 := (HL6.out.own.at_ HXL.out HJX.out 2 (by omega) (.string ypt) rfl).2
        have HL7 := Lib.hid (HL6.out.part HXL.out HJX.out hgm hgB ⟨#[]⟩)
        clear HL6
        by_cases hfit : yls.length + 1 ≤ 20
        · have HF := Lib.hid (HSTEP.out.1 (by rw [HS.out]; unfold fitsB; simp [ByteArray.size]; omega)); clear HSTEP
          rw [HS.out] at HF
          go_wp2_with fail
          go_roundw
          case rel => exact ⟨k + 1, by omega, by go_num, _, HF.out.1, HF.out.2, HL7.out⟩
          case measure => simp [intOf]; omega
        · have HF := Lib.hid (HSTEP.out.2 (by rw [HS.out]; unfold fitsB; simp [ByteArray.size]; omega)); clear HSTEP
          have HW1 := Lib.hid (show WF = (noDev, 4) by rw [HWF.out, HF.out]; rfl)
          have fr := (HRES.out _ HL7.out.low).cell; have zr := (HRES.out _ HL7.out.low).frozen; have HBEL := Lib.hid (HLOW.out _ HL7.out.low); have sr := HBEL.out.size; have sr2 := HL7.out.low.size; (try simp only [World.setCell, Array.size_modify] at sr sr2)
          go_wp2_with fail
          refine bodyPost_ret (v := .tuple #[.agg #[.int .i64 0, .int .i64 0, .int .i64 0, .slice none 0 0, .slice none 0 0, .slice none 0 0], .int .i64 4]) (by simp [results, Try.results52, go_sem, fr]) rfl ⟨_, by rw [HW1.out], ?_, ?_⟩
          · rw [HW1.out]; exact (ownDev_none _ _ _ (by first | (simp [World.setCell]; done) | (simp [World.setCell]; omega))).reads
          · iterate 6 (with_reducible refine Below.setCell ?_ (by simp; try omega) _)
            exact HBEL.out
      · have t10 := byte_not_ten h10
        have t10n : ((nm[k].toNat : Int) != 10) = true := by rw [bne, t10]; rfl
        have HS := Lib.hid (show wrB ⟨ynm, yls, ypt, yat⟩ nm[k] = ⟨ynm, yls, ypt ++ ⟨#[nm[k]]⟩, yat⟩ by unfold wrB; rw [if_neg h10])
        clear h10
        go_wp2_with fail
        have hex := HEX.out; have wk : IntKind.i64.wrap ((k : Int) + 1) = (k : Int) + 1 := IntWalk.i64_in _ (by omega); have tk : ((k : Int) + 1).toNat = k + 1 := (by omega); have k0 : (0 : Int) ≤ (k : Int) := (by omega); have k1 : (k : Int) + 1 ≤ (nm.size : Int) := (by omega); have k2 : (k : Int) ≤ (k : Int) + 1 := (by omega)
        refine AnyT.region (fun i => decide (i = 13)) (fun w' => w'.cell? ⟨g, j * 4 + 2, none⟩ = some (.string ypt)) (by kernel_rfl) f2 (fun hHeld => ?_)
        ((refine AnyT.takeAny 0 40 ?_ rfl (by kernel_rfl) (by kernel_rfl) (by kernel_rfl) rfl rfl (fun _ _ _ _ h => h) rfl ?_ (by assumption) ?_); rotate_left; (intro w; go_simp; (try (with_reducible rfl))); simp only [Act.put, List.setIfInBounds_toArray, List.set_cons_zero, List.set_cons_succ])
        ((refine AnyT.takeAny 1 41 ?_ rfl (by kernel_rfl) (by kernel_rfl) (by kernel_rfl) rfl rfl (fun _ _ _ _ h => h) rfl ?_ (by assumption) ?_); rotate_left; (intro w; go_simp; (try (with_reducible rfl))); simp only [Act.put, List.setIfInBounds_toArray, List.set_cons_zero, List.set_cons_succ])
        ((refine AnyT.takeAny 2 42 ?_ rfl (by kernel_rfl) (by kernel_rfl) (by kernel_rfl) rfl rfl (fun _ _ _ _ h => h) rfl ?_ (by assumption) ?_); rotate_left; (intro w; go_simp; (try (with_reducible rfl))); simp only [Act.put, List.setIfInBounds_toArray, List.set_cons_zero, List.set_cons_succ])
        ((refine AnyT.takeAny 3 43 ?_ rfl (by kernel_rfl) (by kernel_rfl) (by kernel_rfl) rfl rfl (fun _ _ _ _ h => h) rfl ?_ (by assumption) ?_); rotate_left; (intro w; go_simp; (try (with_reducible rfl))); simp only [Act.put, List.setIfInBounds_toArray, List.set_cons_zero, List.set_cons_succ])
        ((refine AnyT.take 4 44 ?_ rfl (by kernel_rfl) (by kernel_rfl) (by kernel_rfl) (by kernel_rfl) rfl (by kernel_rfl) rfl (fun _ _ _ _ h => h) rfl ?_ (by assumption) ?_); rotate_left; (intro w hSw; (try dsimp only at hSw); go_simp; (try (with_reducible rfl))); simp only [Act.put, List.setIfInBounds_toArray, List.set_cons_zero, List.set_cons_succ])
        ((refine AnyT.takeAny 5 45 ?_ rfl (by kernel_rfl) (by kernel_rfl) (by kernel_rfl) rfl rfl (fun _ _ _ _ h => h) rfl ?_ (by assumption) ?_); rotate_left; (intro w; go_simp; (try (with_reducible rfl))); simp only [Act.put, List.setIfInBounds_toArray, List.set_cons_zero, List.set_cons_succ])
        ((refine AnyT.takeAny 6 46 ?_ rfl (by kernel_rfl) (by kernel_rfl) (by kernel_rfl) rfl rfl (fun _ _ _ _ h => h) rfl ?_ (by assumption) ?_); rotate_left; (intro w; go_simp; (try (with_reducible rfl))); simp only [Act.put, List.setIfInBounds_toArray, List.set_cons_zero, List.set_cons_succ])
        ((refine AnyT.takeAny 7 47 ?_ rfl (by kernel_rfl) (by kernel_rfl) (by kernel_rfl) rfl rfl (fun _ _ _ _ h => h) rfl ?_ (by assumption) ?_); rotate_left; (intro w; go_simp; (try (with_reducible rfl))); simp only [Act.put, List.setIfInBounds_toArray, List.set_cons_zero, List.set_cons_succ])
        ((refine AnyT.takeAny 8 48 ?_ rfl (by kernel_rfl) (by kernel_rfl) (by kernel_rfl) rfl rfl (fun _ _ _ _ h => h) rfl ?_ (by assumption) ?_); rotate_left; (intro w; go_simp; (try (with_reducible rfl))); simp only [Act.put, List.setIfInBounds_toArray, List.set_cons_zero, List.set_cons_succ])
        ((refine AnyT.takeAny 9 49 ?_ rfl (by kernel_rfl) (by kernel_rfl) (by kernel_rfl) rfl rfl (fun _ _ _ _ h => h) rfl ?_ (by assumption) ?_); rotate_left; (intro w; go_simp; (try (with_reducible rfl))); simp only [Act.put, List.setIfInBounds_toArray, List.set_cons_zero, List.set_cons_succ])
        have HNS := Lib.hid (show (ypt ++ (⟨#[nm[k]]⟩ : ByteArray)).size = ypt.size + 1 by rw [ByteArray.size_append]; rfl)
        have hbig : ¬ (9223372036854775807 < ypt.size + 1) := by omega
        ((refine AnyT.takeAny 10 50 ?_ rfl (by kernel_rfl) (by kernel_rfl) (by kernel_rfl) rfl rfl (fun _ _ _ _ h => h) rfl ?_ (by assumption) ?_); rotate_left; (intro w; go_simp; (try (with_reducible rfl))); simp only [Act.put, List.setIfInBounds_toArray, List.set_cons_zero, List.set_cons_succ])
        clear hbig
        ((refine AnyT.takeAny 11 51 ?_ rfl (by kernel_rfl) (by kernel_rfl) (by kernel_rfl) rfl rfl (fun _ _ _ _ h => h) rfl ?_ (by assumption) ?_); rotate_left; (intro w; go_simp; (try (with_reducible rfl))); simp only [Act.put, List.setIfInBounds_toArray, List.set_cons_zero, List.set_cons_succ])
        ((refine AnyT.takeAny 12 52 ?_ rfl (by kernel_rfl) (by kernel_rfl) (by kernel_rfl) rfl rfl (fun _ _ _ _ h => h) rfl ?_ (by assumption) ?_); rotate_left; (intro w; go_simp; (try (with_reducible rfl))); simp only [Act.put, List.setIfInBounds_toArray, List.set_cons_zero, List.set_cons_succ])
        ((refine AnyT.last (i := 13) (by kernel_rfl) rfl (by kernel_rfl) (fun K hK => ?_)))
        go_simp
        refine hK.out _ _ ?_
        clear hK K
        (try simp only [Act.put, List.setIfInBounds_toArray, List.set_cons_zero, List.set_cons_succ])
        refine AnyT.done (by kernel_rfl) ?_ _
        clear hex wk tk k0 k1 k2 hHeld
        have HL7 := Lib.hid ((HW.out.below hlr (below_drewN' wr 1)).part HXL.out HJX.out hgm hgB (ypt ++ ⟨#[nm[k]]⟩))
        have hWD : (wr.drewN 1).setCell ⟨g, j * 4 + 2, none⟩ (.string (ypt ++ ⟨#[nm[k]]⟩)) = (wr.setCell ⟨g, j * 4 + 2, none⟩ (.string (ypt ++ ⟨#[nm[k]]⟩))).drew := rfl
        rw [hWD] at HL7
        clear hWD
        generalize (wr.setCell ⟨g, j * 4 + 2, none⟩ (.string (ypt ++ ⟨#[nm[k]]⟩))).drew = w7 at *
        clear f1 z1 f2 z2
        have f1 := (HL7.out.own.at_ HXL.out HJX.out 1 (by omega) (.slice L yls.length c) rfl).1
        have f2 := (HL7.out.own.at_ HXL.out HJX.out 2 (by omega) (.string (ypt ++ ⟨#[nm[k]]⟩)) rfl).1
        dsimp only at HL7
        generalize ypt ++ (⟨#[nm[k]]⟩ : ByteArray) = np at *
        by_cases hfit : ypt.size + 1 ≤ 80
        · have hns : np.size ≤ 80 := (by rw [HNS.out]; exact hfit); have HF := Lib.hid (HSTEP.out.1 (by rw [HS.out]; unfold fitsB; simp; omega)); clear HSTEP
          rw [HS.out] at HF
          go_wp2_with fail
          go_roundw
          case rel => exact ⟨k + 1, by omega, by go_num, _, HF.out.1, HF.out.2, HL7.out⟩
          case measure => simp [intOf]; omega
        · have hns : 80 < np.size := (by rw [HNS.out]; omega); have HF := Lib.hid (HSTEP.out.2 (by rw [HS.out]; unfold fitsB; simp; omega)); clear HSTEP
          have HW1 := Lib.hid (show WF = (noDev, 4) by rw [HWF.out, HF.out]; rfl)
          have fr := (HRES.out _ HL7.out.low).cell; have zr := (HRES.out _ HL7.out.low).frozen; have HBEL := Lib.hid (HLOW.out _ HL7.out.low); have sr := HBEL.out.size; have sr2 := HL7.out.low.size; (try simp only [World.setCell, Array.size_modify] at sr sr2)
          go_wp2_with fail
          refine bodyPost_ret (v := .tuple #[.agg #[.int .i64 0, .int .i64 0, .int .i64 0, .slice none 0 0, .slice none 0 0, .slice none 0 0], .int .i64 4]) (by simp [results, Try.results52, go_sem, fr]) rfl ⟨_, by rw [HW1.out], ?_, ?_⟩
          · rw [HW1.out]; exact (ownDev_none _ _ _ (by first | (simp [World.setCell]; done) | (simp [World.setCell]; omega))).reads
          · iterate 6 (with_reducible refine Below.setCell ?_ (by simp; try omega) _)
            exact HBEL.out
    · obtain rfl : k = nm.size := by omega
      have htk : nm.data.toList.take nm.size = nm.data.toList := List.take_of_length_le (by rw [Array.length_toList]; exact Nat.le_refl _)
      rw [htk] at hyf hok
      have HW1 := Lib.hid (show WF = (⟨d.use, d.scr, d.files.set j (wrF f0 nm.data.toList), d.keys⟩, 0) by rw [HWF.out, hok]; rfl)
      have HBO : Hid (Blk wr w3.heap.size 61 (devCs d A3 c3 (some ⟨g, 0, none⟩) cf3 K3 ck3)) := (hW.keep).trans (HR4.out.get 0 rfl)
      have HSL := Lib.hid (show (d.files.set j (wrF f0 nm.data.toList)).length = d.files.length from List.length_set)
      have hsw := hW.low.size; have hlo4 := HLO.out
      have HEND := Lib.hid (show ∀ (W' : World), (∀ b, b ≠ w3.heap.size → b ≠ w.heap.size + 1 → W'.heap[b]? = wr.heap[b]?) → wr.heap.size ≤ W'.heap.size →
          DevR W' w.heap.size W'.heap.size (.agg (devCs d A3 c3 (some ⟨g, 0, none⟩) cf3 K3 ck3)) ⟨d.use, d.scr, d.files.set j (wrF f0 nm.data.toList), d.keys⟩ from fun W' hk' hz => by
        have hlow := hW.low
        have hro := (HR4.out.get 4 rfl).below hlow (Nat.le_refl _)
        have hke := (HR4.out.get 3 rfl).below hlow (Nat.le_refl _)
        refine ⟨A3, c3, some ⟨g, 0, none⟩, cf3, K3, ck3, by unfold devCs; dsimp only; rw [HSL.out], RowR.more (hro.keep (fun b h1 h2 => hk' b (by omega) (by omega))) (by omega) (by omega), ?_, RowR.more (hke.keep (fun b h1 h2 => hk' b (by omega) (by omega))) (by omega) (by omega)⟩
        dsimp only
        rw [HSL.out]
        have hm : (xs.set j y).map Fx.f = d.files.set j (wrF f0 nm.data.toList) := by rw [List.map_set, HXS.out, hyf]
        have hrw := hW.own.row
        rw [List.length_set, HXL.out] at hrw
        have hbo : ∀ b, (Value.slice (some ⟨g, 0, none⟩) d.files.length cf3).ownBlock = some b → b ≠ w3.heap.size := fun b hb => by have e : g = b := (by simpa [Value.ownBlock] using hb); omega
        have hrow : W'.ownsRow B3 91 4 (.slice (some ⟨g, 0, none⟩) d.files.length cf3) d.files.length (flat (xs.set j y)) := own_same hrw (fun b hb => hk' b (hbo b hb) (by have := (hrw.lt b hb).1; omega))
        rw [← hm]
        refine filesR_row hrow (by rw [List.length_set, HXL.out]) (by omega) (by omega) (fun z hz' => ?_)
        have hoz := (hW.own.own z hz').1
        have hzb : ∀ b, z.sl.ownBlock = some b → b ≠ w3.heap.size := fun b hb => by
          obtain ⟨i, hi', rfl⟩ := List.getElem_of_mem hz'
          rw [List.length_set] at hi'
          rw [List.getElem_set] at hb
          split at hb
          · exact hW.far b hb
          · have := ((HR4.out.get 2 rfl).own _ (List.getElem_mem hi')).2 b hb; omega
        have hoz' := own_same (w' := W') hoz (fun b hb => hk' b (hzb b hb) (by have := (hoz.lt b hb).1; omega))
        have hrd := RowR.of_own (d := ByteArray.empty) hoz'
        exact RowR.more hrd (by omega) (Nat.le_refl _))
      have fo := HBO.out.cell; have zo := HBO.out.frozen; have fr := (HRES.out _ hW.low).cell; have zr := (HRES.out _ hW.low).frozen; have HBEL := Lib.hid (HLOW.out _ hW.low)
      have hl0 : (nm.size : Int) ≤ (nm.size : Int) := by omega
      clear hW hyf hok htk hl0
      go_wp2_with fail
      refine bodyPost_ret (v := .tuple #[.agg (devCs d A3 c3 (some ⟨g, 0, none⟩) cf3 K3 ck3), .int .i64 0]) (by simp [results, Try.results52, go_sem, fr]) rfl ⟨_, by rw [HW1.out], ?_, ?_⟩
      · rw [HW1.out]
        refine HEND.out _ (fun b h1 h2 => ?_) (by simp [World.setCell])
        iterate 6 (with_reducible rw [Below.heap_setCell _ _ _ b (by simp; omega)])
      · iterate 6 (with_reducible refine Below.setCell ?_ (by simp; try omega) _)
        exact HBEL.out

theorem specWriteTo_any (d : Dev) (nm : ByteArray) (v : Value) (lo hi : Nat) (w : World) (hx : DevR w lo hi v d) (hhi : hi ≤ w.heap.size) (hs : DevSmall d) (hl : nm.size ≤ 1048576) :
    Calls Try.prog 52 #[v, .string nm] w fun e w' => ∃ v', e = .returned (.tuple #[v', .int .i64 (writeP d nm).2]) ∧ DevR w' w.heap.size w'.heap.size v' (writeP d nm).1 ∧ Below w.heap.size w w' := by
  cases hB : devB d
  · rw [show writeP d nm = (noDev, 1) by simp [writeP, hB]]
    exact sWr_bad d nm v lo hi w hx hhi hs hB
  · by_cases hu : d.use = 0
    · rw [show writeP d nm = (⟨d.use, showTo d.scr nm nm.size, d.files, d.keys⟩, 0) by simp [writeP, hB, hu]]
      exact sWr_scr d nm v lo hi w hx hhi hs hB hu hl
    · rw [show writeP d nm = writeFil d nm.data.toList by simp [writeP, hB, hu]]
      exact sWr_fil d nm v lo hi w hx hhi hs hB hu hl

end Go.Proofs.Ytcfmgmbolnifgaa
