/- The reference's ReadFrom walked (printed by wip/gen_rd.py). -/
import Derived.Test.YtmeholhmadeehaaGreatDoorJoinFLAr
import Derived.Test.YtmeholhmadeehaaGreatDoorJoinFLAo
import Derived.Test.YtmeholhmadeehaaGreatDoorJoinFLAi
import Derived.Test.YtmeholhmadeehaaGreatDoorRows
import Derived.Test.YtmeholhmadeehaaGreatDoorJoinFLAb
namespace Go.Proofs.YtmeholhmadeehaaGreatDoor
open Go.RowKit

theorem showTo_lf (s : Scr) : showTo s ⟨#[10]⟩ (⟨#[10]⟩ : ByteArray).size = newRow s := rfl
theorem inB_le' {a lo hi : Int} (h : inB a lo hi = true) : lo ≤ a ∧ a ≤ hi := by simpa [inB] using h
theorem fil_at' {f : Fil} (h : filB f = true) : 0 ≤ f.at_ ∧ f.at_ ≤ f.lines.length ∧ f.lines.length ≤ 20 ∧ ∀ s ∈ f.lines, s.size ≤ 80 := by
  unfold filB inB at h
  simp only [Bool.and_eq_true, decide_eq_true_eq, List.all_eq_true] at h
  refine ⟨h.1.2.1, h.1.2.2, h.1.1.1.2, fun s hs => ?_⟩
  have := h.2 s hs
  unfold lineB at this
  simp only [Bool.and_eq_true, decide_eq_true_eq] at this
  exact this.1
/-- One cell of the block at the head is stored. -/
theorem Stand.set1 {w0 w : World} {Fs : Facts} {g : Nat} {t : TypeId} {cs : Array Value} (i : Nat) (u : Value) (h : Stand w0 ((g, g + 1, fun W => Blk W g t cs) :: Fs) w) (h0 : w0.heap.size ≤ g) (hd : ∀ f ∈ Fs, f.2.1 ≤ g ∨ g + 1 ≤ f.1) :
    Stand w0 ((g, g + 1, fun W => Blk W g t (cs.setIfInBounds i u)) :: Fs) (w.setCell ⟨g, i, none⟩ u) := by
  have hb := h.get 0 rfl
  have h1 : Stand w0 Fs w := ⟨h.1, fun f hf => h.2 f (List.mem_cons_of_mem _ hf)⟩
  have hw : Within g (g + 1) w (w.setCell ⟨g, i, none⟩ u) := ⟨rfl, rfl, rfl, by simp [World.setCell], fun k _ h => Below.heap_setCell _ _ _ _ (by show k ≠ g; omega)⟩
  exact (h1.within hw h0 hd).add g (g + 1) _ (loc_blk _ _ _) (by simp only [World.setCell, Array.size_modify]; exact hb.lt) (hb.set_ i u)
theorem keys_drop' {w w' : World} {lo hi kb off off' : Nat} {ks : List ByteArray} (h : StrR w lo hi (some ⟨kb, off, none⟩) ks.length ks) (hoff : 1 < ks.length → off' = off + 1) (hk : ∀ b, lo ≤ b → b < hi → w'.heap[b]? = w.heap[b]?) :
    StrR w' lo hi (some ⟨kb, off', none⟩) (ks.length - 1) (ks.drop 1) := by
  refine ⟨by rw [List.length_drop], fun hn => ?_⟩
  obtain ⟨b, o, e, h1, h2, hc⟩ := h.2 (by omega)
  injection e with e; injection e with e1 e2
  subst e1; subst e2
  have ho := hoff (by omega)
  subst ho
  refine ⟨kb, off + 1, rfl, h1, h2, fun j hj => ?_⟩
  have := hc (1 + j) (by omega)
  rw [← Nat.add_assoc] at this
  refine (World.cell?_of_block (hk kb h1 h2)).trans (this.trans ?_)
  rw [List.getD_eq_getElem?_getD, List.getD_eq_getElem?_getD, List.getElem?_drop]

set_option maxHeartbeats 8000000 in
set_option maxRecDepth 100000 in
theorem sRd_bad (d : Dev) (most : Int) (v : Value) (lo hi : Nat) (w : World) (hx : DevR w lo hi v d) (hhi : hi ≤ w.heap.size) (hs : DevSmall d) (hB : devB d = false) :
    Calls Tryz.prog 6 #[v, .int .i64 most] w fun e w' => ∃ v', e = .returned (.tuple #[v', .string ⟨#[]⟩, .int .i64 1]) ∧ DevR w' w.heap.size w'.heap.size v' noDev ∧ Below w.heap.size w w' := by
  have HX := Lib.hid hx; have HS := Lib.hid hs
  obtain ⟨A, c, F, cf, J, cj, rfl, h1, h2, h3⟩ := hx
  have R0 := (((Stand.nil w).add lo hi _ (loc_devR lo hi (.agg (devCs d A c F cf J cj)) d) hhi HX.out).box 32 (devCs d A c F cf J cj)).box 32 #[.int .i64 0, .int .i64 0, .int .i64 0, .slice none 0 0, .slice none 0 0, .slice none 0 0]
  rw [heap_size_alloc1] at R0
  have HR0 := Lib.hid R0
  have HOK := Lib.hid (fun W v h1 h2 => specDevicesOk_any d v lo hi W h1 h2 HS.out)
  clear h1 h2 h3 R0 hs
  rw [hB] at HOK
  go_enter Tryz.func6, Tryz.ntmps6
  go_wp2_with fail
  refine (HOK.out _ _ (HR0.out.get 2 rfl) (HR0.out.le 2 rfl)).mono ?_
  rintro e1 w1 ⟨rfl, hb1⟩
  have HR1 := Lib.hid (HR0.out.below hb1); clear hb1 HR0 HOK
  have fr := (HR1.out.get 0 rfl).cell
  have zr := (HR1.out.get 0 rfl).frozen
  have sr := HR1.out.le 0 rfl
  go_wp2_with fail
  refine bodyPost_ret (v := .tuple #[.agg #[.int .i64 0, .int .i64 0, .int .i64 0, .slice none 0 0, .slice none 0 0, .slice none 0 0], .string ⟨#[]⟩, .int .i64 1]) (by simp [results, Tryz.results6, go_sem, fr]) rfl ⟨_, rfl, ?_, ?_⟩
  · exact (ownDev_none _ _ _ (by first | (simp [World.setCell]; done) | (simp [World.setCell]; omega))).reads
  · iterate 6 (with_reducible refine Below.setCell ?_ (by simp; try omega) _)
    exact HR1.out.1

set_option maxHeartbeats 8000000 in
set_option maxRecDepth 100000 in
theorem sRd_rng (d : Dev) (most : Int) (v : Value) (lo hi : Nat) (w : World) (hx : DevR w lo hi v d) (hhi : hi ≤ w.heap.size) (hs : DevSmall d) (hB : devB d = true) (hr : inB most (-1) 80 = false) :
    Calls Tryz.prog 6 #[v, .int .i64 most] w fun e w' => ∃ v', e = .returned (.tuple #[v', .string ⟨#[]⟩, .int .i64 2]) ∧ DevR w' w.heap.size w'.heap.size v' noDev ∧ Below w.heap.size w w' := by
  have HX := Lib.hid hx; have HS := Lib.hid hs
  obtain ⟨A, c, F, cf, J, cj, rfl, h1, h2, h3⟩ := hx
  have R0 := (((Stand.nil w).add lo hi _ (loc_devR lo hi (.agg (devCs d A c F cf J cj)) d) hhi HX.out).box 32 (devCs d A c F cf J cj)).box 32 #[.int .i64 0, .int .i64 0, .int .i64 0, .slice none 0 0, .slice none 0 0, .slice none 0 0]
  rw [heap_size_alloc1] at R0
  have HR0 := Lib.hid R0
  have HOK := Lib.hid (fun W v h1 h2 => specDevicesOk_any d v lo hi W h1 h2 HS.out)
  clear h1 h2 h3 R0 hs
  rw [hB] at HOK
  go_enter Tryz.func6, Tryz.ntmps6
  go_wp2_with fail
  refine (HOK.out _ _ (HR0.out.get 2 rfl) (HR0.out.le 2 rfl)).mono ?_
  rintro e1 w1 ⟨rfl, hb1⟩
  have HR1 := Lib.hid (HR0.out.below hb1); clear hb1 HR0 HOK
  go_wp2_with fail
  refine (l00In_any most (-1) 80 w1).mono ?_
  rintro e1' w1' ⟨rfl, rfl⟩
  rw [hr]
  have fr := (HR1.out.get 0 rfl).cell
  have zr := (HR1.out.get 0 rfl).frozen
  have sr := HR1.out.le 0 rfl
  go_wp2_with fail
  refine bodyPost_ret (v := .tuple #[.agg #[.int .i64 0, .int .i64 0, .int .i64 0, .slice none 0 0, .slice none 0 0, .slice none 0 0], .string ⟨#[]⟩, .int .i64 2]) (by simp [results, Tryz.results6, go_sem, fr]) rfl ⟨_, rfl, ?_, ?_⟩
  · exact (ownDev_none _ _ _ (by first | (simp [World.setCell]; done) | (simp [World.setCell]; omega))).reads
  · iterate 6 (with_reducible refine Below.setCell ?_ (by simp; try omega) _)
    exact HR1.out.1

set_option maxHeartbeats 8000000 in
set_option maxRecDepth 100000 in
theorem sRd_nokey (d : Dev) (most : Int) (v : Value) (lo hi : Nat) (w : World) (hx : DevR w lo hi v d) (hhi : hi ≤ w.heap.size) (hs : DevSmall d) (hB : devB d = true) (hr : inB most (-1) 80 = true) (hu : d.use = 0) (hk : d.keys.length = 0) :
    Calls Tryz.prog 6 #[v, .int .i64 most] w fun e w' => ∃ v', e = .returned (.tuple #[v', .string ⟨#[]⟩, .int .i64 3]) ∧ DevR w' w.heap.size w'.heap.size v' noDev ∧ Below w.heap.size w w' := by
  have HX := Lib.hid hx; have HS := Lib.hid hs
  obtain ⟨A, c, F, cf, J, cj, rfl, h1, h2, h3⟩ := hx
  have R0 := (((((Stand.nil w).add lo hi _ (loc_strR0 lo hi A _ d.scr.rows) hhi h1).add lo hi _ (loc_strR0 lo hi J _ d.keys) hhi h3).add lo hi _ (loc_devR lo hi (.agg (devCs d A c F cf J cj)) d) hhi HX.out).box 32 (devCs d A c F cf J cj)).box 32 #[.int .i64 0, .int .i64 0, .int .i64 0, .slice none 0 0, .slice none 0 0, .slice none 0 0]
  rw [heap_size_alloc1] at R0
  have HR0 := Lib.hid R0
  have HOK := Lib.hid (fun W v h1 h2 => specDevicesOk_any d v lo hi W h1 h2 HS.out)
  clear h1 h2 h3 R0 hs
  rw [hB] at HOK
  have HGD := Lib.hid (DevGood.of hB)
  have hn3 := HGD.out.n3
  have u0 : ¬ (0 : Int) < d.use := by omega
  have hkl : ((d.keys.length : Int) == 0) = true := by rw [hk]; rfl
  clear hu hk
  go_enter Tryz.func6, Tryz.ntmps6
  go_wp2_with fail
  refine (HOK.out _ _ (HR0.out.get 2 rfl) (HR0.out.le 2 rfl)).mono ?_
  rintro e1 w1 ⟨rfl, hb1⟩
  have HR1 := Lib.hid (HR0.out.below hb1); clear hb1 HR0 HOK
  go_wp2_with fail
  refine (l00In_any most (-1) 80 w1).mono ?_
  rintro e1' w1' ⟨rfl, rfl⟩
  rw [hr]
  clear hr
  have f1 := (HR1.out.get 1 rfl).cell
  go_wp2_with fail
  refine (l31Own_own d _ lo hi _ (HR1.out.get 2 rfl) (HR1.out.le 2 rfl) HGD.out.fine HS.out).mono ?_
  rintro e3 w3 ⟨v3, rfl, hx3, hb3⟩
  have s3 := hb3.size
  have s1 := HR1.out.le 0 rfl
  obtain ⟨A3, c3, F3, cf3, K3, ck3, B3, xs, ja, jb, jc, jd, rfl, ⟨q1, q2⟩, ⟨ga, gb, gc, gd, ge⟩, hA3', hK3', hxs, hfx⟩ := id hx3
  have hA3 := RowR.more hA3' ga gb; have hK3 := RowR.more hK3'.reads gc gd
  have HAX := Lib.hid hA3'; have HKX := Lib.hid hK3'; clear hA3' hK3'
  have hfr := hfx.row
  have HXL := Lib.hid (show xs.length = d.files.length by rw [← hxs]; simp)
  rw [HXL.out] at hfr
  have R3 := ((((HR1.out.below hb3).add ja jb _ (loc_strR0 ja jb A3 _ d.scr.rows) (by omega) HAX.out).add jc jd _ (loc_ownK jc jd K3 ck3 d.keys) (by omega) HKX.out).add B3 w3.heap.size _ (loc_ownFx B3 w3.heap.size _ xs) (Nat.le_refl _) hfx).add w1.heap.size w3.heap.size _ (loc_devR w1.heap.size w3.heap.size _ d) (Nat.le_refl _) hx3.reads
  have HXS := Lib.hid hxs
  have R4 := R3.box 32 (devCs d A3 c3 F3 cf3 K3 ck3)
  have e4 : (w3.alloc (.cells (devCs d A3 c3 F3 cf3 K3 ck3) 32)).heap.size = w3.heap.size + 1 := by simp
  have HR4 := Lib.hid R4; have HE4 := Lib.hid e4; have HFR := Lib.hid hfr
  have gp := fun o => ((R3.alloc o).get 5 rfl).cell
  clear hb3 HR1 f1 R3 R4 e4 hA3 hK3 hxs hfx hfr hx3
  have zr := (HR4.out.get 5 rfl).frozen; have fr := (HR4.out.get 5 rfl).cell; have sr := HR4.out.le 5 rfl; have HBEL := Lib.hid HR4.out.1
  go_wp2_with fail
  refine bodyPost_ret (v := .tuple #[.agg #[.int .i64 0, .int .i64 0, .int .i64 0, .slice none 0 0, .slice none 0 0, .slice none 0 0], .string ⟨#[]⟩, .int .i64 3]) (by simp [results, Tryz.results6, go_sem, fr, devCs]) rfl ⟨_, rfl, ?_, ?_⟩
  · exact (ownDev_none _ _ _ (by first | (simp [World.setCell]; done) | (simp [World.setCell]; omega))).reads
  · iterate 6 (with_reducible refine Below.setCell ?_ (by simp; try omega) _)
    exact HBEL.out

set_option maxHeartbeats 8000000 in
set_option maxRecDepth 100000 in
theorem sRd_key (d : Dev) (most : Int) (v : Value) (lo hi : Nat) (w : World) (hx : DevR w lo hi v d) (hhi : hi ≤ w.heap.size) (hs : DevSmall d) (hcap : ∀ d' A c F cf J cj, v = .agg (devCs d' A c F cf J cj) → d'.keys.length ≤ cj) (hB : devB d = true) (hr : inB most (-1) 80 = true) (hu : d.use = 0) (hk : 0 < d.keys.length) (SH : ByteArray) (hSH : SH = shownT (d.keys.getD 0 ByteArray.empty) most) (T : ByteArray) (hT : T = wantT (d.keys.getD 0 ByteArray.empty) most) :
    Calls Tryz.prog 6 #[v, .int .i64 most] w fun e w' => ∃ v', e = .returned (.tuple #[v', .string T, .int .i64 0]) ∧ DevX w' w.heap.size w'.heap.size v' ⟨d.use, newRow (showTo d.scr SH SH.size), d.files, d.keys.drop 1⟩ ∧ Below w.heap.size w w' := by
  have HX := Lib.hid hx; have HS := Lib.hid hs
  obtain ⟨A, c, F, cf, J, cj, rfl, h1, h2, h3⟩ := hx
  have R0 := (((((Stand.nil w).add lo hi _ (loc_strR0 lo hi A _ d.scr.rows) hhi h1).add lo hi _ (loc_strR0 lo hi J _ d.keys) hhi h3).add lo hi _ (loc_devR lo hi (.agg (devCs d A c F cf J cj)) d) hhi HX.out).box 32 (devCs d A c F cf J cj)).box 32 #[.int .i64 0, .int .i64 0, .int .i64 0, .slice none 0 0, .slice none 0 0, .slice none 0 0]
  rw [heap_size_alloc1] at R0
  have HR0 := Lib.hid R0
  have HOK := Lib.hid (fun W v h1 h2 => specDevicesOk_any d v lo hi W h1 h2 HS.out)
  clear h1 h2 h3 R0 hs
  rw [hB] at HOK
  have HGD := Lib.hid (DevGood.of hB)
  have hn3 := HGD.out.n3
  have HCAP := Lib.hid (hcap _ _ _ _ _ _ _ rfl)
  clear hcap
  have u0 : ¬ (0 : Int) < d.use := by omega
  have hkl : ((d.keys.length : Int) == 0) = false := by rw [beq_eq_false_iff_ne]; omega
  have hk1 : (1 : Int) ≤ (d.keys.length : Int) := by omega
  have hk0 : (0 : Int) < (d.keys.length : Int) := by omega
  have HRM := Lib.hid (inB_le' hr); have HTT := Lib.hid hT; have HSS := Lib.hid hSH; have HKP := Lib.hid hk
  have HKM := Lib.hid (show (d.keys.getD 0 ByteArray.empty).size ≤ 1048576 from HS.out.2.2.2 _ (by rw [List.getD_eq_getElem?_getD, List.getElem?_eq_getElem hk]; exact List.getElem_mem hk))
  have HSZ := Lib.hid (show SH.size ≤ 1048576 by rw [hSH]; unfold shownT; split; exact Nat.zero_le _; exact wantT_size _ _ HKM.out)
  generalize hLN : d.keys.getD 0 ByteArray.empty = LN at *
  have HLN := Lib.hid hLN; clear hLN
  clear hu hk hT hSH
  go_enter Tryz.func6, Tryz.ntmps6
  go_wp2_with fail
  refine (HOK.out _ _ (HR0.out.get 2 rfl) (HR0.out.le 2 rfl)).mono ?_
  rintro e1 w1 ⟨rfl, hb1⟩
  have HR1 := Lib.hid (HR0.out.below hb1); clear hb1 HR0 HOK
  go_wp2_with fail
  refine (l00In_any most (-1) 80 w1).mono ?_
  rintro e1' w1' ⟨rfl, rfl⟩
  rw [hr]
  clear hr
  have f1 := (HR1.out.get 1 rfl).cell
  go_wp2_with fail
  refine (l31Own_own d _ lo hi _ (HR1.out.get 2 rfl) (HR1.out.le 2 rfl) HGD.out.fine HS.out).mono ?_
  rintro e3 w3 ⟨v3, rfl, hx3, hb3⟩
  have s3 := hb3.size
  have s1 := HR1.out.le 0 rfl
  obtain ⟨A3, c3, F3, cf3, K3, ck3, B3, xs, ja, jb, jc, jd, rfl, ⟨q1, q2⟩, ⟨ga, gb, gc, gd, ge⟩, hA3', hK3', hxs, hfx⟩ := id hx3
  have hA3 := RowR.more hA3' ga gb; have hK3 := RowR.more hK3'.reads gc gd
  have HAX := Lib.hid hA3'; have HKX := Lib.hid hK3'; clear hA3' hK3'
  have hfr := hfx.row
  have HXL := Lib.hid (show xs.length = d.files.length by rw [← hxs]; simp)
  rw [HXL.out] at hfr
  have R3 := ((((HR1.out.below hb3).add ja jb _ (loc_strR0 ja jb A3 _ d.scr.rows) (by omega) HAX.out).add jc jd _ (loc_ownK jc jd K3 ck3 d.keys) (by omega) HKX.out).add B3 w3.heap.size _ (loc_ownFx B3 w3.heap.size _ xs) (Nat.le_refl _) hfx).add w1.heap.size w3.heap.size _ (loc_devR w1.heap.size w3.heap.size _ d) (Nat.le_refl _) hx3.reads
  have HXS := Lib.hid hxs
  have R4 := R3.box 32 (devCs d A3 c3 F3 cf3 K3 ck3)
  have e4 : (w3.alloc (.cells (devCs d A3 c3 F3 cf3 K3 ck3) 32)).heap.size = w3.heap.size + 1 := by simp
  have HR4 := Lib.hid R4; have HE4 := Lib.hid e4; have HFR := Lib.hid hfr
  have gp := fun o => ((R3.alloc o).get 5 rfl).cell
  clear hb3 HR1 f1 R3 R4 e4 hA3 hK3 hxs hfx hfr hx3
  obtain ⟨jb, joff, rfl, hj1, hj2, hjc⟩ := (HR4.out.get 8 rfl).at_ HKP.out
  rw [Nat.add_zero, HLN.out] at hjc
  have HJC := Lib.hid hjc; clear hjc
  have HJ3 : ∀ o, (w3.alloc o).cell? ⟨jb, joff, none⟩ = some (.string LN) := fun o => by have := HJC.out; rw [(((Below.refl w3.heap.size w3).alloc (Nat.le_refl _) _).cell (p := ⟨jb, joff, none⟩) (by show jb < w3.heap.size; omega))] at this ⊢; exact this
  go_wp2_with fail
  clear gp HJ3
  generalize w3.alloc (.cells (devCs d A3 c3 F3 cf3 K3 ck3) 32) = w4 at *
  refine (wanted_any LN most w4 HKM.out HRM.out.1 HRM.out.2).mono ?_
  rintro e5 w5 ⟨rfl, hb5⟩
  rw [← HTT.out, ← HSS.out]
  have HR5 := Lib.hid (HR4.out.below hb5); have s5 := hb5.size; have e4 := HE4.out
  clear hb5 HR4 HE4 HJC
  have f1 := (HR5.out.get 6 rfl).cell
  go_wp2_with fail
  · refine (l03Subs_any (some ⟨jb, joff, none⟩) (d.keys.length - 1) 0 lo hi (d.keys.drop 1) w5 (keys_drop' (HR5.out.get 8 rfl) (fun h => by have := HCAP.out; omega) (fun _ _ _ => rfl)) (HR5.out.le 8 rfl) (by have := HS.out.2.2.1; omega)).mono ?_
    rintro e6 w6 ⟨v6, rfl, ho6, hb6⟩
    have s6 := hb6.size
    obtain ⟨A6, c6, rfl⟩ := ho6.1
    have hk6 : OwnK w6 w5.heap.size w6.heap.size A6 c6 (d.keys.drop 1) := OwnK.of ho6.2 (Nat.le_refl _)
    have R6 := (HR5.out.below hb6).add w5.heap.size w6.heap.size _ (loc_ownK w5.heap.size w6.heap.size A6 c6 (d.keys.drop 1)) (Nat.le_refl _) hk6
    have R7 := Stand.set1 5 (.slice A6 (d.keys.length - 1) c6) (R6.only [1, 0, 3, 6, 7, 10]) (by omega) (by
      intro f hf
      simp only [List.filterMap_cons, List.filterMap_nil, List.getElem?_cons_zero, List.getElem?_cons_succ, List.mem_cons, List.not_mem_nil, or_false] at hf
      rcases hf with rfl | rfl | rfl | rfl | rfl
      all_goals (simp only; omega))
    have fo := (R6.get 1 rfl).cell; have zo := (R6.get 1 rfl).frozen
    have HR7 := Lib.hid R7; clear R6 R7 HR5 f1 hk6 ho6 hb6
    rw [List.length_drop]
    have f1 := (HR7.out.get 4 rfl).cell
    have s7 : (w6.setCell ⟨w3.heap.size, 5, none⟩ (.slice A6 (d.keys.length - 1) c6)).heap.size = w6.heap.size := by simp [World.setCell]
    go_wp2_with fail
    clear fo zo f1
    generalize w6.setCell ⟨w3.heap.size, 5, none⟩ (.slice A6 (d.keys.length - 1) c6) = w7 at *
    refine (l31Show_any d.scr SH _ lo hi w7 ⟨A, c, rfl, HR7.out.get 5 rfl⟩ (HR7.out.le 5 rfl) HGD.out.fine HSZ.out).mono ?_
    rintro e8 w8 ⟨v8, rfl, ⟨A8, c8, rfl, hA8⟩, hb8⟩
    have s8 := hb8.size
    have HF8 := Lib.hid (showTo_fine HGD.out.fine SH SH.size)
    generalize hS8 : showTo d.scr SH SH.size = S8 at *; have HE8 := Lib.hid hS8; clear hS8
    have HR8 := Lib.hid (HR7.out.below hb8); have HA8 := Lib.hid hA8; clear hb8 hA8 HR7
    go_wp2_with fail
    refine (l31Show_any S8 ⟨#[10]⟩ _ w7.heap.size w8.heap.size w8 ⟨A8, c8, rfl, HA8.out⟩ (Nat.le_refl _) HF8.out (by decide)).mono ?_
    rintro e9 w9 ⟨v9, rfl, ⟨A9, c9, rfl, hA9⟩, hb9⟩
    have s9 := hb9.size
    rw [showTo_lf] at hA9 ⊢
    generalize hS0 : newRow S8 = S0 at *; have HE0 := Lib.hid hS0; clear hS0
    have HR9 := Lib.hid (HR8.out.below hb9); have HA9 := Lib.hid hA9; clear hb9 hA9 HR8 HA8
    have HEND := Lib.hid (show ∀ (W' : World), (∀ b, b ≠ w3.heap.size → b ≠ w.heap.size + 1 → W'.heap[b]? = w9.heap[b]?) → w9.heap.size ≤ W'.heap.size →
        DevX W' w.heap.size W'.heap.size (.agg #[.int .i64 d.use, .int .i64 S0.row, .int .i64 S0.col, .slice A9 S0.rows.length c9, .slice F3 d.files.length cf3, .slice A6 (d.keys.length - 1) c6]) ⟨d.use, S0, d.files, d.keys.drop 1⟩ from fun W' hk hz => by
      have hX := DevX.mk1 (lo := w.heap.size) (hi := W'.heap.size) (use := d.use) (scr := S0) (c := c9) (a1 := w8.heap.size) (b1 := w9.heap.size) (HA9.out.keep (fun b h1 h2 => hk b (by omega) (by omega))) (loc_ownK w5.heap.size w6.heap.size A6 c6 (d.keys.drop 1) w9 W' (fun b h1 h2 => hk b (by omega) (by omega)) (HR9.out.get 1 rfl)) HXS.out HXL.out (loc_lieFx B3 w3.heap.size F3 cf3 xs w9 W' (fun b h1 h2 => hk b (by omega) (by omega)) (HR9.out.get 2 rfl).lie) ⟨by omega, by omega, by omega, by omega, by omega, by omega⟩ ⟨by omega, by omega, by omega⟩
      rw [List.length_drop] at hX
      exact hX)
    have fo := (HR9.out.get 0 rfl).cell; have zo := (HR9.out.get 0 rfl).frozen; have fr := (HR9.out.get 3 rfl).cell; have zr := (HR9.out.get 3 rfl).frozen; have HBEL := Lib.hid HR9.out.1
    clear HR9
    have e9 : w3.heap.size + 1 ≤ w9.heap.size := by omega
    go_wp2_with fail
    refine bodyPost_ret (v := .tuple #[.agg #[.int .i64 d.use, .int .i64 S0.row, .int .i64 S0.col, .slice A9 S0.rows.length c9, .slice F3 d.files.length cf3, .slice A6 (d.keys.length - 1) c6], .string T, .int .i64 0]) (by simp [results, Tryz.results6, go_sem, fr]) rfl ⟨_, rfl, ?_, ?_⟩
    · rw [HE8.out, HE0.out]; refine HEND.out _ (fun b h1 h2 => ?_) (by simp [World.setCell])
      iterate 9 (with_reducible rw [Below.heap_setCell _ _ _ b (by simp; omega)])
    · iterate 9 (with_reducible refine Below.setCell ?_ (by simp; try omega) _)
      exact HBEL.out
  · refine (l03Subs_any (some ⟨jb, joff + 1, none⟩) (d.keys.length - 1) (cj - 1) lo hi (d.keys.drop 1) w5 (keys_drop' (HR5.out.get 8 rfl) (fun h => by have := HCAP.out; omega) (fun _ _ _ => rfl)) (HR5.out.le 8 rfl) (by have := HS.out.2.2.1; omega)).mono ?_
    rintro e6 w6 ⟨v6, rfl, ho6, hb6⟩
    have s6 := hb6.size
    obtain ⟨A6, c6, rfl⟩ := ho6.1
    have hk6 : OwnK w6 w5.heap.size w6.heap.size A6 c6 (d.keys.drop 1) := OwnK.of ho6.2 (Nat.le_refl _)
    have R6 := (HR5.out.below hb6).add w5.heap.size w6.heap.size _ (loc_ownK w5.heap.size w6.heap.size A6 c6 (d.keys.drop 1)) (Nat.le_refl _) hk6
    have R7 := Stand.set1 5 (.slice A6 (d.keys.length - 1) c6) (R6.only [1, 0, 3, 6, 7, 10]) (by omega) (by
      intro f hf
      simp only [List.filterMap_cons, List.filterMap_nil, List.getElem?_cons_zero, List.getElem?_cons_succ, List.mem_cons, List.not_mem_nil, or_false] at hf
      rcases hf with rfl | rfl | rfl | rfl | rfl
      all_goals (simp only; omega))
    have fo := (R6.get 1 rfl).cell; have zo := (R6.get 1 rfl).frozen
    have HR7 := Lib.hid R7; clear R6 R7 HR5 f1 hk6 ho6 hb6
    rw [List.length_drop]
    have f1 := (HR7.out.get 4 rfl).cell
    have s7 : (w6.setCell ⟨w3.heap.size, 5, none⟩ (.slice A6 (d.keys.length - 1) c6)).heap.size = w6.heap.size := by simp [World.setCell]
    go_wp2_with fail
    clear fo zo f1
    generalize w6.setCell ⟨w3.heap.size, 5, none⟩ (.slice A6 (d.keys.length - 1) c6) = w7 at *
    refine (l31Show_any d.scr SH _ lo hi w7 ⟨A, c, rfl, HR7.out.get 5 rfl⟩ (HR7.out.le 5 rfl) HGD.out.fine HSZ.out).mono ?_
    rintro e8 w8 ⟨v8, rfl, ⟨A8, c8, rfl, hA8⟩, hb8⟩
    have s8 := hb8.size
    have HF8 := Lib.hid (showTo_fine HGD.out.fine SH SH.size)
    generalize hS8 : showTo d.scr SH SH.size = S8 at *; have HE8 := Lib.hid hS8; clear hS8
    have HR8 := Lib.hid (HR7.out.below hb8); have HA8 := Lib.hid hA8; clear hb8 hA8 HR7
    go_wp2_with fail
    refine (l31Show_any S8 ⟨#[10]⟩ _ w7.heap.size w8.heap.size w8 ⟨A8, c8, rfl, HA8.out⟩ (Nat.le_refl _) HF8.out (by decide)).mono ?_
    rintro e9 w9 ⟨v9, rfl, ⟨A9, c9, rfl, hA9⟩, hb9⟩
    have s9 := hb9.size
    rw [showTo_lf] at hA9 ⊢
    generalize hS0 : newRow S8 = S0 at *; have HE0 := Lib.hid hS0; clear hS0
    have HR9 := Lib.hid (HR8.out.below hb9); have HA9 := Lib.hid hA9; clear hb9 hA9 HR8 HA8
    have HEND := Lib.hid (show ∀ (W' : World), (∀ b, b ≠ w3.heap.size → b ≠ w.heap.size + 1 → W'.heap[b]? = w9.heap[b]?) → w9.heap.size ≤ W'.heap.size →
        DevX W' w.heap.size W'.heap.size (.agg #[.int .i64 d.use, .int .i64 S0.row, .int .i64 S0.col, .slice A9 S0.rows.length c9, .slice F3 d.files.length cf3, .slice A6 (d.keys.length - 1) c6]) ⟨d.use, S0, d.files, d.keys.drop 1⟩ from fun W' hk hz => by
      have hX := DevX.mk1 (lo := w.heap.size) (hi := W'.heap.size) (use := d.use) (scr := S0) (c := c9) (a1 := w8.heap.size) (b1 := w9.heap.size) (HA9.out.keep (fun b h1 h2 => hk b (by omega) (by omega))) (loc_ownK w5.heap.size w6.heap.size A6 c6 (d.keys.drop 1) w9 W' (fun b h1 h2 => hk b (by omega) (by omega)) (HR9.out.get 1 rfl)) HXS.out HXL.out (loc_lieFx B3 w3.heap.size F3 cf3 xs w9 W' (fun b h1 h2 => hk b (by omega) (by omega)) (HR9.out.get 2 rfl).lie) ⟨by omega, by omega, by omega, by omega, by omega, by omega⟩ ⟨by omega, by omega, by omega⟩
      rw [List.length_drop] at hX
      exact hX)
    have fo := (HR9.out.get 0 rfl).cell; have zo := (HR9.out.get 0 rfl).frozen; have fr := (HR9.out.get 3 rfl).cell; have zr := (HR9.out.get 3 rfl).frozen; have HBEL := Lib.hid HR9.out.1
    clear HR9
    have e9 : w3.heap.size + 1 ≤ w9.heap.size := by omega
    go_wp2_with fail
    refine bodyPost_ret (v := .tuple #[.agg #[.int .i64 d.use, .int .i64 S0.row, .int .i64 S0.col, .slice A9 S0.rows.length c9, .slice F3 d.files.length cf3, .slice A6 (d.keys.length - 1) c6], .string T, .int .i64 0]) (by simp [results, Tryz.results6, go_sem, fr]) rfl ⟨_, rfl, ?_, ?_⟩
    · rw [HE8.out, HE0.out]; refine HEND.out _ (fun b h1 h2 => ?_) (by simp [World.setCell])
      iterate 9 (with_reducible rw [Below.heap_setCell _ _ _ b (by simp; omega)])
    · iterate 9 (with_reducible refine Below.setCell ?_ (by simp; try omega) _)
      exact HBEL.out

set_option maxHeartbeats 8000000 in
set_option maxRecDepth 100000 in
theorem sRd_nofil (d : Dev) (most : Int) (v : Value) (lo hi : Nat) (w : World) (hx : DevR w lo hi v d) (hhi : hi ≤ w.heap.size) (hs : DevSmall d) (hB : devB d = true) (hr : inB most (-1) 80 = true) (hu : ¬ d.use = 0) (f0 : Fil) (hf0 : d.files.getD (d.use - 1).toNat filD = f0) (ha : (f0.lines.length : Int) ≤ f0.at_) :
    Calls Tryz.prog 6 #[v, .int .i64 most] w fun e w' => ∃ v', e = .returned (.tuple #[v', .string ⟨#[]⟩, .int .i64 3]) ∧ DevR w' w.heap.size w'.heap.size v' noDev ∧ Below w.heap.size w w' := by
  have HX := Lib.hid hx; have HS := Lib.hid hs
  obtain ⟨A, c, F, cf, J, cj, rfl, h1, h2, h3⟩ := hx
  have R0 := (((((Stand.nil w).add lo hi _ (loc_strR0 lo hi A _ d.scr.rows) hhi h1).add lo hi _ (loc_strR0 lo hi J _ d.keys) hhi h3).add lo hi _ (loc_devR lo hi (.agg (devCs d A c F cf J cj)) d) hhi HX.out).box 32 (devCs d A c F cf J cj)).box 32 #[.int .i64 0, .int .i64 0, .int .i64 0, .slice none 0 0, .slice none 0 0, .slice none 0 0]
  rw [heap_size_alloc1] at R0
  have HR0 := Lib.hid R0
  have HOK := Lib.hid (fun W v h1 h2 => specDevicesOk_any d v lo hi W h1 h2 HS.out)
  clear h1 h2 h3 R0 hs
  rw [hB] at HOK
  have HGD := Lib.hid (DevGood.of hB)
  have hn3 := HGD.out.n3
  have u1 := HGD.out.use0; have u2 := HGD.out.usen
  have u0 : (0 : Int) < d.use := by omega
  obtain ⟨j, hju⟩ : ∃ j : Nat, d.use = (j : Int) + 1 := ⟨(d.use - 1).toNat, by omega⟩
  have hjt : (d.use - 1).toNat = j := by omega
  rw [hjt] at hf0
  have hjn : j < d.files.length := by omega
  have HJU := Lib.hid hju; have HFA := Lib.hid (fil_at' (HGD.out.files _ (getD_mem (d := filD) hjn)))
  rw [hf0] at HFA
  have HF0 := Lib.hid hf0; have HA := Lib.hid ha; have HRM := Lib.hid (inB_le' hr)
  clear hu hju hf0 ha hjt
  go_enter Tryz.func6, Tryz.ntmps6
  go_wp2_with fail
  refine (HOK.out _ _ (HR0.out.get 2 rfl) (HR0.out.le 2 rfl)).mono ?_
  rintro e1 w1 ⟨rfl, hb1⟩
  have HR1 := Lib.hid (HR0.out.below hb1); clear hb1 HR0 HOK
  go_wp2_with fail
  refine (l00In_any most (-1) 80 w1).mono ?_
  rintro e1' w1' ⟨rfl, rfl⟩
  rw [hr]
  clear hr
  have f1 := (HR1.out.get 1 rfl).cell
  go_wp2_with fail
  refine (l31Own_own d _ lo hi _ (HR1.out.get 2 rfl) (HR1.out.le 2 rfl) HGD.out.fine HS.out).mono ?_
  rintro e3 w3 ⟨v3, rfl, hx3, hb3⟩
  have s3 := hb3.size
  have s1 := HR1.out.le 0 rfl
  obtain ⟨A3, c3, F3, cf3, K3, ck3, B3, xs, ja, jb, jc, jd, rfl, ⟨q1, q2⟩, ⟨ga, gb, gc, gd, ge⟩, hA3', hK3', hxs, hfx⟩ := id hx3
  have hA3 := RowR.more hA3' ga gb; have hK3 := RowR.more hK3'.reads gc gd
  have HAX := Lib.hid hA3'; have HKX := Lib.hid hK3'; clear hA3' hK3'
  have hfr := hfx.row
  have HXL := Lib.hid (show xs.length = d.files.length by rw [← hxs]; simp)
  rw [HXL.out] at hfr
  have R3 := ((((HR1.out.below hb3).add ja jb _ (loc_strR0 ja jb A3 _ d.scr.rows) (by omega) HAX.out).add jc jd _ (loc_ownK jc jd K3 ck3 d.keys) (by omega) HKX.out).add B3 w3.heap.size _ (loc_ownFx B3 w3.heap.size _ xs) (Nat.le_refl _) hfx).add w1.heap.size w3.heap.size _ (loc_devR w1.heap.size w3.heap.size _ d) (Nat.le_refl _) hx3.reads
  have HXS := Lib.hid hxs
  have R4 := R3.box 32 (devCs d A3 c3 F3 cf3 K3 ck3)
  have e4 : (w3.alloc (.cells (devCs d A3 c3 F3 cf3 K3 ck3) 32)).heap.size = w3.heap.size + 1 := by simp
  have HR4 := Lib.hid R4; have HE4 := Lib.hid e4; have HFR := Lib.hid hfr
  have gp := fun o => ((R3.alloc o).get 5 rfl).cell
  clear hb3 HR1 f1 R3 R4 e4 hA3 hK3 hxs hfx hfr hx3
  obtain ⟨g, rfl, hgB, hgl, hnc, hcm, -⟩ := row_flat HFR.out (by omega)
  clear HFR
  have hjx : j < xs.length := by rw [HXL.out]; exact hjn
  obtain ⟨x, hxj, hxf⟩ : ∃ x, xs[j] = x ∧ x.f = d.files.getD j filD := ⟨_, rfl, by have e := congrArg (fun l => l.getD j filD) HXS.out; simp only [List.getD_eq_getElem?_getD, List.getElem?_map, List.getElem?_eq_getElem hjx] at e ⊢; exact e⟩
  rw [HF0.out] at hxf
  have hxs : xs.set j x = xs := by rw [← hxj]; exact List.set_getElem_self hjx
  have hfx4 := HR4.out.get 2 rfl
  have hm : x ∈ xs := hxj ▸ List.getElem_mem hjx
  have hrd := hfx4.lines x hm; have hfar := hfx4.far x hm; have hown := (hfx4.own x hm).1
  have hfx5 := hfx4
  rw [← hxs] at hfx5
  obtain ⟨⟨ynm, yls, ypt, yat⟩, L, c'⟩ := x
  dsimp only at *
  subst hxf
  dsimp only at *
  have f1 := (hfx5.at_ HXL.out hjx 1 (by omega) (.slice L yls.length c') rfl).1; have f3 := (hfx5.at_ HXL.out hjx 3 (by omega) (.int .i64 yat) rfl).1; have z3 := (hfx5.at_ HXL.out hjx 3 (by omega) (.int .i64 yat) rfl).2
  have HRD := Lib.hid hrd; have HFAR := Lib.hid hfar; have HOWN := Lib.hid hown; have HXJ := Lib.hid hxj; have HJX := Lib.hid hjx; have HFX4 := Lib.hid hfx4; have HF1 := Lib.hid f1; have HF3 := Lib.hid f3; have HZ3 := Lib.hid z3
  clear hrd hfar hown hxj hfx4 hfx5 hxs hm f1 f3 z3
  have j0 : (0 : Int) ≤ (j : Int) := by omega
  have j1 : (j : Int) < (d.files.length : Int) := by omega
  have ju : d.use - 1 = (j : Int) := by have := HJU.out; omega
  have go_ := fun o => ((HR4.out.alloc o).get 0 rfl).cell
  have fo := (HR4.out.get 0 rfl).cell
  have a0 := HFA.out.1; have a1 := HFA.out.2.1; have a2 := HFA.out.2.2.1
  go_wp2_with fail
  clear gp go_ fo
  have f1 := HF1.out; have f3 := HF3.out; have z3 := HZ3.out
  generalize w3.alloc (.cells (devCs d A3 c3 (some ⟨g, 0, none⟩) cf3 K3 ck3) 32) = w4 at *
  refine AnyT.region (fun _ => false) (fun w' => w'.cell? ⟨g, j * 4 + 1, none⟩ = some (.slice L yls.length c') ∧ w'.cell? ⟨g, j * 4 + 3, none⟩ = some (.int .i64 yat)) (by kernel_rfl) ⟨f1, f3⟩ (fun hHeld => ?_)
  ((refine AnyT.takeAny 0 32 ?_ rfl (by kernel_rfl) (by kernel_rfl) (by kernel_rfl) rfl rfl (fun _ _ _ _ h => h) rfl ?_ (by assumption) ?_); rotate_left; (intro w; go_simp; (try (with_reducible rfl))); simp only [Act.put, List.setIfInBounds_toArray, List.set_cons_zero, List.set_cons_succ])
  ((refine AnyT.takeAny 1 33 ?_ rfl (by kernel_rfl) (by kernel_rfl) (by kernel_rfl) rfl rfl (fun _ _ _ _ h => h) rfl ?_ (by assumption) ?_); rotate_left; (intro w; go_simp; (try (with_reducible rfl))); simp only [Act.put, List.setIfInBounds_toArray, List.set_cons_zero, List.set_cons_succ])
  ((refine AnyT.takeAny 2 34 ?_ rfl (by kernel_rfl) (by kernel_rfl) (by kernel_rfl) rfl rfl (fun _ _ _ _ h => h) rfl ?_ (by assumption) ?_); rotate_left; (intro w; go_simp; (try (with_reducible rfl))); simp only [Act.put, List.setIfInBounds_toArray, List.set_cons_zero, List.set_cons_succ])
  ((refine AnyT.take 3 35 ?_ rfl (by kernel_rfl) (by kernel_rfl) (by kernel_rfl) (by kernel_rfl) rfl (by kernel_rfl) rfl (fun _ _ _ _ h => h) rfl ?_ (by assumption) ?_); rotate_left; (intro w hSw; (try dsimp only at hSw); go_simp; (try (with_reducible rfl))); simp only [Act.put, List.setIfInBounds_toArray, List.set_cons_zero, List.set_cons_succ])
  ((refine AnyT.takeAny 4 36 ?_ rfl (by kernel_rfl) (by kernel_rfl) (by kernel_rfl) rfl rfl (fun _ _ _ _ h => h) rfl ?_ (by assumption) ?_); rotate_left; (intro w; go_simp; (try (with_reducible rfl))); simp only [Act.put, List.setIfInBounds_toArray, List.set_cons_zero, List.set_cons_succ])
  ((refine AnyT.takeAny 5 37 ?_ rfl (by kernel_rfl) (by kernel_rfl) (by kernel_rfl) rfl rfl (fun _ _ _ _ h => h) rfl ?_ (by assumption) ?_); rotate_left; (intro w; go_simp; (try (with_reducible rfl))); simp only [Act.put, List.setIfInBounds_toArray, List.set_cons_zero, List.set_cons_succ])
  ((refine AnyT.takeAny 6 38 ?_ rfl (by kernel_rfl) (by kernel_rfl) (by kernel_rfl) rfl rfl (fun _ _ _ _ h => h) rfl ?_ (by assumption) ?_); rotate_left; (intro w; go_simp; (try (with_reducible rfl))); simp only [Act.put, List.setIfInBounds_toArray, List.set_cons_zero, List.set_cons_succ])
  ((refine AnyT.take 7 39 ?_ rfl (by kernel_rfl) (by kernel_rfl) (by kernel_rfl) (by kernel_rfl) rfl (by kernel_rfl) rfl (fun _ _ _ _ h => h) rfl ?_ (by assumption) ?_); rotate_left; (intro w hSw; (try dsimp only at hSw); go_simp; (try (with_reducible rfl))); simp only [Act.put, List.setIfInBounds_toArray, List.set_cons_zero, List.set_cons_succ])
  ((refine AnyT.one (i := 8) (by kernel_rfl) rfl (fun K hK => ?_)))
  go_simp
  refine hK.out _ _ hHeld (fun hHeld => ?_)
  clear hK K
  (try simp only [Act.put, List.setIfInBounds_toArray, List.set_cons_zero, List.set_cons_succ])
  ((refine AnyT.takeAny 9 41 ?_ rfl (by kernel_rfl) (by kernel_rfl) (by kernel_rfl) rfl rfl (fun _ _ _ _ h => h) rfl ?_ (by assumption) ?_); rotate_left; (intro w; go_simp; (try (with_reducible rfl))); simp only [Act.put, List.setIfInBounds_toArray, List.set_cons_zero, List.set_cons_succ])
  refine AnyT.done (by kernel_rfl) ?_ _
  clear hHeld
  have qe : (yls.length : Int) ≤ yat := (by have := HA.out; omega)
  have fr := (HR4.out.get 5 rfl).cell; have zr := (HR4.out.get 5 rfl).frozen; have sr := HR4.out.le 5 rfl; have HBEL := Lib.hid HR4.out.1
  go_wp2_with fail
  refine bodyPost_ret (v := .tuple #[.agg #[.int .i64 0, .int .i64 0, .int .i64 0, .slice none 0 0, .slice none 0 0, .slice none 0 0], .string ⟨#[]⟩, .int .i64 3]) (by simp [results, Tryz.results6, go_sem, fr]) rfl ⟨_, rfl, ?_, ?_⟩
  · exact (ownDev_none _ _ _ (by first | (simp [World.setCell]; done) | (simp [World.setCell]; omega))).reads
  · repeat (first | (with_reducible refine Below.drew ?_) | (with_reducible refine Below.setCell ?_ (by simp; try omega) _))
    exact HBEL.out

set_option maxHeartbeats 8000000 in
set_option maxRecDepth 100000 in
theorem sRd_fil (d : Dev) (most : Int) (v : Value) (lo hi : Nat) (w : World) (hx : DevR w lo hi v d) (hhi : hi ≤ w.heap.size) (hs : DevSmall d) (hB : devB d = true) (hr : inB most (-1) 80 = true) (hu : ¬ d.use = 0) (f0 : Fil) (hf0 : d.files.getD (d.use - 1).toNat filD = f0) (ha : ¬ (f0.lines.length : Int) ≤ f0.at_) (T : ByteArray) (hT : T = wantT (f0.lines.getD f0.at_.toNat ByteArray.empty) most) :
    Calls Tryz.prog 6 #[v, .int .i64 most] w fun e w' => ∃ v', e = .returned (.tuple #[v', .string T, .int .i64 0]) ∧ DevX w' w.heap.size w'.heap.size v' ⟨d.use, d.scr, d.files.set (d.use - 1).toNat (atNext f0), d.keys⟩ ∧ Below w.heap.size w w' := by
  have HX := Lib.hid hx; have HS := Lib.hid hs
  obtain ⟨A, c, F, cf, J, cj, rfl, h1, h2, h3⟩ := hx
  have R0 := (((((Stand.nil w).add lo hi _ (loc_strR0 lo hi A _ d.scr.rows) hhi h1).add lo hi _ (loc_strR0 lo hi J _ d.keys) hhi h3).add lo hi _ (loc_devR lo hi (.agg (devCs d A c F cf J cj)) d) hhi HX.out).box 32 (devCs d A c F cf J cj)).box 32 #[.int .i64 0, .int .i64 0, .int .i64 0, .slice none 0 0, .slice none 0 0, .slice none 0 0]
  rw [heap_size_alloc1] at R0
  have HR0 := Lib.hid R0
  have HOK := Lib.hid (fun W v h1 h2 => specDevicesOk_any d v lo hi W h1 h2 HS.out)
  clear h1 h2 h3 R0 hs
  rw [hB] at HOK
  have HGD := Lib.hid (DevGood.of hB)
  have hn3 := HGD.out.n3
  have u1 := HGD.out.use0; have u2 := HGD.out.usen
  have u0 : (0 : Int) < d.use := by omega
  obtain ⟨j, hju⟩ : ∃ j : Nat, d.use = (j : Int) + 1 := ⟨(d.use - 1).toNat, by omega⟩
  have hjt : (d.use - 1).toNat = j := by omega
  rw [hjt] at hf0 ⊢
  have hjn : j < d.files.length := by omega
  have HJU := Lib.hid hju; have HFA := Lib.hid (fil_at' (HGD.out.files _ (getD_mem (d := filD) hjn)))
  rw [hf0] at HFA
  have HF0 := Lib.hid hf0; have HA := Lib.hid ha; have HRM := Lib.hid (inB_le' hr); have HTT := Lib.hid hT
  clear hu hju hf0 ha hjt hT
  go_enter Tryz.func6, Tryz.ntmps6
  go_wp2_with fail
  refine (HOK.out _ _ (HR0.out.get 2 rfl) (HR0.out.le 2 rfl)).mono ?_
  rintro e1 w1 ⟨rfl, hb1⟩
  have HR1 := Lib.hid (HR0.out.below hb1); clear hb1 HR0 HOK
  go_wp2_with fail
  refine (l00In_any most (-1) 80 w1).mono ?_
  rintro e1' w1' ⟨rfl, rfl⟩
  rw [hr]
  clear hr
  have f1 := (HR1.out.get 1 rfl).cell
  go_wp2_with fail
  refine (l31Own_own d _ lo hi _ (HR1.out.get 2 rfl) (HR1.out.le 2 rfl) HGD.out.fine HS.out).mono ?_
  rintro e3 w3 ⟨v3, rfl, hx3, hb3⟩
  have s3 := hb3.size
  have s1 := HR1.out.le 0 rfl
  obtain ⟨A3, c3, F3, cf3, K3, ck3, B3, xs, ja, jb, jc, jd, rfl, ⟨q1, q2⟩, ⟨ga, gb, gc, gd, ge⟩, hA3', hK3', hxs, hfx⟩ := id hx3
  have hA3 := RowR.more hA3' ga gb; have hK3 := RowR.more hK3'.reads gc gd
  have HAX := Lib.hid hA3'; have HKX := Lib.hid hK3'; clear hA3' hK3'
  have hfr := hfx.row
  have HXL := Lib.hid (show xs.length = d.files.length by rw [← hxs]; simp)
  rw [HXL.out] at hfr
  have R3 := ((((HR1.out.below hb3).add ja jb _ (loc_strR0 ja jb A3 _ d.scr.rows) (by omega) HAX.out).add jc jd _ (loc_ownK jc jd K3 ck3 d.keys) (by omega) HKX.out).add B3 w3.heap.size _ (loc_ownFx B3 w3.heap.size _ xs) (Nat.le_refl _) hfx).add w1.heap.size w3.heap.size _ (loc_devR w1.heap.size w3.heap.size _ d) (Nat.le_refl _) hx3.reads
  have HXS := Lib.hid hxs
  have R4 := R3.box 32 (devCs d A3 c3 F3 cf3 K3 ck3)
  have e4 : (w3.alloc (.cells (devCs d A3 c3 F3 cf3 K3 ck3) 32)).heap.size = w3.heap.size + 1 := by simp
  have HR4 := Lib.hid R4; have HE4 := Lib.hid e4; have HFR := Lib.hid hfr
  have gp := fun o => ((R3.alloc o).get 5 rfl).cell
  clear hb3 HR1 f1 R3 R4 e4 hA3 hK3 hxs hfx hfr hx3
  obtain ⟨g, rfl, hgB, hgl, hnc, hcm, -⟩ := row_flat HFR.out (by omega)
  clear HFR
  have hjx : j < xs.length := by rw [HXL.out]; exact hjn
  obtain ⟨x, hxj, hxf⟩ : ∃ x, xs[j] = x ∧ x.f = d.files.getD j filD := ⟨_, rfl, by have e := congrArg (fun l => l.getD j filD) HXS.out; simp only [List.getD_eq_getElem?_getD, List.getElem?_map, List.getElem?_eq_getElem hjx] at e ⊢; exact e⟩
  rw [HF0.out] at hxf
  have hxs : xs.set j x = xs := by rw [← hxj]; exact List.set_getElem_self hjx
  have hfx4 := HR4.out.get 2 rfl
  have hm : x ∈ xs := hxj ▸ List.getElem_mem hjx
  have hrd := hfx4.lines x hm; have hfar := hfx4.far x hm; have hown := (hfx4.own x hm).1
  have hfx5 := hfx4
  rw [← hxs] at hfx5
  obtain ⟨⟨ynm, yls, ypt, yat⟩, L, c'⟩ := x
  dsimp only at *
  subst hxf
  dsimp only at *
  have f1 := (hfx5.at_ HXL.out hjx 1 (by omega) (.slice L yls.length c') rfl).1; have f3 := (hfx5.at_ HXL.out hjx 3 (by omega) (.int .i64 yat) rfl).1; have z3 := (hfx5.at_ HXL.out hjx 3 (by omega) (.int .i64 yat) rfl).2
  have HRD := Lib.hid hrd; have HFAR := Lib.hid hfar; have HOWN := Lib.hid hown; have HXJ := Lib.hid hxj; have HJX := Lib.hid hjx; have HFX4 := Lib.hid hfx4; have HF1 := Lib.hid f1; have HF3 := Lib.hid f3; have HZ3 := Lib.hid z3
  clear hrd hfar hown hxj hfx4 hfx5 hxs hm f1 f3 z3
  have j0 : (0 : Int) ≤ (j : Int) := by omega
  have j1 : (j : Int) < (d.files.length : Int) := by omega
  have ju : d.use - 1 = (j : Int) := by have := HJU.out; omega
  have go_ := fun o => ((HR4.out.alloc o).get 0 rfl).cell
  have fo := (HR4.out.get 0 rfl).cell
  have a0 := HFA.out.1; have a1 := HFA.out.2.1; have a2 := HFA.out.2.2.1
  go_wp2_with fail
  clear gp go_ fo
  have f1 := HF1.out; have f3 := HF3.out; have z3 := HZ3.out
  generalize w3.alloc (.cells (devCs d A3 c3 (some ⟨g, 0, none⟩) cf3 K3 ck3) 32) = w4 at *
  refine AnyT.region (fun _ => false) (fun w' => w'.cell? ⟨g, j * 4 + 1, none⟩ = some (.slice L yls.length c') ∧ w'.cell? ⟨g, j * 4 + 3, none⟩ = some (.int .i64 yat)) (by kernel_rfl) ⟨f1, f3⟩ (fun hHeld => ?_)
  ((refine AnyT.takeAny 0 32 ?_ rfl (by kernel_rfl) (by kernel_rfl) (by kernel_rfl) rfl rfl (fun _ _ _ _ h => h) rfl ?_ (by assumption) ?_); rotate_left; (intro w; go_simp; (try (with_reducible rfl))); simp only [Act.put, List.setIfInBounds_toArray, List.set_cons_zero, List.set_cons_succ])
  ((refine AnyT.takeAny 1 33 ?_ rfl (by kernel_rfl) (by kernel_rfl) (by kernel_rfl) rfl rfl (fun _ _ _ _ h => h) rfl ?_ (by assumption) ?_); rotate_left; (intro w; go_simp; (try (with_reducible rfl))); simp only [Act.put, List.setIfInBounds_toArray, List.set_cons_zero, List.set_cons_succ])
  ((refine AnyT.takeAny 2 34 ?_ rfl (by kernel_rfl) (by kernel_rfl) (by kernel_rfl) rfl rfl (fun _ _ _ _ h => h) rfl ?_ (by assumption) ?_); rotate_left; (intro w; go_simp; (try (with_reducible rfl))); simp only [Act.put, List.setIfInBounds_toArray, List.set_cons_zero, List.set_cons_succ])
  ((refine AnyT.take 3 35 ?_ rfl (by kernel_rfl) (by kernel_rfl) (by kernel_rfl) (by kernel_rfl) rfl (by kernel_rfl) rfl (fun _ _ _ _ h => h) rfl ?_ (by assumption) ?_); rotate_left; (intro w hSw; (try dsimp only at hSw); go_simp; (try (with_reducible rfl))); simp only [Act.put, List.setIfInBounds_toArray, List.set_cons_zero, List.set_cons_succ])
  ((refine AnyT.takeAny 4 36 ?_ rfl (by kernel_rfl) (by kernel_rfl) (by kernel_rfl) rfl rfl (fun _ _ _ _ h => h) rfl ?_ (by assumption) ?_); rotate_left; (intro w; go_simp; (try (with_reducible rfl))); simp only [Act.put, List.setIfInBounds_toArray, List.set_cons_zero, List.set_cons_succ])
  ((refine AnyT.takeAny 5 37 ?_ rfl (by kernel_rfl) (by kernel_rfl) (by kernel_rfl) rfl rfl (fun _ _ _ _ h => h) rfl ?_ (by assumption) ?_); rotate_left; (intro w; go_simp; (try (with_reducible rfl))); simp only [Act.put, List.setIfInBounds_toArray, List.set_cons_zero, List.set_cons_succ])
  ((refine AnyT.takeAny 6 38 ?_ rfl (by kernel_rfl) (by kernel_rfl) (by kernel_rfl) rfl rfl (fun _ _ _ _ h => h) rfl ?_ (by assumption) ?_); rotate_left; (intro w; go_simp; (try (with_reducible rfl))); simp only [Act.put, List.setIfInBounds_toArray, List.set_cons_zero, List.set_cons_succ])
  ((refine AnyT.take 7 39 ?_ rfl (by kernel_rfl) (by kernel_rfl) (by kernel_rfl) (by kernel_rfl) rfl (by kernel_rfl) rfl (fun _ _ _ _ h => h) rfl ?_ (by assumption) ?_); rotate_left; (intro w hSw; (try dsimp only at hSw); go_simp; (try (with_reducible rfl))); simp only [Act.put, List.setIfInBounds_toArray, List.set_cons_zero, List.set_cons_succ])
  ((refine AnyT.one (i := 8) (by kernel_rfl) rfl (fun K hK => ?_)))
  go_simp
  refine hK.out _ _ hHeld (fun hHeld => ?_)
  clear hK K
  (try simp only [Act.put, List.setIfInBounds_toArray, List.set_cons_zero, List.set_cons_succ])
  ((refine AnyT.takeAny 9 41 ?_ rfl (by kernel_rfl) (by kernel_rfl) (by kernel_rfl) rfl rfl (fun _ _ _ _ h => h) rfl ?_ (by assumption) ?_); rotate_left; (intro w; go_simp; (try (with_reducible rfl))); simp only [Act.put, List.setIfInBounds_toArray, List.set_cons_zero, List.set_cons_succ])
  refine AnyT.done (by kernel_rfl) ?_ _
  clear hHeld
  have qe : ¬ (yls.length : Int) ≤ yat := (by have := HA.out; omega)
  go_wp2_with fail
  obtain ⟨ya, rfl⟩ := Int.eq_ofNat_of_zero_le a0
  have hya : ya < yls.length := by omega
  have ya1 : (ya : Int) < (yls.length : Int) := by omega
  have ya0 : (0 : Int) ≤ (ya : Int) := by omega
  have wya : IntKind.i64.wrap (ya : Int) = (ya : Int) := IntWalk.i64_in _ (by omega)
  obtain ⟨lb, loff, rfl, hlb1, hlb2, hcl⟩ := HRD.out.at_ hya
  have HKM := Lib.hid (show (yls.getD ya ByteArray.empty).size ≤ 80 from HFA.out.2.2.2 _ (getD_mem (d := ByteArray.empty) hya))
  have e1 : ((ya : Int)).toNat = ya := Int.toNat_natCast ya
  rw [e1] at HTT
  generalize yls.getD ya ByteArray.empty = LN at *
  clear e1
  have hlg : lb ≠ g := by
    obtain ⟨g2, e2, _⟩ := own_head (show World.ownsRow _ B3 9 1 (.slice (some ⟨lb, loff, none⟩) yls.length c') yls.length (yls.map Value.string) from HOWN.out) (show 0 < yls.length by omega)
    injection e2 with e2; injection e2 with e2 e3
    have e4 := HFAR.out lb (by unfold Fx.sl; dsimp only; rw [e3]; rfl)
    intro e5
    exact e4 (by rw [e5]; rfl)
  have g4 : g < w4.heap.size := by have := HR4.out.le 2 rfl; omega
  have l4 : lb < w4.heap.size := by have := HR4.out.le 2 rfl; omega
  refine AnyT.region (fun _ => false) (fun w' => w'.cell? ⟨g, j * 4 + 1, none⟩ = some (.slice (some ⟨lb, loff, none⟩) yls.length c') ∧ w'.cell? ⟨g, j * 4 + 3, none⟩ = some (.int .i64 ya) ∧ w'.cell? ⟨lb, loff + ya, none⟩ = some (.string LN)) (by kernel_rfl) ⟨f1, f3, hcl⟩ (fun hHeld => ?_)
  have HRD2 := Lib.hid (show Stand w _ w4.drew.drew from HR4.out.drew.drew)
  have g5 : w4.drew.drew.heap.size = w4.heap.size := rfl
  have z5 : w4.drew.drew.frozen? ⟨g, j * 4 + 3, none⟩ = false := z3
  ((refine AnyT.takeAny 0 44 ?_ rfl (by kernel_rfl) (by kernel_rfl) (by kernel_rfl) rfl rfl (fun _ _ _ _ h => h) rfl ?_ (by assumption) ?_); rotate_left; (intro w; go_simp; (try (with_reducible rfl))); simp only [Act.put, List.setIfInBounds_toArray, List.set_cons_zero, List.set_cons_succ])
  ((refine AnyT.takeAny 1 45 ?_ rfl (by kernel_rfl) (by kernel_rfl) (by kernel_rfl) rfl rfl (fun _ _ _ _ h => h) rfl ?_ (by assumption) ?_); rotate_left; (intro w; go_simp; (try (with_reducible rfl))); simp only [Act.put, List.setIfInBounds_toArray, List.set_cons_zero, List.set_cons_succ])
  ((refine AnyT.takeAny 2 46 ?_ rfl (by kernel_rfl) (by kernel_rfl) (by kernel_rfl) rfl rfl (fun _ _ _ _ h => h) rfl ?_ (by assumption) ?_); rotate_left; (intro w; go_simp; (try (with_reducible rfl))); simp only [Act.put, List.setIfInBounds_toArray, List.set_cons_zero, List.set_cons_succ])
  ((refine AnyT.take 3 47 ?_ rfl (by kernel_rfl) (by kernel_rfl) (by kernel_rfl) (by kernel_rfl) rfl (by kernel_rfl) rfl (fun _ _ _ _ h => h) rfl ?_ (by assumption) ?_); rotate_left; (intro w hSw; (try dsimp only at hSw); go_simp; (try (with_reducible rfl))); simp only [Act.put, List.setIfInBounds_toArray, List.set_cons_zero, List.set_cons_succ])
  ((refine AnyT.takeAny 4 48 ?_ rfl (by kernel_rfl) (by kernel_rfl) (by kernel_rfl) rfl rfl (fun _ _ _ _ h => h) rfl ?_ (by assumption) ?_); rotate_left; (intro w; go_simp; (try (with_reducible rfl))); simp only [Act.put, List.setIfInBounds_toArray, List.set_cons_zero, List.set_cons_succ])
  ((refine AnyT.takeAny 5 49 ?_ rfl (by kernel_rfl) (by kernel_rfl) (by kernel_rfl) rfl rfl (fun _ _ _ _ h => h) rfl ?_ (by assumption) ?_); rotate_left; (intro w; go_simp; (try (with_reducible rfl))); simp only [Act.put, List.setIfInBounds_toArray, List.set_cons_zero, List.set_cons_succ])
  ((refine AnyT.takeAny 6 50 ?_ rfl (by kernel_rfl) (by kernel_rfl) (by kernel_rfl) rfl rfl (fun _ _ _ _ h => h) rfl ?_ (by assumption) ?_); rotate_left; (intro w; go_simp; (try (with_reducible rfl))); simp only [Act.put, List.setIfInBounds_toArray, List.set_cons_zero, List.set_cons_succ])
  ((refine AnyT.take 7 51 ?_ rfl (by kernel_rfl) (by kernel_rfl) (by kernel_rfl) (by kernel_rfl) rfl (by kernel_rfl) rfl (fun _ _ _ _ h => h) rfl ?_ (by assumption) ?_); rotate_left; (intro w hSw; (try dsimp only at hSw); go_simp; (try (with_reducible rfl))); simp only [Act.put, List.setIfInBounds_toArray, List.set_cons_zero, List.set_cons_succ])
  ((refine AnyT.takeAny 8 52 ?_ rfl (by kernel_rfl) (by kernel_rfl) (by kernel_rfl) rfl rfl (fun _ _ _ _ h => h) rfl ?_ (by assumption) ?_); rotate_left; (intro w; go_simp; (try (with_reducible rfl))); simp only [Act.put, List.setIfInBounds_toArray, List.set_cons_zero, List.set_cons_succ])
  ((refine AnyT.take 9 53 ?_ rfl (by kernel_rfl) (by kernel_rfl) (by kernel_rfl) (by kernel_rfl) rfl (by kernel_rfl) rfl (fun _ _ _ _ h => h) rfl ?_ (by assumption) ?_); rotate_left; (intro w hSw; (try dsimp only at hSw); go_simp; (try (with_reducible rfl))); simp only [Act.put, List.setIfInBounds_toArray, List.set_cons_zero, List.set_cons_succ])
  ((refine AnyT.takeAny 10 54 ?_ rfl (by kernel_rfl) (by kernel_rfl) (by kernel_rfl) rfl rfl (fun _ _ _ _ h => h) rfl ?_ (by assumption) ?_); rotate_left; (intro w; go_simp; (try (with_reducible rfl))); simp only [Act.put, List.setIfInBounds_toArray, List.set_cons_zero, List.set_cons_succ])
  ((refine AnyT.one (i := 11) (by kernel_rfl) rfl (fun K hK => ?_)))
  go_simp
  generalize w4.drew.drew = w4d at *
  refine (wanted_any LN most w4d (by have := HKM.out; omega) HRM.out.1 HRM.out.2).mono ?_
  rintro e5 w5 ⟨rfl, hb5⟩
  rw [← HTT.out]
  have s5 := hb5.size
  have HR5 := Lib.hid (HRD2.out.below hb5)
  have k1 := (hb5.cell (p := ⟨g, j * 4 + 1, none⟩) (by show g < _; omega)).trans hHeld.1; have k3 := (hb5.cell (p := ⟨g, j * 4 + 3, none⟩) (by show g < _; omega)).trans hHeld.2.1; have kc := (hb5.cell (p := ⟨lb, loff + ya, none⟩) (by show lb < _; omega)).trans hHeld.2.2
  have z6 := (hb5.frozen (p := ⟨g, j * 4 + 3, none⟩) (by show g < _; omega)).trans z5
  refine hK.out _ _ ⟨k1, k3, kc⟩ (fun hHeld => ?_)
  clear hK K
  (try simp only [Act.put, List.setIfInBounds_toArray, List.set_cons_zero, List.set_cons_succ])
  ((refine AnyT.takeAny 12 43 ?_ rfl (by kernel_rfl) (by kernel_rfl) (by kernel_rfl) rfl rfl (fun _ _ _ _ h => h) rfl ?_ (by assumption) ?_); rotate_left; (intro w; go_simp; (try (with_reducible rfl))); simp only [Act.put, List.setIfInBounds_toArray, List.set_cons_zero, List.set_cons_succ])
  ((refine AnyT.takeAny 13 56 ?_ rfl (by kernel_rfl) (by kernel_rfl) (by kernel_rfl) rfl rfl (fun _ _ _ _ h => h) rfl ?_ (by assumption) ?_); rotate_left; (intro w; go_simp; (try (with_reducible rfl))); simp only [Act.put, List.setIfInBounds_toArray, List.set_cons_zero, List.set_cons_succ])
  ((refine AnyT.takeAny 14 57 ?_ rfl (by kernel_rfl) (by kernel_rfl) (by kernel_rfl) rfl rfl (fun _ _ _ _ h => h) rfl ?_ (by assumption) ?_); rotate_left; (intro w; go_simp; (try (with_reducible rfl))); simp only [Act.put, List.setIfInBounds_toArray, List.set_cons_zero, List.set_cons_succ])
  ((refine AnyT.takeAny 15 9 ?_ rfl (by kernel_rfl) (by kernel_rfl) (by kernel_rfl) rfl rfl (fun _ _ _ _ h => h) rfl ?_ (by assumption) ?_); rotate_left; (intro w; go_simp; (try (with_reducible rfl))); simp only [Act.put, List.setIfInBounds_toArray, List.set_cons_zero, List.set_cons_succ])
  ((refine AnyT.takeAny 16 10 ?_ rfl (by kernel_rfl) (by kernel_rfl) (by kernel_rfl) rfl rfl (fun _ _ _ _ h => h) rfl ?_ (by assumption) ?_); rotate_left; (intro w; go_simp; (try (with_reducible rfl))); simp only [Act.put, List.setIfInBounds_toArray, List.set_cons_zero, List.set_cons_succ])
  refine AnyT.done (by kernel_rfl) ?_ _
  clear hHeld k1 kc hb5 HRD2 z5 z3 f1 f3 hcl
  have HOW := Lib.hid ((HR5.out.get 2 rfl).setI HXL.out (HR5.out.le 2 rfl) hjx ((ya : Int) + 1))
  rw [HXJ.out] at HOW
  have hng : ¬ g = w3.heap.size := by omega
  have hng' : ¬ w3.heap.size = g := by omega
  have hnr : ¬ g = w.heap.size + 1 := by omega
  have hnr' : ¬ w.heap.size + 1 = g := by omega
  have fo := (HR5.out.get 0 rfl).cell; have fr := (HR5.out.get 5 rfl).cell; have zr := (HR5.out.get 5 rfl).frozen
  have HA5 := Lib.hid (HR5.out.get 4 rfl); have HK5 := Lib.hid (HR5.out.get 3 rfl); have HBEL := Lib.hid HR5.out.1; have s1r := HR5.out.le 5 rfl
  clear HR5
  have HEND := Lib.hid (show ∀ (W' : World), (∀ b, b ≠ w.heap.size + 1 → W'.heap[b]? = (w5.setCell ⟨g, j * 4 + 3, none⟩ (.int .i64 ((ya : Int) + 1))).heap[b]?) → w5.heap.size ≤ W'.heap.size →
      DevX W' w.heap.size W'.heap.size (.agg #[.int .i64 d.use, .int .i64 d.scr.row, .int .i64 d.scr.col, .slice A3 d.scr.rows.length c3, .slice (some ⟨g, 0, none⟩) d.files.length cf3, .slice K3 d.keys.length ck3]) ⟨d.use, d.scr, d.files.set j (atNext ⟨ynm, yls, ypt, (ya : Int)⟩), d.keys⟩ from fun W' hk hz => by
    have hkg : ∀ b, b ≠ g → (w5.setCell ⟨g, j * 4 + 3, none⟩ (.int .i64 ((ya : Int) + 1))).heap[b]? = w5.heap[b]? := fun b hb => Below.heap_setCell w5 ⟨g, j * 4 + 3, none⟩ _ b hb
    exact DevX.mk1 (HA5.out.keep (fun b h1 h2 => (hk b (by omega)).trans (hkg b (by omega)))) (loc_ownK jc jd K3 ck3 d.keys w5 W' (fun b h1 h2 => (hk b (by omega)).trans (hkg b (by omega))) HK5.out) (by rw [List.map_set, HXS.out]; rfl) (by rw [List.length_set, HXL.out]) (loc_lieFx _ _ _ _ _ _ W' (fun b h1 h2 => hk b (by omega)) HOW.out.lie) ⟨by omega, by omega, by omega, by omega, by omega, by omega⟩ ⟨by omega, by omega, by omega⟩)
  have hgw : w.heap.size ≤ g := by omega
  go_wp2_with fail
  refine bodyPost_ret (v := .tuple #[.agg #[.int .i64 d.use, .int .i64 d.scr.row, .int .i64 d.scr.col, .slice A3 d.scr.rows.length c3, .slice (some ⟨g, 0, none⟩) d.files.length cf3, .slice K3 d.keys.length ck3], .string T, .int .i64 0]) (by simp [results, Tryz.results6, go_sem, fr, hnr, hnr']) rfl ⟨_, rfl, ?_, ?_⟩
  · refine HEND.out _ (fun b h1 => ?_) (by simp [World.setCell])
    iterate 6 (with_reducible rw [Below.heap_setCell _ _ _ b (by simp; omega)])
  · iterate 7 (with_reducible refine Below.setCell ?_ (by simp; try omega) _)
    exact HBEL.out

theorem specReadFrom_x (d : Dev) (most : Int) (v : Value) (lo hi : Nat) (w : World) (hcap : ∀ d' A c F cf J cj, v = .agg (devCs d' A c F cf J cj) → d'.keys.length ≤ cj) (hx : DevR w lo hi v d) (hhi : hi ≤ w.heap.size) (hs : DevSmall d) :
    Calls Tryz.prog 6 #[v, .int .i64 most] w fun e w' => ∃ v', e = .returned (.tuple #[v', .string (readP d most).text, .int .i64 (readP d most).code]) ∧ (DevR w' w.heap.size w'.heap.size v' (readP d most).dev ∧ ((readP d most).code = 0 → DevX w' w.heap.size w'.heap.size v' (readP d most).dev)) ∧ Below w.heap.size w w' := by
  cases hB : devB d
  · rw [show readP d most = noRd 1 by simp [readP, hB]]
    exact (sRd_bad d most v lo hi w hx hhi hs hB).mono fun _ _ ⟨v', h1, h2, h3⟩ => ⟨v', h1, ⟨h2, fun h => absurd h (by decide)⟩, h3⟩
  cases hr : inB most (-1) 80
  · rw [show readP d most = noRd 2 by simp [readP, hB, hr]]
    exact (sRd_rng d most v lo hi w hx hhi hs hB hr).mono fun _ _ ⟨v', h1, h2, h3⟩ => ⟨v', h1, ⟨h2, fun h => absurd h (by decide)⟩, h3⟩
  by_cases hu : d.use = 0
  · rw [show readP d most = readKey d most by simp [readP, hB, hr, hu]]
    by_cases hk : d.keys.length = 0
    · rw [show readKey d most = noRd 3 by simp [readKey, hk]]
      exact (sRd_nokey d most v lo hi w hx hhi hs hB hr hu hk).mono fun _ _ ⟨v', h1, h2, h3⟩ => ⟨v', h1, ⟨h2, fun h => absurd h (by decide)⟩, h3⟩
    · rw [show readKey d most = ⟨⟨d.use, newRow (showTo d.scr (shownT (d.keys.getD 0 ByteArray.empty) most) (shownT (d.keys.getD 0 ByteArray.empty) most).size), d.files, d.keys.drop 1⟩, wantT (d.keys.getD 0 ByteArray.empty) most, 0⟩ by unfold readKey; rw [if_neg hk]]
      exact (sRd_key d most v lo hi w hx hhi hs hcap hB hr hu (by omega) _ rfl _ rfl).mono fun _ _ ⟨v', h1, h2, h3⟩ => ⟨v', h1, h2.both, h3⟩
  · rw [show readP d most = readFil d most by simp [readP, hB, hr, hu]]
    by_cases ha : ((d.files.getD (d.use - 1).toNat filD).lines.length : Int) ≤ (d.files.getD (d.use - 1).toNat filD).at_
    · rw [show readFil d most = noRd 3 by unfold readFil; rw [if_pos ha]]
      exact (sRd_nofil d most v lo hi w hx hhi hs hB hr hu _ rfl ha).mono fun _ _ ⟨v', h1, h2, h3⟩ => ⟨v', h1, ⟨h2, fun h => absurd h (by decide)⟩, h3⟩
    · rw [show readFil d most = ⟨⟨d.use, d.scr, d.files.set (d.use - 1).toNat (atNext (d.files.getD (d.use - 1).toNat filD)), d.keys⟩, wantT ((d.files.getD (d.use - 1).toNat filD).lines.getD (d.files.getD (d.use - 1).toNat filD).at_.toNat ByteArray.empty) most, 0⟩ by unfold readFil; rw [if_neg ha]]
      exact (sRd_fil d most v lo hi w hx hhi hs hB hr hu _ rfl ha _ rfl).mono fun _ _ ⟨v', h1, h2, h3⟩ => ⟨v', h1, h2.both, h3⟩

theorem specReadFrom_any (d : Dev) (most : Int) (v : Value) (lo hi : Nat) (w : World) (hcap : ∀ d' A c F cf J cj, v = .agg (devCs d' A c F cf J cj) → d'.keys.length ≤ cj) (hx : DevR w lo hi v d) (hhi : hi ≤ w.heap.size) (hs : DevSmall d) :
    Calls Tryz.prog 6 #[v, .int .i64 most] w fun e w' => ∃ v', e = .returned (.tuple #[v', .string (readP d most).text, .int .i64 (readP d most).code]) ∧ DevR w' w.heap.size w'.heap.size v' (readP d most).dev ∧ Below w.heap.size w w' :=
  (specReadFrom_x d most v lo hi w hcap hx hhi hs).mono fun _ _ ⟨v', h1, h2, h3⟩ => ⟨v', h1, h2.1, h3⟩

/-- A row of the call's own has room for what it holds. -/
theorem ownDev_cap {w : World} {lo hi : Nat} {v : Value} {d : Dev} (h : OwnDev w lo hi v d) : ∀ d' A c F cf J cj, v = .agg (devCs d' A c F cf J cj) → d'.keys.length ≤ cj := by
  intro d' A c F cf J cj e
  obtain ⟨A0, c0, F0, cf0, K0, ck0, a1, b1, a2, b2, a3, b3, rfl, _, _, _, _, ⟨hK, _⟩⟩ := h
  injection e with e
  simp only [devCs, Array.mk.injEq, List.cons.injEq, Value.slice.injEq, and_true] at e
  obtain ⟨_, _, _, _, _, e1, e2, e3⟩ := e
  rw [← e2, ← e3]
  rcases hK.2 with ⟨_, h0⟩ | ⟨g, cap, cur, hv, hg, hh, hnc, hm, _⟩
  · omega
  · injection hv with _ _ hc
    subst hc
    exact hnc

end Go.Proofs.YtmeholhmadeehaaGreatDoor

/- Walks of both NewDevices (printed by wip/gen_newdev.py). -/
namespace Go.Proofs.YtmeholhmadeehaaGreatDoor
open Go.RowKit

theorem ownDev0_none (w : World) (lo hi : Nat) (h : lo ≤ hi) : OwnDev0 w lo hi (.agg #[.int .i64 0, .int .i64 0, .int .i64 0, .slice none 0 0, .slice none 0 0, .slice none 0 0]) noScr [] :=
  ⟨none, 0, none, 0, lo, rfl, Nat.le_refl _, h, World.ownsRow_nil _ _ _ _, (fun g hg => by cases hg), World.ownsRow_nil _ _ _ _, (fun g hg => by cases hg)⟩

theorem l31Keys_b (A : Option Addr) (n c lo hi : Nat) (xs : List ByteArray) (w : World) (ha : StrR w lo hi A n xs) (hn : n ≤ 1048576) (hb : ∀ x ∈ xs, x.size ≤ 1048576) :
    Calls Tryz.prog 62 #[.slice A n c] w fun e w' => e = .returned (.bool (keysB xs)) ∧ Below w.heap.size w w' :=
  (l31Keys_any A n c lo hi xs w ha hn hb).mono fun _ _ ⟨he, hw⟩ => ⟨he, by rw [← hw]; exact Below.refl _ _⟩

set_option maxHeartbeats 2000000 in
theorem specNewDevices_any (A : Option Addr) (c lo hi : Nat) (xs : List ByteArray) (w : World) (ha : StrR w lo hi A xs.length xs) (hhi : hi ≤ w.heap.size) (hn : xs.length ≤ 1048576) (hb : ∀ x ∈ xs, x.size ≤ 1048576) :
    Calls Tryz.prog 93 #[.slice A xs.length c] w fun e w' => ∃ v, e = .returned (.tuple #[v, .int .i64 (newDevP xs).2.2]) ∧ OwnDev0 w' w.heap.size w'.heap.size v (newDevP xs).1 (newDevP xs).2.1 ∧ Below w.heap.size w w' := by
  have R0 := ((Stand.nil w).add lo hi _ (loc_strR lo hi A _ xs) hhi ha).box 32 #[.int .i64 0, .int .i64 0, .int .i64 0, .slice none 0 0, .slice none 0 0, .slice none 0 0]
  have HR0 := Lib.hid R0
  have HA := Lib.hid ha; have HB := Lib.hid hb
  clear ha hb R0
  by_cases h20 : 20 < xs.length
  · have HP := Lib.hid (show newDevP xs = (noScr, [], 4) by unfold newDevP; rw [if_pos h20])
    have f := (HR0.out.get 0 rfl).cell
    have z := (HR0.out.get 0 rfl).frozen
    have HD := Lib.hid HR0.out.1
    go_enter Tryz.func93, Tryz.ntmps93
    go_wp2_with fail
    refine bodyPost_ret (v := .tuple #[.agg #[.int .i64 0, .int .i64 0, .int .i64 0, .slice none 0 0, .slice none 0 0, .slice none 0 0], .int .i64 4]) (by simp [results, Tryz.results93, go_sem, f]) rfl ⟨_, by rw [HP.out], ?_, ?_⟩
    · rw [HP.out]; exact ownDev0_none _ _ _ (by first | (simp [World.setCell]; done) | (simp [World.setCell]; omega))
    · skip
      exact HD.out
  have f := (HR0.out.get 0 rfl).cell
  have z := (HR0.out.get 0 rfl).frozen
  cases hk : keysB xs
  · have HP := Lib.hid (show newDevP xs = (noScr, [], 1) by unfold newDevP; rw [if_neg h20, hk]; rfl)
    have HK := Lib.hid hk
    clear hk
    go_enter Tryz.func93, Tryz.ntmps93
    go_wp2_with fail
    refine (l31Keys_b A xs.length c lo hi xs _ (HR0.out.get 1 rfl) hn HB.out).mono ?_
    rintro e1 w1 ⟨rfl, hb1⟩
    rw [HK.out]
    have HR1 := Lib.hid (HR0.out.below hb1)
    clear hb1 f z
    have f := (HR1.out.get 0 rfl).cell
    have z := (HR1.out.get 0 rfl).frozen
    have HD := Lib.hid HR1.out.1
    have s1 := HR1.out.le 0 rfl
    go_wp2_with fail
    refine bodyPost_ret (v := .tuple #[.agg #[.int .i64 0, .int .i64 0, .int .i64 0, .slice none 0 0, .slice none 0 0, .slice none 0 0], .int .i64 1]) (by simp [results, Tryz.results93, go_sem, f]) rfl ⟨_, by rw [HP.out], ?_, ?_⟩
    · rw [HP.out]; exact ownDev0_none _ _ _ (by first | (simp [World.setCell]; done) | (simp [World.setCell]; omega))
    · skip
      iterate 6 (with_reducible refine Below.setCell ?_ (by simp; try omega) _)
      exact HD.out
  · have HP := Lib.hid (show newDevP xs = (blankScr, xs, 0) by unfold newDevP; rw [if_neg h20, hk]; rfl)
    have HK := Lib.hid hk
    clear hk
    go_enter Tryz.func93, Tryz.ntmps93
    go_wp2_with fail
    refine (l31Keys_b A xs.length c lo hi xs _ (HR0.out.get 1 rfl) hn HB.out).mono ?_
    rintro e1 w1 ⟨rfl, hb1⟩
    rw [HK.out]
    have HR1 := Lib.hid (HR0.out.below hb1)
    have s1 := HR1.out.le 0 rfl
    clear hb1 f z
    go_wp2_with fail
    refine (specNewScreen_any _).mono ?_
    rintro e2 w2 ⟨v2, rfl, ⟨A2, c2, rfl, ho2⟩, hb2⟩
    have HR2 := Lib.hid ((HR1.out.below hb2).add w1.heap.size w2.heap.size _ (loc_own w1.heap.size w2.heap.size A2 blankScr.rows.length c2 _ _ (fun g hg => (ho2.lt g hg).2)) (Nat.le_refl _) ho2)
    have HB2 := Lib.hid (fun g hg => (ho2.lt g hg).2)
    have s2 := hb2.size
    clear hb2 ho2
    generalize hbs : blankScr = BS at *
    have HBS := Lib.hid hbs; clear hbs
    go_wp2_with fail
    refine (l03Subs_any A xs.length c lo hi xs _ (HR2.out.get 2 rfl) (HR2.out.le 2 rfl) hn).mono ?_
    rintro e3 w3 ⟨v3, rfl, ⟨⟨K3, d3, rfl⟩, ho3⟩, hb3⟩
    have HR3 := Lib.hid ((HR2.out.below hb3).add w2.heap.size w3.heap.size _ (loc_own w2.heap.size w3.heap.size K3 xs.length d3 _ _ (fun g hg => (ho3.lt g hg).2)) (Nat.le_refl _) ho3)
    have HB3 := Lib.hid (fun g hg => (ho3.lt g hg).2)
    have s3 := hb3.size
    clear hb3 ho3
    have f := (HR3.out.get 2 rfl).cell
    have z := (HR3.out.get 2 rfl).frozen
    go_wp2_with fail
    refine bodyPost_ret (v := .tuple #[.agg #[.int .i64 0, .int .i64 BS.row, .int .i64 BS.col, .slice A2 BS.rows.length c2, .slice none 0 0, .slice K3 xs.length d3], .int .i64 0]) (by simp [results, Tryz.results93, go_sem, f]) rfl ⟨_, by rw [HP.out], ?_, ?_⟩
    · rw [HP.out]
      refine ⟨A2, c2, K3, d3, w2.heap.size, rfl, by omega, by simp [World.setCell]; omega, ?_, HB2.out, ?_, (fun g hg => by have := HB3.out g hg; simp [World.setCell]; omega)⟩
      · refine own_mono (base := w1.heap.size) ?_ (by omega)
        iterate 6 (with_reducible refine ownsRow_setCell_below ?_ (by simp; try omega) _)
        exact HR3.out.get 1 rfl
      · iterate 6 (with_reducible refine ownsRow_setCell_below ?_ (by simp; try omega) _)
        exact HR3.out.get 0 rfl
    · iterate 6 (with_reducible refine Below.setCell ?_ (by simp; try omega) _)
      exact HR3.out.1

set_option maxHeartbeats 2000000 in
theorem implNewDevices_any (A : Option Addr) (c lo hi : Nat) (xs : List ByteArray) (w : World) (ha : StrR w lo hi A xs.length xs) (hhi : hi ≤ w.heap.size) (hn : xs.length ≤ 1048576) (hb : ∀ x ∈ xs, x.size ≤ 1048576) :
    Calls Tryz.prog 13 #[.slice A xs.length c] w fun e w' => ∃ v, e = .returned (.tuple #[v, .int .i64 (newDevP xs).2.2]) ∧ OwnDev0 w' w.heap.size w'.heap.size v (newDevP xs).1 (newDevP xs).2.1 ∧ Below w.heap.size w w' := by
  have R0 := ((Stand.nil w).add lo hi _ (loc_strR lo hi A _ xs) hhi ha).box 32 #[.int .i64 0, .int .i64 0, .int .i64 0, .slice none 0 0, .slice none 0 0, .slice none 0 0]
  have HR0 := Lib.hid R0
  have HA := Lib.hid ha; have HB := Lib.hid hb
  clear ha hb R0
  by_cases h20 : 20 < xs.length
  · have HP := Lib.hid (show newDevP xs = (noScr, [], 4) by unfold newDevP; rw [if_pos h20])
    have f := (HR0.out.get 0 rfl).cell
    have z := (HR0.out.get 0 rfl).frozen
    have HD := Lib.hid HR0.out.1
    go_enter Tryz.func13, Tryz.ntmps13
    go_wp2_with fail
    refine bodyPost_ret (v := .tuple #[.agg #[.int .i64 0, .int .i64 0, .int .i64 0, .slice none 0 0, .slice none 0 0, .slice none 0 0], .int .i64 4]) (by simp [results, Tryz.results13, go_sem, f]) rfl ⟨_, by rw [HP.out], ?_, ?_⟩
    · rw [HP.out]; exact ownDev0_none _ _ _ (by first | (simp [World.setCell]; done) | (simp [World.setCell]; omega))
    · skip
      exact HD.out
  have f := (HR0.out.get 0 rfl).cell
  have z := (HR0.out.get 0 rfl).frozen
  cases hk : keysB xs
  · have HP := Lib.hid (show newDevP xs = (noScr, [], 1) by unfold newDevP; rw [if_neg h20, hk]; rfl)
    have HK := Lib.hid hk
    clear hk
    go_enter Tryz.func13, Tryz.ntmps13
    go_wp2_with fail
    refine (keysFit_any A xs.length c lo hi xs _ (HR0.out.get 1 rfl) hn).mono ?_
    rintro e1 w1 ⟨rfl, hb1⟩
    rw [HK.out]
    have HR1 := Lib.hid (HR0.out.below hb1)
    clear hb1 f z
    have f := (HR1.out.get 0 rfl).cell
    have z := (HR1.out.get 0 rfl).frozen
    have HD := Lib.hid HR1.out.1
    have s1 := HR1.out.le 0 rfl
    go_wp2_with fail
    refine bodyPost_ret (v := .tuple #[.agg #[.int .i64 0, .int .i64 0, .int .i64 0, .slice none 0 0, .slice none 0 0, .slice none 0 0], .int .i64 1]) (by simp [results, Tryz.results13, go_sem, f]) rfl ⟨_, by rw [HP.out], ?_, ?_⟩
    · rw [HP.out]; exact ownDev0_none _ _ _ (by first | (simp [World.setCell]; done) | (simp [World.setCell]; omega))
    · skip
      iterate 6 (with_reducible refine Below.setCell ?_ (by simp; try omega) _)
      exact HD.out
  · have HP := Lib.hid (show newDevP xs = (blankScr, xs, 0) by unfold newDevP; rw [if_neg h20, hk]; rfl)
    have HK := Lib.hid hk
    clear hk
    go_enter Tryz.func13, Tryz.ntmps13
    go_wp2_with fail
    refine (keysFit_any A xs.length c lo hi xs _ (HR0.out.get 1 rfl) hn).mono ?_
    rintro e1 w1 ⟨rfl, hb1⟩
    rw [HK.out]
    have HR1 := Lib.hid (HR0.out.below hb1)
    have s1 := HR1.out.le 0 rfl
    clear hb1 f z
    go_wp2_with fail
    refine (implNewScreen_any _).mono ?_
    rintro e2 w2 ⟨v2, rfl, ⟨A2, c2, rfl, ho2⟩, hb2⟩
    have HR2 := Lib.hid ((HR1.out.below hb2).add w1.heap.size w2.heap.size _ (loc_own w1.heap.size w2.heap.size A2 blankScr.rows.length c2 _ _ (fun g hg => (ho2.lt g hg).2)) (Nat.le_refl _) ho2)
    have HB2 := Lib.hid (fun g hg => (ho2.lt g hg).2)
    have s2 := hb2.size
    clear hb2 ho2
    generalize hbs : blankScr = BS at *
    have HBS := Lib.hid hbs; clear hbs
    go_wp2_with fail
    refine (cloneStrs_any A xs.length c lo hi xs _ (HR2.out.get 2 rfl) hn).mono ?_
    rintro e3 w3 ⟨v3, rfl, ⟨⟨K3, d3, rfl⟩, ho3⟩, hb3⟩
    have HR3 := Lib.hid ((HR2.out.below hb3).add w2.heap.size w3.heap.size _ (loc_own w2.heap.size w3.heap.size K3 xs.length d3 _ _ (fun g hg => (ho3.lt g hg).2)) (Nat.le_refl _) ho3)
    have HB3 := Lib.hid (fun g hg => (ho3.lt g hg).2)
    have s3 := hb3.size
    clear hb3 ho3
    have f := (HR3.out.get 2 rfl).cell
    have z := (HR3.out.get 2 rfl).frozen
    go_wp2_with fail
    refine bodyPost_ret (v := .tuple #[.agg #[.int .i64 0, .int .i64 BS.row, .int .i64 BS.col, .slice A2 BS.rows.length c2, .slice none 0 0, .slice K3 xs.length d3], .int .i64 0]) (by simp [results, Tryz.results13, go_sem, f]) rfl ⟨_, by rw [HP.out], ?_, ?_⟩
    · rw [HP.out]
      refine ⟨A2, c2, K3, d3, w2.heap.size, rfl, by omega, by simp [World.setCell]; omega, ?_, HB2.out, ?_, (fun g hg => by have := HB3.out g hg; simp [World.setCell]; omega)⟩
      · refine own_mono (base := w1.heap.size) ?_ (by omega)
        iterate 6 (with_reducible refine ownsRow_setCell_below ?_ (by simp; try omega) _)
        exact HR3.out.get 1 rfl
      · iterate 6 (with_reducible refine ownsRow_setCell_below ?_ (by simp; try omega) _)
        exact HR3.out.get 0 rfl
    · iterate 6 (with_reducible refine Below.setCell ?_ (by simp; try omega) _)
      exact HR3.out.1

theorem newDevP_small (xs : List ByteArray) (h : xs.length ≤ 1048576) : (newDevP xs).1.rows.length ≤ 1048576 ∧ (newDevP xs).2.1.length ≤ 1048576 := by
  unfold newDevP
  split
  · simp [noScr]
  · split
    · simp [blankScr]; exact h
    · simp [noScr]

end Go.Proofs.YtmeholhmadeehaaGreatDoor

/- The drawn source of numbers: l00Src.next, pick, among, text walked. -/
namespace Go.Proofs.YtmeholhmadeehaaGreatDoor
open Go.RowKit

/-- Only block p has changed, and draws. -/
structure Turned (p : Nat) (w w' : World) : Prop where
  os : w'.os = w.os
  tape : w'.tape = w.tape
  output : w'.output = w.output
  size : w'.heap.size = w.heap.size
  block : ∀ k, k ≠ p → w'.heap[k]? = w.heap[k]?

theorem Turned.two (w : World) (p : Nat) (u v : Value) : Turned p w ((w.setCell ⟨p, 1, none⟩ u).setCell ⟨p, 2, none⟩ v) :=
  ⟨rfl, rfl, rfl, by simp [World.setCell], fun k hk => (Below.heap_setCell _ ⟨p, 2, none⟩ _ k hk).trans (Below.heap_setCell _ ⟨p, 1, none⟩ _ k hk)⟩
theorem Turned.drew {p : Nat} {w w' : World} (h : Turned p w w') (q : Nat) : Turned p w (w'.drewN q) := ⟨h.os, h.tape, h.output, h.size, h.block⟩
theorem Turned.trans {p : Nat} {w w1 w2 : World} (h : Turned p w w1) (k : Turned p w1 w2) : Turned p w w2 := ⟨k.os.trans h.os, k.tape.trans h.tape, k.output.trans h.output, k.size.trans h.size, fun i hi => (k.block i hi).trans (h.block i hi)⟩

theorem and_255 (x : Int) : ∃ b : Nat, b ≤ 255 ∧ bits .and .u64 x 255 = (b : Int) ∧ wrap64 (bits .and .u64 x 255) = (b : Int) := by
  have h : (BitVec.ofInt 64 x &&& BitVec.ofInt 64 255).toNat ≤ 255 := by
    rw [BitVec.toNat_and]
    exact Nat.le_trans Nat.and_le_right (by decide)
  have e : bits .and .u64 x 255 = ((BitVec.ofInt 64 x &&& BitVec.ofInt 64 255).toNat : Int) := by
    show IntKind.u64.wrap ((BitVec.ofInt 64 x &&& BitVec.ofInt 64 255).toNat : Int) = _
    generalize (BitVec.ofInt 64 x &&& BitVec.ofInt 64 255).toNat = m at *
    exact IntWalk.u64_in _ (by omega)
  refine ⟨_, h, e, ?_⟩
  rw [e]
  exact IntWalk.wrap64_in _ ⟨by omega, by omega⟩

/-- The bytes of a slice. -/
def BytesR (w : World) (lo hi : Nat) (A : Option Addr) (n : Nat) : Prop := 0 < n → ∃ b off, A = some ⟨b, off, none⟩ ∧ lo ≤ b ∧ b < hi ∧ ∀ j, j < n → ∃ z : Nat, z ≤ 255 ∧ w.cell? ⟨b, off + j, none⟩ = some (.int .u8 z)
theorem BytesR.keep {w w' : World} {lo hi : Nat} {A : Option Addr} {n : Nat} (h : BytesR w lo hi A n) (hk : ∀ b, lo ≤ b → b < hi → w'.heap[b]? = w.heap[b]?) : BytesR w' lo hi A n := fun hn => by
  obtain ⟨b, off, e, h1, h2, hc⟩ := h hn
  exact ⟨b, off, e, h1, h2, fun j hj => by
    obtain ⟨z, hz, hcz⟩ := hc j hj
    exact ⟨z, hz, (World.cell?_of_block (hk b h1 h2)).trans hcz⟩⟩

/-- The source: its code, how many have been drawn, some seed. -/
def SrcB (w : World) (p : Nat) (A : Option Addr) (n c : Nat) (k : Nat) : Prop := ∃ seed : Int, Blk w p 112 #[.slice A n c, .int .i64 k, .int .u64 seed]

set_option maxHeartbeats 4000000 in
set_option maxRecDepth 100000 in
theorem next_any (p lo hi : Nat) (A : Option Addr) (n c k : Nat) (w : World) (h : SrcB w p A n c k) (hb : BytesR w lo hi A n) (hk : k ≤ 1000000000) (hn : n ≤ 1048576) (hp : hi ≤ p ∨ p < lo) :
    Calls Tryz.prog 92 #[.pointer (some ⟨p, 0, none⟩)] w fun e w' => ∃ b : Nat, b ≤ 255 ∧ e = .returned (.int .i64 b) ∧ SrcB w' p A n c (k + 1) ∧ Turned p w w' := by
  obtain ⟨seed, hB⟩ := h
  have f := hB.cell
  have z := hB.frozen
  have k0 : (0 : Int) ≤ (k : Int) := by omega
  by_cases hlt : k < n
  · obtain ⟨b, off, rfl, hb1, hb2, hc⟩ := hb (by omega)
    obtain ⟨zb, hz, hcell⟩ := hc k hlt
    have l1 : decide (k < n) = true := decide_eq_true hlt
    have l2 : decide ((k : Int) < (n : Int)) = true := decide_eq_true (by omega)
    have i1 : (k : Int) < (n : Int) := by omega
    have hbp : b ≠ p := by omega
    clear hc hb
    go_enter Tryz.func92, Tryz.ntmps92
    go_wp2_with fail
    go_quiet (fail)
    have HT1 := Lib.hid (show Turned p w (w.drewN nq) from ⟨rfl, rfl, rfl, rfl, fun _ _ => rfl⟩)
    have HB1 := Lib.hid (show Blk (w.drewN nq) p 112 #[.slice (some ⟨b, off, none⟩) n c, .int .i64 k, .int .u64 seed] from hB)
    have hc1 : (w.drewN nq).cell? ⟨b, off + k, none⟩ = some (.int .u8 zb) := hcell
    generalize w.drewN nq = w1 at *
    clear f z hcell hB nq
    have f := HB1.out.cell
    have z := HB1.out.frozen
    go_wp2_with fail
    go_quiet (fail)
    have HT2 := Lib.hid (show Turned p w1 (w1.drewN nq) from ⟨rfl, rfl, rfl, rfl, fun _ _ => rfl⟩)
    have HB2 := Lib.hid (show Blk (w1.drewN nq) p 112 #[.slice (some ⟨b, off, none⟩) n c, .int .i64 k, .int .u64 seed] from HB1.out)
    generalize w1.drewN nq = w2 at *
    clear f z hc1 HB1 nq
    have f := HB2.out.cell
    have z := HB2.out.frozen
    go_wp2_with fail
    generalize IntKind.u64.wrap (IntKind.u64.wrap (IntKind.u64.wrap (seed * 6364136223846793005) + zb) + 1442695040888963407) = S at *
    have HT := Lib.hid (((HT1.out.trans HT2.out)).trans (Turned.two w2 p (.int .i64 (k + 1)) (.int .u64 S)))
    have HB3 := Lib.hid (show Blk ((w2.setCell ⟨p, 1, none⟩ (.int .i64 (k + 1))).setCell ⟨p, 2, none⟩ (.int .u64 S)) p 112 #[.slice (some ⟨b, off, none⟩) n c, .int .i64 (k + 1), .int .u64 S] from (HB2.out.set_ 1 _).set_ 2 _)
    generalize (w2.setCell ⟨p, 1, none⟩ (.int .i64 (k + 1))).setCell ⟨p, 2, none⟩ (.int .u64 S) = W at *
    clear f z HB2 HT1 HT2
    have f := HB3.out.cell
    have l3 : decide (k + 1 ≤ n) = true := decide_eq_true (by omega)
    have l4 : decide ((k : Int) + 1 ≤ (n : Int)) = true := decide_eq_true (by omega)
    have i2 : (k : Int) + 1 ≤ (n : Int) := by omega
    go_wp2_with fail
    go_quiet (fail)
    go_wp2_with fail
    go_ret
    exact ⟨zb, hz, rfl, ⟨S, HB3.out.drewN _⟩, HT.out.drew _⟩
  · have l1 : decide (k < n) = false := decide_eq_false hlt
    have l2 : decide ((k : Int) < (n : Int)) = false := decide_eq_false (by omega)
    have i1 : ¬ ((k : Int) < (n : Int)) := by omega
    clear hb
    go_enter Tryz.func92, Tryz.ntmps92
    go_wp2_with fail
    go_quiet (fail)
    go_wp2_with fail
    have HT1 := Lib.hid (show Turned p w (w.drewN nq) from ⟨rfl, rfl, rfl, rfl, fun _ _ => rfl⟩)
    have HB1 := Lib.hid (show Blk (w.drewN nq) p 112 #[.slice A n c, .int .i64 k, .int .u64 seed] from hB)
    generalize w.drewN nq = w2 at *
    generalize IntKind.u64.wrap (IntKind.u64.wrap (IntKind.u64.wrap (seed * 6364136223846793005)) + 1442695040888963407) = S at *
    have HT := Lib.hid (HT1.out.trans (Turned.two w2 p (.int .i64 (k + 1)) (.int .u64 S)))
    have HB3 := Lib.hid (show Blk ((w2.setCell ⟨p, 1, none⟩ (.int .i64 (k + 1))).setCell ⟨p, 2, none⟩ (.int .u64 S)) p 112 #[.slice A n c, .int .i64 (k + 1), .int .u64 S] from (HB1.out.set_ 1 _).set_ 2 _)
    generalize (w2.setCell ⟨p, 1, none⟩ (.int .i64 (k + 1))).setCell ⟨p, 2, none⟩ (.int .u64 S) = W at *
    clear f z hB HB1 HT1 nq
    have f := HB3.out.cell
    have l3 : decide (k + 1 ≤ n) = false := decide_eq_false (by omega)
    have l4 : decide ((k : Int) + 1 ≤ (n : Int)) = false := decide_eq_false (by omega)
    have i2 : ¬ ((k : Int) + 1 ≤ (n : Int)) := by omega
    go_wp2_with fail
    go_quiet (fail)
    go_wp2_with fail
    obtain ⟨q, hq, -, hqe⟩ := and_255 (S / 1099511627776)
    go_ret
    exact ⟨q, hq, congrArg (fun x => Ending.returned (.int .i64 x)) hqe, ⟨S, HB3.out.drewN _⟩, HT.out.drew _⟩

/-- What a draw leaves: the source, a little further on. -/
def Drawn (w w' : World) (p : Nat) (A : Option Addr) (n c k more : Nat) : Prop := ∃ k', k ≤ k' ∧ k' ≤ k + more ∧ SrcB w' p A n c k' ∧ Turned p w w'
theorem Turned.refl (p : Nat) (w : World) : Turned p w w := ⟨rfl, rfl, rfl, rfl, fun _ _ => rfl⟩

set_option maxHeartbeats 4000000 in
set_option maxRecDepth 100000 in
theorem pick_any (p lo hi : Nat) (A : Option Addr) (n c k : Nat) (m : Int) (w : World) (h : SrcB w p A n c k) (hb : BytesR w lo hi A n) (hk : k ≤ 900000000) (hn : n ≤ 1048576) (hp : hi ≤ p ∨ p < lo) (hm : m ≤ 60000) :
    Calls Tryz.prog 58 #[.pointer (some ⟨p, 0, none⟩), .int .i64 m] w fun e w' => ∃ r : Nat, (1 ≤ m → (r : Int) < m) ∧ r ≤ 60000 ∧ e = .returned (.int .i64 r) ∧ Drawn w w' p A n c k 2 := by
  by_cases h1 : m ≤ 1
  · have HS := Lib.hid h; clear h
    go_enter Tryz.func58, Tryz.ntmps58
    go_wp2_with fail
    go_ret
    exact ⟨0, fun h => by omega, by omega, rfl, k, Nat.le_refl _, by omega, HS.out, Turned.refl _ _⟩
  · have HN := Lib.hid (fun W k' (h : SrcB W p A n c k') h2 (h3 : k' ≤ 1000000000) => next_any p lo hi A n c k' W h h2 h3 hn hp)
    have HS := Lib.hid h; have HB := Lib.hid hb
    clear h hb
    by_cases h2 : 200 < m
    · go_enter Tryz.func58, Tryz.ntmps58
      go_wp2_with fail
      refine (HN.out _ k HS.out HB.out (by omega)).mono ?_
      rintro e1 w1 ⟨x1, hx1, rfl, hs1, ht1⟩
      have HS1 := Lib.hid hs1; have HT1 := Lib.hid ht1
      have HB1 := Lib.hid (HB.out.keep (w' := w1) (fun b _ _ => ht1.block b (by omega)))
      clear hs1 ht1
      go_wp2_with fail
      refine (HN.out _ (k + 1) HS1.out HB1.out (by omega)).mono ?_
      rintro e2 w2 ⟨x2, hx2, rfl, hs2, ht2⟩
      have HS2 := Lib.hid hs2; have HT2 := Lib.hid (HT1.out.trans ht2)
      clear hs2 ht2
      have hr0 : (0 : Int) ≤ ((x1 : Int) * 256 + (x2 : Int)) % m := Int.emod_nonneg _ (by omega)
      have hr1 : ((x1 : Int) * 256 + (x2 : Int)) % m < m := Int.emod_lt_of_pos _ (by omega)
      obtain ⟨r, hr⟩ := Int.eq_ofNat_of_zero_le hr0
      have HR := Lib.hid hr
      clear hr0
      go_wp2_with fail
      go_ret
      exact ⟨r, fun _ => by rw [← HR.out]; exact hr1, by have := HR.out; omega, congrArg (fun x => Ending.returned (.int .i64 x)) HR.out, k + 2, by omega, by omega, HS2.out, HT2.out⟩
    · go_enter Tryz.func58, Tryz.ntmps58
      go_wp2_with fail
      refine (HN.out _ k HS.out HB.out (by omega)).mono ?_
      rintro e1 w1 ⟨x1, hx1, rfl, hs1, ht1⟩
      have HS1 := Lib.hid hs1; have HT1 := Lib.hid ht1
      clear hs1 ht1
      have hr0 : (0 : Int) ≤ (x1 : Int) % m := Int.emod_nonneg _ (by omega)
      have hr1 : (x1 : Int) % m < m := Int.emod_lt_of_pos _ (by omega)
      obtain ⟨r, hr⟩ := Int.eq_ofNat_of_zero_le hr0
      have HR := Lib.hid hr
      clear hr0
      go_wp2_with fail
      go_ret
      exact ⟨r, fun _ => by rw [← HR.out]; exact hr1, by have := HR.out; omega, congrArg (fun x => Ending.returned (.int .i64 x)) HR.out, k + 1, by omega, by omega, HS1.out, HT1.out⟩

set_option maxHeartbeats 4000000 in
set_option maxRecDepth 100000 in
theorem srcText_any (p lo hi : Nat) (A : Option Addr) (n c k lo2 hi2 m c2 : Nat) (L : Option Addr) (xs : List ByteArray) (w : World) (h : SrcB w p A n c k) (hb : BytesR w lo hi A n) (hk : k ≤ 900000000) (hn : n ≤ 1048576) (hp : hi ≤ p ∨ p < lo) (hl : RowR Value.string ByteArray.empty w lo2 hi2 L m xs) (hm0 : 0 < m) (hm : m ≤ 60000) (hp2 : hi2 ≤ p ∨ p < lo2) :
    Calls Tryz.prog 91 #[.pointer (some ⟨p, 0, none⟩), .slice L m c2] w fun e w' => ∃ x ∈ xs, e = .returned (.string x) ∧ Drawn w w' p A n c k 2 := by
  have HN := Lib.hid (pick_any p lo hi A n c k m w h hb hk hn hp (by omega))
  have HL := Lib.hid hl
  clear h hb hl
  go_enter Tryz.func91, Tryz.ntmps91
  go_wp2_with fail
  refine HN.out.mono ?_
  rintro e1 w1 ⟨r, hr, hr6, rfl, k', hk1, hk2, hs1, ht1⟩
  have hrm := hr (by omega)
  have hl1 := HL.out.keep (w' := w1) (fun b h1 h2 => ht1.block b (by omega))
  obtain ⟨b, off, rfl, hb1, hb2, hcell⟩ := hl1.at_ (k := r) (by omega)
  have HX := Lib.hid (show xs.getD r ByteArray.empty ∈ xs from by
    have hlen := HL.out.1
    rw [List.getD_eq_getElem?_getD, List.getElem?_eq_getElem (by omega)]
    exact List.getElem_mem _)
  have HD := Lib.hid (show Drawn w w1 p A n c k 2 from ⟨k', hk1, hk2, hs1, ht1⟩)
  have r0 : (0 : Int) ≤ (r : Int) := by omega
  clear hl1 hs1 ht1 hr
  generalize xs.getD r ByteArray.empty = X at *
  go_wp2_with fail
  go_ret
  exact ⟨X, HX.out, rfl, HD.out⟩

end Go.Proofs.YtmeholhmadeehaaGreatDoor
