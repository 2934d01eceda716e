/- The program's ReadFrom walked (printed by wip/gen_rd.py). -/
import Derived.Test.YtmeholhmadeehaaGreatDoorJoinRFAq
import Derived.Test.YtmeholhmadeehaaGreatDoorJoinRFAr
import Derived.Test.YtmeholhmadeehaaGreatDoorJoinRFAk
import Derived.Test.YtmeholhmadeehaaGreatDoorJoinRFAn
namespace Go.Proofs.YtmeholhmadeehaaGreatDoor
open Go.RowKit

theorem inB_le {a lo hi : Int} (h : inB a lo hi = true) : lo ≤ a ∧ a ≤ hi := by simpa [inB] using h

theorem TabsIn.below {w w' : World} (h : TabsIn w) (hb : Below w.heap.size w w') : TabsIn w' := by
  unfold TabsIn Lib.TabIs World.var? at h ⊢
  cases hg : Tryz.prog.globalNamed "internal/strconv.uint64pow10" with
  | none => rw [hg] at h; cases h
  | some g =>
    rw [hg] at h
    simp only [Option.bind_some] at h ⊢
    have hlt : g < w.heap.size := by
      rcases Nat.lt_or_ge g w.heap.size with h' | h'
      · exact h'
      · rw [Array.getElem?_eq_none h'] at h; cases h
    rw [hb.block g hlt]
    exact h

theorem devCs_keys (d : Dev) (A : Option Addr) (c : Nat) (V : Option Addr) (cv : Nat) (K K' : Option Addr) (ck ck' : Nat) :
    (devCs d A c V cv K ck).setIfInBounds 5 (.slice K' (d.keys.length - 1) ck') = devCs ⟨d.use, d.scr, d.files, d.keys.drop 1⟩ A c V cv K' ck' := by
  unfold devCs
  simp [List.length_drop]

theorem own_cap {w : World} {base : Nat} {e : TypeId} {A : Option Addr} {n c : Nat} {xs : List Value} (h : w.ownsRow base e 1 (.slice A n c) n xs) (hn : 0 < n) : n ≤ c ∧ c ≤ maxLen := by
  rcases h.2 with ⟨_, h0⟩ | ⟨g, cap, cur, hv, hg, hh, hnc, hm, _⟩
  · omega
  · injection hv with _ _ hc
    subst hc
    exact ⟨hnc, hm⟩

/-- All keys but the first. -/
theorem keys_drop {w w' : World} {lo hi kb off off' : Nat} {ks : List ByteArray} (h : StrR w lo hi (some ⟨kb, off, none⟩) ks.length ks) (hoff : 1 < ks.length → off' = off + 1) (hk : ∀ b, lo ≤ b → b < hi → w'.heap[b]? = w.heap[b]?) :
    StrR w' lo hi (some ⟨kb, off', none⟩) (ks.drop 1).length (ks.drop 1) := by
  refine ⟨rfl, fun hn => ?_⟩
  rw [List.length_drop] at hn
  obtain ⟨b, o, e, h1, h2, hc⟩ := h.2 (by omega)
  injection e with e; injection e with e1 e2
  subst e1; subst e2
  have ho := hoff (by omega)
  subst ho
  refine ⟨kb, off + 1, rfl, h1, h2, fun j hj => ?_⟩
  rw [List.length_drop] at hj
  have := hc (1 + j) (by omega)
  rw [← Nat.add_assoc] at this
  refine (World.cell?_of_block (hk kb h1 h2)).trans (this.trans ?_)
  rw [List.getD_eq_getElem?_getD, List.getD_eq_getElem?_getD, List.getElem?_drop]

theorem fil_at {f : Fil} (h : filB f = true) : 0 ≤ f.at_ ∧ f.at_ ≤ f.lines.length ∧ f.lines.length ≤ 20 ∧ ∀ s ∈ f.lines, s.size ≤ 80 := by
  unfold filB inB at h
  simp only [Bool.and_eq_true, decide_eq_true_eq, List.all_eq_true] at h
  refine ⟨h.1.2.1, h.1.2.2, h.1.1.1.2, fun s hs => ?_⟩
  have := h.2 s hs
  unfold lineB at this
  simp only [Bool.and_eq_true, decide_eq_true_eq] at this
  exact this.1
theorem devCs_files (d : Dev) (fs : List Fil) (hl : fs.length = d.files.length) (A : Option Addr) (c : Nat) (V : Option Addr) (cv : Nat) (K : Option Addr) (ck : Nat) :
    devCs d A c V cv K ck = devCs ⟨d.use, d.scr, fs, d.keys⟩ A c V cv K ck := by
  unfold devCs
  rw [hl]

theorem ScrStep.trans {w w1 w2 : World} {base g o b b1 off1 cap1 : Nat} {t : TypeId} {cs : Array Value} {s1 s2 : Scr} (hX : ScrX w1 base g o t cs b1 off1 cap1 s1) (hb : b1 = b ∨ w.heap.size ≤ b1) (ht : Touch g b w w1) (h2 : ScrStep w1 base g o t cs b1 w2 s2) : ScrStep w base g o t cs b w2 s2 := by
  obtain ⟨b2, o2, c2, hX2, hb2, ht2⟩ := h2
  have hs := ht.size
  exact ⟨b2, o2, c2, hX2, by omega, ht.trans ht2 hb⟩

set_option maxHeartbeats 8000000 in
set_option maxRecDepth 100000 in
theorem iRd_bad (d : Dev) (most : Int) (v : Value) (lo hi : Nat) (w : World) (hx : DevR w lo hi v d) (hhi : hi ≤ w.heap.size) (hs : DevSmall d) (hB : devB d = false) :
    Calls Tryz.prog 8 #[v, .int .i64 most] w fun e w' => ∃ v', e = .returned (.tuple #[v', .string ⟨#[]⟩, .int .i64 1]) ∧ OwnDev w' w.heap.size w'.heap.size v' noDev ∧ Below w.heap.size w w' := by
  have HX := Lib.hid hx; have HS := Lib.hid hs
  obtain ⟨A, c, F, cf, J, cj, rfl, h1, h2, h3⟩ := hx
  have R0 := (((Stand.nil w).add lo hi _ (loc_devR lo hi (.agg (devCs d A c F cf J cj)) d) hhi HX.out).box 32 (devCs d A c F cf J cj)).box 32 #[.int .i64 0, .int .i64 0, .int .i64 0, .slice none 0 0, .slice none 0 0, .slice none 0 0]
  rw [heap_size_alloc1] at R0
  have HR0 := Lib.hid R0
  have HOK := Lib.hid (fun W v h1 h2 => implDevicesOk_any d v lo hi W h1 h2 HS.out)
  clear h1 h2 h3 R0 hs
  rw [hB] at HOK
  go_enter Tryz.func8, Tryz.ntmps8
  go_wp2_with fail
  refine (HOK.out _ _ (HR0.out.get 2 rfl) (HR0.out.le 2 rfl)).mono ?_
  rintro e1 w1 ⟨rfl, hb1⟩
  have HR1 := Lib.hid (HR0.out.below hb1); clear hb1 HR0 HOK
  have fr := (HR1.out.get 0 rfl).cell
  have zr := (HR1.out.get 0 rfl).frozen
  have sr := HR1.out.le 0 rfl
  go_wp2_with fail
  refine bodyPost_ret (v := .tuple #[.agg #[.int .i64 0, .int .i64 0, .int .i64 0, .slice none 0 0, .slice none 0 0, .slice none 0 0], .string ⟨#[]⟩, .int .i64 1]) (by simp [results, Tryz.results8, go_sem, fr]) rfl ⟨_, rfl, ?_, ?_⟩
  · exact (ownDev_none _ _ _ (by first | (simp [World.setCell]; done) | (simp [World.setCell]; omega)))
  · iterate 6 (with_reducible refine Below.setCell ?_ (by simp; try omega) _)
    exact HR1.out.1

set_option maxHeartbeats 8000000 in
set_option maxRecDepth 100000 in
theorem iRd_rng (d : Dev) (most : Int) (v : Value) (lo hi : Nat) (w : World) (hx : DevR w lo hi v d) (hhi : hi ≤ w.heap.size) (hs : DevSmall d) (hB : devB d = true) (hr : inB most (-1) 80 = false) :
    Calls Tryz.prog 8 #[v, .int .i64 most] w fun e w' => ∃ v', e = .returned (.tuple #[v', .string ⟨#[]⟩, .int .i64 2]) ∧ OwnDev w' w.heap.size w'.heap.size v' noDev ∧ Below w.heap.size w w' := by
  have HX := Lib.hid hx; have HS := Lib.hid hs
  obtain ⟨A, c, F, cf, J, cj, rfl, h1, h2, h3⟩ := hx
  have R0 := (((Stand.nil w).add lo hi _ (loc_devR lo hi (.agg (devCs d A c F cf J cj)) d) hhi HX.out).box 32 (devCs d A c F cf J cj)).box 32 #[.int .i64 0, .int .i64 0, .int .i64 0, .slice none 0 0, .slice none 0 0, .slice none 0 0]
  rw [heap_size_alloc1] at R0
  have HR0 := Lib.hid R0
  have HOK := Lib.hid (fun W v h1 h2 => implDevicesOk_any d v lo hi W h1 h2 HS.out)
  clear h1 h2 h3 R0 hs
  rw [hB] at HOK
  go_enter Tryz.func8, Tryz.ntmps8
  go_wp2_with fail
  refine (HOK.out _ _ (HR0.out.get 2 rfl) (HR0.out.le 2 rfl)).mono ?_
  rintro e1 w1 ⟨rfl, hb1⟩
  have HR1 := Lib.hid (HR0.out.below hb1); clear hb1 HR0 HOK
  go_wp2_with fail
  refine (within_any most (-1) 80 w1).mono ?_
  rintro e1' w1' ⟨rfl, rfl⟩
  rw [hr]
  have fr := (HR1.out.get 0 rfl).cell
  have zr := (HR1.out.get 0 rfl).frozen
  have sr := HR1.out.le 0 rfl
  go_wp2_with fail
  refine bodyPost_ret (v := .tuple #[.agg #[.int .i64 0, .int .i64 0, .int .i64 0, .slice none 0 0, .slice none 0 0, .slice none 0 0], .string ⟨#[]⟩, .int .i64 2]) (by simp [results, Tryz.results8, go_sem, fr]) rfl ⟨_, rfl, ?_, ?_⟩
  · exact (ownDev_none _ _ _ (by first | (simp [World.setCell]; done) | (simp [World.setCell]; omega)))
  · iterate 6 (with_reducible refine Below.setCell ?_ (by simp; try omega) _)
    exact HR1.out.1

set_option maxHeartbeats 8000000 in
set_option maxRecDepth 100000 in
theorem iRd_nokey (d : Dev) (most : Int) (v : Value) (lo hi : Nat) (w : World) (hx : DevR w lo hi v d) (hhi : hi ≤ w.heap.size) (hs : DevSmall d) (hB : devB d = true) (hr : inB most (-1) 80 = true) (hu : d.use = 0) (hk : d.keys.length = 0) :
    Calls Tryz.prog 8 #[v, .int .i64 most] w fun e w' => ∃ v', e = .returned (.tuple #[v', .string ⟨#[]⟩, .int .i64 3]) ∧ OwnDev w' w.heap.size w'.heap.size v' noDev ∧ Below w.heap.size w w' := by
  have HX := Lib.hid hx; have HS := Lib.hid hs
  obtain ⟨A, c, F, cf, J, cj, rfl, h1, h2, h3⟩ := hx
  have R0 := (((Stand.nil w).add lo hi _ (loc_devR lo hi (.agg (devCs d A c F cf J cj)) d) hhi HX.out).box 32 (devCs d A c F cf J cj)).box 32 #[.int .i64 0, .int .i64 0, .int .i64 0, .slice none 0 0, .slice none 0 0, .slice none 0 0]
  rw [heap_size_alloc1] at R0
  have HR0 := Lib.hid R0
  have HOK := Lib.hid (fun W v h1 h2 => implDevicesOk_any d v lo hi W h1 h2 HS.out)
  clear h1 h2 h3 R0 hs
  rw [hB] at HOK
  have HGD := Lib.hid (DevGood.of hB)
  have hn3 := HGD.out.n3
  have hr0 : 0 < d.scr.rows.length := by have := HGD.out.fine.len; omega
  have HU := Lib.hid hu; have HKL := Lib.hid hk; clear hu hk
  go_enter Tryz.func8, Tryz.ntmps8
  go_wp2_with fail
  refine (HOK.out _ _ (HR0.out.get 2 rfl) (HR0.out.le 2 rfl)).mono ?_
  rintro e1 w1 ⟨rfl, hb1⟩
  have HR1 := Lib.hid (HR0.out.below hb1); clear hb1 HR0 HOK
  go_wp2_with fail
  refine (within_any most (-1) 80 w1).mono ?_
  rintro e1' w1' ⟨rfl, rfl⟩
  rw [hr]
  have f1 := (HR1.out.get 1 rfl).cell
  go_wp2_with fail
  refine (copyDevices_own d _ lo hi _ (HR1.out.get 2 rfl) (HR1.out.le 2 rfl) hr0 HS.out).mono ?_
  rintro e2 w2 ⟨p, A2, c2, V, cv, K2, ck2, rfl, hp1, hp2, hBp, ⟨a1, b1, a3, b3, B, hq, x13, ⟨oA, oAb⟩, ⟨xs, hxs, hfx⟩, oK, oKb⟩, hb2⟩
  have s1 := HR1.out.le 0 rfl
  have s2 := hb2.size
  have HR2 := Lib.hid (HR1.out.below hb2); clear hb2 f1 HR1
  have HQ := Lib.hid hq; have HX13 := Lib.hid x13; have HOA := Lib.hid oA; have HOAB := Lib.hid oAb; have HXS := Lib.hid hxs; have HFX := Lib.hid hfx; have HOK := Lib.hid oK; have HOKB := Lib.hid oKb; have HBP := Lib.hid hBp
  have hpB := hq.2.2.2.2.1; have hBw := hq.2.2.2.2.2; have hwp := hp1
  clear hq x13 oA oAb hxs hfx oK oKb hBp
  go_wp2_with fail
  refine (lineKey_none HBP.out HU.out HKL.out).mono ?_
  rintro e3 w3 ⟨rfl, hb3⟩
  have HR3 := Lib.hid (HR2.out.below hb3); clear hb3
  have fr := (HR3.out.get 0 rfl).cell
  have zr := (HR3.out.get 0 rfl).frozen
  have sr := HR3.out.le 0 rfl
  go_wp2_with fail
  refine bodyPost_ret (v := .tuple #[.agg #[.int .i64 0, .int .i64 0, .int .i64 0, .slice none 0 0, .slice none 0 0, .slice none 0 0], .string ⟨#[]⟩, .int .i64 3]) (by simp [results, Tryz.results8, go_sem, fr]) rfl ⟨_, rfl, ?_, ?_⟩
  · exact (ownDev_none _ _ _ (by first | (simp [World.setCell]; done) | (simp [World.setCell]; omega)))
  · iterate 6 (with_reducible refine Below.setCell ?_ (by simp; try omega) _)
    exact HR3.out.1

set_option maxHeartbeats 8000000 in
set_option maxRecDepth 100000 in
theorem iRd_keyS (d : Dev) (most : Int) (v : Value) (lo hi : Nat) (w : World) (hx : DevR w lo hi v d) (hhi : hi ≤ w.heap.size) (hs : DevSmall d) (hB : devB d = true) (hr : inB most (-1) 80 = true) (hu : d.use = 0) (hk : 0 < d.keys.length) (hTB : Hid (TabsIn w)) (hm : 0 ≤ most) (D0 : Dev) (hD : D0 = ⟨d.use, newRow (showTo d.scr (shownT (d.keys.getD 0 ByteArray.empty) most) (shownT (d.keys.getD 0 ByteArray.empty) most).size), d.files, d.keys.drop 1⟩) (T : ByteArray) (hT : T = wantT (d.keys.getD 0 ByteArray.empty) most) :
    Calls Tryz.prog 8 #[v, .int .i64 most] w fun e w' => ∃ v', e = .returned (.tuple #[v', .string T, .int .i64 0]) ∧ OwnDev w' w.heap.size w'.heap.size v' D0 ∧ Below w.heap.size w w' := by
  have HX := Lib.hid hx; have HS := Lib.hid hs
  obtain ⟨A, c, F, cf, J, cj, rfl, h1, h2, h3⟩ := hx
  have R0 := (((Stand.nil w).add lo hi _ (loc_devR lo hi (.agg (devCs d A c F cf J cj)) d) hhi HX.out).box 32 (devCs d A c F cf J cj)).box 32 #[.int .i64 0, .int .i64 0, .int .i64 0, .slice none 0 0, .slice none 0 0, .slice none 0 0]
  rw [heap_size_alloc1] at R0
  have HR0 := Lib.hid R0
  have HOK := Lib.hid (fun W v h1 h2 => implDevicesOk_any d v lo hi W h1 h2 HS.out)
  clear h1 h2 h3 R0 hs
  rw [hB] at HOK
  have HGD := Lib.hid (DevGood.of hB)
  have hn3 := HGD.out.n3
  have hr0 : 0 < d.scr.rows.length := by have := HGD.out.fine.len; omega
  have HU := Lib.hid hu; have HKP := Lib.hid hk; have HD0 := Lib.hid hD; have HTT := Lib.hid hT
  have u0 : (d.use == 0) = true := by rw [hu]; rfl
  have HRM := Lib.hid (inB_le hr)
  have HKM := Lib.hid (show (d.keys.getD 0 ByteArray.empty).size ≤ 1048576 from HS.out.2.2.2 _ (by rw [List.getD_eq_getElem?_getD, List.getElem?_eq_getElem hk]; exact List.getElem_mem hk))
  have HSH := Lib.hid (show shownT (d.keys.getD 0 ByteArray.empty) most = T by rw [hT]; unfold shownT; rw [if_neg (by omega)])
  have HM := Lib.hid hm
  clear hu hk hD hT hm
  go_enter Tryz.func8, Tryz.ntmps8
  go_wp2_with fail
  refine (HOK.out _ _ (HR0.out.get 2 rfl) (HR0.out.le 2 rfl)).mono ?_
  rintro e1 w1 ⟨rfl, hb1⟩
  have HR1 := Lib.hid (HR0.out.below hb1); clear hb1 HR0 HOK
  go_wp2_with fail
  refine (within_any most (-1) 80 w1).mono ?_
  rintro e1' w1' ⟨rfl, rfl⟩
  rw [hr]
  have f1 := (HR1.out.get 1 rfl).cell
  clear hr
  go_wp2_with fail
  refine (copyDevices_own d _ lo hi _ (HR1.out.get 2 rfl) (HR1.out.le 2 rfl) hr0 HS.out).mono ?_
  rintro e2 w2 ⟨p, A2, c2, V, cv, K2, ck2, rfl, hp1, hp2, hBp, ⟨a1, b1, a3, b3, B, hq, x13, ⟨oA, oAb⟩, ⟨xs, hxs, hfx⟩, oK, oKb⟩, hb2⟩
  have s1 := HR1.out.le 0 rfl
  have s2 := hb2.size
  have HR2 := Lib.hid (HR1.out.below hb2); clear hb2 f1 HR1
  have HQ := Lib.hid hq; have HX13 := Lib.hid x13; have HOA := Lib.hid oA; have HOAB := Lib.hid oAb; have HXS := Lib.hid hxs; have HFX := Lib.hid hfx; have HOK := Lib.hid oK; have HOKB := Lib.hid oKb; have HBP := Lib.hid hBp
  have hpB := hq.2.2.2.2.1; have hBw := hq.2.2.2.2.2; have hwp := hp1
  clear hq x13 oA oAb hxs hfx oK oKb hBp
  have hkr := own_reads HOK.out HOKB.out
  obtain ⟨kb, koff, rfl, hkb1, hkb2, hkc⟩ := hkr.at_ HKP.out
  rw [Nat.add_zero] at hkc
  have HCAP := Lib.hid (own_cap HOK.out HKP.out)
  have HKR := Lib.hid hkr; have HKC := Lib.hid hkc; clear hkr hkc
  obtain ⟨b, rfl, hO⟩ := OwnO.of_own HOA.out hr0
  have hbb := HOAB.out b rfl
  have hab := hO.1
  have hbp := HQ.out.2.1; have ha1 := HQ.out.1; have HO := Lib.hid hO; clear hO
  go_wp2_with fail
  refine (lineKey_some HBP.out HU.out HKP.out HCAP.out.1 HKC.out).mono ?_
  rintro e3 w3 ⟨rfl, off', rfl, hoff⟩
  have hB3 := HBP.out.set_ 5 (.slice (some ⟨kb, off', none⟩) (d.keys.length - 1) (ck2 - 1))
  rw [devCs_keys] at hB3
  have hk3 : ∀ k, k ≠ p → (w2.setCell ⟨p, 5, none⟩ (.slice (some ⟨kb, off', none⟩) (d.keys.length - 1) (ck2 - 1))).heap[k]? = w2.heap[k]? := fun k hk => Below.heap_setCell w2 ⟨p, 5, none⟩ _ k hk
  have hz3 : (w2.setCell ⟨p, 5, none⟩ (.slice (some ⟨kb, off', none⟩) (d.keys.length - 1) (ck2 - 1))).heap.size = w2.heap.size := by simp [World.setCell]
  have hbl3 : Below w.heap.size w (w2.setCell ⟨p, 5, none⟩ (.slice (some ⟨kb, off', none⟩) (d.keys.length - 1) (ck2 - 1))) := HR2.out.1.setCell (by show _ ≤ p; omega) _
  have hkd := keys_drop (off' := off') HKR.out hoff (w' := w2.setCell ⟨p, 5, none⟩ (.slice (some ⟨kb, off', none⟩) (d.keys.length - 1) (ck2 - 1))) (fun b h1 h2 => hk3 b (by have := HQ.out.2.2.2.1; omega))
  generalize w2.setCell ⟨p, 5, none⟩ (.slice (some ⟨kb, off', none⟩) (d.keys.length - 1) (ck2 - 1)) = w3 at *
  have HB3' := Lib.hid hB3; have HK3 := Lib.hid hk3; have HBL3 := Lib.hid hbl3; have HKD := Lib.hid hkd; clear hB3 hk3 hbl3 hkd hoff
  have HRR := Lib.hid (readResult_any (d.keys.getD 0 ByteArray.empty) most w3 (hTB.out.below HBL3.out) HKM.out HRM.out.1 HRM.out.2)
  rw [← HTT.out] at HRR
  go_wp2_with fail
  refine HRR.out.mono ?_
  rintro e4 w4 ⟨rfl, hb4⟩
  have s4 := hb4.size
  have HB4 := Lib.hid (HB3'.out.below hb4 HB3'.out.lt); have HK4 := Lib.hid (show ∀ k, k < w2.heap.size → k ≠ p → w4.heap[k]? = w2.heap[k]? from fun k h1 h2 => (hb4.block k (by omega)).trans (HK3.out k h2)); have HBL4 := Lib.hid (HBL3.out.trans (hb4.mono HBL3.out.size))
  have HKD4 := Lib.hid (HKD.out.below hb4 (by have := HQ.out.2.2.2.1; omega))
  clear hb4 HRR HB3' HK3 HBL3 HKD
  obtain ⟨d1, hd1⟩ : ∃ X : Dev, X = ⟨d.use, d.scr, d.files, d.keys.drop 1⟩ := ⟨_, rfl⟩
  rw [← hd1] at HB4
  have HD1 := Lib.hid hd1; clear hd1
  have u1 : (d1.use == 0) = true := by rw [HD1.out]; exact u0
  have HSX : Hid (ScrX w4 a1 p 1 32 (devCs d1 (some ⟨b, 0, none⟩) c2 V cv (some ⟨kb, off', none⟩) (ck2 - 1)) b 0 c2 d.scr) := ⟨by omega, by simp, by rw [put3_dev]; have := HB4.out; rw [HD1.out] at this ⊢; exact this, HO.out.keep (HK4.out b (by omega) (by omega))⟩
  have fp := HB4.out.cell
  have hl1 := HGD.out.fine.len
  have tm : (0 : Int) ≤ most := HM.out
  have HTS := Lib.hid (show T.size ≤ 1048576 by rw [HTT.out]; exact wantT_size _ _ HKM.out)
  go_wp2_with fail
  refine (write_any d.scr T a1 p 1 32 (devCs d1 (some ⟨b, 0, none⟩) c2 V cv (some ⟨kb, off', none⟩) (ck2 - 1)) b 0 c2 w4 HSX.out (by omega) HGD.out.fine HTS.out).mono ?_
  rintro e5 w5 ⟨rfl, b5, o5, c5, hp5, hb5, ht5⟩
  have hf5 := showTo_fine HGD.out.fine T T.size
  have HP5 := Lib.hid hp5; have HT5 := Lib.hid ht5; have s5 := ht5.size
  have HF5 := Lib.hid hf5
  clear hp5 ht5 hf5 fp
  go_wp2_with fail
  refine (begin_any (showTo d.scr T T.size) a1 p 1 32 _ b5 o5 c5 w5 HP5.out (by omega) HF5.out.len HF5.out.row0 HF5.out.row5).mono ?_
  rintro e6 w6 ⟨rfl, hst6⟩
  have hst := ScrStep.trans HP5.out hb5 HT5.out hst6
  have HFN := Lib.hid (newRow_fine HF5.out.len HF5.out.row0 HF5.out.row5 HF5.out.size)
  have HDE := Lib.hid (show D0 = ⟨d1.use, newRow (showTo d.scr T T.size), d1.files, d1.keys⟩ by rw [HD0.out, HSH.out, HD1.out])
  generalize newRow (showTo d.scr T T.size) = S0 at *
  obtain ⟨b6, o6, c6, hp6, hb6, ht6⟩ := hst
  have s6 := ht6.size
  have hk6 : ∀ k, k < w2.heap.size → k ≠ p → k ≠ b → w6.heap[k]? = w2.heap[k]? := fun k h1 h2 h3 => (ht6.block k (by omega) h2 h3).trans (HK4.out k h1 h2)
  have hB6 := hp6.blk
  rw [put3_dev, ← HDE.out] at hB6
  have hFX6 := (loc_ownFx _ _ _ xs w2 w6 (fun k h1 h2 => hk6 k (by omega) (by omega) (by omega)) HFX.out).more (show w2.heap.size ≤ w6.heap.size by omega)
  have hfr := hFX6.fils.reads
  rw [HXS.out] at hfr
  have hkd6 := HKD4.out.keep (w' := w6) (fun k h1 h2 => ht6.block k (by have := HQ.out.2.2.2.1; omega) (by have := HQ.out.2.2.2.1; omega) (fun e => by have := HX13.out.far (k := b) hab hbb; omega))
  have HDR := Lib.hid (show DevR w6 w1.heap.size w6.heap.size (.agg (devCs D0 (some ⟨b6, o6, none⟩) c6 V cv (some ⟨kb, off', none⟩) (ck2 - 1))) D0 from by rw [HDE.out, HD1.out]; exact ⟨some ⟨b6, o6, none⟩, c6, V, cv, some ⟨kb, off', none⟩, ck2 - 1, rfl, RowR.more hp6.own.reads (by have := HQ.out.1; omega) (Nat.le_refl _), FilesR.more hfr (by omega) (Nat.le_refl _), RowR.more hkd6 (by have := HQ.out.2.2.1; omega) (by have := HQ.out.2.2.2.1; omega)⟩)
  have HRB3 := Lib.hid (show Blk w6 (w.heap.size + 1) 32 #[.int .i64 0, .int .i64 0, .int .i64 0, .slice none 0 0, .slice none 0 0, .slice none 0 0] from (hk6 _ (by omega) (by omega) (by omega)).trans (HR2.out.get 0 rfl))
  have HBEL3 := Lib.hid (show Below w.heap.size w w6 from HBL4.out.trans (ht6.below (base := w.heap.size) (by omega) (by omega) (by omega)))
  have HDS := Lib.hid (show DevSmall D0 from by rw [HDE.out, HD1.out]; exact ⟨⟨by have := HFN.out.len; show S0.rows.length ≤ _; omega, fun r hr => by have := HFN.out.size r hr; omega⟩, HS.out.2.1, by have := HS.out.2.2.1; show (d.keys.drop 1).length ≤ _; rw [List.length_drop]; omega, fun r hr => HS.out.2.2.2 r (List.mem_of_mem_drop hr)⟩)
  have hr1 : 0 < D0.scr.rows.length := by rw [HDE.out]; have := HFN.out.len; show 0 < S0.rows.length; omega
  have HB3 := Lib.hid hB6
  have s0 : w.heap.size + 2 ≤ w6.heap.size := by omega
  clear hp6 ht6 hk6 hB6 hFX6 hfr hkd6 HSX HR2 HBP HFX HOK HOA HB4 HK4 HBL4 HKD4 HQ HX13 HOAB HXS HOKB HDE HFN HKR HKC HO hTB HTT HD1 HP5 HT5 HF5 HTS
  have fp := HB3.out.cell
  go_wp2_with fail
  refine (copyDevices_own D0 _ w1.heap.size w6.heap.size _ HDR.out (Nat.le_refl _) hr1 HDS.out).mono ?_
  rintro e8 w8 ⟨p4, A4, c4, V4, cv4, K4, ck4, rfl, hp41, hp42, hBp4, ⟨a41, b41, a43, b43, B4, hq4, x134, ⟨oA4, oAb4⟩, ⟨xs4, hxs4, hfx4⟩, oK4, oKb4⟩, hb8⟩
  have s8 := hb8.size
  have HRB8 := Lib.hid (HRB3.out.below hb8 HRB3.out.lt); have HBEL := Lib.hid (HBEL3.out.trans (hb8.mono HBEL3.out.size))
  have HQ4 := Lib.hid hq4; have HX134 := Lib.hid x134; have HOA4 := Lib.hid oA4; have HOAB4 := Lib.hid oAb4; have HXS4 := Lib.hid hxs4; have HFX4 := Lib.hid hfx4; have HOK4 := Lib.hid oK4; have HOKB4 := Lib.hid oKb4; have HBP4 := Lib.hid hBp4
  clear hq4 x134 oA4 oAb4 hxs4 hfx4 oK4 oKb4 hBp4 hb8 fp HB3 HDR HRB3 HBEL3 HDS
  have fp := HBP4.out.cell; have fr := HRB8.out.cell; have zr := HRB8.out.frozen
  go_wp2_with fail
  refine bodyPost_ret (v := .tuple #[.agg (devCs D0 A4 c4 V4 cv4 K4 ck4), .string T, .int .i64 0]) (by simp [results, Tryz.results8, go_sem, fr]) rfl ⟨_, rfl, ?_, ?_⟩
  · obtain ⟨q1, q2, q3, q4, q5, q6⟩ := HQ4.out
    refine ownDev_mk (W := w8) (p := p4) (r := w.heap.size + 1) (d := D0) (lo := w.heap.size) ⟨by omega, q2, by omega, q4, q5, by omega⟩ ⟨by omega, by omega, by omega⟩ (by omega) HX134.out HOA4.out HOAB4.out HXS4.out HFX4.out HOK4.out HOKB4.out (fun b h1 h2 => ?_) (by simp [World.setCell])
    iterate 6 (with_reducible rw [Below.heap_setCell _ _ _ b (by simp; omega)])
  · iterate 6 (with_reducible refine Below.setCell ?_ (by simp; try omega) _)
    exact HBEL.out

set_option maxHeartbeats 8000000 in
set_option maxRecDepth 100000 in
theorem iRd_keyN (d : Dev) (most : Int) (v : Value) (lo hi : Nat) (w : World) (hx : DevR w lo hi v d) (hhi : hi ≤ w.heap.size) (hs : DevSmall d) (hB : devB d = true) (hr : inB most (-1) 80 = true) (hu : d.use = 0) (hk : 0 < d.keys.length) (hTB : Hid (TabsIn w)) (hm : most = -1) (D0 : Dev) (hD : D0 = ⟨d.use, newRow (showTo d.scr (shownT (d.keys.getD 0 ByteArray.empty) most) (shownT (d.keys.getD 0 ByteArray.empty) most).size), d.files, d.keys.drop 1⟩) (T : ByteArray) (hT : T = wantT (d.keys.getD 0 ByteArray.empty) most) :
    Calls Tryz.prog 8 #[v, .int .i64 most] w fun e w' => ∃ v', e = .returned (.tuple #[v', .string T, .int .i64 0]) ∧ OwnDev w' w.heap.size w'.heap.size v' D0 ∧ Below w.heap.size w w' := by
  have HX := Lib.hid hx; have HS := Lib.hid hs
  obtain ⟨A, c, F, cf, J, cj, rfl, h1, h2, h3⟩ := hx
  have R0 := (((Stand.nil w).add lo hi _ (loc_devR lo hi (.agg (devCs d A c F cf J cj)) d) hhi HX.out).box 32 (devCs d A c F cf J cj)).box 32 #[.int .i64 0, .int .i64 0, .int .i64 0, .slice none 0 0, .slice none 0 0, .slice none 0 0]
  rw [heap_size_alloc1] at R0
  have HR0 := Lib.hid R0
  have HOK := Lib.hid (fun W v h1 h2 => implDevicesOk_any d v lo hi W h1 h2 HS.out)
  clear h1 h2 h3 R0 hs
  rw [hB] at HOK
  have HGD := Lib.hid (DevGood.of hB)
  have hn3 := HGD.out.n3
  have hr0 : 0 < d.scr.rows.length := by have := HGD.out.fine.len; omega
  have HU := Lib.hid hu; have HKP := Lib.hid hk; have HD0 := Lib.hid hD; have HTT := Lib.hid hT
  have u0 : (d.use == 0) = true := by rw [hu]; rfl
  have HRM := Lib.hid (inB_le hr)
  have HKM := Lib.hid (show (d.keys.getD 0 ByteArray.empty).size ≤ 1048576 from HS.out.2.2.2 _ (by rw [List.getD_eq_getElem?_getD, List.getElem?_eq_getElem hk]; exact List.getElem_mem hk))
  have HSH := Lib.hid (show shownT (d.keys.getD 0 ByteArray.empty) most = ⟨#[]⟩ by unfold shownT; rw [if_pos hm])
  have HM := Lib.hid hm
  clear hu hk hD hT hm
  go_enter Tryz.func8, Tryz.ntmps8
  go_wp2_with fail
  refine (HOK.out _ _ (HR0.out.get 2 rfl) (HR0.out.le 2 rfl)).mono ?_
  rintro e1 w1 ⟨rfl, hb1⟩
  have HR1 := Lib.hid (HR0.out.below hb1); clear hb1 HR0 HOK
  go_wp2_with fail
  refine (within_any most (-1) 80 w1).mono ?_
  rintro e1' w1' ⟨rfl, rfl⟩
  rw [hr]
  have f1 := (HR1.out.get 1 rfl).cell
  clear hr
  go_wp2_with fail
  refine (copyDevices_own d _ lo hi _ (HR1.out.get 2 rfl) (HR1.out.le 2 rfl) hr0 HS.out).mono ?_
  rintro e2 w2 ⟨p, A2, c2, V, cv, K2, ck2, rfl, hp1, hp2, hBp, ⟨a1, b1, a3, b3, B, hq, x13, ⟨oA, oAb⟩, ⟨xs, hxs, hfx⟩, oK, oKb⟩, hb2⟩
  have s1 := HR1.out.le 0 rfl
  have s2 := hb2.size
  have HR2 := Lib.hid (HR1.out.below hb2); clear hb2 f1 HR1
  have HQ := Lib.hid hq; have HX13 := Lib.hid x13; have HOA := Lib.hid oA; have HOAB := Lib.hid oAb; have HXS := Lib.hid hxs; have HFX := Lib.hid hfx; have HOK := Lib.hid oK; have HOKB := Lib.hid oKb; have HBP := Lib.hid hBp
  have hpB := hq.2.2.2.2.1; have hBw := hq.2.2.2.2.2; have hwp := hp1
  clear hq x13 oA oAb hxs hfx oK oKb hBp
  have hkr := own_reads HOK.out HOKB.out
  obtain ⟨kb, koff, rfl, hkb1, hkb2, hkc⟩ := hkr.at_ HKP.out
  rw [Nat.add_zero] at hkc
  have HCAP := Lib.hid (own_cap HOK.out HKP.out)
  have HKR := Lib.hid hkr; have HKC := Lib.hid hkc; clear hkr hkc
  obtain ⟨b, rfl, hO⟩ := OwnO.of_own HOA.out hr0
  have hbb := HOAB.out b rfl
  have hab := hO.1
  have hbp := HQ.out.2.1; have ha1 := HQ.out.1; have HO := Lib.hid hO; clear hO
  go_wp2_with fail
  refine (lineKey_some HBP.out HU.out HKP.out HCAP.out.1 HKC.out).mono ?_
  rintro e3 w3 ⟨rfl, off', rfl, hoff⟩
  have hB3 := HBP.out.set_ 5 (.slice (some ⟨kb, off', none⟩) (d.keys.length - 1) (ck2 - 1))
  rw [devCs_keys] at hB3
  have hk3 : ∀ k, k ≠ p → (w2.setCell ⟨p, 5, none⟩ (.slice (some ⟨kb, off', none⟩) (d.keys.length - 1) (ck2 - 1))).heap[k]? = w2.heap[k]? := fun k hk => Below.heap_setCell w2 ⟨p, 5, none⟩ _ k hk
  have hz3 : (w2.setCell ⟨p, 5, none⟩ (.slice (some ⟨kb, off', none⟩) (d.keys.length - 1) (ck2 - 1))).heap.size = w2.heap.size := by simp [World.setCell]
  have hbl3 : Below w.heap.size w (w2.setCell ⟨p, 5, none⟩ (.slice (some ⟨kb, off', none⟩) (d.keys.length - 1) (ck2 - 1))) := HR2.out.1.setCell (by show _ ≤ p; omega) _
  have hkd := keys_drop (off' := off') HKR.out hoff (w' := w2.setCell ⟨p, 5, none⟩ (.slice (some ⟨kb, off', none⟩) (d.keys.length - 1) (ck2 - 1))) (fun b h1 h2 => hk3 b (by have := HQ.out.2.2.2.1; omega))
  generalize w2.setCell ⟨p, 5, none⟩ (.slice (some ⟨kb, off', none⟩) (d.keys.length - 1) (ck2 - 1)) = w3 at *
  have HB3' := Lib.hid hB3; have HK3 := Lib.hid hk3; have HBL3 := Lib.hid hbl3; have HKD := Lib.hid hkd; clear hB3 hk3 hbl3 hkd hoff
  have HRR := Lib.hid (readResult_any (d.keys.getD 0 ByteArray.empty) most w3 (hTB.out.below HBL3.out) HKM.out HRM.out.1 HRM.out.2)
  rw [← HTT.out] at HRR
  go_wp2_with fail
  refine HRR.out.mono ?_
  rintro e4 w4 ⟨rfl, hb4⟩
  have s4 := hb4.size
  have HB4 := Lib.hid (HB3'.out.below hb4 HB3'.out.lt); have HK4 := Lib.hid (show ∀ k, k < w2.heap.size → k ≠ p → w4.heap[k]? = w2.heap[k]? from fun k h1 h2 => (hb4.block k (by omega)).trans (HK3.out k h2)); have HBL4 := Lib.hid (HBL3.out.trans (hb4.mono HBL3.out.size))
  have HKD4 := Lib.hid (HKD.out.below hb4 (by have := HQ.out.2.2.2.1; omega))
  clear hb4 HRR HB3' HK3 HBL3 HKD
  obtain ⟨d1, hd1⟩ : ∃ X : Dev, X = ⟨d.use, d.scr, d.files, d.keys.drop 1⟩ := ⟨_, rfl⟩
  rw [← hd1] at HB4
  have HD1 := Lib.hid hd1; clear hd1
  have u1 : (d1.use == 0) = true := by rw [HD1.out]; exact u0
  have HSX : Hid (ScrX w4 a1 p 1 32 (devCs d1 (some ⟨b, 0, none⟩) c2 V cv (some ⟨kb, off', none⟩) (ck2 - 1)) b 0 c2 d.scr) := ⟨by omega, by simp, by rw [put3_dev]; have := HB4.out; rw [HD1.out] at this ⊢; exact this, HO.out.keep (HK4.out b (by omega) (by omega))⟩
  have fp := HB4.out.cell
  have hl1 := HGD.out.fine.len
  have tm : ¬ (0 : Int) ≤ most := by have := HM.out; omega
  clear fp
  have fp := HB4.out.cell
  go_wp2_with fail
  refine (begin_any d.scr a1 p 1 32 (devCs d1 (some ⟨b, 0, none⟩) c2 V cv (some ⟨kb, off', none⟩) (ck2 - 1)) b 0 c2 w4 HSX.out (by omega) HGD.out.fine.len HGD.out.fine.row0 HGD.out.fine.row5).mono ?_
  rintro e6 w6 ⟨rfl, hst⟩
  have HFN := Lib.hid (newRow_fine HGD.out.fine.len HGD.out.fine.row0 HGD.out.fine.row5 HGD.out.fine.size)
  have HDE := Lib.hid (show D0 = ⟨d1.use, newRow d.scr, d1.files, d1.keys⟩ by rw [HD0.out, HSH.out, HD1.out]; rfl)
  generalize newRow d.scr = S0 at *
  obtain ⟨b6, o6, c6, hp6, hb6, ht6⟩ := hst
  have s6 := ht6.size
  have hk6 : ∀ k, k < w2.heap.size → k ≠ p → k ≠ b → w6.heap[k]? = w2.heap[k]? := fun k h1 h2 h3 => (ht6.block k (by omega) h2 h3).trans (HK4.out k h1 h2)
  have hB6 := hp6.blk
  rw [put3_dev, ← HDE.out] at hB6
  have hFX6 := (loc_ownFx _ _ _ xs w2 w6 (fun k h1 h2 => hk6 k (by omega) (by omega) (by omega)) HFX.out).more (show w2.heap.size ≤ w6.heap.size by omega)
  have hfr := hFX6.fils.reads
  rw [HXS.out] at hfr
  have hkd6 := HKD4.out.keep (w' := w6) (fun k h1 h2 => ht6.block k (by have := HQ.out.2.2.2.1; omega) (by have := HQ.out.2.2.2.1; omega) (fun e => by have := HX13.out.far (k := b) hab hbb; omega))
  have HDR := Lib.hid (show DevR w6 w1.heap.size w6.heap.size (.agg (devCs D0 (some ⟨b6, o6, none⟩) c6 V cv (some ⟨kb, off', none⟩) (ck2 - 1))) D0 from by rw [HDE.out, HD1.out]; exact ⟨some ⟨b6, o6, none⟩, c6, V, cv, some ⟨kb, off', none⟩, ck2 - 1, rfl, RowR.more hp6.own.reads (by have := HQ.out.1; omega) (Nat.le_refl _), FilesR.more hfr (by omega) (Nat.le_refl _), RowR.more hkd6 (by have := HQ.out.2.2.1; omega) (by have := HQ.out.2.2.2.1; omega)⟩)
  have HRB3 := Lib.hid (show Blk w6 (w.heap.size + 1) 32 #[.int .i64 0, .int .i64 0, .int .i64 0, .slice none 0 0, .slice none 0 0, .slice none 0 0] from (hk6 _ (by omega) (by omega) (by omega)).trans (HR2.out.get 0 rfl))
  have HBEL3 := Lib.hid (show Below w.heap.size w w6 from HBL4.out.trans (ht6.below (base := w.heap.size) (by omega) (by omega) (by omega)))
  have HDS := Lib.hid (show DevSmall D0 from by rw [HDE.out, HD1.out]; exact ⟨⟨by have := HFN.out.len; show S0.rows.length ≤ _; omega, fun r hr => by have := HFN.out.size r hr; omega⟩, HS.out.2.1, by have := HS.out.2.2.1; show (d.keys.drop 1).length ≤ _; rw [List.length_drop]; omega, fun r hr => HS.out.2.2.2 r (List.mem_of_mem_drop hr)⟩)
  have hr1 : 0 < D0.scr.rows.length := by rw [HDE.out]; have := HFN.out.len; show 0 < S0.rows.length; omega
  have HB3 := Lib.hid hB6
  have s0 : w.heap.size + 2 ≤ w6.heap.size := by omega
  clear hp6 ht6 hk6 hB6 hFX6 hfr hkd6 HSX HR2 HBP HFX HOK HOA HB4 HK4 HBL4 HKD4 HQ HX13 HOAB HXS HOKB HDE HFN HKR HKC HO hTB HTT HD1 fp
  have fp := HB3.out.cell
  go_wp2_with fail
  refine (copyDevices_own D0 _ w1.heap.size w6.heap.size _ HDR.out (Nat.le_refl _) hr1 HDS.out).mono ?_
  rintro e8 w8 ⟨p4, A4, c4, V4, cv4, K4, ck4, rfl, hp41, hp42, hBp4, ⟨a41, b41, a43, b43, B4, hq4, x134, ⟨oA4, oAb4⟩, ⟨xs4, hxs4, hfx4⟩, oK4, oKb4⟩, hb8⟩
  have s8 := hb8.size
  have HRB8 := Lib.hid (HRB3.out.below hb8 HRB3.out.lt); have HBEL := Lib.hid (HBEL3.out.trans (hb8.mono HBEL3.out.size))
  have HQ4 := Lib.hid hq4; have HX134 := Lib.hid x134; have HOA4 := Lib.hid oA4; have HOAB4 := Lib.hid oAb4; have HXS4 := Lib.hid hxs4; have HFX4 := Lib.hid hfx4; have HOK4 := Lib.hid oK4; have HOKB4 := Lib.hid oKb4; have HBP4 := Lib.hid hBp4
  clear hq4 x134 oA4 oAb4 hxs4 hfx4 oK4 oKb4 hBp4 hb8 fp HB3 HDR HRB3 HBEL3 HDS
  have fp := HBP4.out.cell; have fr := HRB8.out.cell; have zr := HRB8.out.frozen
  go_wp2_with fail
  refine bodyPost_ret (v := .tuple #[.agg (devCs D0 A4 c4 V4 cv4 K4 ck4), .string T, .int .i64 0]) (by simp [results, Tryz.results8, go_sem, fr]) rfl ⟨_, rfl, ?_, ?_⟩
  · obtain ⟨q1, q2, q3, q4, q5, q6⟩ := HQ4.out
    refine ownDev_mk (W := w8) (p := p4) (r := w.heap.size + 1) (d := D0) (lo := w.heap.size) ⟨by omega, q2, by omega, q4, q5, by omega⟩ ⟨by omega, by omega, by omega⟩ (by omega) HX134.out HOA4.out HOAB4.out HXS4.out HFX4.out HOK4.out HOKB4.out (fun b h1 h2 => ?_) (by simp [World.setCell])
    iterate 6 (with_reducible rw [Below.heap_setCell _ _ _ b (by simp; omega)])
  · iterate 6 (with_reducible refine Below.setCell ?_ (by simp; try omega) _)
    exact HBEL.out

set_option maxHeartbeats 8000000 in
set_option maxRecDepth 100000 in
theorem iRd_nofil (d : Dev) (most : Int) (v : Value) (lo hi : Nat) (w : World) (hx : DevR w lo hi v d) (hhi : hi ≤ w.heap.size) (hs : DevSmall d) (hB : devB d = true) (hr : inB most (-1) 80 = true) (hu : ¬ d.use = 0) (f0 : Fil) (hf0 : d.files.getD (d.use - 1).toNat filD = f0) (ha : (f0.lines.length : Int) ≤ f0.at_) :
    Calls Tryz.prog 8 #[v, .int .i64 most] w fun e w' => ∃ v', e = .returned (.tuple #[v', .string ⟨#[]⟩, .int .i64 3]) ∧ OwnDev w' w.heap.size w'.heap.size v' noDev ∧ Below w.heap.size w w' := by
  have HX := Lib.hid hx; have HS := Lib.hid hs
  obtain ⟨A, c, F, cf, J, cj, rfl, h1, h2, h3⟩ := hx
  have R0 := (((Stand.nil w).add lo hi _ (loc_devR lo hi (.agg (devCs d A c F cf J cj)) d) hhi HX.out).box 32 (devCs d A c F cf J cj)).box 32 #[.int .i64 0, .int .i64 0, .int .i64 0, .slice none 0 0, .slice none 0 0, .slice none 0 0]
  rw [heap_size_alloc1] at R0
  have HR0 := Lib.hid R0
  have HOK := Lib.hid (fun W v h1 h2 => implDevicesOk_any d v lo hi W h1 h2 HS.out)
  clear h1 h2 h3 R0 hs
  rw [hB] at HOK
  have HGD := Lib.hid (DevGood.of hB)
  have hn3 := HGD.out.n3
  have hr0 : 0 < d.scr.rows.length := by have := HGD.out.fine.len; omega
  have u0 : (d.use == 0) = false := by rw [beq_eq_false_iff_ne]; exact hu
  have u1 := HGD.out.use0; have u2 := HGD.out.usen
  obtain ⟨j, hju⟩ : ∃ j : Nat, d.use = (j : Int) + 1 := ⟨(d.use - 1).toNat, by omega⟩
  have hjt : (d.use - 1).toNat = j := by omega
  rw [hjt] at hf0
  have hjn : j < d.files.length := by omega
  have HJU := Lib.hid hju
  have HFA := Lib.hid (fil_at (HGD.out.files _ (getD_mem (d := filD) hjn)))
  rw [hf0] at HFA
  have HF0 := Lib.hid hf0; have HA := Lib.hid ha; have HRM := Lib.hid (inB_le hr)
  clear hu hju hf0 ha hjt
  go_enter Tryz.func8, Tryz.ntmps8
  go_wp2_with fail
  refine (HOK.out _ _ (HR0.out.get 2 rfl) (HR0.out.le 2 rfl)).mono ?_
  rintro e1 w1 ⟨rfl, hb1⟩
  have HR1 := Lib.hid (HR0.out.below hb1); clear hb1 HR0 HOK
  go_wp2_with fail
  refine (within_any most (-1) 80 w1).mono ?_
  rintro e1' w1' ⟨rfl, rfl⟩
  rw [hr]
  clear hr
  have f1 := (HR1.out.get 1 rfl).cell
  go_wp2_with fail
  refine (copyDevices_own d _ lo hi _ (HR1.out.get 2 rfl) (HR1.out.le 2 rfl) hr0 HS.out).mono ?_
  rintro e2 w2 ⟨p, A2, c2, V, cv, K2, ck2, rfl, hp1, hp2, hBp, ⟨a1, b1, a3, b3, B, hq, x13, ⟨oA, oAb⟩, ⟨xs, hxs, hfx⟩, oK, oKb⟩, hb2⟩
  have s1 := HR1.out.le 0 rfl
  have s2 := hb2.size
  have HR2 := Lib.hid (HR1.out.below hb2); clear hb2 f1 HR1
  have HQ := Lib.hid hq; have HX13 := Lib.hid x13; have HOA := Lib.hid oA; have HOAB := Lib.hid oAb; have HXS := Lib.hid hxs; have HFX := Lib.hid hfx; have HOK := Lib.hid oK; have HOKB := Lib.hid oKb; have HBP := Lib.hid hBp
  have hpB := hq.2.2.2.2.1; have hBw := hq.2.2.2.2.2; have hwp := hp1
  clear hq x13 oA oAb hxs hfx oK oKb hBp
  have HXL := Lib.hid (show xs.length = d.files.length by rw [← HXS.out]; simp)
  have hrw := HFX.out.row
  rw [HXL.out] at hrw
  obtain ⟨g, rfl, hgB, hgl, hnc, hcm, -⟩ := row_flat hrw (by omega)
  clear hrw
  have HXJ := Lib.hid (show ∃ x, xs[j]'(by rw [HXL.out]; exact hjn) = x ∧ x.f = d.files.getD j filD from ⟨_, rfl, by have hjx : j < xs.length := (by rw [HXL.out]; exact hjn); have e := congrArg (fun l => l.getD j filD) HXS.out; simp only [List.getD_eq_getElem?_getD, List.getElem?_map, List.getElem?_eq_getElem hjx] at e ⊢; exact e⟩)
  obtain ⟨x, hxj, hxf⟩ := HXJ.out
  clear HXJ
  rw [HF0.out] at hxf
  have HLF := Lib.hid (lineFile_any (x := x) HBP.out HJU.out HXL.out (by rw [HXL.out]; exact hjn) hxj HFX.out hBw hpB (by rw [hxf]; exact HFA.out.1) (by rw [hxf]; exact HFA.out.2.1) (by omega) (by rw [hxf]; have := HFA.out.2.2.1; omega))
  rw [hxf] at HLF
  have HXF := Lib.hid hxf; have HXJ := Lib.hid hxj; clear hxf hxj
  go_wp2_with fail
  refine HLF.out.mono ?_
  rintro e3 w3 ⟨hb3, hno, hso⟩
  have s3 := hb3.size
  obtain rfl := hno HA.out
  have HRB := Lib.hid (show Blk w3 (w.heap.size + 1) 32 #[.int .i64 0, .int .i64 0, .int .i64 0, .slice none 0 0, .slice none 0 0, .slice none 0 0] from (hb3.block (w.heap.size + 1) (by omega)).trans (HR2.out.get 0 rfl))
  have HBEL := Lib.hid (show Below w.heap.size w w3 from HR2.out.1.trans (hb3.mono (by omega)))
  clear hb3 hno hso HLF
  have fr := HRB.out.cell; have zr := HRB.out.frozen; have sr : w.heap.size + 1 + 1 ≤ w3.heap.size := HRB.out.lt
  go_wp2_with fail
  refine bodyPost_ret (v := .tuple #[.agg #[.int .i64 0, .int .i64 0, .int .i64 0, .slice none 0 0, .slice none 0 0, .slice none 0 0], .string ⟨#[]⟩, .int .i64 3]) (by simp [results, Tryz.results8, go_sem, fr]) rfl ⟨_, rfl, ?_, ?_⟩
  · exact (ownDev_none _ _ _ (by first | (simp [World.setCell]; done) | (simp [World.setCell]; omega)))
  · iterate 6 (with_reducible refine Below.setCell ?_ (by simp; try omega) _)
    exact HBEL.out

set_option maxHeartbeats 8000000 in
set_option maxRecDepth 100000 in
theorem iRd_fil (d : Dev) (most : Int) (v : Value) (lo hi : Nat) (w : World) (hx : DevR w lo hi v d) (hhi : hi ≤ w.heap.size) (hs : DevSmall d) (hB : devB d = true) (hr : inB most (-1) 80 = true) (hu : ¬ d.use = 0) (hTB : Hid (TabsIn w)) (f0 : Fil) (hf0 : d.files.getD (d.use - 1).toNat filD = f0) (ha : ¬ (f0.lines.length : Int) ≤ f0.at_) (D0 : Dev) (hD : D0 = ⟨d.use, d.scr, d.files.set (d.use - 1).toNat (atNext f0), d.keys⟩) (T : ByteArray) (hT : T = wantT (f0.lines.getD f0.at_.toNat ByteArray.empty) most) :
    Calls Tryz.prog 8 #[v, .int .i64 most] w fun e w' => ∃ v', e = .returned (.tuple #[v', .string T, .int .i64 0]) ∧ OwnDev w' w.heap.size w'.heap.size v' D0 ∧ Below w.heap.size w w' := by
  have HX := Lib.hid hx; have HS := Lib.hid hs
  obtain ⟨A, c, F, cf, J, cj, rfl, h1, h2, h3⟩ := hx
  have R0 := (((Stand.nil w).add lo hi _ (loc_devR lo hi (.agg (devCs d A c F cf J cj)) d) hhi HX.out).box 32 (devCs d A c F cf J cj)).box 32 #[.int .i64 0, .int .i64 0, .int .i64 0, .slice none 0 0, .slice none 0 0, .slice none 0 0]
  rw [heap_size_alloc1] at R0
  have HR0 := Lib.hid R0
  have HOK := Lib.hid (fun W v h1 h2 => implDevicesOk_any d v lo hi W h1 h2 HS.out)
  clear h1 h2 h3 R0 hs
  rw [hB] at HOK
  have HGD := Lib.hid (DevGood.of hB)
  have hn3 := HGD.out.n3
  have hr0 : 0 < d.scr.rows.length := by have := HGD.out.fine.len; omega
  have u0 : (d.use == 0) = false := by rw [beq_eq_false_iff_ne]; exact hu
  have u1 := HGD.out.use0; have u2 := HGD.out.usen
  obtain ⟨j, hju⟩ : ∃ j : Nat, d.use = (j : Int) + 1 := ⟨(d.use - 1).toNat, by omega⟩
  have hjt : (d.use - 1).toNat = j := by omega
  rw [hjt] at hf0 hD
  have hjn : j < d.files.length := by omega
  have HJU := Lib.hid hju
  have HFA := Lib.hid (fil_at (HGD.out.files _ (getD_mem (d := filD) hjn)))
  rw [hf0] at HFA
  have HF0 := Lib.hid hf0; have HA := Lib.hid ha; have HRM := Lib.hid (inB_le hr); have HD0 := Lib.hid hD; have HTT := Lib.hid hT
  clear hu hju hf0 ha hjt hD hT
  go_enter Tryz.func8, Tryz.ntmps8
  go_wp2_with fail
  refine (HOK.out _ _ (HR0.out.get 2 rfl) (HR0.out.le 2 rfl)).mono ?_
  rintro e1 w1 ⟨rfl, hb1⟩
  have HR1 := Lib.hid (HR0.out.below hb1); clear hb1 HR0 HOK
  go_wp2_with fail
  refine (within_any most (-1) 80 w1).mono ?_
  rintro e1' w1' ⟨rfl, rfl⟩
  rw [hr]
  clear hr
  have f1 := (HR1.out.get 1 rfl).cell
  go_wp2_with fail
  refine (copyDevices_own d _ lo hi _ (HR1.out.get 2 rfl) (HR1.out.le 2 rfl) hr0 HS.out).mono ?_
  rintro e2 w2 ⟨p, A2, c2, V, cv, K2, ck2, rfl, hp1, hp2, hBp, ⟨a1, b1, a3, b3, B, hq, x13, ⟨oA, oAb⟩, ⟨xs, hxs, hfx⟩, oK, oKb⟩, hb2⟩
  have s1 := HR1.out.le 0 rfl
  have s2 := hb2.size
  have HR2 := Lib.hid (HR1.out.below hb2); clear hb2 f1 HR1
  have HQ := Lib.hid hq; have HX13 := Lib.hid x13; have HOA := Lib.hid oA; have HOAB := Lib.hid oAb; have HXS := Lib.hid hxs; have HFX := Lib.hid hfx; have HOK := Lib.hid oK; have HOKB := Lib.hid oKb; have HBP := Lib.hid hBp
  have hpB := hq.2.2.2.2.1; have hBw := hq.2.2.2.2.2; have hwp := hp1
  clear hq x13 oA oAb hxs hfx oK oKb hBp
  have HXL := Lib.hid (show xs.length = d.files.length by rw [← HXS.out]; simp)
  have hrw := HFX.out.row
  rw [HXL.out] at hrw
  obtain ⟨g, rfl, hgB, hgl, hnc, hcm, -⟩ := row_flat hrw (by omega)
  clear hrw
  have HXJ := Lib.hid (show ∃ x, xs[j]'(by rw [HXL.out]; exact hjn) = x ∧ x.f = d.files.getD j filD from ⟨_, rfl, by have hjx : j < xs.length := (by rw [HXL.out]; exact hjn); have e := congrArg (fun l => l.getD j filD) HXS.out; simp only [List.getD_eq_getElem?_getD, List.getElem?_map, List.getElem?_eq_getElem hjx] at e ⊢; exact e⟩)
  obtain ⟨x, hxj, hxf⟩ := HXJ.out
  clear HXJ
  rw [HF0.out] at hxf
  have HLF := Lib.hid (lineFile_any (x := x) HBP.out HJU.out HXL.out (by rw [HXL.out]; exact hjn) hxj HFX.out hBw hpB (by rw [hxf]; exact HFA.out.1) (by rw [hxf]; exact HFA.out.2.1) (by omega) (by rw [hxf]; have := HFA.out.2.2.1; omega))
  rw [hxf] at HLF
  have HXF := Lib.hid hxf; have HXJ := Lib.hid hxj; clear hxf hxj
  go_wp2_with fail
  refine HLF.out.mono ?_
  rintro e3 w3 ⟨hb3, hno, hso⟩
  have s3 := hb3.size
  obtain ⟨rfl, hfx3⟩ := hso HA.out
  have ha1 := HQ.out.1; have hb1p := HQ.out.2.1; have hb3p := HQ.out.2.2.2.1
  have HB3' := Lib.hid (show Blk w3 p 32 _ from (hb3.block p hpB).trans HBP.out)
  have HRB3' := Lib.hid (show Blk w3 (w.heap.size + 1) 32 #[.int .i64 0, .int .i64 0, .int .i64 0, .slice none 0 0, .slice none 0 0, .slice none 0 0] from (hb3.block (w.heap.size + 1) (by omega)).trans (HR2.out.get 0 rfl))
  have HBL3 := Lib.hid (show Below w.heap.size w w3 from HR2.out.1.trans (hb3.mono (by omega)))
  have HOA3 := Lib.hid (own_keep (hi := b1) (w' := w3) HOA.out HOAB.out (fun b h1 h2 => hb3.block b (by omega)))
  have HOK3 := Lib.hid (own_keep (hi := b3) (w' := w3) HOK.out HOKB.out (fun b h1 h2 => hb3.block b (by omega)))
  have HFX3 := Lib.hid hfx3; clear hfx3 hso hno hb3 HLF
  have HAN : f0.at_.toNat < f0.lines.length := by have := HA.out; have := HFA.out.1; omega
  have HRR := Lib.hid (readResult_any (f0.lines.getD f0.at_.toNat ByteArray.empty) most w3 (hTB.out.below HBL3.out) (by have := HFA.out.2.2.2 _ (getD_mem (d := ByteArray.empty) HAN); omega) HRM.out.1 HRM.out.2)
  rw [← HTT.out] at HRR
  clear HAN
  generalize f0.lines.getD f0.at_.toNat ByteArray.empty = LN at *
  go_wp2_with fail
  refine HRR.out.mono ?_
  rintro e4 w4 ⟨rfl, hb4⟩
  have s4 := hb4.size
  have hDl : D0.files.length = d.files.length := by rw [HD0.out]; exact List.length_set
  have hBD : devCs d A2 c2 (some ⟨g, 0, none⟩) cv K2 ck2 = devCs D0 A2 c2 (some ⟨g, 0, none⟩) cv K2 ck2 := by rw [HD0.out]; exact devCs_files d _ List.length_set _ _ _ _ _ _
  have hB4 := HB3'.out.below hb4 HB3'.out.lt
  rw [hBD] at hB4
  have HB3 := Lib.hid hB4
  have hu4 : D0.use = d.use := by rw [HD0.out]
  have u0' : (D0.use == 0) = false := by rw [hu4]; exact u0
  clear hu4
  have HRB3 := Lib.hid (HRB3'.out.below hb4 HRB3'.out.lt); have HBEL3 := Lib.hid (HBL3.out.trans (hb4.mono HBL3.out.size))
  have hfr := FilesR.below HFX3.out.fils.reads hb4 (Nat.le_refl _)
  have hmap : (xs.set j (⟨atNext x.f, x.L, x.c⟩ : Fx)).map Fx.f = D0.files := by rw [List.map_set, HXS.out, HD0.out, HXF.out]
  rw [← HXF.out, hmap] at hfr
  have hor := RowR.below (own_reads HOA3.out HOAB.out) hb4 (by omega)
  have hok := RowR.below (own_reads HOK3.out HOKB.out) hb4 (by omega)
  have HDR := Lib.hid (show DevR w4 w1.heap.size w4.heap.size (.agg (devCs D0 A2 c2 (some ⟨g, 0, none⟩) cv K2 ck2)) D0 from ⟨A2, c2, some ⟨g, 0, none⟩, cv, K2, ck2, rfl, by rw [HD0.out]; exact RowR.more hor (by omega) (by omega), FilesR.more hfr (by omega) (by omega), by rw [HD0.out]; exact RowR.more hok (by have := HQ.out.2.2.1; omega) (by omega)⟩)
  have HDS := Lib.hid (show DevSmall D0 from by rw [HD0.out]; exact ⟨HS.out.1, ⟨by have := HS.out.2.1.1; show (d.files.set _ _).length ≤ _; rw [List.length_set]; exact this, fun f hf => by
    rcases List.mem_or_eq_of_mem_set hf with hf | rfl
    · exact HS.out.2.1.2 f hf
    · have := HS.out.2.1.2 f0 (by rw [← HF0.out]; exact getD_mem (d := filD) hjn); exact this⟩, HS.out.2.2⟩)
  have hr1 : 0 < D0.scr.rows.length := by rw [HD0.out]; exact hr0
  have s0 : w.heap.size + 2 ≤ w4.heap.size := by omega
  clear hb4 hB4 hBD hfr hmap hor hok HRR HB3' HRB3' HBL3 HOA3 HOK3 HFX3 HR2 HBP HFX HOK HOA HX13 HOAB HXS HOKB HQ hTB HTT HXF HXJ HA HFA HF0 HD0 hDl
  have fp := HB3.out.cell
  go_wp2_with fail
  refine (copyDevices_own D0 _ w1.heap.size w4.heap.size _ HDR.out (Nat.le_refl _) hr1 HDS.out).mono ?_
  rintro e8 w8 ⟨p4, A4, c4, V4, cv4, K4, ck4, rfl, hp41, hp42, hBp4, ⟨a41, b41, a43, b43, B4, hq4, x134, ⟨oA4, oAb4⟩, ⟨xs4, hxs4, hfx4⟩, oK4, oKb4⟩, hb8⟩
  have s8 := hb8.size
  have HRB8 := Lib.hid (HRB3.out.below hb8 HRB3.out.lt); have HBEL := Lib.hid (HBEL3.out.trans (hb8.mono HBEL3.out.size))
  have HQ4 := Lib.hid hq4; have HX134 := Lib.hid x134; have HOA4 := Lib.hid oA4; have HOAB4 := Lib.hid oAb4; have HXS4 := Lib.hid hxs4; have HFX4 := Lib.hid hfx4; have HOK4 := Lib.hid oK4; have HOKB4 := Lib.hid oKb4; have HBP4 := Lib.hid hBp4
  clear hq4 x134 oA4 oAb4 hxs4 hfx4 oK4 oKb4 hBp4 hb8 fp HB3 HDR HRB3 HBEL3 HDS
  have fp := HBP4.out.cell; have fr := HRB8.out.cell; have zr := HRB8.out.frozen
  go_wp2_with fail
  refine bodyPost_ret (v := .tuple #[.agg (devCs D0 A4 c4 V4 cv4 K4 ck4), .string T, .int .i64 0]) (by simp [results, Tryz.results8, go_sem, fr]) rfl ⟨_, rfl, ?_, ?_⟩
  · obtain ⟨q1, q2, q3, q4, q5, q6⟩ := HQ4.out
    refine ownDev_mk (W := w8) (p := p4) (r := w.heap.size + 1) (d := D0) (lo := w.heap.size) ⟨by omega, q2, by omega, q4, q5, by omega⟩ ⟨by omega, by omega, by omega⟩ (by omega) HX134.out HOA4.out HOAB4.out HXS4.out HFX4.out HOK4.out HOKB4.out (fun b h1 h2 => ?_) (by simp [World.setCell])
    iterate 6 (with_reducible rw [Below.heap_setCell _ _ _ b (by simp; omega)])
  · iterate 6 (with_reducible refine Below.setCell ?_ (by simp; try omega) _)
    exact HBEL.out

theorem implReadFrom_any (d : Dev) (most : Int) (v : Value) (lo hi : Nat) (w : World) (hTB : TabsIn w) (hx : DevR w lo hi v d) (hhi : hi ≤ w.heap.size) (hs : DevSmall d) :
    Calls Tryz.prog 8 #[v, .int .i64 most] w fun e w' => ∃ v', e = .returned (.tuple #[v', .string (readP d most).text, .int .i64 (readP d most).code]) ∧ OwnDev w' w.heap.size w'.heap.size v' (readP d most).dev ∧ Below w.heap.size w w' := by
  cases hB : devB d
  · rw [show readP d most = noRd 1 by simp [readP, hB]]
    exact iRd_bad d most v lo hi w hx hhi hs hB
  cases hr : inB most (-1) 80
  · rw [show readP d most = noRd 2 by simp [readP, hB, hr]]
    exact iRd_rng d most v lo hi w hx hhi hs hB hr
  by_cases hu : d.use = 0
  · rw [show readP d most = readKey d most by simp [readP, hB, hr, hu]]
    by_cases hk : d.keys.length = 0
    · rw [show readKey d most = noRd 3 by simp [readKey, hk]]
      exact iRd_nokey d most v lo hi w hx hhi hs hB hr hu hk
    · rw [show readKey d most = ⟨⟨d.use, newRow (showTo d.scr (shownT (d.keys.getD 0 ByteArray.empty) most) (shownT (d.keys.getD 0 ByteArray.empty) most).size), d.files, d.keys.drop 1⟩, wantT (d.keys.getD 0 ByteArray.empty) most, 0⟩ by unfold readKey; rw [if_neg hk]]
      by_cases hm : 0 ≤ most
      · exact iRd_keyS d most v lo hi w hx hhi hs hB hr hu (by omega) (Lib.hid hTB) hm _ rfl _ rfl
      · exact iRd_keyN d most v lo hi w hx hhi hs hB hr hu (by omega) (Lib.hid hTB) (by have := (inB_le hr).1; omega) _ rfl _ rfl
  · rw [show readP d most = readFil d most by simp [readP, hB, hr, hu]]
    by_cases ha : ((d.files.getD (d.use - 1).toNat filD).lines.length : Int) ≤ (d.files.getD (d.use - 1).toNat filD).at_
    · rw [show readFil d most = noRd 3 by unfold readFil; rw [if_pos ha]]
      exact iRd_nofil d most v lo hi w hx hhi hs hB hr hu _ rfl ha
    · rw [show readFil d most = ⟨⟨d.use, d.scr, d.files.set (d.use - 1).toNat (atNext (d.files.getD (d.use - 1).toNat filD)), d.keys⟩, wantT ((d.files.getD (d.use - 1).toNat filD).lines.getD (d.files.getD (d.use - 1).toNat filD).at_.toNat ByteArray.empty) most, 0⟩ by unfold readFil; rw [if_neg ha]]
      exact iRd_fil d most v lo hi w hx hhi hs hB hr hu (Lib.hid hTB) _ rfl ha _ rfl _ rfl

end Go.Proofs.YtmeholhmadeehaaGreatDoor

/- The reference's ReadFrom walked (printed by wip/gen_rd.py). -/
namespace Go.Proofs.YtmeholhmadeehaaGreatDoor
open Go.RowKit

theorem showTo_lf (s : Scr) : showTo s ⟨#[10]⟩ (⟨#[10]⟩ : ByteArray).size = newRow s := rfl
theorem inB_le' {a lo hi : Int} (h : inB a lo hi = true) : lo ≤ a ∧ a ≤ hi := by simpa [inB] using h
theorem fil_at' {f : Fil} (h : filB f = true) : 0 ≤ f.at_ ∧ f.at_ ≤ f.lines.length ∧ f.lines.length ≤ 20 ∧ ∀ s ∈ f.lines, s.size ≤ 80 := by
  unfold filB inB at h
  simp only [Bool.and_eq_true, decide_eq_true_eq, List.all_eq_true] at h
  refine ⟨h.1.2.1, h.1.2.2, h.1.1.1.2, fun s hs => ?_⟩
  have := h.2 s hs
  unfold lineB at this
  simp only [Bool.and_eq_true, decide_eq_true_eq] at this
  exact this.1
/-- One cell of the block at the head is stored. -/
theorem Stand.set1 {w0 w : World} {Fs : Facts} {g : Nat} {t : TypeId} {cs : Array Value} (i : Nat) (u : Value) (h : Stand w0 ((g, g + 1, fun W => Blk W g t cs) :: Fs) w) (h0 : w0.heap.size ≤ g) (hd : ∀ f ∈ Fs, f.2.1 ≤ g ∨ g + 1 ≤ f.1) :
    Stand w0 ((g, g + 1, fun W => Blk W g t (cs.setIfInBounds i u)) :: Fs) (w.setCell ⟨g, i, none⟩ u) := by
  have hb := h.get 0 rfl
  have h1 : Stand w0 Fs w := ⟨h.1, fun f hf => h.2 f (List.mem_cons_of_mem _ hf)⟩
  have hw : Within g (g + 1) w (w.setCell ⟨g, i, none⟩ u) := ⟨rfl, rfl, rfl, by simp [World.setCell], fun k _ h => Below.heap_setCell _ _ _ _ (by show k ≠ g; omega)⟩
  exact (h1.within hw h0 hd).add g (g + 1) _ (loc_blk _ _ _) (by simp only [World.setCell, Array.size_modify]; exact hb.lt) (hb.set_ i u)
theorem keys_drop' {w w' : World} {lo hi kb off off' : Nat} {ks : List ByteArray} (h : StrR w lo hi (some ⟨kb, off, none⟩) ks.length ks) (hoff : 1 < ks.length → off' = off + 1) (hk : ∀ b, lo ≤ b → b < hi → w'.heap[b]? = w.heap[b]?) :
    StrR w' lo hi (some ⟨kb, off', none⟩) (ks.length - 1) (ks.drop 1) := by
  refine ⟨by rw [List.length_drop], fun hn => ?_⟩
  obtain ⟨b, o, e, h1, h2, hc⟩ := h.2 (by omega)
  injection e with e; injection e with e1 e2
  subst e1; subst e2
  have ho := hoff (by omega)
  subst ho
  refine ⟨kb, off + 1, rfl, h1, h2, fun j hj => ?_⟩
  have := hc (1 + j) (by omega)
  rw [← Nat.add_assoc] at this
  refine (World.cell?_of_block (hk kb h1 h2)).trans (this.trans ?_)
  rw [List.getD_eq_getElem?_getD, List.getD_eq_getElem?_getD, List.getElem?_drop]

set_option maxHeartbeats 8000000 in
set_option maxRecDepth 100000 in
theorem sRd_bad (d : Dev) (most : Int) (v : Value) (lo hi : Nat) (w : World) (hx : DevR w lo hi v d) (hhi : hi ≤ w.heap.size) (hs : DevSmall d) (hB : devB d = false) :
    Calls Tryz.prog 6 #[v, .int .i64 most] w fun e w' => ∃ v', e = .returned (.tuple #[v', .string ⟨#[]⟩, .int .i64 1]) ∧ DevR w' w.heap.size w'.heap.size v' noDev ∧ Below w.heap.size w w' := by
  have HX := Lib.hid hx; have HS := Lib.hid hs
  obtain ⟨A, c, F, cf, J, cj, rfl, h1, h2, h3⟩ := hx
  have R0 := (((Stand.nil w).add lo hi _ (loc_devR lo hi (.agg (devCs d A c F cf J cj)) d) hhi HX.out).box 32 (devCs d A c F cf J cj)).box 32 #[.int .i64 0, .int .i64 0, .int .i64 0, .slice none 0 0, .slice none 0 0, .slice none 0 0]
  rw [heap_size_alloc1] at R0
  have HR0 := Lib.hid R0
  have HOK := Lib.hid (fun W v h1 h2 => specDevicesOk_any d v lo hi W h1 h2 HS.out)
  clear h1 h2 h3 R0 hs
  rw [hB] at HOK
  go_enter Tryz.func6, Tryz.ntmps6
  go_wp2_with fail
  refine (HOK.out _ _ (HR0.out.get 2 rfl) (HR0.out.le 2 rfl)).mono ?_
  rintro e1 w1 ⟨rfl, hb1⟩
  have HR1 := Lib.hid (HR0.out.below hb1); clear hb1 HR0 HOK
  have fr := (HR1.out.get 0 rfl).cell
  have zr := (HR1.out.get 0 rfl).frozen
  have sr := HR1.out.le 0 rfl
  go_wp2_with fail
  refine bodyPost_ret (v := .tuple #[.agg #[.int .i64 0, .int .i64 0, .int .i64 0, .slice none 0 0, .slice none 0 0, .slice none 0 0], .string ⟨#[]⟩, .int .i64 1]) (by simp [results, Tryz.results6, go_sem, fr]) rfl ⟨_, rfl, ?_, ?_⟩
  · exact (ownDev_none _ _ _ (by first | (simp [World.setCell]; done) | (simp [World.setCell]; omega))).reads
  · iterate 6 (with_reducible refine Below.setCell ?_ (by simp; try omega) _)
    exact HR1.out.1

set_option maxHeartbeats 8000000 in
set_option maxRecDepth 100000 in
theorem sRd_rng (d : Dev) (most : Int) (v : Value) (lo hi : Nat) (w : World) (hx : DevR w lo hi v d) (hhi : hi ≤ w.heap.size) (hs : DevSmall d) (hB : devB d = true) (hr : inB most (-1) 80 = false) :
    Calls Tryz.prog 6 #[v, .int .i64 most] w fun e w' => ∃ v', e = .returned (.tuple #[v', .string ⟨#[]⟩, .int .i64 2]) ∧ DevR w' w.heap.size w'.heap.size v' noDev ∧ Below w.heap.size w w' := by
  have HX := Lib.hid hx; have HS := Lib.hid hs
  obtain ⟨A, c, F, cf, J, cj, rfl, h1, h2, h3⟩ := hx
  have R0 := (((Stand.nil w).add lo hi _ (loc_devR lo hi (.agg (devCs d A c F cf J cj)) d) hhi HX.out).box 32 (devCs d A c F cf J cj)).box 32 #[.int .i64 0, .int .i64 0, .int .i64 0, .slice none 0 0, .slice none 0 0, .slice none 0 0]
  rw [heap_size_alloc1] at R0
  have HR0 := Lib.hid R0
  have HOK := Lib.hid (fun W v h1 h2 => specDevicesOk_any d v lo hi W h1 h2 HS.out)
  clear h1 h2 h3 R0 hs
  rw [hB] at HOK
  go_enter Tryz.func6, Tryz.ntmps6
  go_wp2_with fail
  refine (HOK.out _ _ (HR0.out.get 2 rfl) (HR0.out.le 2 rfl)).mono ?_
  rintro e1 w1 ⟨rfl, hb1⟩
  have HR1 := Lib.hid (HR0.out.below hb1); clear hb1 HR0 HOK
  go_wp2_with fail
  refine (l00In_any most (-1) 80 w1).mono ?_
  rintro e1' w1' ⟨rfl, rfl⟩
  rw [hr]
  have fr := (HR1.out.get 0 rfl).cell
  have zr := (HR1.out.get 0 rfl).frozen
  have sr := HR1.out.le 0 rfl
  go_wp2_with fail
  refine bodyPost_ret (v := .tuple #[.agg #[.int .i64 0, .int .i64 0, .int .i64 0, .slice none 0 0, .slice none 0 0, .slice none 0 0], .string ⟨#[]⟩, .int .i64 2]) (by simp [results, Tryz.results6, go_sem, fr]) rfl ⟨_, rfl, ?_, ?_⟩
  · exact (ownDev_none _ _ _ (by first | (simp [World.setCell]; done) | (simp [World.setCell]; omega))).reads
  · iterate 6 (with_reducible refine Below.setCell ?_ (by simp; try omega) _)
    exact HR1.out.1

set_option maxHeartbeats 8000000 in
set_option maxRecDepth 100000 in
theorem sRd_nokey (d : Dev) (most : Int) (v : Value) (lo hi : Nat) (w : World) (hx : DevR w lo hi v d) (hhi : hi ≤ w.heap.size) (hs : DevSmall d) (hB : devB d = true) (hr : inB most (-1) 80 = true) (hu : d.use = 0) (hk : d.keys.length = 0) :
    Calls Tryz.prog 6 #[v, .int .i64 most] w fun e w' => ∃ v', e = .returned (.tuple #[v', .string ⟨#[]⟩, .int .i64 3]) ∧ DevR w' w.heap.size w'.heap.size v' noDev ∧ Below w.heap.size w w' := by
  have HX := Lib.hid hx; have HS := Lib.hid hs
  obtain ⟨A, c, F, cf, J, cj, rfl, h1, h2, h3⟩ := hx
  have R0 := (((((Stand.nil w).add lo hi _ (loc_strR0 lo hi A _ d.scr.rows) hhi h1).add lo hi _ (loc_strR0 lo hi J _ d.keys) hhi h3).add lo hi _ (loc_devR lo hi (.agg (devCs d A c F cf J cj)) d) hhi HX.out).box 32 (devCs d A c F cf J cj)).box 32 #[.int .i64 0, .int .i64 0, .int .i64 0, .slice none 0 0, .slice none 0 0, .slice none 0 0]
  rw [heap_size_alloc1] at R0
  have HR0 := Lib.hid R0
  have HOK := Lib.hid (fun W v h1 h2 => specDevicesOk_any d v lo hi W h1 h2 HS.out)
  clear h1 h2 h3 R0 hs
  rw [hB] at HOK
  have HGD := Lib.hid (DevGood.of hB)
  have hn3 := HGD.out.n3
  have u0 : ¬ (0 : Int) < d.use := by omega
  have hkl : ((d.keys.length : Int) == 0) = true := by rw [hk]; rfl
  clear hu hk
  go_enter Tryz.func6, Tryz.ntmps6
  go_wp2_with fail
  refine (HOK.out _ _ (HR0.out.get 2 rfl) (HR0.out.le 2 rfl)).mono ?_
  rintro e1 w1 ⟨rfl, hb1⟩
  have HR1 := Lib.hid (HR0.out.below hb1); clear hb1 HR0 HOK
  go_wp2_with fail
  refine (l00In_any most (-1) 80 w1).mono ?_
  rintro e1' w1' ⟨rfl, rfl⟩
  rw [hr]
  clear hr
  have f1 := (HR1.out.get 1 rfl).cell
  go_wp2_with fail
  refine (l31Own_own d _ lo hi _ (HR1.out.get 2 rfl) (HR1.out.le 2 rfl) HGD.out.fine HS.out).mono ?_
  rintro e3 w3 ⟨v3, rfl, hx3, hb3⟩
  have s3 := hb3.size
  have s1 := HR1.out.le 0 rfl
  obtain ⟨A3, c3, F3, cf3, K3, ck3, B3, xs, rfl, ⟨q1, q2⟩, hA3, hK3, hxs, hfx⟩ := id hx3
  have hfr := hfx.row
  have HXL := Lib.hid (show xs.length = d.files.length by rw [← hxs]; simp)
  rw [HXL.out] at hfr
  have R3 := ((((HR1.out.below hb3).add w1.heap.size B3 _ (loc_strR0 w1.heap.size B3 A3 _ d.scr.rows) (by omega) hA3).add w1.heap.size B3 _ (loc_strR0 w1.heap.size B3 K3 _ d.keys) (by omega) hK3).add B3 w3.heap.size _ (loc_ownFx B3 w3.heap.size _ xs) (Nat.le_refl _) hfx).add w1.heap.size w3.heap.size _ (loc_devR w1.heap.size w3.heap.size _ d) (Nat.le_refl _) hx3.reads
  have HXS := Lib.hid hxs
  have R4 := R3.box 32 (devCs d A3 c3 F3 cf3 K3 ck3)
  have e4 : (w3.alloc (.cells (devCs d A3 c3 F3 cf3 K3 ck3) 32)).heap.size = w3.heap.size + 1 := by simp
  have HR4 := Lib.hid R4; have HE4 := Lib.hid e4; have HFR := Lib.hid hfr
  have gp := fun o => ((R3.alloc o).get 5 rfl).cell
  clear hb3 HR1 f1 R3 R4 e4 hA3 hK3 hxs hfx hfr hx3
  have zr := (HR4.out.get 5 rfl).frozen; have fr := (HR4.out.get 5 rfl).cell; have sr := HR4.out.le 5 rfl; have HBEL := Lib.hid HR4.out.1
  go_wp2_with fail
  refine bodyPost_ret (v := .tuple #[.agg #[.int .i64 0, .int .i64 0, .int .i64 0, .slice none 0 0, .slice none 0 0, .slice none 0 0], .string ⟨#[]⟩, .int .i64 3]) (by simp [results, Tryz.results6, go_sem, fr, devCs]) rfl ⟨_, rfl, ?_, ?_⟩
  · exact (ownDev_none _ _ _ (by first | (simp [World.setCell]; done) | (simp [World.setCell]; omega))).reads
  · iterate 6 (with_reducible refine Below.setCell ?_ (by simp; try omega) _)
    exact HBEL.out

set_option maxHeartbeats 8000000 in
set_option maxRecDepth 100000 in
theorem sRd_key (d : Dev) (most : Int) (v : Value) (lo hi : Nat) (w : World) (hx : DevR w lo hi v d) (hhi : hi ≤ w.heap.size) (hs : DevSmall d) (hcap : ∀ d' A c F cf J cj, v = .agg (devCs d' A c F cf J cj) → d'.keys.length ≤ cj) (hB : devB d = true) (hr : inB most (-1) 80 = true) (hu : d.use = 0) (hk : 0 < d.keys.length) (SH : ByteArray) (hSH : SH = shownT (d.keys.getD 0 ByteArray.empty) most) (T : ByteArray) (hT : T = wantT (d.keys.getD 0 ByteArray.empty) most) :
    Calls Tryz.prog 6 #[v, .int .i64 most] w fun e w' => ∃ v', e = .returned (.tuple #[v', .string T, .int .i64 0]) ∧ DevR w' w.heap.size w'.heap.size v' ⟨d.use, newRow (showTo d.scr SH SH.size), d.files, d.keys.drop 1⟩ ∧ Below w.heap.size w w' := by
  have HX := Lib.hid hx; have HS := Lib.hid hs
  obtain ⟨A, c, F, cf, J, cj, rfl, h1, h2, h3⟩ := hx
  have R0 := (((((Stand.nil w).add lo hi _ (loc_strR0 lo hi A _ d.scr.rows) hhi h1).add lo hi _ (loc_strR0 lo hi J _ d.keys) hhi h3).add lo hi _ (loc_devR lo hi (.agg (devCs d A c F cf J cj)) d) hhi HX.out).box 32 (devCs d A c F cf J cj)).box 32 #[.int .i64 0, .int .i64 0, .int .i64 0, .slice none 0 0, .slice none 0 0, .slice none 0 0]
  rw [heap_size_alloc1] at R0
  have HR0 := Lib.hid R0
  have HOK := Lib.hid (fun W v h1 h2 => specDevicesOk_any d v lo hi W h1 h2 HS.out)
  clear h1 h2 h3 R0 hs
  rw [hB] at HOK
  have HGD := Lib.hid (DevGood.of hB)
  have hn3 := HGD.out.n3
  have HCAP := Lib.hid (hcap _ _ _ _ _ _ _ rfl)
  clear hcap
  have u0 : ¬ (0 : Int) < d.use := by omega
  have hkl : ((d.keys.length : Int) == 0) = false := by rw [beq_eq_false_iff_ne]; omega
  have hk1 : (1 : Int) ≤ (d.keys.length : Int) := by omega
  have hk0 : (0 : Int) < (d.keys.length : Int) := by omega
  have HRM := Lib.hid (inB_le' hr); have HTT := Lib.hid hT; have HSS := Lib.hid hSH; have HKP := Lib.hid hk
  have HKM := Lib.hid (show (d.keys.getD 0 ByteArray.empty).size ≤ 1048576 from HS.out.2.2.2 _ (by rw [List.getD_eq_getElem?_getD, List.getElem?_eq_getElem hk]; exact List.getElem_mem hk))
  have HSZ := Lib.hid (show SH.size ≤ 1048576 by rw [hSH]; unfold shownT; split; exact Nat.zero_le _; exact wantT_size _ _ HKM.out)
  generalize hLN : d.keys.getD 0 ByteArray.empty = LN at *
  have HLN := Lib.hid hLN; clear hLN
  clear hu hk hT hSH
  go_enter Tryz.func6, Tryz.ntmps6
  go_wp2_with fail
  refine (HOK.out _ _ (HR0.out.get 2 rfl) (HR0.out.le 2 rfl)).mono ?_
  rintro e1 w1 ⟨rfl, hb1⟩
  have HR1 := Lib.hid (HR0.out.below hb1); clear hb1 HR0 HOK
  go_wp2_with fail
  refine (l00In_any most (-1) 80 w1).mono ?_
  rintro e1' w1' ⟨rfl, rfl⟩
  rw [hr]
  clear hr
  have f1 := (HR1.out.get 1 rfl).cell
  go_wp2_with fail
  refine (l31Own_own d _ lo hi _ (HR1.out.get 2 rfl) (HR1.out.le 2 rfl) HGD.out.fine HS.out).mono ?_
  rintro e3 w3 ⟨v3, rfl, hx3, hb3⟩
  have s3 := hb3.size
  have s1 := HR1.out.le 0 rfl
  obtain ⟨A3, c3, F3, cf3, K3, ck3, B3, xs, rfl, ⟨q1, q2⟩, hA3, hK3, hxs, hfx⟩ := id hx3
  have hfr := hfx.row
  have HXL := Lib.hid (show xs.length = d.files.length by rw [← hxs]; simp)
  rw [HXL.out] at hfr
  have R3 := ((((HR1.out.below hb3).add w1.heap.size B3 _ (loc_strR0 w1.heap.size B3 A3 _ d.scr.rows) (by omega) hA3).add w1.heap.size B3 _ (loc_strR0 w1.heap.size B3 K3 _ d.keys) (by omega) hK3).add B3 w3.heap.size _ (loc_ownFx B3 w3.heap.size _ xs) (Nat.le_refl _) hfx).add w1.heap.size w3.heap.size _ (loc_devR w1.heap.size w3.heap.size _ d) (Nat.le_refl _) hx3.reads
  have HXS := Lib.hid hxs
  have R4 := R3.box 32 (devCs d A3 c3 F3 cf3 K3 ck3)
  have e4 : (w3.alloc (.cells (devCs d A3 c3 F3 cf3 K3 ck3) 32)).heap.size = w3.heap.size + 1 := by simp
  have HR4 := Lib.hid R4; have HE4 := Lib.hid e4; have HFR := Lib.hid hfr
  have gp := fun o => ((R3.alloc o).get 5 rfl).cell
  clear hb3 HR1 f1 R3 R4 e4 hA3 hK3 hxs hfx hfr hx3
  obtain ⟨jb, joff, rfl, hj1, hj2, hjc⟩ := (HR4.out.get 8 rfl).at_ HKP.out
  rw [Nat.add_zero, HLN.out] at hjc
  have HJC := Lib.hid hjc; clear hjc
  have HJ3 : ∀ o, (w3.alloc o).cell? ⟨jb, joff, none⟩ = some (.string LN) := fun o => by have := HJC.out; rw [(((Below.refl w3.heap.size w3).alloc (Nat.le_refl _) _).cell (p := ⟨jb, joff, none⟩) (by show jb < w3.heap.size; omega))] at this ⊢; exact this
  go_wp2_with fail
  clear gp HJ3
  generalize w3.alloc (.cells (devCs d A3 c3 F3 cf3 K3 ck3) 32) = w4 at *
  refine (wanted_any LN most w4 HKM.out HRM.out.1 HRM.out.2).mono ?_
  rintro e5 w5 ⟨rfl, hb5⟩
  rw [← HTT.out, ← HSS.out]
  have HR5 := Lib.hid (HR4.out.below hb5); have s5 := hb5.size; have e4 := HE4.out
  clear hb5 HR4 HE4 HJC
  have f1 := (HR5.out.get 6 rfl).cell
  go_wp2_with fail
  · refine (l03Subs_any (some ⟨jb, joff, none⟩) (d.keys.length - 1) 0 lo hi (d.keys.drop 1) w5 (keys_drop' (HR5.out.get 8 rfl) (fun h => by have := HCAP.out; omega) (fun _ _ _ => rfl)) (HR5.out.le 8 rfl) (by have := HS.out.2.2.1; omega)).mono ?_
    rintro e6 w6 ⟨v6, rfl, ho6, hb6⟩
    have s6 := hb6.size
    obtain ⟨A6, c6, rfl⟩ := ho6.1
    have hk6 : StrR w6 w5.heap.size w6.heap.size A6 (d.keys.drop 1).length (d.keys.drop 1) := OwnR.reads ho6
    rw [List.length_drop] at hk6
    have R6 := (HR5.out.below hb6).add w5.heap.size w6.heap.size _ (loc_strR0 w5.heap.size w6.heap.size A6 _ (d.keys.drop 1)) (Nat.le_refl _) hk6
    have R7 := Stand.set1 5 (.slice A6 (d.keys.length - 1) c6) (R6.only [1, 0, 3, 6, 7, 10]) (by omega) (by
      intro f hf
      simp only [List.filterMap_cons, List.filterMap_nil, List.getElem?_cons_zero, List.getElem?_cons_succ, List.mem_cons, List.not_mem_nil, or_false] at hf
      rcases hf with rfl | rfl | rfl | rfl | rfl
      all_goals (simp only; omega))
    have fo := (R6.get 1 rfl).cell; have zo := (R6.get 1 rfl).frozen
    have HR7 := Lib.hid R7; clear R6 R7 HR5 f1 hk6 ho6 hb6
    rw [List.length_drop]
    have f1 := (HR7.out.get 4 rfl).cell
    have s7 : (w6.setCell ⟨w3.heap.size, 5, none⟩ (.slice A6 (d.keys.length - 1) c6)).heap.size = w6.heap.size := by simp [World.setCell]
    go_wp2_with fail
    clear fo zo f1
    generalize w6.setCell ⟨w3.heap.size, 5, none⟩ (.slice A6 (d.keys.length - 1) c6) = w7 at *
    refine (l31Show_any d.scr SH _ lo hi w7 ⟨A, c, rfl, HR7.out.get 5 rfl⟩ (HR7.out.le 5 rfl) HGD.out.fine HSZ.out).mono ?_
    rintro e8 w8 ⟨v8, rfl, ⟨A8, c8, rfl, hA8⟩, hb8⟩
    have s8 := hb8.size
    have HF8 := Lib.hid (showTo_fine HGD.out.fine SH SH.size)
    generalize hS8 : showTo d.scr SH SH.size = S8 at *; have HE8 := Lib.hid hS8; clear hS8
    have HR8 := Lib.hid (HR7.out.below hb8); have HA8 := Lib.hid hA8; clear hb8 hA8 HR7
    go_wp2_with fail
    refine (l31Show_any S8 ⟨#[10]⟩ _ w7.heap.size w8.heap.size w8 ⟨A8, c8, rfl, HA8.out⟩ (Nat.le_refl _) HF8.out (by decide)).mono ?_
    rintro e9 w9 ⟨v9, rfl, ⟨A9, c9, rfl, hA9⟩, hb9⟩
    have s9 := hb9.size
    rw [showTo_lf] at hA9 ⊢
    generalize hS0 : newRow S8 = S0 at *; have HE0 := Lib.hid hS0; clear hS0
    have HR9 := Lib.hid (HR8.out.below hb9); have HA9 := Lib.hid hA9; clear hb9 hA9 HR8 HA8
    have HEND := Lib.hid (show ∀ (W' : World), (∀ b, b ≠ w3.heap.size → b ≠ w.heap.size + 1 → W'.heap[b]? = w9.heap[b]?) → w9.heap.size ≤ W'.heap.size →
        DevR W' w.heap.size W'.heap.size (.agg #[.int .i64 d.use, .int .i64 S0.row, .int .i64 S0.col, .slice A9 S0.rows.length c9, .slice F3 d.files.length cf3, .slice A6 (d.keys.length - 1) c6]) ⟨d.use, S0, d.files, d.keys.drop 1⟩ from fun W' hk hz => by
      have g2 := (HR9.out.get 2 rfl).fils.reads
      rw [HXS.out] at g2
      have g3 := (HR9.out.get 1 rfl)
      exact ⟨A9, c9, F3, cf3, A6, c6, by simp [devCs], RowR.more (HA9.out.keep (fun b h1 h2 => hk b (by omega) (by omega))) (by omega) hz, FilesR.more (g2.keep (fun b h1 h2 => hk b (by omega) (by omega))) (by omega) (by omega), by show StrR _ _ _ _ (d.keys.drop 1).length _; rw [List.length_drop]; exact RowR.more (g3.keep (fun b h1 h2 => hk b (by omega) (by omega))) (by omega) (by omega)⟩)
    have fo := (HR9.out.get 0 rfl).cell; have zo := (HR9.out.get 0 rfl).frozen; have fr := (HR9.out.get 3 rfl).cell; have zr := (HR9.out.get 3 rfl).frozen; have HBEL := Lib.hid HR9.out.1
    clear HR9
    have e9 : w3.heap.size + 1 ≤ w9.heap.size := by omega
    go_wp2_with fail
    refine bodyPost_ret (v := .tuple #[.agg #[.int .i64 d.use, .int .i64 S0.row, .int .i64 S0.col, .slice A9 S0.rows.length c9, .slice F3 d.files.length cf3, .slice A6 (d.keys.length - 1) c6], .string T, .int .i64 0]) (by simp [results, Tryz.results6, go_sem, fr]) rfl ⟨_, rfl, ?_, ?_⟩
    · rw [HE8.out, HE0.out]; refine HEND.out _ (fun b h1 h2 => ?_) (by simp [World.setCell])
      iterate 9 (with_reducible rw [Below.heap_setCell _ _ _ b (by simp; omega)])
    · iterate 9 (with_reducible refine Below.setCell ?_ (by simp; try omega) _)
      exact HBEL.out
  · refine (l03Subs_any (some ⟨jb, joff + 1, none⟩) (d.keys.length - 1) (cj - 1) lo hi (d.keys.drop 1) w5 (keys_drop' (HR5.out.get 8 rfl) (fun h => by have := HCAP.out; omega) (fun _ _ _ => rfl)) (HR5.out.le 8 rfl) (by have := HS.out.2.2.1; omega)).mono ?_
    rintro e6 w6 ⟨v6, rfl, ho6, hb6⟩
    have s6 := hb6.size
    obtain ⟨A6, c6, rfl⟩ := ho6.1
    have hk6 : StrR w6 w5.heap.size w6.heap.size A6 (d.keys.drop 1).length (d.keys.drop 1) := OwnR.reads ho6
    rw [List.length_drop] at hk6
    have R6 := (HR5.out.below hb6).add w5.heap.size w6.heap.size _ (loc_strR0 w5.heap.size w6.heap.size A6 _ (d.keys.drop 1)) (Nat.le_refl _) hk6
    have R7 := Stand.set1 5 (.slice A6 (d.keys.length - 1) c6) (R6.only [1, 0, 3, 6, 7, 10]) (by omega) (by
      intro f hf
      simp only [List.filterMap_cons, List.filterMap_nil, List.getElem?_cons_zero, List.getElem?_cons_succ, List.mem_cons, List.not_mem_nil, or_false] at hf
      rcases hf with rfl | rfl | rfl | rfl | rfl
      all_goals (simp only; omega))
    have fo := (R6.get 1 rfl).cell; have zo := (R6.get 1 rfl).frozen
    have HR7 := Lib.hid R7; clear R6 R7 HR5 f1 hk6 ho6 hb6
    rw [List.length_drop]
    have f1 := (HR7.out.get 4 rfl).cell
    have s7 : (w6.setCell ⟨w3.heap.size, 5, none⟩ (.slice A6 (d.keys.length - 1) c6)).heap.size = w6.heap.size := by simp [World.setCell]
    go_wp2_with fail
    clear fo zo f1
    generalize w6.setCell ⟨w3.heap.size, 5, none⟩ (.slice A6 (d.keys.length - 1) c6) = w7 at *
    refine (l31Show_any d.scr SH _ lo hi w7 ⟨A, c, rfl, HR7.out.get 5 rfl⟩ (HR7.out.le 5 rfl) HGD.out.fine HSZ.out).mono ?_
    rintro e8 w8 ⟨v8, rfl, ⟨A8, c8, rfl, hA8⟩, hb8⟩
    have s8 := hb8.size
    have HF8 := Lib.hid (showTo_fine HGD.out.fine SH SH.size)
    generalize hS8 : showTo d.scr SH SH.size = S8 at *; have HE8 := Lib.hid hS8; clear hS8
    have HR8 := Lib.hid (HR7.out.below hb8); have HA8 := Lib.hid hA8; clear hb8 hA8 HR7
    go_wp2_with fail
    refine (l31Show_any S8 ⟨#[10]⟩ _ w7.heap.size w8.heap.size w8 ⟨A8, c8, rfl, HA8.out⟩ (Nat.le_refl _) HF8.out (by decide)).mono ?_
    rintro e9 w9 ⟨v9, rfl, ⟨A9, c9, rfl, hA9⟩, hb9⟩
    have s9 := hb9.size
    rw [showTo_lf] at hA9 ⊢
    generalize hS0 : newRow S8 = S0 at *; have HE0 := Lib.hid hS0; clear hS0
    have HR9 := Lib.hid (HR8.out.below hb9); have HA9 := Lib.hid hA9; clear hb9 hA9 HR8 HA8
    have HEND := Lib.hid (show ∀ (W' : World), (∀ b, b ≠ w3.heap.size → b ≠ w.heap.size + 1 → W'.heap[b]? = w9.heap[b]?) → w9.heap.size ≤ W'.heap.size →
        DevR W' w.heap.size W'.heap.size (.agg #[.int .i64 d.use, .int .i64 S0.row, .int .i64 S0.col, .slice A9 S0.rows.length c9, .slice F3 d.files.length cf3, .slice A6 (d.keys.length - 1) c6]) ⟨d.use, S0, d.files, d.keys.drop 1⟩ from fun W' hk hz => by
      have g2 := (HR9.out.get 2 rfl).fils.reads
      rw [HXS.out] at g2
      have g3 := (HR9.out.get 1 rfl)
      exact ⟨A9, c9, F3, cf3, A6, c6, by simp [devCs], RowR.more (HA9.out.keep (fun b h1 h2 => hk b (by omega) (by omega))) (by omega) hz, FilesR.more (g2.keep (fun b h1 h2 => hk b (by omega) (by omega))) (by omega) (by omega), by show StrR _ _ _ _ (d.keys.drop 1).length _; rw [List.length_drop]; exact RowR.more (g3.keep (fun b h1 h2 => hk b (by omega) (by omega))) (by omega) (by omega)⟩)
    have fo := (HR9.out.get 0 rfl).cell; have zo := (HR9.out.get 0 rfl).frozen; have fr := (HR9.out.get 3 rfl).cell; have zr := (HR9.out.get 3 rfl).frozen; have HBEL := Lib.hid HR9.out.1
    clear HR9
    have e9 : w3.heap.size + 1 ≤ w9.heap.size := by omega
    go_wp2_with fail
    refine bodyPost_ret (v := .tuple #[.agg #[.int .i64 d.use, .int .i64 S0.row, .int .i64 S0.col, .slice A9 S0.rows.length c9, .slice F3 d.files.length cf3, .slice A6 (d.keys.length - 1) c6], .string T, .int .i64 0]) (by simp [results, Tryz.results6, go_sem, fr]) rfl ⟨_, rfl, ?_, ?_⟩
    · rw [HE8.out, HE0.out]; refine HEND.out _ (fun b h1 h2 => ?_) (by simp [World.setCell])
      iterate 9 (with_reducible rw [Below.heap_setCell _ _ _ b (by simp; omega)])
    · iterate 9 (with_reducible refine Below.setCell ?_ (by simp; try omega) _)
      exact HBEL.out

set_option maxHeartbeats 8000000 in
set_option maxRecDepth 100000 in
theorem sRd_nofil (d : Dev) (most : Int) (v : Value) (lo hi : Nat) (w : World) (hx : DevR w lo hi v d) (hhi : hi ≤ w.heap.size) (hs : DevSmall d) (hB : devB d = true) (hr : inB most (-1) 80 = true) (hu : ¬ d.use = 0) (f0 : Fil) (hf0 : d.files.getD (d.use - 1).toNat filD = f0) (ha : (f0.lines.length : Int) ≤ f0.at_) :
    Calls Tryz.prog 6 #[v, .int .i64 most] w fun e w' => ∃ v', e = .returned (.tuple #[v', .string ⟨#[]⟩, .int .i64 3]) ∧ DevR w' w.heap.size w'.heap.size v' noDev ∧ Below w.heap.size w w' := by
  have HX := Lib.hid hx; have HS := Lib.hid hs
  obtain ⟨A, c, F, cf, J, cj, rfl, h1, h2, h3⟩ := hx
  have R0 := (((((Stand.nil w).add lo hi _ (loc_strR0 lo hi A _ d.scr.rows) hhi h1).add lo hi _ (loc_strR0 lo hi J _ d.keys) hhi h3).add lo hi _ (loc_devR lo hi (.agg (devCs d A c F cf J cj)) d) hhi HX.out).box 32 (devCs d A c F cf J cj)).box 32 #[.int .i64 0, .int .i64 0, .int .i64 0, .slice none 0 0, .slice none 0 0, .slice none 0 0]
  rw [heap_size_alloc1] at R0
  have HR0 := Lib.hid R0
  have HOK := Lib.hid (fun W v h1 h2 => specDevicesOk_any d v lo hi W h1 h2 HS.out)
  clear h1 h2 h3 R0 hs
  rw [hB] at HOK
  have HGD := Lib.hid (DevGood.of hB)
  have hn3 := HGD.out.n3
  have u1 := HGD.out.use0; have u2 := HGD.out.usen
  have u0 : (0 : Int) < d.use := by omega
  obtain ⟨j, hju⟩ : ∃ j : Nat, d.use = (j : Int) + 1 := ⟨(d.use - 1).toNat, by omega⟩
  have hjt : (d.use - 1).toNat = j := by omega
  rw [hjt] at hf0
  have hjn : j < d.files.length := by omega
  have HJU := Lib.hid hju; have HFA := Lib.hid (fil_at' (HGD.out.files _ (getD_mem (d := filD) hjn)))
  rw [hf0] at HFA
  have HF0 := Lib.hid hf0; have HA := Lib.hid ha; have HRM := Lib.hid (inB_le' hr)
  clear hu hju hf0 ha hjt
  go_enter Tryz.func6, Tryz.ntmps6
  go_wp2_with fail
  refine (HOK.out _ _ (HR0.out.get 2 rfl) (HR0.out.le 2 rfl)).mono ?_
  rintro e1 w1 ⟨rfl, hb1⟩
  have HR1 := Lib.hid (HR0.out.below hb1); clear hb1 HR0 HOK
  go_wp2_with fail
  refine (l00In_any most (-1) 80 w1).mono ?_
  rintro e1' w1' ⟨rfl, rfl⟩
  rw [hr]
  clear hr
  have f1 := (HR1.out.get 1 rfl).cell
  go_wp2_with fail
  refine (l31Own_own d _ lo hi _ (HR1.out.get 2 rfl) (HR1.out.le 2 rfl) HGD.out.fine HS.out).mono ?_
  rintro e3 w3 ⟨v3, rfl, hx3, hb3⟩
  have s3 := hb3.size
  have s1 := HR1.out.le 0 rfl
  obtain ⟨A3, c3, F3, cf3, K3, ck3, B3, xs, rfl, ⟨q1, q2⟩, hA3, hK3, hxs, hfx⟩ := id hx3
  have hfr := hfx.row
  have HXL := Lib.hid (show xs.length = d.files.length by rw [← hxs]; simp)
  rw [HXL.out] at hfr
  have R3 := ((((HR1.out.below hb3).add w1.heap.size B3 _ (loc_strR0 w1.heap.size B3 A3 _ d.scr.rows) (by omega) hA3).add w1.heap.size B3 _ (loc_strR0 w1.heap.size B3 K3 _ d.keys) (by omega) hK3).add B3 w3.heap.size _ (loc_ownFx B3 w3.heap.size _ xs) (Nat.le_refl _) hfx).add w1.heap.size w3.heap.size _ (loc_devR w1.heap.size w3.heap.size _ d) (Nat.le_refl _) hx3.reads
  have HXS := Lib.hid hxs
  have R4 := R3.box 32 (devCs d A3 c3 F3 cf3 K3 ck3)
  have e4 : (w3.alloc (.cells (devCs d A3 c3 F3 cf3 K3 ck3) 32)).heap.size = w3.heap.size + 1 := by simp
  have HR4 := Lib.hid R4; have HE4 := Lib.hid e4; have HFR := Lib.hid hfr
  have gp := fun o => ((R3.alloc o).get 5 rfl).cell
  clear hb3 HR1 f1 R3 R4 e4 hA3 hK3 hxs hfx hfr hx3
  obtain ⟨g, rfl, hgB, hgl, hnc, hcm, -⟩ := row_flat HFR.out (by omega)
  clear HFR
  have hjx : j < xs.length := by rw [HXL.out]; exact hjn
  obtain ⟨x, hxj, hxf⟩ : ∃ x, xs[j] = x ∧ x.f = d.files.getD j filD := ⟨_, rfl, by have e := congrArg (fun l => l.getD j filD) HXS.out; simp only [List.getD_eq_getElem?_getD, List.getElem?_map, List.getElem?_eq_getElem hjx] at e ⊢; exact e⟩
  rw [HF0.out] at hxf
  have hxs : xs.set j x = xs := by rw [← hxj]; exact List.set_getElem_self hjx
  have hfx4 := HR4.out.get 2 rfl
  have hm : x ∈ xs := hxj ▸ List.getElem_mem hjx
  have hrd := hfx4.lines x hm; have hfar := hfx4.far x hm; have hown := (hfx4.own x hm).1
  have hfx5 := hfx4
  rw [← hxs] at hfx5
  obtain ⟨⟨ynm, yls, ypt, yat⟩, L, c'⟩ := x
  dsimp only at *
  subst hxf
  dsimp only at *
  have f1 := (hfx5.at_ HXL.out hjx 1 (by omega) (.slice L yls.length c') rfl).1; have f3 := (hfx5.at_ HXL.out hjx 3 (by omega) (.int .i64 yat) rfl).1; have z3 := (hfx5.at_ HXL.out hjx 3 (by omega) (.int .i64 yat) rfl).2
  have HRD := Lib.hid hrd; have HFAR := Lib.hid hfar; have HOWN := Lib.hid hown; have HXJ := Lib.hid hxj; have HJX := Lib.hid hjx; have HFX4 := Lib.hid hfx4; have HF1 := Lib.hid f1; have HF3 := Lib.hid f3; have HZ3 := Lib.hid z3
  clear hrd hfar hown hxj hfx4 hfx5 hxs hm f1 f3 z3
  have j0 : (0 : Int) ≤ (j : Int) := by omega
  have j1 : (j : Int) < (d.files.length : Int) := by omega
  have ju : d.use - 1 = (j : Int) := by have := HJU.out; omega
  have go_ := fun o => ((HR4.out.alloc o).get 0 rfl).cell
  have fo := (HR4.out.get 0 rfl).cell
  have a0 := HFA.out.1; have a1 := HFA.out.2.1; have a2 := HFA.out.2.2.1
  go_wp2_with fail
  clear gp go_ fo
  have f1 := HF1.out; have f3 := HF3.out; have z3 := HZ3.out
  generalize w3.alloc (.cells (devCs d A3 c3 (some ⟨g, 0, none⟩) cf3 K3 ck3) 32) = w4 at *
  refine AnyT.region (fun _ => false) (fun w' => w'.cell? ⟨g, j * 4 + 1, none⟩ = some (.slice L yls.length c') ∧ w'.cell? ⟨g, j * 4 + 3, none⟩ = some (.int .i64 yat)) (by kernel_rfl) ⟨f1, f3⟩ (fun hHeld => ?_)
  ((refine AnyT.takeAny 0 32 ?_ rfl (by kernel_rfl) (by kernel_rfl) (by kernel_rfl) rfl rfl (fun _ _ _ _ h => h) rfl ?_ (by assumption) ?_); rotate_left; (intro w; go_simp; (try (with_reducible rfl))); simp only [Act.put, List.setIfInBounds_toArray, List.set_cons_zero, List.set_cons_succ])
  ((refine AnyT.takeAny 1 33 ?_ rfl (by kernel_rfl) (by kernel_rfl) (by kernel_rfl) rfl rfl (fun _ _ _ _ h => h) rfl ?_ (by assumption) ?_); rotate_left; (intro w; go_simp; (try (with_reducible rfl))); simp only [Act.put, List.setIfInBounds_toArray, List.set_cons_zero, List.set_cons_succ])
  ((refine AnyT.takeAny 2 34 ?_ rfl (by kernel_rfl) (by kernel_rfl) (by kernel_rfl) rfl rfl (fun _ _ _ _ h => h) rfl ?_ (by assumption) ?_); rotate_left; (intro w; go_simp; (try (with_reducible rfl))); simp only [Act.put, List.setIfInBounds_toArray, List.set_cons_zero, List.set_cons_succ])
  ((refine AnyT.take 3 35 ?_ rfl (by kernel_rfl) (by kernel_rfl) (by kernel_rfl) (by kernel_rfl) rfl (by kernel_rfl) rfl (fun _ _ _ _ h => h) rfl ?_ (by assumption) ?_); rotate_left; (intro w hSw; (try dsimp only at hSw); go_simp; (try (with_reducible rfl))); simp only [Act.put, List.setIfInBounds_toArray, List.set_cons_zero, List.set_cons_succ])
  ((refine AnyT.takeAny 4 36 ?_ rfl (by kernel_rfl) (by kernel_rfl) (by kernel_rfl) rfl rfl (fun _ _ _ _ h => h) rfl ?_ (by assumption) ?_); rotate_left; (intro w; go_simp; (try (with_reducible rfl))); simp only [Act.put, List.setIfInBounds_toArray, List.set_cons_zero, List.set_cons_succ])
  ((refine AnyT.takeAny 5 37 ?_ rfl (by kernel_rfl) (by kernel_rfl) (by kernel_rfl) rfl rfl (fun _ _ _ _ h => h) rfl ?_ (by assumption) ?_); rotate_left; (intro w; go_simp; (try (with_reducible rfl))); simp only [Act.put, List.setIfInBounds_toArray, List.set_cons_zero, List.set_cons_succ])
  ((refine AnyT.takeAny 6 38 ?_ rfl (by kernel_rfl) (by kernel_rfl) (by kernel_rfl) rfl rfl (fun _ _ _ _ h => h) rfl ?_ (by assumption) ?_); rotate_left; (intro w; go_simp; (try (with_reducible rfl))); simp only [Act.put, List.setIfInBounds_toArray, List.set_cons_zero, List.set_cons_succ])
  ((refine AnyT.take 7 39 ?_ rfl (by kernel_rfl) (by kernel_rfl) (by kernel_rfl) (by kernel_rfl) rfl (by kernel_rfl) rfl (fun _ _ _ _ h => h) rfl ?_ (by assumption) ?_); rotate_left; (intro w hSw; (try dsimp only at hSw); go_simp; (try (with_reducible rfl))); simp only [Act.put, List.setIfInBounds_toArray, List.set_cons_zero, List.set_cons_succ])
  ((refine AnyT.one (i := 8) (by kernel_rfl) rfl (fun K hK => ?_)))
  go_simp
  refine hK.out _ _ hHeld (fun hHeld => ?_)
  clear hK K
  (try simp only [Act.put, List.setIfInBounds_toArray, List.set_cons_zero, List.set_cons_succ])
  ((refine AnyT.takeAny 9 41 ?_ rfl (by kernel_rfl) (by kernel_rfl) (by kernel_rfl) rfl rfl (fun _ _ _ _ h => h) rfl ?_ (by assumption) ?_); rotate_left; (intro w; go_simp; (try (with_reducible rfl))); simp only [Act.put, List.setIfInBounds_toArray, List.set_cons_zero, List.set_cons_succ])
  refine AnyT.done (by kernel_rfl) ?_ _
  clear hHeld
  have qe : (yls.length : Int) ≤ yat := (by have := HA.out; omega)
  have fr := (HR4.out.get 5 rfl).cell; have zr := (HR4.out.get 5 rfl).frozen; have sr := HR4.out.le 5 rfl; have HBEL := Lib.hid HR4.out.1
  go_wp2_with fail
  refine bodyPost_ret (v := .tuple #[.agg #[.int .i64 0, .int .i64 0, .int .i64 0, .slice none 0 0, .slice none 0 0, .slice none 0 0], .string ⟨#[]⟩, .int .i64 3]) (by simp [results, Tryz.results6, go_sem, fr]) rfl ⟨_, rfl, ?_, ?_⟩
  · exact (ownDev_none _ _ _ (by first | (simp [World.setCell]; done) | (simp [World.setCell]; omega))).reads
  · repeat (first | (with_reducible refine Below.drew ?_) | (with_reducible refine Below.setCell ?_ (by simp; try omega) _))
    exact HBEL.out

set_option maxHeartbeats 8000000 in
set_option maxRecDepth 100000 in
theorem sRd_fil (d : Dev) (most : Int) (v : Value) (lo hi : Nat) (w : World) (hx : DevR w lo hi v d) (hhi : hi ≤ w.heap.size) (hs : DevSmall d) (hB : devB d = true) (hr : inB most (-1) 80 = true) (hu : ¬ d.use = 0) (f0 : Fil) (hf0 : d.files.getD (d.use - 1).toNat filD = f0) (ha : ¬ (f0.lines.length : Int) ≤ f0.at_) (T : ByteArray) (hT : T = wantT (f0.lines.getD f0.at_.toNat ByteArray.empty) most) :
    Calls Tryz.prog 6 #[v, .int .i64 most] w fun e w' => ∃ v', e = .returned (.tuple #[v', .string T, .int .i64 0]) ∧ DevR w' w.heap.size w'.heap.size v' ⟨d.use, d.scr, d.files.set (d.use - 1).toNat (atNext f0), d.keys⟩ ∧ Below w.heap.size w w' := by
  have HX := Lib.hid hx; have HS := Lib.hid hs
  obtain ⟨A, c, F, cf, J, cj, rfl, h1, h2, h3⟩ := hx
  have R0 := (((((Stand.nil w).add lo hi _ (loc_strR0 lo hi A _ d.scr.rows) hhi h1).add lo hi _ (loc_strR0 lo hi J _ d.keys) hhi h3).add lo hi _ (loc_devR lo hi (.agg (devCs d A c F cf J cj)) d) hhi HX.out).box 32 (devCs d A c F cf J cj)).box 32 #[.int .i64 0, .int .i64 0, .int .i64 0, .slice none 0 0, .slice none 0 0, .slice none 0 0]
  rw [heap_size_alloc1] at R0
  have HR0 := Lib.hid R0
  have HOK := Lib.hid (fun W v h1 h2 => specDevicesOk_any d v lo hi W h1 h2 HS.out)
  clear h1 h2 h3 R0 hs
  rw [hB] at HOK
  have HGD := Lib.hid (DevGood.of hB)
  have hn3 := HGD.out.n3
  have u1 := HGD.out.use0; have u2 := HGD.out.usen
  have u0 : (0 : Int) < d.use := by omega
  obtain ⟨j, hju⟩ : ∃ j : Nat, d.use = (j : Int) + 1 := ⟨(d.use - 1).toNat, by omega⟩
  have hjt : (d.use - 1).toNat = j := by omega
  rw [hjt] at hf0 ⊢
  have hjn : j < d.files.length := by omega
  have HJU := Lib.hid hju; have HFA := Lib.hid (fil_at' (HGD.out.files _ (getD_mem (d := filD) hjn)))
  rw [hf0] at HFA
  have HF0 := Lib.hid hf0; have HA := Lib.hid ha; have HRM := Lib.hid (inB_le' hr); have HTT := Lib.hid hT
  clear hu hju hf0 ha hjt hT
  go_enter Tryz.func6, Tryz.ntmps6
  go_wp2_with fail
  refine (HOK.out _ _ (HR0.out.get 2 rfl) (HR0.out.le 2 rfl)).mono ?_
  rintro e1 w1 ⟨rfl, hb1⟩
  have HR1 := Lib.hid (HR0.out.below hb1); clear hb1 HR0 HOK
  go_wp2_with fail
  refine (l00In_any most (-1) 80 w1).mono ?_
  rintro e1' w1' ⟨rfl, rfl⟩
  rw [hr]
  clear hr
  have f1 := (HR1.out.get 1 rfl).cell
  go_wp2_with fail
  refine (l31Own_own d _ lo hi _ (HR1.out.get 2 rfl) (HR1.out.le 2 rfl) HGD.out.fine HS.out).mono ?_
  rintro e3 w3 ⟨v3, rfl, hx3, hb3⟩
  have s3 := hb3.size
  have s1 := HR1.out.le 0 rfl
  obtain ⟨A3, c3, F3, cf3, K3, ck3, B3, xs, rfl, ⟨q1, q2⟩, hA3, hK3, hxs, hfx⟩ := id hx3
  have hfr := hfx.row
  have HXL := Lib.hid (show xs.length = d.files.length by rw [← hxs]; simp)
  rw [HXL.out] at hfr
  have R3 := ((((HR1.out.below hb3).add w1.heap.size B3 _ (loc_strR0 w1.heap.size B3 A3 _ d.scr.rows) (by omega) hA3).add w1.heap.size B3 _ (loc_strR0 w1.heap.size B3 K3 _ d.keys) (by omega) hK3).add B3 w3.heap.size _ (loc_ownFx B3 w3.heap.size _ xs) (Nat.le_refl _) hfx).add w1.heap.size w3.heap.size _ (loc_devR w1.heap.size w3.heap.size _ d) (Nat.le_refl _) hx3.reads
  have HXS := Lib.hid hxs
  have R4 := R3.box 32 (devCs d A3 c3 F3 cf3 K3 ck3)
  have e4 : (w3.alloc (.cells (devCs d A3 c3 F3 cf3 K3 ck3) 32)).heap.size = w3.heap.size + 1 := by simp
  have HR4 := Lib.hid R4; have HE4 := Lib.hid e4; have HFR := Lib.hid hfr
  have gp := fun o => ((R3.alloc o).get 5 rfl).cell
  clear hb3 HR1 f1 R3 R4 e4 hA3 hK3 hxs hfx hfr hx3
  obtain ⟨g, rfl, hgB, hgl, hnc, hcm, -⟩ := row_flat HFR.out (by omega)
  clear HFR
  have hjx : j < xs.length := by rw [HXL.out]; exact hjn
  obtain ⟨x, hxj, hxf⟩ : ∃ x, xs[j] = x ∧ x.f = d.files.getD j filD := ⟨_, rfl, by have e := congrArg (fun l => l.getD j filD) HXS.out; simp only [List.getD_eq_getElem?_getD, List.getElem?_map, List.getElem?_eq_getElem hjx] at e ⊢; exact e⟩
  rw [HF0.out] at hxf
  have hxs : xs.set j x = xs := by rw [← hxj]; exact List.set_getElem_self hjx
  have hfx4 := HR4.out.get 2 rfl
  have hm : x ∈ xs := hxj ▸ List.getElem_mem hjx
  have hrd := hfx4.lines x hm; have hfar := hfx4.far x hm; have hown := (hfx4.own x hm).1
  have hfx5 := hfx4
  rw [← hxs] at hfx5
  obtain ⟨⟨ynm, yls, ypt, yat⟩, L, c'⟩ := x
  dsimp only at *
  subst hxf
  dsimp only at *
  have f1 := (hfx5.at_ HXL.out hjx 1 (by omega) (.slice L yls.length c') rfl).1; have f3 := (hfx5.at_ HXL.out hjx 3 (by omega) (.int .i64 yat) rfl).1; have z3 := (hfx5.at_ HXL.out hjx 3 (by omega) (.int .i64 yat) rfl).2
  have HRD := Lib.hid hrd; have HFAR := Lib.hid hfar; have HOWN := Lib.hid hown; have HXJ := Lib.hid hxj; have HJX := Lib.hid hjx; have HFX4 := Lib.hid hfx4; have HF1 := Lib.hid f1; have HF3 := Lib.hid f3; have HZ3 := Lib.hid z3
  clear hrd hfar hown hxj hfx4 hfx5 hxs hm f1 f3 z3
  have j0 : (0 : Int) ≤ (j : Int) := by omega
  have j1 : (j : Int) < (d.files.length : Int) := by omega
  have ju : d.use - 1 = (j : Int) := by have := HJU.out; omega
  have go_ := fun o => ((HR4.out.alloc o).get 0 rfl).cell
  have fo := (HR4.out.get 0 rfl).cell
  have a0 := HFA.out.1; have a1 := HFA.out.2.1; have a2 := HFA.out.2.2.1
  go_wp2_with fail
  clear gp go_ fo
  have f1 := HF1.out; have f3 := HF3.out; have z3 := HZ3.out
  generalize w3.alloc (.cells (devCs d A3 c3 (some ⟨g, 0, none⟩) cf3 K3 ck3) 32) = w4 at *
  refine AnyT.region (fun _ => false) (fun w' => w'.cell? ⟨g, j * 4 + 1, none⟩ = some (.slice L yls.length c') ∧ w'.cell? ⟨g, j * 4 + 3, none⟩ = some (.int .i64 yat)) (by kernel_rfl) ⟨f1, f3⟩ (fun hHeld => ?_)
  ((refine AnyT.takeAny 0 32 ?_ rfl (by kernel_rfl) (by kernel_rfl) (by kernel_rfl) rfl rfl (fun _ _ _ _ h => h) rfl ?_ (by assumption) ?_); rotate_left; (intro w; go_simp; (try (with_reducible rfl))); simp only [Act.put, List.setIfInBounds_toArray, List.set_cons_zero, List.set_cons_succ])
  ((refine AnyT.takeAny 1 33 ?_ rfl (by kernel_rfl) (by kernel_rfl) (by kernel_rfl) rfl rfl (fun _ _ _ _ h => h) rfl ?_ (by assumption) ?_); rotate_left; (intro w; go_simp; (try (with_reducible rfl))); simp only [Act.put, List.setIfInBounds_toArray, List.set_cons_zero, List.set_cons_succ])
  ((refine AnyT.takeAny 2 34 ?_ rfl (by kernel_rfl) (by kernel_rfl) (by kernel_rfl) rfl rfl (fun _ _ _ _ h => h) rfl ?_ (by assumption) ?_); rotate_left; (intro w; go_simp; (try (with_reducible rfl))); simp only [Act.put, List.setIfInBounds_toArray, List.set_cons_zero, List.set_cons_succ])
  ((refine AnyT.take 3 35 ?_ rfl (by kernel_rfl) (by kernel_rfl) (by kernel_rfl) (by kernel_rfl) rfl (by kernel_rfl) rfl (fun _ _ _ _ h => h) rfl ?_ (by assumption) ?_); rotate_left; (intro w hSw; (try dsimp only at hSw); go_simp; (try (with_reducible rfl))); simp only [Act.put, List.setIfInBounds_toArray, List.set_cons_zero, List.set_cons_succ])
  ((refine AnyT.takeAny 4 36 ?_ rfl (by kernel_rfl) (by kernel_rfl) (by kernel_rfl) rfl rfl (fun _ _ _ _ h => h) rfl ?_ (by assumption) ?_); rotate_left; (intro w; go_simp; (try (with_reducible rfl))); simp only [Act.put, List.setIfInBounds_toArray, List.set_cons_zero, List.set_cons_succ])
  ((refine AnyT.takeAny 5 37 ?_ rfl (by kernel_rfl) (by kernel_rfl) (by kernel_rfl) rfl rfl (fun _ _ _ _ h => h) rfl ?_ (by assumption) ?_); rotate_left; (intro w; go_simp; (try (with_reducible rfl))); simp only [Act.put, List.setIfInBounds_toArray, List.set_cons_zero, List.set_cons_succ])
  ((refine AnyT.takeAny 6 38 ?_ rfl (by kernel_rfl) (by kernel_rfl) (by kernel_rfl) rfl rfl (fun _ _ _ _ h => h) rfl ?_ (by assumption) ?_); rotate_left; (intro w; go_simp; (try (with_reducible rfl))); simp only [Act.put, List.setIfInBounds_toArray, List.set_cons_zero, List.set_cons_succ])
  ((refine AnyT.take 7 39 ?_ rfl (by kernel_rfl) (by kernel_rfl) (by kernel_rfl) (by kernel_rfl) rfl (by kernel_rfl) rfl (fun _ _ _ _ h => h) rfl ?_ (by assumption) ?_); rotate_left; (intro w hSw; (try dsimp only at hSw); go_simp; (try (with_reducible rfl))); simp only [Act.put, List.setIfInBounds_toArray, List.set_cons_zero, List.set_cons_succ])
  ((refine AnyT.one (i := 8) (by kernel_rfl) rfl (fun K hK => ?_)))
  go_simp
  refine hK.out _ _ hHeld (fun hHeld => ?_)
  clear hK K
  (try simp only [Act.put, List.setIfInBounds_toArray, List.set_cons_zero, List.set_cons_succ])
  ((refine AnyT.takeAny 9 41 ?_ rfl (by kernel_rfl) (by kernel_rfl) (by kernel_rfl) rfl rfl (fun _ _ _ _ h => h) rfl ?_ (by assumption) ?_); rotate_left; (intro w; go_simp; (try (with_reducible rfl))); simp only [Act.put, List.setIfInBounds_toArray, List.set_cons_zero, List.set_cons_succ])
  refine AnyT.done (by kernel_rfl) ?_ _
  clear hHeld
  have qe : ¬ (yls.length : Int) ≤ yat := (by have := HA.out; omega)
  go_wp2_with fail
  obtain ⟨ya, rfl⟩ := Int.eq_ofNat_of_zero_le a0
  have hya : ya < yls.length := by omega
  have ya1 : (ya : Int) < (yls.length : Int) := by omega
  have ya0 : (0 : Int) ≤ (ya : Int) := by omega
  have wya : IntKind.i64.wrap (ya : Int) = (ya : Int) := IntWalk.i64_in _ (by omega)
  obtain ⟨lb, loff, rfl, hlb1, hlb2, hcl⟩ := HRD.out.at_ hya
  have HKM := Lib.hid (show (yls.getD ya ByteArray.empty).size ≤ 80 from HFA.out.2.2.2 _ (getD_mem (d := ByteArray.empty) hya))
  have e1 : ((ya : Int)).toNat = ya := Int.toNat_natCast ya
  rw [e1] at HTT
  generalize yls.getD ya ByteArray.empty = LN at *
  clear e1
  have hlg : lb ≠ g := by
    obtain ⟨g2, e2, _⟩ := own_head (show World.ownsRow _ B3 9 1 (.slice (some ⟨lb, loff, none⟩) yls.length c') yls.length (yls.map Value.string) from HOWN.out) (show 0 < yls.length by omega)
    injection e2 with e2; injection e2 with e2 e3
    have e4 := HFAR.out lb (by unfold Fx.sl; dsimp only; rw [e3]; rfl)
    intro e5
    exact e4 (by rw [e5]; rfl)
  have g4 : g < w4.heap.size := by have := HR4.out.le 2 rfl; omega
  have l4 : lb < w4.heap.size := by have := HR4.out.le 2 rfl; omega
  refine AnyT.region (fun _ => false) (fun w' => w'.cell? ⟨g, j * 4 + 1, none⟩ = some (.slice (some ⟨lb, loff, none⟩) yls.length c') ∧ w'.cell? ⟨g, j * 4 + 3, none⟩ = some (.int .i64 ya) ∧ w'.cell? ⟨lb, loff + ya, none⟩ = some (.string LN)) (by kernel_rfl) ⟨f1, f3, hcl⟩ (fun hHeld => ?_)
  have HRD2 := Lib.hid (show Stand w _ w4.drew.drew from HR4.out.drew.drew)
  have g5 : w4.drew.drew.heap.size = w4.heap.size := rfl
  have z5 : w4.drew.drew.frozen? ⟨g, j * 4 + 3, none⟩ = false := z3
  ((refine AnyT.takeAny 0 44 ?_ rfl (by kernel_rfl) (by kernel_rfl) (by kernel_rfl) rfl rfl (fun _ _ _ _ h => h) rfl ?_ (by assumption) ?_); rotate_left; (intro w; go_simp; (try (with_reducible rfl))); simp only [Act.put, List.setIfInBounds_toArray, List.set_cons_zero, List.set_cons_succ])
  ((refine AnyT.takeAny 1 45 ?_ rfl (by kernel_rfl) (by kernel_rfl) (by kernel_rfl) rfl rfl (fun _ _ _ _ h => h) rfl ?_ (by assumption) ?_); rotate_left; (intro w; go_simp; (try (with_reducible rfl))); simp only [Act.put, List.setIfInBounds_toArray, List.set_cons_zero, List.set_cons_succ])
  ((refine AnyT.takeAny 2 46 ?_ rfl (by kernel_rfl) (by kernel_rfl) (by kernel_rfl) rfl rfl (fun _ _ _ _ h => h) rfl ?_ (by assumption) ?_); rotate_left; (intro w; go_simp; (try (with_reducible rfl))); simp only [Act.put, List.setIfInBounds_toArray, List.set_cons_zero, List.set_cons_succ])
  ((refine AnyT.take 3 47 ?_ rfl (by kernel_rfl) (by kernel_rfl) (by kernel_rfl) (by kernel_rfl) rfl (by kernel_rfl) rfl (fun _ _ _ _ h => h) rfl ?_ (by assumption) ?_); rotate_left; (intro w hSw; (try dsimp only at hSw); go_simp; (try (with_reducible rfl))); simp only [Act.put, List.setIfInBounds_toArray, List.set_cons_zero, List.set_cons_succ])
  ((refine AnyT.takeAny 4 48 ?_ rfl (by kernel_rfl) (by kernel_rfl) (by kernel_rfl) rfl rfl (fun _ _ _ _ h => h) rfl ?_ (by assumption) ?_); rotate_left; (intro w; go_simp; (try (with_reducible rfl))); simp only [Act.put, List.setIfInBounds_toArray, List.set_cons_zero, List.set_cons_succ])
  ((refine AnyT.takeAny 5 49 ?_ rfl (by kernel_rfl) (by kernel_rfl) (by kernel_rfl) rfl rfl (fun _ _ _ _ h => h) rfl ?_ (by assumption) ?_); rotate_left; (intro w; go_simp; (try (with_reducible rfl))); simp only [Act.put, List.setIfInBounds_toArray, List.set_cons_zero, List.set_cons_succ])
  ((refine AnyT.takeAny 6 50 ?_ rfl (by kernel_rfl) (by kernel_rfl) (by kernel_rfl) rfl rfl (fun _ _ _ _ h => h) rfl ?_ (by assumption) ?_); rotate_left; (intro w; go_simp; (try (with_reducible rfl))); simp only [Act.put, List.setIfInBounds_toArray, List.set_cons_zero, List.set_cons_succ])
  ((refine AnyT.take 7 51 ?_ rfl (by kernel_rfl) (by kernel_rfl) (by kernel_rfl) (by kernel_rfl) rfl (by kernel_rfl) rfl (fun _ _ _ _ h => h) rfl ?_ (by assumption) ?_); rotate_left; (intro w hSw; (try dsimp only at hSw); go_simp; (try (with_reducible rfl))); simp only [Act.put, List.setIfInBounds_toArray, List.set_cons_zero, List.set_cons_succ])
  ((refine AnyT.takeAny 8 52 ?_ rfl (by kernel_rfl) (by kernel_rfl) (by kernel_rfl) rfl rfl (fun _ _ _ _ h => h) rfl ?_ (by assumption) ?_); rotate_left; (intro w; go_simp; (try (with_reducible rfl))); simp only [Act.put, List.setIfInBounds_toArray, List.set_cons_zero, List.set_cons_succ])
  ((refine AnyT.take 9 53 ?_ rfl (by kernel_rfl) (by kernel_rfl) (by kernel_rfl) (by kernel_rfl) rfl (by kernel_rfl) rfl (fun _ _ _ _ h => h) rfl ?_ (by assumption) ?_); rotate_left; (intro w hSw; (try dsimp only at hSw); go_simp; (try (with_reducible rfl))); simp only [Act.put, List.setIfInBounds_toArray, List.set_cons_zero, List.set_cons_succ])
  ((refine AnyT.takeAny 10 54 ?_ rfl (by kernel_rfl) (by kernel_rfl) (by kernel_rfl) rfl rfl (fun _ _ _ _ h => h) rfl ?_ (by assumption) ?_); rotate_left; (intro w; go_simp; (try (with_reducible rfl))); simp only [Act.put, List.setIfInBounds_toArray, List.set_cons_zero, List.set_cons_succ])
  ((refine AnyT.one (i := 11) (by kernel_rfl) rfl (fun K hK => ?_)))
  go_simp
  generalize w4.drew.drew = w4d at *
  refine (wanted_any LN most w4d (by have := HKM.out; omega) HRM.out.1 HRM.out.2).mono ?_
  rintro e5 w5 ⟨rfl, hb5⟩
  rw [← HTT.out]
  have s5 := hb5.size
  have HR5 := Lib.hid (HRD2.out.below hb5)
  have k1 := (hb5.cell (p := ⟨g, j * 4 + 1, none⟩) (by show g < _; omega)).trans hHeld.1; have k3 := (hb5.cell (p := ⟨g, j * 4 + 3, none⟩) (by show g < _; omega)).trans hHeld.2.1; have kc := (hb5.cell (p := ⟨lb, loff + ya, none⟩) (by show lb < _; omega)).trans hHeld.2.2
  have z6 := (hb5.frozen (p := ⟨g, j * 4 + 3, none⟩) (by show g < _; omega)).trans z5
  refine hK.out _ _ ⟨k1, k3, kc⟩ (fun hHeld => ?_)
  clear hK K
  (try simp only [Act.put, List.setIfInBounds_toArray, List.set_cons_zero, List.set_cons_succ])
  ((refine AnyT.takeAny 12 43 ?_ rfl (by kernel_rfl) (by kernel_rfl) (by kernel_rfl) rfl rfl (fun _ _ _ _ h => h) rfl ?_ (by assumption) ?_); rotate_left; (intro w; go_simp; (try (with_reducible rfl))); simp only [Act.put, List.setIfInBounds_toArray, List.set_cons_zero, List.set_cons_succ])
  ((refine AnyT.takeAny 13 56 ?_ rfl (by kernel_rfl) (by kernel_rfl) (by kernel_rfl) rfl rfl (fun _ _ _ _ h => h) rfl ?_ (by assumption) ?_); rotate_left; (intro w; go_simp; (try (with_reducible rfl))); simp only [Act.put, List.setIfInBounds_toArray, List.set_cons_zero, List.set_cons_succ])
  ((refine AnyT.takeAny 14 57 ?_ rfl (by kernel_rfl) (by kernel_rfl) (by kernel_rfl) rfl rfl (fun _ _ _ _ h => h) rfl ?_ (by assumption) ?_); rotate_left; (intro w; go_simp; (try (with_reducible rfl))); simp only [Act.put, List.setIfInBounds_toArray, List.set_cons_zero, List.set_cons_succ])
  ((refine AnyT.takeAny 15 9 ?_ rfl (by kernel_rfl) (by kernel_rfl) (by kernel_rfl) rfl rfl (fun _ _ _ _ h => h) rfl ?_ (by assumption) ?_); rotate_left; (intro w; go_simp; (try (with_reducible rfl))); simp only [Act.put, List.setIfInBounds_toArray, List.set_cons_zero, List.set_cons_succ])
  ((refine AnyT.takeAny 16 10 ?_ rfl (by kernel_rfl) (by kernel_rfl) (by kernel_rfl) rfl rfl (fun _ _ _ _ h => h) rfl ?_ (by assumption) ?_); rotate_left; (intro w; go_simp; (try (with_reducible rfl))); simp only [Act.put, List.setIfInBounds_toArray, List.set_cons_zero, List.set_cons_succ])
  refine AnyT.done (by kernel_rfl) ?_ _
  clear hHeld k1 kc hb5 HRD2 z5 z3 f1 f3 hcl
  have HOW := Lib.hid ((HR5.out.get 2 rfl).setI HXL.out (HR5.out.le 2 rfl) hjx ((ya : Int) + 1))
  rw [HXJ.out] at HOW
  have hng : ¬ g = w3.heap.size := by omega
  have hng' : ¬ w3.heap.size = g := by omega
  have hnr : ¬ g = w.heap.size + 1 := by omega
  have hnr' : ¬ w.heap.size + 1 = g := by omega
  have fo := (HR5.out.get 0 rfl).cell; have fr := (HR5.out.get 5 rfl).cell; have zr := (HR5.out.get 5 rfl).frozen
  have HA5 := Lib.hid (HR5.out.get 4 rfl); have HK5 := Lib.hid (HR5.out.get 3 rfl); have HBEL := Lib.hid HR5.out.1; have s1r := HR5.out.le 5 rfl
  clear HR5
  have HEND := Lib.hid (show ∀ (W' : World), (∀ b, b ≠ w.heap.size + 1 → W'.heap[b]? = (w5.setCell ⟨g, j * 4 + 3, none⟩ (.int .i64 ((ya : Int) + 1))).heap[b]?) → w5.heap.size ≤ W'.heap.size →
      DevR W' w.heap.size W'.heap.size (.agg #[.int .i64 d.use, .int .i64 d.scr.row, .int .i64 d.scr.col, .slice A3 d.scr.rows.length c3, .slice (some ⟨g, 0, none⟩) d.files.length cf3, .slice K3 d.keys.length ck3]) ⟨d.use, d.scr, d.files.set j (atNext ⟨ynm, yls, ypt, (ya : Int)⟩), d.keys⟩ from fun W' hk hz => by
    have g2 := HOW.out.fils.reads
    rw [List.map_set, HXS.out] at g2
    have hkg : ∀ b, b ≠ g → (w5.setCell ⟨g, j * 4 + 3, none⟩ (.int .i64 ((ya : Int) + 1))).heap[b]? = w5.heap[b]? := fun b hb => Below.heap_setCell w5 ⟨g, j * 4 + 3, none⟩ _ b hb
    exact ⟨A3, c3, some ⟨g, 0, none⟩, cf3, K3, ck3, by simp [devCs], RowR.more (HA5.out.keep (fun b h1 h2 => (hk b (by omega)).trans (hkg b (by omega)))) (by omega) (by omega), FilesR.more (g2.keep (fun b h1 h2 => hk b (by omega))) (by omega) hz, RowR.more (HK5.out.keep (fun b h1 h2 => (hk b (by omega)).trans (hkg b (by omega)))) (by omega) (by omega)⟩)
  have hgw : w.heap.size ≤ g := by omega
  go_wp2_with fail
  refine bodyPost_ret (v := .tuple #[.agg #[.int .i64 d.use, .int .i64 d.scr.row, .int .i64 d.scr.col, .slice A3 d.scr.rows.length c3, .slice (some ⟨g, 0, none⟩) d.files.length cf3, .slice K3 d.keys.length ck3], .string T, .int .i64 0]) (by simp [results, Tryz.results6, go_sem, fr, hnr, hnr']) rfl ⟨_, rfl, ?_, ?_⟩
  · refine HEND.out _ (fun b h1 => ?_) (by simp [World.setCell])
    iterate 6 (with_reducible rw [Below.heap_setCell _ _ _ b (by simp; omega)])
  · iterate 7 (with_reducible refine Below.setCell ?_ (by simp; try omega) _)
    exact HBEL.out

theorem specReadFrom_any (d : Dev) (most : Int) (v : Value) (lo hi : Nat) (w : World) (hcap : ∀ d' A c F cf J cj, v = .agg (devCs d' A c F cf J cj) → d'.keys.length ≤ cj) (hx : DevR w lo hi v d) (hhi : hi ≤ w.heap.size) (hs : DevSmall d) :
    Calls Tryz.prog 6 #[v, .int .i64 most] w fun e w' => ∃ v', e = .returned (.tuple #[v', .string (readP d most).text, .int .i64 (readP d most).code]) ∧ DevR w' w.heap.size w'.heap.size v' (readP d most).dev ∧ Below w.heap.size w w' := by
  cases hB : devB d
  · rw [show readP d most = noRd 1 by simp [readP, hB]]
    exact sRd_bad d most v lo hi w hx hhi hs hB
  cases hr : inB most (-1) 80
  · rw [show readP d most = noRd 2 by simp [readP, hB, hr]]
    exact sRd_rng d most v lo hi w hx hhi hs hB hr
  by_cases hu : d.use = 0
  · rw [show readP d most = readKey d most by simp [readP, hB, hr, hu]]
    by_cases hk : d.keys.length = 0
    · rw [show readKey d most = noRd 3 by simp [readKey, hk]]
      exact sRd_nokey d most v lo hi w hx hhi hs hB hr hu hk
    · rw [show readKey d most = ⟨⟨d.use, newRow (showTo d.scr (shownT (d.keys.getD 0 ByteArray.empty) most) (shownT (d.keys.getD 0 ByteArray.empty) most).size), d.files, d.keys.drop 1⟩, wantT (d.keys.getD 0 ByteArray.empty) most, 0⟩ by unfold readKey; rw [if_neg hk]]
      exact sRd_key d most v lo hi w hx hhi hs hcap hB hr hu (by omega) _ rfl _ rfl
  · rw [show readP d most = readFil d most by simp [readP, hB, hr, hu]]
    by_cases ha : ((d.files.getD (d.use - 1).toNat filD).lines.length : Int) ≤ (d.files.getD (d.use - 1).toNat filD).at_
    · rw [show readFil d most = noRd 3 by unfold readFil; rw [if_pos ha]]
      exact sRd_nofil d most v lo hi w hx hhi hs hB hr hu _ rfl ha
    · rw [show readFil d most = ⟨⟨d.use, d.scr, d.files.set (d.use - 1).toNat (atNext (d.files.getD (d.use - 1).toNat filD)), d.keys⟩, wantT ((d.files.getD (d.use - 1).toNat filD).lines.getD (d.files.getD (d.use - 1).toNat filD).at_.toNat ByteArray.empty) most, 0⟩ by unfold readFil; rw [if_neg ha]]
      exact sRd_fil d most v lo hi w hx hhi hs hB hr hu _ rfl ha _ rfl

/-- A row of the call's own has room for what it holds. -/
theorem ownDev_cap {w : World} {lo hi : Nat} {v : Value} {d : Dev} (h : OwnDev w lo hi v d) : ∀ d' A c F cf J cj, v = .agg (devCs d' A c F cf J cj) → d'.keys.length ≤ cj := by
  intro d' A c F cf J cj e
  obtain ⟨A0, c0, F0, cf0, K0, ck0, a1, b1, a2, b2, a3, b3, rfl, _, _, _, _, ⟨hK, _⟩⟩ := h
  injection e with e
  simp only [devCs, Array.mk.injEq, List.cons.injEq, Value.slice.injEq, and_true] at e
  obtain ⟨_, _, _, _, _, e1, e2, e3⟩ := e
  rw [← e2, ← e3]
  rcases hK.2 with ⟨_, h0⟩ | ⟨g, cap, cur, hv, hg, hh, hnc, hm, _⟩
  · omega
  · injection hv with _ _ hc
    subst hc
    exact hnc

end Go.Proofs.YtmeholhmadeehaaGreatDoor

/- FnExactReadFrom returns true: the walk of the law (printed by wip/gen_lawdev.py). -/
namespace Go.Proofs.YtmeholhmadeehaaGreatDoor
open Go.RowKit

set_option maxHeartbeats 8000000 in
set_option maxRecDepth 100000 in
theorem law_ReadFrom (d : Dev) (most : Int) (v : Value) (w : World) (hx : DevR w 0 w.heap.size v d) (hr : DevReach d) (hTB : Hid (TabsIn w)) :
    Calls Tryz.prog 3 #[v, .int .i64 most] w fun e w' => e = .returned (.bool true) ∧ Below w.heap.size w w' := by
  have HX := Lib.hid hx
  obtain ⟨A, c, F, f, K, k, rfl, h1, h2, h3⟩ := hx
  clear h1 h2 h3
  have HR := Lib.hid hr; clear hr
  have HS0 := Lib.hid ((Stand.nil w).add 0 w.heap.size _ (loc_devR 0 w.heap.size (.agg (devCs d A c F f K k)) d) (Nat.le_refl _) HX.out)
  go_enter Tryz.func3, Tryz.ntmps3
  go_wp2_with fail
  have R0 := HS0.out.box 27 (devCs d A c F f K k)
  refine (szDevices_any d _ 0 w.heap.size _ _ (R0.get 1 rfl) (R0.le 1 rfl) HR.out (by omega) (by omega)).mono ?_
  rintro e1 w1 ⟨m, rfl, hm, hb1⟩
  have R1 := R0.below hb1; clear hb1 R0
  have f_p := (R1.get 0 rfl).cell
  rcases hm with rfl | ⟨hm0, hm1⟩
  · have HB := Lib.hid R1.1; clear R1
    go_wp2_with fail
    go_ret
    exact ⟨rfl, HB.out⟩
  have HS := Lib.hid (DevSmall.of_cost (d := d) (by omega)); have HW := Lib.hid (DevFew.of_cost (d := d) (by omega)); clear hm1
  have nm1 : ¬ (m < 0) := by omega
  have HR1 := Lib.hid R1; clear R1
  have s1 := HR1.out.le 0 rfl
  go_wp2_with fail
  refine (toDevices_any d _ 0 w.heap.size _ (HR1.out.get 1 rfl) (HR1.out.le 1 rfl) HS.out).mono ?_
  rintro e2 w2 ⟨v2, rfl, hx2, hb2⟩
  have s2 := hb2.size
  have R2 := HR1.out.below hb2; have HX2 := Lib.hid hx2.reads; have HC2 := Lib.hid (ownDev_cap hx2)
  have HR2 := Lib.hid R2; clear R2 HR1 hb2 hx2
  clear f_p
  go_wp2_with fail
  refine (specReadFrom_any d most _ _ _ _ HC2.out HX2.out (Nat.le_refl _) HS.out).mono ?_
  rintro e3 w3 ⟨v3, rfl, hx3, hb3⟩
  have s3 := hb3.size
  have HT := Lib.hid (readP_low d most)
  have HI := Lib.hid (fun v lo hi W (hb : Below w.heap.size w W) h1 h2 => implReadFrom_any d most v lo hi W (hTB.out.below hb) h1 h2 HS.out)
  generalize readP d most = T at *
  have nT : (T.code != T.code) = false := by simp
  have nX : (!T.text.toList == T.text.toList) = false := by simp
  have R3 := (HR2.out.below hb3).add _ _ _ (loc_devR w2.heap.size w3.heap.size v3 T.dev) (Nat.le_refl _) hx3
  obtain ⟨A3, c3, F3, f3, K3, k3, rfl, hA3⟩ := hx3
  have HR3 := Lib.hid R3; clear R3 HR2 hb3 hA3 HX2
  have f_p := (HR3.out.get 1 rfl).cell; have g_p := fun o => ((HR3.out.alloc o).get 1 rfl).cell
  go_wp2_with fail
  have R4 := HR3.out.box 32 (devCs T.dev A3 c3 F3 f3 K3 k3)
  have s4 : w3.heap.size + 1 ≤ (w3.alloc (.cells (devCs T.dev A3 c3 F3 f3 K3 k3) 32)).heap.size := by simp
  clear f_p g_p
  generalize w3.alloc (.cells (devCs T.dev A3 c3 F3 f3 K3 k3) 32) = w4 at *
  have HR4 := Lib.hid R4; clear R4 HR3
  refine (toDevices_any d _ 0 w.heap.size _ (HR4.out.get 3 rfl) (HR4.out.le 3 rfl) HS.out).mono ?_
  rintro e5 w5 ⟨v5, rfl, hx5, hb5⟩
  have s5 := hb5.size
  have R5 := (HR4.out.below hb5).add _ _ _ (loc_ownDev w4.heap.size w5.heap.size v5 d) (Nat.le_refl _) hx5
  obtain ⟨A5, c5, F5, f5, K5, k5, rfl, hA5⟩ := hx5.reads
  have HR5 := Lib.hid R5; clear R5 HR4 hb5 hx5 hA5
  go_wp2_with fail
  have R6 := HR5.out.box 32 (devCs d A5 c5 F5 f5 K5 k5)
  have s6 : w5.heap.size + 1 ≤ (w5.alloc (.cells (devCs d A5 c5 F5 f5 K5 k5) 32)).heap.size := by simp
  generalize w5.alloc (.cells (devCs d A5 c5 F5 f5 K5 k5) 32) = w6 at *
  have HR6 := Lib.hid R6; clear R6 HR5
  refine (HI.out _ _ _ _ HR6.out.1 ((HR6.out.get 1 rfl).reads) (HR6.out.le 1 rfl)).mono ?_
  rintro e7 w7 ⟨v7, rfl, hx7, hb7⟩
  have s7 := hb7.size
  have R7 := (HR6.out.below hb7).add _ _ _ (loc_ownDev _ w7.heap.size v7 T.dev) (Nat.le_refl _) hx7
  obtain ⟨A7, c7, F7, f7, K7, k7, rfl, hA7⟩ := hx7.reads
  have HR7 := Lib.hid R7; clear R7 HR6 hb7 hx7 hA7
  have f_w := (HR7.out.get 3 rfl).cell; have g_w := fun o => ((HR7.out.alloc o).get 3 rfl).cell
  go_wp2_with fail
  have R8 := HR7.out.box 32 (devCs T.dev A7 c7 F7 f7 K7 k7)
  have s8 : w7.heap.size + 1 ≤ (w7.alloc (.cells (devCs T.dev A7 c7 F7 f7 K7 k7) 32)).heap.size := by simp
  clear f_w g_w
  generalize w7.alloc (.cells (devCs T.dev A7 c7 F7 f7 K7 k7) 32) = w8 at *
  have HR8 := Lib.hid R8; clear R8 HR7
  refine (eqDevices_same T.dev _ _ _ _ _ _ _ (HR8.out.get 1 rfl).reads (HR8.out.get 5 rfl) (HR8.out.le 1 rfl) (HR8.out.le 5 rfl) HT.out.small).mono ?_
  rintro e9 w9 ⟨rfl, hb9⟩
  have R9 := HR8.out.below hb9; have s9 := hb9.size
  have HR9 := Lib.hid R9; clear R9 HR8 hb9
  have f_g := (HR9.out.get 0 rfl).cell; have g_g := fun o => ((HR9.out.alloc o).get 0 rfl).cell
  have f_w := (HR9.out.get 4 rfl).cell; have g_w := fun o => ((HR9.out.alloc o).get 4 rfl).cell
  obtain ⟨FS, hF, hP, hQ⟩ := HR9.out.pack (fun W => (Blk W w.heap.size 27 (devCs d A c F f K k) ∧ Blk W w5.heap.size 32 (devCs d A5 c5 F5 f5 K5 k5)) ∧ (DevR W 0 w.heap.size (.agg (devCs d A c F f K k)) d ∧ w.heap.size ≤ W.heap.size) ∧ (DevR W w4.heap.size w5.heap.size (.agg (devCs d A5 c5 F5 f5 K5 k5)) d ∧ w5.heap.size ≤ W.heap.size)) (fun W h => ⟨⟨h.get 6 rfl, h.get 2 rfl⟩, ⟨h.get 7 rfl, h.le 7 rfl⟩, ⟨(h.get 3 rfl).reads, h.le 3 rfl⟩⟩)
  have HF := Lib.hid hF; have HFd := Lib.hid hF.drew; have HP1 := Lib.hid (fun W h => (hP W h).1); have HPA := Lib.hid (fun W h => (hP W h).2.1); have HPX := Lib.hid (fun W h => (hP W h).2.2); have HQ := Lib.hid hQ; clear hF hP hQ HR9
  have f_p := (HP1.out _ HF.out).1.cell; have f_x := (HP1.out _ HF.out).2.cell
  go_wp2_with fail
  clear f_g g_g f_w g_w
  clear f_p f_x
  go_region_held3 (fun w' => (∀ i, w'.cell? ⟨w.heap.size, i, none⟩ = (devCs d A c F f K k)[i]?) ∧ (∀ i, w'.cell? ⟨w5.heap.size, i, none⟩ = (devCs d A5 c5 F5 f5 K5 k5)[i]?) ∧ Stand w FS w')
    (first | (with_reducible exact Stand.show2 HP1.out HF.out) | (with_reducible exact Stand.show2 HP1.out HFd.out) | (with_reducible exact Stand.show2 HP1.out R10) | (with_reducible exact Stand.show2 HP1.out R11))
    (first | (go_at_call 7; (with_reducible refine (toDevices_any d _ 0 w.heap.size _ (HPA.out _ HFd.out).1 (HPA.out _ HFd.out).2 HS.out).mono ?_); rintro e10 w10 ⟨v10, rfl, hx10, hb10⟩; have s10 := hb10.size; have R10 := HFd.out.below hb10) | (go_at_call 9; (with_reducible refine (eqDevices_same d _ _ _ _ _ _ _ (HPX.out _ R10).1 hx10.reads (HPX.out _ R10).2 (Nat.le_refl _) HS.out).mono ?_); rintro e11 w11 ⟨rfl, hb11⟩; have s11 := hb11.size; have R11 := R10.below hb11))
  have HR11 := Lib.hid (HQ.out _ R11); clear R10 R11 hx10 HF HFd HP1 HPA HPX HQ hb10 hb11
  have s9' : w9.drew.heap.size = w9.heap.size := rfl
  rw [s9'] at s10; clear s9'
  have f_x := (HR11.out.get 2 rfl).cell; have g_x := fun o => ((HR11.out.alloc o).get 2 rfl).cell
  go_wp2_with fail
  refine (markDevices_any d _ _ _ _ (HR11.out.get 3 rfl) (HR11.out.le 3 rfl) HW.out).mono ?_
  rintro e12 w12 ⟨m12, rfl, hm12, he12, hh12, hw12⟩
  have s12 := hw12.size; have HE12 := Lib.hid he12; clear he12
  have R12 := ((HR11.out.only [0, 1, 2, 4, 5, 6, 7]).within hw12 (by omega) (by
    intro f hf
    simp only [List.filterMap_cons, List.filterMap_nil, List.getElem?_cons_zero, List.getElem?_cons_succ, List.mem_cons, List.not_mem_nil, or_false] at hf
    rcases hf with rfl | rfl | rfl | rfl | rfl | rfl | rfl
    all_goals (simp only; omega)))
  have HR12 := Lib.hid R12; clear R12 HR11 hw12 hh12
  have nm12 : ¬ (m12 < 0) := by omega
  clear f_x g_x
  have f_g := (HR12.out.get 0 rfl).cell; have g_g := fun o => ((HR12.out.alloc o).get 0 rfl).cell
  have f_w := (HR12.out.get 3 rfl).cell; have g_w := fun o => ((HR12.out.alloc o).get 3 rfl).cell
  go_wp2_with fail
  refine (eqDevices_same T.dev _ _ _ _ _ _ _ (HR12.out.get 1 rfl).reads (HR12.out.get 4 rfl) (HR12.out.le 1 rfl) (HR12.out.le 4 rfl) HT.out.small).mono ?_
  rintro e13 w13 ⟨rfl, hb13⟩
  have R13 := HR12.out.below hb13; have s13 := hb13.size
  have HR13 := Lib.hid R13; clear R13 HR12 hb13
  clear f_g g_g f_w g_w
  have f_g := (HR13.out.get 0 rfl).cell; have g_g := fun o => ((HR13.out.alloc o).get 0 rfl).cell
  go_wp2_with fail
  refine (markDevices_any T.dev _ _ _ _ (HR13.out.get 1 rfl) (HR13.out.le 1 rfl) HT.out.few).mono ?_
  rintro e14 w14 ⟨m14, rfl, hm14, he14, hh14, hw14⟩
  have s14 := hw14.size; have HE14 := Lib.hid he14; clear he14
  have R14 := ((HR13.out.only [0, 2, 3, 4, 5, 6]).within hw14 (by omega) (by
    intro f hf
    simp only [List.filterMap_cons, List.filterMap_nil, List.getElem?_cons_zero, List.getElem?_cons_succ, List.mem_cons, List.not_mem_nil, or_false] at hf
    rcases hf with rfl | rfl | rfl | rfl | rfl | rfl
    all_goals (simp only; omega)))
  have R14' := R14.add _ _ _ (loc_devR _ _ _ (markDev T.dev)) (by omega) hh14; clear R14; have R14 := R14'; clear R14'
  have HR14 := Lib.hid R14; clear R14 HR13 hw14 hh14
  have nm14 : ¬ (m14 < 0) := by omega
  clear f_g g_g
  have f_g := (HR14.out.get 1 rfl).cell; have g_g := fun o => ((HR14.out.alloc o).get 1 rfl).cell
  go_wp2_with fail
  have nq : (m14 != m14) = false := by simp
  refine (heldDevices_any T.dev _ m14 _ _ _ (HR14.out.get 0 rfl) HE14.out (HR14.out.le 0 rfl) HT.out.few).mono ?_
  rintro e15 w15 ⟨rfl, hb15⟩
  have R15 := HR14.out.below hb15; have s15 := hb15.size
  have HR15 := Lib.hid R15; clear R15 HR14 hb15
  clear f_g g_g
  have f_p := (HR15.out.get 5 rfl).cell; have g_p := fun o => ((HR15.out.alloc o).get 5 rfl).cell
  go_wp2_with fail
  refine (toDevices_any d _ 0 w.heap.size _ (HR15.out.get 6 rfl) (HR15.out.le 6 rfl) HS.out).mono ?_
  rintro e16 w16 ⟨v16, rfl, hx16, hb16⟩
  have s16 := hb16.size
  have R16 := HR15.out.below hb16; have HX16 := Lib.hid hx16.reads
  have HR16 := Lib.hid R16; clear R16 HR15 hb16 hx16
  clear f_p g_p
  go_wp2_with fail
  refine (HI.out _ _ _ _ HR16.out.1 (HX16.out) (Nat.le_refl _)).mono ?_
  rintro e17 w17 ⟨v17, rfl, hx17, hb17⟩
  have s17 := hb17.size
  have R17 := (HR16.out.below hb17).add _ _ _ (loc_ownDev _ w17.heap.size v17 T.dev) (Nat.le_refl _) hx17
  obtain ⟨A17, c17, F17, f17, K17, k17, rfl, hA17⟩ := hx17.reads
  have HR17 := Lib.hid R17; clear R17 HR16 hb17 hx17 hA17
  have f_w := (HR17.out.get 4 rfl).cell; have g_w := fun o => ((HR17.out.alloc o).get 4 rfl).cell
  have f_g := (HR17.out.get 2 rfl).cell; have g_g := fun o => ((HR17.out.alloc o).get 2 rfl).cell
  go_wp2_with fail
  have R18 := HR17.out.box 32 (devCs T.dev A17 c17 F17 f17 K17 k17)
  have s18 : w17.heap.size + 1 ≤ (w17.alloc (.cells (devCs T.dev A17 c17 F17 f17 K17 k17) 32)).heap.size := by simp
  clear f_w g_w f_g g_g
  generalize w17.alloc (.cells (devCs T.dev A17 c17 F17 f17 K17 k17) 32) = w18 at *
  have HR18 := Lib.hid R18; clear R18 HR17
  have f_h := (HR18.out.get 0 rfl).cell; have g_h := fun o => ((HR18.out.alloc o).get 0 rfl).cell
  have f_w := (HR18.out.get 5 rfl).cell; have g_w := fun o => ((HR18.out.alloc o).get 5 rfl).cell
  have f_g := (HR18.out.get 3 rfl).cell; have g_g := fun o => ((HR18.out.alloc o).get 3 rfl).cell
  refine (eqDevices_same T.dev _ _ _ _ _ _ _ (HR18.out.get 1 rfl).reads (HR18.out.get 6 rfl) (HR18.out.le 1 rfl) (HR18.out.le 6 rfl) HT.out.small).mono ?_
  rintro e19 w19 ⟨rfl, hb19⟩
  have R19 := HR18.out.below hb19; have s19 := hb19.size
  have HR19 := Lib.hid R19; clear R19 HR18 hb19
  clear f_h g_h f_w g_w f_g g_g
  have f_g := (HR19.out.get 3 rfl).cell; have g_g := fun o => ((HR19.out.alloc o).get 3 rfl).cell
  go_wp2_with fail
  refine (heldDevices_any T.dev _ m14 _ _ _ (HR19.out.get 2 rfl) HE14.out (HR19.out.le 2 rfl) HT.out.few).mono ?_
  rintro e20 w20 ⟨rfl, hb20⟩
  have R20 := HR19.out.below hb20; have s20 := hb20.size
  have HR20 := Lib.hid R20; clear R20 HR19 hb20
  clear f_g g_g
  go_wp2_with fail
  go_ret
  exact ⟨rfl, HR20.out.1⟩

end Go.Proofs.YtmeholhmadeehaaGreatDoor
