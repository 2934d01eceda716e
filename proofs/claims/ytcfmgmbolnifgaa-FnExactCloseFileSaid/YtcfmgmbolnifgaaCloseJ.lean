/- The program's CloseFile walked (printed by wip/gen_closei.py). -/
import Derived.Test.YtcfmgmbolnifgaaCloseI
namespace Go.Proofs.Ytcfmgmbolnifgaa
open Go.RowKit

theorem map_erase {α β : Type} (f : α → β) : ∀ (xs : List α) (k : Nat), (xs.eraseIdx k).map f = (xs.map f).eraseIdx k
  | [], _ => by simp
  | _ :: _, 0 => by simp
  | x :: xs, k + 1 => by simp [map_erase f xs k]

set_option maxHeartbeats 8000000 in
set_option maxRecDepth 100000 in
theorem implCloseFile_any (d : Dev) (nm : ByteArray) (v : Value) (lo hi : Nat) (w : World) (hx : DevR w lo hi v d) (hhi : hi ≤ w.heap.size) (hs : DevSmall d) :
    Calls Try.prog 49 #[v, .string nm] w fun e w' => ∃ v', e = .returned (.tuple #[v', .int .i64 (closeP d nm).2]) ∧ OwnDev w' w.heap.size w'.heap.size v' (closeP d nm).1 ∧ Below w.heap.size w w' := by
  have HX := Lib.hid hx; have HS := Lib.hid hs
  obtain ⟨A, c, F, cf, J, cj, rfl, h1, h2, h3⟩ := hx
  have R0 := (((Stand.nil w).add lo hi _ (loc_devR lo hi (.agg (devCs d A c F cf J cj)) d) hhi HX.out).box 61 (devCs d A c F cf J cj)).box 61 #[.int .i64 0, .int .i64 0, .int .i64 0, .slice none 0 0, .slice none 0 0, .slice none 0 0]
  rw [heap_size_alloc1] at R0
  have HR0 := Lib.hid R0
  have HQ := Lib.hid (show closeP d nm = if devB d then (if thereB d.files nm then (closeDev d (place d.files nm), 0) else (noDev, 3)) else (noDev, 1) from rfl)
  have HG := Lib.hid (fun h => DevGood.of (d := d) h)
  have HOK := Lib.hid (fun W v h1 h2 => implDevicesOk_any d v lo hi W h1 h2 HS.out)
  generalize closeP d nm = Q at *
  clear h1 h2 h3 R0 hs
  cases hB : devB d
  · rw [hB] at HQ HOK
    have HQ1 := Lib.hid (show Q = (noDev, 1) from HQ.out)
    clear HQ hB
    go_enter Try.func49, Try.ntmps49
    go_wp2_with fail
    refine (HOK.out _ _ (HR0.out.get 2 rfl) (HR0.out.le 2 rfl)).mono ?_
    rintro e1 w1 ⟨rfl, hb1⟩
    have HR1 := Lib.hid (HR0.out.below hb1); clear hb1
    have f := (HR1.out.get 0 rfl).cell
    have z := (HR1.out.get 0 rfl).frozen
    have s1 := HR1.out.le 0 rfl
    go_wp2_with fail
    refine bodyPost_ret (v := .tuple #[.agg #[.int .i64 0, .int .i64 0, .int .i64 0, .slice none 0 0, .slice none 0 0, .slice none 0 0], .int .i64 1]) (by simp [results, Try.results49, go_sem, f]) rfl ⟨_, by rw [HQ1.out], ?_, ?_⟩
    · rw [HQ1.out]; exact ownDev_none _ _ _ (by first | (simp [World.setCell]; done) | (simp [World.setCell]; omega))
    · iterate 6 (with_reducible refine Below.setCell ?_ (by simp; try omega) _)
      exact HR1.out.1
  rw [hB] at HQ HOK
  have hg := HG.out hB
  have HGD := Lib.hid hg
  have hr0 : 0 < d.scr.rows.length := by have := hg.fine.len; omega
  have hn3 := hg.n3
  have u0 := hg.use0
  have un := hg.usen
  clear hg HG hB
  go_enter Try.func49, Try.ntmps49
  go_wp2_with fail
  refine (HOK.out _ _ (HR0.out.get 2 rfl) (HR0.out.le 2 rfl)).mono ?_
  rintro e1 w1 ⟨rfl, hb1⟩
  have HR1 := Lib.hid (HR0.out.below hb1); clear hb1 HR0 HOK
  have f1 := (HR1.out.get 1 rfl).cell
  go_wp2_with fail
  refine (copyDevices_any d _ lo hi _ (HR1.out.get 2 rfl) (HR1.out.le 2 rfl) hr0 HS.out).mono ?_
  rintro e2 w2 ⟨p, A2, c2, V, cv, K2, ck2, rfl, hp1, hp2, hBp, hO, hb2⟩
  have s1 := HR1.out.le 0 rfl
  have s2 := hb2.size
  have HR2 := Lib.hid (HR1.out.below hb2); clear hb2 f1 HR1
  obtain ⟨a1, b1, a2, b2, a3, b3, ⟨p1, p2, p3, p4, p5, p6⟩, ⟨x12, x13, x23⟩, ⟨y1, y2, y3⟩, ⟨oA, oAb⟩, ⟨xs, hxs, hfx⟩, oK, oKb⟩ := hO
  have hfr := hfx.fils.reads
  rw [hxs] at hfr
  have fp := hBp.cell
  have zp := hBp.frozen
  have HBp := Lib.hid hBp; have HOA := Lib.hid oA; have HOAB := Lib.hid oAb; have HOK3 := Lib.hid oK; have HOKB := Lib.hid oKb; have HXS := Lib.hid hxs; have HFX := Lib.hid hfx; have HFR := Lib.hid hfr
  have HX12 := Lib.hid x12; have HX13 := Lib.hid x13; have HX23 := Lib.hid x23; have HY := Lib.hid (And.intro y1 (And.intro y2 y3))
  have HFI := Lib.hid (fun W (hB : Blk W p 61 (devCs d A2 c2 V cv K2 ck2)) h1 h2 => file_any p d A2 c2 V cv K2 ck2 a2 b2 nm W hB h1 h2 (by omega) HGD.out.sorted)
  clear hBp oA oAb oK oKb hxs hfx hfr x12 x13 x23 y1 y2 y3
  go_wp2_with fail
  refine (HFI.out _ HBp.out HFR.out p4).mono ?_
  rintro e3 w3 ⟨rfl, hb3⟩
  have hTL := Lib.hid (fun h => thereB_lt (fs := d.files) (nm := nm) h)
  generalize hPL : place d.files nm = P at *
  clear hPL
  have HB3 := Lib.hid hb3
  have s3 := hb3.size
  have HR3 := Lib.hid (HR2.out.below hb3)
  have HBp3 := Lib.hid (HBp.out.below hb3 (by omega))
  clear hb3 HR2 HBp HFI HFR fp zp
  have fr := (HR3.out.get 0 rfl).cell
  have zr := (HR3.out.get 0 rfl).frozen
  cases hT : thereB d.files nm
  · rw [hT] at HQ
    have HQ1 := Lib.hid (show Q = (noDev, 3) from HQ.out)
    clear HQ hT
    go_wp2_with fail
    refine bodyPost_ret (v := .tuple #[.agg #[.int .i64 0, .int .i64 0, .int .i64 0, .slice none 0 0, .slice none 0 0, .slice none 0 0], .int .i64 3]) (by simp [results, Try.results49, go_sem, fr]) rfl ⟨_, by rw [HQ1.out], ?_, ?_⟩
    · rw [HQ1.out]; exact ownDev_none _ _ _ (by first | (simp [World.setCell]; done) | (simp [World.setCell]; omega))
    · iterate 6 (with_reducible refine Below.setCell ?_ (by simp; try omega) _)
      exact HR3.out.1
  rw [hT] at HQ
  have hPn := hTL.out hT
  have HQ1 := Lib.hid (show Q = (closeDev d P, 0) from HQ.out)
  clear HQ hT hTL
  have HXL := Lib.hid (show xs.length = d.files.length by rw [← HXS.out]; simp)
  have HFX3 := Lib.hid (loc_ownFx a2 b2 _ xs w2 w3 (fun b h1 h2 => HB3.out.block b (by omega)) HFX.out)
  obtain ⟨g, cap, hV, hgl, _⟩ := HFX3.out.row.form (by rw [HXL.out]; omega)
  rw [HXL.out] at hV
  injection hV with hV _ hcv
  subst hV hcv
  have hrow := HFX3.out.row
  rw [HXL.out] at hrow
  rcases hrow.2 with ⟨_, hbad⟩ | ⟨g', cap', cur, hv, hg2, hh, hnc, hm, hcs, htk⟩
  · omega
  injection hv with hv _ hcc
  injection hv with hv; injection hv with hv
  subst hv hcc
  have HBF : Blk w3 g 91 cur := hh
  have gt := HFX3.out.top g rfl
  have HDEL := Lib.hid (fun W (hW : Blk W g 91 cur) => deleteFil_any g cv d.files.length P cur W hW hcs hnc hm hPn (by rw [htk]; exact flat_one xs))
  have hpg : p ≠ g := fun e => by have := HY.out.2.1; omega
  have HBFH := Lib.hid HBF
  clear hrow hh htk hnc hm hcs HBF
  have fp := HBp3.out.cell
  have zp := HBp3.out.frozen
  have j0 : (P : Int) + 1 ≤ 4 := by omega
  clear fr zr
  go_wp2_with fail
  refine (HDEL.out _ HBFH.out).mono ?_
  rintro e4 w4 ⟨rfl, cs', hB4, hs4, hc4, hO4⟩
  have hfx4 := OwnFx.erase (by rw [HXL.out]; exact HFX3.out) HBFH.out (by rw [HXL.out]; exact hPn) hO4 hB4 hs4 (by rw [HXL.out]; exact hc4)
  rw [HXL.out] at hfx4
  obtain ⟨q1, q2, q3, q4, q5⟩ := hO4
  have HBp4 := Lib.hid ((q5 p hpg).trans HBp3.out)
  have fp4 := Blk.cell HBp4.out
  have zp4 := Blk.frozen HBp4.out
  have HFX4 := Lib.hid hfx4
  have hrg : w.heap.size + 1 ≠ g := by omega
  have HRB4 := Lib.hid (show Blk w4 (w.heap.size + 1) 61 #[.int .i64 0, .int .i64 0, .int .i64 0, .slice none 0 0, .slice none 0 0, .slice none 0 0] from (q5 _ hrg).trans (HR3.out.get 0 rfl))
  have HBel4 := Lib.hid (show Below w.heap.size w w4 from HR3.out.1.trans ⟨q1, q2, q3, by omega, fun k hk => q5 k (by omega)⟩)
  have HA4 := Lib.hid (own_keep (hi := b1) HOA.out HOAB.out (fun b h1 h2 => (q5 b (fun e => by have := HX12.out.far h1 h2; omega)).trans (HB3.out.block b (by omega))))
  have HK4 := Lib.hid (own_keep (hi := b3) HOK3.out HOKB.out (fun b h1 h2 => (q5 b (fun e => by have := HX23.out.far' h1 h2; omega)).trans (HB3.out.block b (by omega))))
  have s4 : w4.heap.size = w3.heap.size := q4
  have s4' : w3.heap.size ≤ w4.heap.size := by omega
  clear q1 q2 q3 q4 q5 hB4 hs4 hc4 hfx4 fp zp HDEL s4 HBFH HFX3 HFX HBp3 HR3
  have fr := HRB4.out.cell
  have zr := HRB4.out.frozen
  have HUS := Lib.hid (show closeDev d P = ⟨closeUse d.use P, d.scr, d.files.eraseIdx P, d.keys⟩ from rfl)
  have HLE := Lib.hid (show (d.files.eraseIdx P).length = d.files.length - 1 by rw [List.length_eraseIdx, if_pos hPn])
  have HMX := Lib.hid (show (xs.eraseIdx P).map Fx.f = d.files.eraseIdx P by rw [← HXS.out, map_erase])
  have HCU := Lib.hid (show closeUse d.use P = if d.use = (P : Int) + 1 then 0 else if (P : Int) + 1 < d.use then d.use - 1 else d.use from rfl)
  generalize closeUse d.use P = CU at *
  by_cases hu1 : d.use = (P : Int) + 1
  · have HU := Lib.hid (show CU = 0 by rw [HCU.out, if_pos hu1])
    have t1 : (d.use == (P : Int) + 1) = true := by rw [beq_iff_eq]; exact hu1
    clear hu1
    go_wp2_with fail
    refine bodyPost_ret (v := .tuple #[.agg #[.int .i64 (0), .int .i64 d.scr.row, .int .i64 d.scr.col, .slice A2 d.scr.rows.length c2, .slice (some ⟨g, 0, none⟩) (d.files.length - 1) cv, .slice K2 d.keys.length ck2], .int .i64 0]) (by simp [results, Try.results49, go_sem, fr]) rfl ⟨_, by rw [HQ1.out], ?_, ?_⟩
    · rw [HQ1.out, HUS.out, HU.out]
      refine ⟨A2, c2, some ⟨g, 0, none⟩, cv, K2, ck2, a1, b1, a2, b2, a3, b3, ?_, ?_, ⟨HX12.out, HX13.out, HX23.out⟩, ⟨?_, HOAB.out⟩, ?_, ?_, HOKB.out⟩
      · unfold devCs; dsimp only; rw [HLE.out]
      · simp only [World.setCell, Array.size_modify]; omega
      · refine own_keep (hi := b1) HA4.out HOAB.out (fun b h1 h2 => ?_)
        have hy := HY.out.1
        iterate 8 (with_reducible rw [Below.heap_setCell _ _ _ b (by simp; omega)])
      · dsimp only; rw [← HMX.out]
        refine OwnFx.fils (n := d.files.length - 1) (c := cv) (loc_ownFx a2 b2 _ _ w4 _ (fun b h1 h2 => ?_) HFX4.out)
        have hy := HY.out.2.1
        iterate 8 (with_reducible rw [Below.heap_setCell _ _ _ b (by simp; omega)])
      · refine own_keep (hi := b3) HK4.out HOKB.out (fun b h1 h2 => ?_)
        have hy := HY.out.2.2
        iterate 8 (with_reducible rw [Below.heap_setCell _ _ _ b (by simp; omega)])
    · iterate 8 (with_reducible refine Below.setCell ?_ (by simp; try omega) _)
      exact HBel4.out
  · by_cases hu2 : (P : Int) + 1 < d.use
    · have HU := Lib.hid (show CU = d.use - 1 by rw [HCU.out, if_neg hu1, if_pos hu2])
      have t1 : (d.use == (P : Int) + 1) = false := by rw [beq_eq_false_iff_ne]; exact hu1
      have t2 : decide ((P : Int) + 1 < d.use) = true := decide_eq_true hu2
      go_wp2_with fail
      refine bodyPost_ret (v := .tuple #[.agg #[.int .i64 (d.use - 1), .int .i64 d.scr.row, .int .i64 d.scr.col, .slice A2 d.scr.rows.length c2, .slice (some ⟨g, 0, none⟩) (d.files.length - 1) cv, .slice K2 d.keys.length ck2], .int .i64 0]) (by simp [results, Try.results49, go_sem, fr]) rfl ⟨_, by rw [HQ1.out], ?_, ?_⟩
      · rw [HQ1.out, HUS.out, HU.out]
        refine ⟨A2, c2, some ⟨g, 0, none⟩, cv, K2, ck2, a1, b1, a2, b2, a3, b3, ?_, ?_, ⟨HX12.out, HX13.out, HX23.out⟩, ⟨?_, HOAB.out⟩, ?_, ?_, HOKB.out⟩
        · unfold devCs; dsimp only; rw [HLE.out]
        · simp only [World.setCell, Array.size_modify]; omega
        · refine own_keep (hi := b1) HA4.out HOAB.out (fun b h1 h2 => ?_)
          have hy := HY.out.1
          iterate 8 (with_reducible rw [Below.heap_setCell _ _ _ b (by simp; omega)])
        · dsimp only; rw [← HMX.out]
          refine OwnFx.fils (n := d.files.length - 1) (c := cv) (loc_ownFx a2 b2 _ _ w4 _ (fun b h1 h2 => ?_) HFX4.out)
          have hy := HY.out.2.1
          iterate 8 (with_reducible rw [Below.heap_setCell _ _ _ b (by simp; omega)])
        · refine own_keep (hi := b3) HK4.out HOKB.out (fun b h1 h2 => ?_)
          have hy := HY.out.2.2
          iterate 8 (with_reducible rw [Below.heap_setCell _ _ _ b (by simp; omega)])
      · iterate 8 (with_reducible refine Below.setCell ?_ (by simp; try omega) _)
        exact HBel4.out
    · have HU := Lib.hid (show CU = d.use by rw [HCU.out, if_neg hu1, if_neg hu2])
      have t1 : (d.use == (P : Int) + 1) = false := by rw [beq_eq_false_iff_ne]; exact hu1
      have t2 : decide ((P : Int) + 1 < d.use) = false := decide_eq_false hu2
      go_wp2_with fail
      refine bodyPost_ret (v := .tuple #[.agg #[.int .i64 (d.use), .int .i64 d.scr.row, .int .i64 d.scr.col, .slice A2 d.scr.rows.length c2, .slice (some ⟨g, 0, none⟩) (d.files.length - 1) cv, .slice K2 d.keys.length ck2], .int .i64 0]) (by simp [results, Try.results49, go_sem, fr]) rfl ⟨_, by rw [HQ1.out], ?_, ?_⟩
      · rw [HQ1.out, HUS.out, HU.out]
        refine ⟨A2, c2, some ⟨g, 0, none⟩, cv, K2, ck2, a1, b1, a2, b2, a3, b3, ?_, ?_, ⟨HX12.out, HX13.out, HX23.out⟩, ⟨?_, HOAB.out⟩, ?_, ?_, HOKB.out⟩
        · unfold devCs; dsimp only; rw [HLE.out]
        · simp only [World.setCell, Array.size_modify]; omega
        · refine own_keep (hi := b1) HA4.out HOAB.out (fun b h1 h2 => ?_)
          have hy := HY.out.1
          iterate 7 (with_reducible rw [Below.heap_setCell _ _ _ b (by simp; omega)])
        · dsimp only; rw [← HMX.out]
          refine OwnFx.fils (n := d.files.length - 1) (c := cv) (loc_ownFx a2 b2 _ _ w4 _ (fun b h1 h2 => ?_) HFX4.out)
          have hy := HY.out.2.1
          iterate 7 (with_reducible rw [Below.heap_setCell _ _ _ b (by simp; omega)])
        · refine own_keep (hi := b3) HK4.out HOKB.out (fun b h1 h2 => ?_)
          have hy := HY.out.2.2
          iterate 7 (with_reducible rw [Below.heap_setCell _ _ _ b (by simp; omega)])
      · iterate 7 (with_reducible refine Below.setCell ?_ (by simp; try omega) _)
        exact HBel4.out

end Go.Proofs.Ytcfmgmbolnifgaa
