/- The reference's CloseFile walked. -/
import Derived.Test.YtcfmgmbolnifgaaAppFx
import Derived.Test.YtcfmgmbolnifgaaPlace
namespace Go.Proofs.Ytcfmgmbolnifgaa
open Go.RowKit

theorem map_erase' {α β : Type} (f : α → β) : ∀ (xs : List α) (k : Nat), (xs.eraseIdx k).map f = (xs.map f).eraseIdx k
  | [], _ => by simp
  | _ :: _, 0 => by simp
  | x :: xs, k + 1 => by simp [map_erase' f xs k]

set_option maxHeartbeats 8000000 in
set_option maxRecDepth 100000 in
theorem specCloseFile_any (d : Dev) (nm : ByteArray) (v : Value) (lo hi : Nat) (w : World) (hx : DevR w lo hi v d) (hhi : hi ≤ w.heap.size) (hs : DevSmall d) :
    Calls Try.prog 48 #[v, .string nm] w fun e w' => ∃ v', e = .returned (.tuple #[v', .int .i64 (closeP d nm).2]) ∧ DevR w' w.heap.size w'.heap.size v' (closeP d nm).1 ∧ Below w.heap.size w w' := by
  have HX := Lib.hid hx; have HS := Lib.hid hs
  obtain ⟨A, c, F, cf, J, cj, rfl, h1, h2, h3⟩ := hx
  have R0 := (((Stand.nil w).add lo hi _ (loc_devR lo hi (.agg (devCs d A c F cf J cj)) d) hhi HX.out).box 61 (devCs d A c F cf J cj)).box 61 #[.int .i64 0, .int .i64 0, .int .i64 0, .slice none 0 0, .slice none 0 0, .slice none 0 0]
  rw [heap_size_alloc1] at R0
  have HR0 := Lib.hid R0
  have HQ := Lib.hid (show closeP d nm = if devB d then (if thereB d.files nm then (closeDev d (place d.files nm), 0) else (noDev, 3)) else (noDev, 1) from rfl)
  have HG := Lib.hid (fun h => DevGood.of (d := d) h)
  have HOK := Lib.hid (fun W v h1 h2 => specDevicesOk_any d v lo hi W h1 h2 HS.out)
  generalize closeP d nm = Q at *
  clear h1 h2 h3 R0 hs
  cases hB : devB d
  · rw [hB] at HQ HOK
    have HQ1 := Lib.hid (show Q = (noDev, 1) from HQ.out)
    clear HQ hB
    go_enter Try.func48, Try.ntmps48
    go_wp2_with fail
    refine (HOK.out _ _ (HR0.out.get 2 rfl) (HR0.out.le 2 rfl)).mono ?_
    rintro e1 w1 ⟨rfl, hb1⟩
    have HR1 := Lib.hid (HR0.out.below hb1); clear hb1
    have f := (HR1.out.get 0 rfl).cell
    have z := (HR1.out.get 0 rfl).frozen
    have s1 := HR1.out.le 0 rfl
    go_wp2_with fail
    refine bodyPost_ret (v := .tuple #[.agg #[.int .i64 0, .int .i64 0, .int .i64 0, .slice none 0 0, .slice none 0 0, .slice none 0 0], .int .i64 1]) (by simp [results, Try.results48, go_sem, f]) rfl ⟨_, by rw [HQ1.out], ?_, ?_⟩
    · rw [HQ1.out]; exact (ownDev_none _ _ _ (by first | (simp [World.setCell]; done) | (simp [World.setCell]; omega))).reads
    · iterate 6 (with_reducible refine Below.setCell ?_ (by simp; try omega) _)
      exact HR1.out.1
  rw [hB] at HQ HOK
  have hg := HG.out hB
  have HGD := Lib.hid hg
  have hn3 := hg.n3
  have u0 := hg.use0
  have un := hg.usen
  clear hg HG hB
  have HAT := Lib.hid (fun W v h1 h2 => l31At_any d nm v lo hi W h1 h2 (by omega))
  have HTL := Lib.hid (fun h => thereB_lt (fs := d.files) (nm := nm) h)
  generalize hPL : place d.files nm = P at *
  clear hPL
  go_enter Try.func48, Try.ntmps48
  go_wp2_with fail
  refine (HOK.out _ _ (HR0.out.get 2 rfl) (HR0.out.le 2 rfl)).mono ?_
  rintro e1 w1 ⟨rfl, hb1⟩
  have HR1 := Lib.hid (HR0.out.below hb1); clear hb1 HR0 HOK
  have f1 := (HR1.out.get 1 rfl).cell
  go_wp2_with fail
  refine (HAT.out _ _ (HR1.out.get 2 rfl) (HR1.out.le 2 rfl)).mono ?_
  rintro e2 w2 ⟨rfl, hb2⟩
  have HR2 := Lib.hid (HR1.out.below hb2); clear hb2 f1 HR1 HAT
  have f1 := (HR2.out.get 1 rfl).cell
  have fr := (HR2.out.get 0 rfl).cell
  have zr := (HR2.out.get 0 rfl).frozen
  have s2 := HR2.out.le 0 rfl
  cases hT : thereB d.files nm
  · rw [hT] at HQ
    have HQ1 := Lib.hid (show Q = (noDev, 3) from HQ.out)
    clear HQ hT
    go_wp2_with fail
    refine bodyPost_ret (v := .tuple #[.agg #[.int .i64 0, .int .i64 0, .int .i64 0, .slice none 0 0, .slice none 0 0, .slice none 0 0], .int .i64 3]) (by simp [results, Try.results48, go_sem, fr]) rfl ⟨_, by rw [HQ1.out], ?_, ?_⟩
    · rw [HQ1.out]; exact (ownDev_none _ _ _ (by first | (simp [World.setCell]; done) | (simp [World.setCell]; omega))).reads
    · iterate 6 (with_reducible refine Below.setCell ?_ (by simp; try omega) _)
      exact HR2.out.1
  rw [hT] at HQ
  have hPn := HTL.out hT
  have HQ1 := Lib.hid (show Q = (closeDev d P, 0) from HQ.out)
  clear HQ hT HTL fr zr
  go_wp2_with fail
  refine (l31Own_own d _ lo hi _ (HR2.out.get 2 rfl) (HR2.out.le 2 rfl) HGD.out.fine HS.out).mono ?_
  rintro e3 w3 ⟨v3, rfl, hx3, hb3⟩
  have s3 := hb3.size
  obtain ⟨A3, c3, F3, cf3, K3, ck3, B3, xs, rfl, ⟨q1, q2⟩, hA3, hK3, hxs, hfx⟩ := hx3
  have hfr := hfx.row
  have HXL := Lib.hid (show xs.length = d.files.length by rw [← hxs]; simp)
  rw [HXL.out] at hfr
  obtain ⟨g, rfl, hgB, hgl, hnc, hcm, hcell⟩ := row_flat hfr (by omega)
  have R3 := (((HR2.out.below hb3).add w2.heap.size B3 _ (loc_strR0 w2.heap.size B3 A3 _ d.scr.rows) (by omega) hA3).add w2.heap.size B3 _ (loc_strR0 w2.heap.size B3 K3 _ d.keys) (by omega) hK3).add B3 w3.heap.size _ (loc_ownFx B3 w3.heap.size _ xs) (Nat.le_refl _) hfx
  have HXS := Lib.hid hxs
  have HR3 := Lib.hid R3
  have R4 := R3.box 61 (devCs d A3 c3 (some ⟨g, 0, none⟩) cf3 K3 ck3)
  have HCL := Lib.hid hcell
  have e4 : (w3.alloc (.cells (devCs d A3 c3 (some ⟨g, 0, none⟩) cf3 K3 ck3) 61)).heap.size = w3.heap.size + 1 := by simp
  have HG4 := Lib.hid (Below.heap_alloc w3 (.cells (devCs d A3 c3 (some ⟨g, 0, none⟩) cf3 K3 ck3) 61) g hgl)
  unfold maxLen at hcm
  clear hb3 HR2 f1 R3 hA3 hK3 hxs hfx hfr hcell
  go_wp2_with fail
  generalize w3.alloc (.cells (devCs d A3 c3 (some ⟨g, 0, none⟩) cf3 K3 ck3) 61) = w4 at *
  have HD := Lib.hid R4.drew
  have HC4 := Lib.hid (show ∀ W : World, W.heap[g]? = w4.drew.heap[g]? → ∀ j u, (flat xs)[j]? = some u → W.cell? ⟨g, j, none⟩ = some u from fun W hW j u hj => (World.cell?_of_block (hW.trans HG4.out)).trans (HCL.out j u hj))
  clear R4 HG4 HCL
  obtain ⟨AD, hAD, hSD⟩ : ∃ AD : Addr, (if cf3 = P + 1 then (some ⟨g, 0, none⟩ : Option Addr) else some ⟨g, (P + 1) * 4, none⟩) = some AD ∧ Hid (∀ W : World, W.heap[g]? = w4.drew.heap[g]? → FlatR W (some AD) (xs.drop (P + 1))) := by
    by_cases h : cf3 = P + 1
    · exact ⟨⟨g, 0, none⟩, by simp [h], fun W _ => .inl (List.drop_eq_nil_of_le (by rw [HXL.out]; omega))⟩
    · exact ⟨⟨g, (P + 1) * 4, none⟩, by simp [h], fun W hW => flatR_drop (HC4.out W hW) _⟩
  have j0 : (0 : Int) ≤ (P : Int) := by omega
  have j1 : (P : Int) + 1 ≤ 4 := by omega
  have j2 : (P : Int) + 1 ≤ (d.files.length : Int) := by omega
  have j3 : (d.files.length : Int) ≤ (cf3 : Int) := by omega
  have j4 : (P : Int) ≤ (cf3 : Int) := by omega
  have j5 : P + 1 ≤ d.files.length := by omega
  have j6 : P ≤ cf3 := by omega
  have j7 : (0 : Int) ≤ (P : Int) + 1 := by omega
  have wr1 : IntKind.i64.wrap ((P : Int) + 1) = (P : Int) + 1 := IntWalk.i64_in _ (by omega)
  have wr2 : ((P : Int) + 1).toNat = P + 1 := by omega
  refine AnyT.region (fun i => i == 13) (fun w' => ∀ i, w'.cell? ⟨w3.heap.size, i, none⟩ = (devCs d A3 c3 (some ⟨g, 0, none⟩) cf3 K3 ck3)[i]?) (by kernel_rfl) (HD.out.get 0 rfl).cell (fun hHeld => ?_)
  ((refine AnyT.take 1 25 ?_ rfl (by kernel_rfl) (by kernel_rfl) (by kernel_rfl) (by kernel_rfl) rfl (fun _ _ _ _ h => h) rfl ?_ (by assumption) ?_); rotate_left; (intro w hSw; (try dsimp only at hSw); go_simp; (try (with_reducible rfl))); simp only [Act.put, List.setIfInBounds_toArray, List.set_cons_zero, List.set_cons_succ])
  ((refine AnyT.take 2 26 ?_ rfl (by kernel_rfl) (by kernel_rfl) (by kernel_rfl) (by kernel_rfl) rfl (fun _ _ _ _ h => h) rfl ?_ (by assumption) ?_); rotate_left; (intro w hSw; (try dsimp only at hSw); go_simp; (try (with_reducible rfl))); simp only [Act.put, List.setIfInBounds_toArray, List.set_cons_zero, List.set_cons_succ])
  ((refine AnyT.take 3 27 ?_ rfl (by kernel_rfl) (by kernel_rfl) (by kernel_rfl) (by kernel_rfl) rfl (fun _ _ _ _ h => h) rfl ?_ (by assumption) ?_); rotate_left; (intro w hSw; (try dsimp only at hSw); go_simp; (try (with_reducible rfl))); simp only [Act.put, List.setIfInBounds_toArray, List.set_cons_zero, List.set_cons_succ])
  ((refine AnyT.take 4 28 ?_ rfl (by kernel_rfl) (by kernel_rfl) (by kernel_rfl) (by kernel_rfl) rfl (fun _ _ _ _ h => h) rfl ?_ (by assumption) ?_); rotate_left; (intro w hSw; (try dsimp only at hSw); go_simp; (try (with_reducible rfl))); simp only [Act.put, List.setIfInBounds_toArray, List.set_cons_zero, List.set_cons_succ])
  ((refine AnyT.take 6 30 ?_ rfl (by kernel_rfl) (by kernel_rfl) (by kernel_rfl) (by kernel_rfl) rfl (fun _ _ _ _ h => h) rfl ?_ (by assumption) ?_); rotate_left; (intro w hSw; (try dsimp only at hSw); go_simp; (try (with_reducible rfl))); simp only [Act.put, List.setIfInBounds_toArray, List.set_cons_zero, List.set_cons_succ])
  ((refine AnyT.take 7 31 ?_ rfl (by kernel_rfl) (by kernel_rfl) (by kernel_rfl) (by kernel_rfl) rfl (fun _ _ _ _ h => h) rfl ?_ (by assumption) ?_); rotate_left; (intro w hSw; (try dsimp only at hSw); go_simp; (try (with_reducible rfl))); simp only [Act.put, List.setIfInBounds_toArray, List.set_cons_zero, List.set_cons_succ])
  ((refine AnyT.take 8 32 ?_ rfl (by kernel_rfl) (by kernel_rfl) (by kernel_rfl) (by kernel_rfl) rfl (fun _ _ _ _ h => h) rfl ?_ (by assumption) ?_); rotate_left; (intro w hSw; (try dsimp only at hSw); go_simp; (try (with_reducible rfl))); simp only [Act.put, List.setIfInBounds_toArray, List.set_cons_zero, List.set_cons_succ])
  ((refine AnyT.take 9 33 ?_ rfl (by kernel_rfl) (by kernel_rfl) (by kernel_rfl) (by kernel_rfl) rfl (fun _ _ _ _ h => h) rfl ?_ (by assumption) ?_); rotate_left; (intro w hSw; (try dsimp only at hSw); go_simp; (try (with_reducible rfl))); simp only [Act.put, List.setIfInBounds_toArray, List.set_cons_zero, List.set_cons_succ])
  ((refine AnyT.take 10 34 ?_ rfl (by kernel_rfl) (by kernel_rfl) (by kernel_rfl) (by kernel_rfl) rfl (fun _ _ _ _ h => h) rfl ?_ (by assumption) ?_); rotate_left; (intro w hSw; (try dsimp only at hSw); go_simp; (try (with_reducible rfl))); simp only [Act.put, List.setIfInBounds_toArray, List.set_cons_zero, List.set_cons_succ])
  clear wr1 wr2 hAD
  have HB5 := Lib.hid (show Below (w3.heap.size + 1) w4.drew (w4.alloc (.cells #[] 91)).drew from e4 ▸ (Below.refl w4.drew.heap.size w4.drew).alloc (Nat.le_refl _) (.cells #[] 91))
  have HLIT := Lib.hid (show (w4.alloc (.cells #[] 91)).drew.ownsRow (w3.heap.size + 1) 91 4 (.slice (some ⟨w3.heap.size + 1, 0, none⟩) 0 0) 0 (flat []) from e4 ▸ litFx w4.drew w4.drew.heap.size (Nat.le_refl _))
  have HG5 := Lib.hid (show (w4.alloc (.cells #[] 91)).drew.heap[g]? = w4.drew.heap[g]? from Below.heap_alloc w4.drew (.cells #[] 91) g (show g < w4.drew.heap.size by show g < w4.heap.size; omega))
  have HLE5 := Lib.hid (show w3.heap.size + 1 ≤ (w4.alloc (.cells #[] 91)).drew.heap.size by show _ ≤ (w4.alloc _).heap.size; simp; omega)
  have HD4 := Lib.hid (show ∀ W, Below (w3.heap.size + 1) w4.drew W → Stand w _ W from fun W hW => HD.out.below (show Below w4.drew.heap.size w4.drew W from (show w4.drew.heap.size = w3.heap.size + 1 from e4) ▸ hW))
  ((refine AnyT.one (i := 0) (by kernel_rfl) rfl (fun K hK => ?_)))
  go_simp
  refine hK.out _ _ ((HD4.out _ HB5.out).get 0 rfl).cell (fun hHeld => ?_)
  clear hK K
  (try simp only [Act.put, List.setIfInBounds_toArray, List.set_cons_zero, List.set_cons_succ])
  generalize (w4.alloc (.cells #[] 91)).drew = w5 at *
  ((refine AnyT.one (i := 5) (by kernel_rfl) rfl (fun K hK => ?_)))
  refine step_appFx (by rfl) (.tmp 24) (.tmp 28) 59 (by rfl) Try.underlying59 w5 (w3.heap.size + 1) _ [] (xs.take P) 0 P (by rfl) HLIT.out rfl (some ⟨g, 0, none⟩) cf3 (by rfl) (by rw [List.length_take, HXL.out]; omega) (flatR_take (HC4.out _ HG5.out) P) (fun h => by cases h) (by omega) HLE5.out ?_
  intro A6 c6 w6 hr6 hg6 hb6
  rw [Nat.zero_add] at hr6 ⊢
  rw [List.nil_append] at hr6
  have HB6 := Lib.hid (HB5.out.trans hb6)
  have s6 := hb6.size
  refine hK.out _ _ ((HD4.out _ HB6.out).get 0 rfl).cell (fun hHeld => ?_)
  clear hK K
  (try simp only [Act.put, List.setIfInBounds_toArray, List.set_cons_zero, List.set_cons_succ])
  have HR6 := Lib.hid hr6
  have HG6 := Lib.hid (show w6.heap[g]? = w4.drew.heap[g]? from HB6.out.block g (by omega))
  have HLE6 := Lib.hid (show w3.heap.size + 1 ≤ w6.heap.size by have := HLE5.out; omega)
  clear hg6 hb6 hr6
  ((refine AnyT.one (i := 11) (by kernel_rfl) rfl (fun K hK => ?_)))
  refine step_appFx (by rfl) (.tmp 29) (.tmp 34) 59 (by rfl) Try.underlying59 w6 (w3.heap.size + 1) _ (xs.take P) (xs.drop (P + 1)) P (d.files.length - (P + 1)) (by rfl) HR6.out (by rw [List.length_take, HXL.out]; omega) (some AD) (cf3 - (P + 1)) (by rfl) (by rw [List.length_drop, HXL.out]) (hSD.out _ HG6.out) (fun h => by cases h) (by omega) HLE6.out ?_
  intro A7 c7 w7 hr7 hg7 hb7
  have en : P + (d.files.length - (P + 1)) = d.files.length - 1 := by omega
  rw [en] at hr7 ⊢
  have s7 := hb7.size
  have HB7 := Lib.hid (HB6.out.trans hb7)
  have B7 := (HD4.out _ HB7.out).get 0 rfl
  refine hK.out _ _ B7.cell (fun hHeld => ?_)
  clear hK K
  (try simp only [Act.put, List.setIfInBounds_toArray, List.set_cons_zero, List.set_cons_succ])
  ((refine AnyT.take 12 36 ?_ rfl (by kernel_rfl) (by kernel_rfl) (by kernel_rfl) (by kernel_rfl) rfl (fun _ _ _ _ h => h) rfl ?_ (by assumption) ?_); rotate_left; (intro w hSw; (try dsimp only at hSw); go_simp; (try (with_reducible rfl))); simp only [Act.put, List.setIfInBounds_toArray, List.set_cons_zero, List.set_cons_succ])
  have f7 := B7.cell
  have z7 := B7.frozen
  have HR7 := Lib.hid hr7; have HBK7 := Lib.hid B7
  clear hg7 hb7 hr7 B7 en
  ((refine AnyT.last (i := 13) (by kernel_rfl) rfl rfl (fun K hK => ?_)))
  go_simp
  refine hK.out _ _ ?_
  clear hK K hHeld
  (try simp only [Act.put, List.setIfInBounds_toArray, List.set_cons_zero, List.set_cons_succ])
  refine AnyT.done (by kernel_rfl) ?_ _
  have S7 := HD4.out _ HB7.out
  have sz7 : w3.heap.size + 1 ≤ w7.heap.size := by have := HLE6.out; omega
  have HSUB := Lib.hid (show xs.take P ++ xs.drop (P + 1) = xs.eraseIdx P from (List.eraseIdx_eq_take_drop_succ xs P).symm)
  have HLE := Lib.hid (show (d.files.eraseIdx P).length = d.files.length - 1 by rw [List.length_eraseIdx, if_pos hPn])
  have HEND := Lib.hid (show ∀ (U : Int) (W' : World), (∀ b, b ≠ w3.heap.size → b ≠ w.heap.size + 1 → W'.heap[b]? = w7.heap[b]?) → W'.heap.size = w7.heap.size →
      DevR W' w.heap.size W'.heap.size (.agg #[.int .i64 U, .int .i64 d.scr.row, .int .i64 d.scr.col, .slice A3 d.scr.rows.length c3, .slice A7 (d.files.length - 1) c7, .slice K3 d.keys.length ck3]) ⟨U, d.scr, d.files.eraseIdx P, d.keys⟩ from fun U W' hk hz => by
    refine ⟨A3, c3, A7, c7, K3, ck3, by unfold devCs; dsimp only; rw [HLE.out], ?_⟩
    dsimp only
    rw [HLE.out]
    refine ⟨RowR.more ((S7.get 3 rfl).keep (fun b h1 h2 => hk b (by omega) (by omega))) (by omega) (by omega), ?_, RowR.more ((S7.get 2 rfl).keep (fun b h1 h2 => hk b (by omega) (by omega))) (by omega) (by omega)⟩
    have hrow := own_keep (hi := w7.heap.size) HR7.out (fun g hg => (HR7.out.lt g hg).2) (fun b h1 h2 => hk b (by omega) (by omega))
    rw [HSUB.out] at hrow
    have hm : (xs.eraseIdx P).map Fx.f = d.files.eraseIdx P := by rw [← HXS.out, map_erase']
    rw [← hm]
    refine filesR_row hrow (by rw [List.length_eraseIdx, if_pos (by rw [HXL.out]; omega), HXL.out]) (by omega) (by omega) (fun x hx => ?_)
    have hx2 : x ∈ xs := (List.eraseIdx_sublist xs P).subset hx
    exact RowR.more (((S7.get 1 rfl).lines x hx2).keep (fun b h1 h2 => hk b (by omega) (by omega))) (by omega) (by omega))
  have HRES := Lib.hid (show Blk (w7.setCell ⟨w3.heap.size, 4, none⟩ (.slice A7 (d.files.length - 1) c7)) (w.heap.size + 1) 61 #[.int .i64 0, .int .i64 0, .int .i64 0, .slice none 0 0, .slice none 0 0, .slice none 0 0] from (S7.get 4 rfl).far (p := ⟨w3.heap.size, 4, none⟩) (by simp; omega) _)
  have HOUT := Lib.hid (show Blk (w7.setCell ⟨w3.heap.size, 4, none⟩ (.slice A7 (d.files.length - 1) c7)) w3.heap.size 61 #[.int .i64 d.use, .int .i64 d.scr.row, .int .i64 d.scr.col, .slice A3 d.scr.rows.length c3, .slice A7 (d.files.length - 1) c7, .slice K3 d.keys.length ck3] from HBK7.out.set_ 4 (.slice A7 (d.files.length - 1) c7))
  have HBEL := Lib.hid S7.1
  have fr := HRES.out.cell
  have zr := HRES.out.frozen
  have fo := HOUT.out.cell
  have zo := HOUT.out.frozen
  clear S7 f7 z7
  have HUS := Lib.hid (show closeDev d P = ⟨closeUse d.use P, d.scr, d.files.eraseIdx P, d.keys⟩ from rfl)
  have HCU := Lib.hid (show closeUse d.use P = if d.use = (P : Int) + 1 then 0 else if (P : Int) + 1 < d.use then d.use - 1 else d.use from rfl)
  generalize closeUse d.use P = CU at *
  by_cases hu1 : d.use = (P : Int) + 1
  · have HU := Lib.hid (show CU = 0 by rw [HCU.out, if_pos hu1])
    have t1 : (d.use == (P : Int) + 1) = true := by rw [beq_iff_eq]; exact hu1
    clear hu1
    go_wp2_with fail
    refine bodyPost_ret (v := .tuple #[.agg #[.int .i64 (0), .int .i64 d.scr.row, .int .i64 d.scr.col, .slice A3 d.scr.rows.length c3, .slice A7 (d.files.length - 1) c7, .slice K3 d.keys.length ck3], .int .i64 0]) (by simp [results, Try.results48, go_sem, fr]) rfl ⟨_, by rw [HQ1.out], ?_, ?_⟩
    · rw [HQ1.out, HUS.out, HU.out]
      refine HEND.out _ _ (fun b h1 h2 => ?_) (by simp [World.setCell])
      iterate 8 (with_reducible rw [Below.heap_setCell _ _ _ b (by simp; omega)])
    · iterate 8 (with_reducible refine Below.setCell ?_ (by simp; try omega) _)
      exact HBEL.out
  · by_cases hu2 : (P : Int) + 1 < d.use
    · have HU := Lib.hid (show CU = d.use - 1 by rw [HCU.out, if_neg hu1, if_pos hu2])
      have t1 : (d.use == (P : Int) + 1) = false := by rw [beq_eq_false_iff_ne]; exact hu1
      have t2 : decide ((P : Int) + 1 < d.use) = true := decide_eq_true hu2
      go_wp2_with fail
      refine bodyPost_ret (v := .tuple #[.agg #[.int .i64 (d.use - 1), .int .i64 d.scr.row, .int .i64 d.scr.col, .slice A3 d.scr.rows.length c3, .slice A7 (d.files.length - 1) c7, .slice K3 d.keys.length ck3], .int .i64 0]) (by simp [results, Try.results48, go_sem, fr]) rfl ⟨_, by rw [HQ1.out], ?_, ?_⟩
      · rw [HQ1.out, HUS.out, HU.out]
        refine HEND.out _ _ (fun b h1 h2 => ?_) (by simp [World.setCell])
        iterate 8 (with_reducible rw [Below.heap_setCell _ _ _ b (by simp; omega)])
      · iterate 8 (with_reducible refine Below.setCell ?_ (by simp; try omega) _)
        exact HBEL.out
    · have HU := Lib.hid (show CU = d.use by rw [HCU.out, if_neg hu1, if_neg hu2])
      have t1 : (d.use == (P : Int) + 1) = false := by rw [beq_eq_false_iff_ne]; exact hu1
      have t2 : decide ((P : Int) + 1 < d.use) = false := decide_eq_false hu2
      go_wp2_with fail
      refine bodyPost_ret (v := .tuple #[.agg #[.int .i64 (d.use), .int .i64 d.scr.row, .int .i64 d.scr.col, .slice A3 d.scr.rows.length c3, .slice A7 (d.files.length - 1) c7, .slice K3 d.keys.length ck3], .int .i64 0]) (by simp [results, Try.results48, go_sem, fr]) rfl ⟨_, by rw [HQ1.out], ?_, ?_⟩
      · rw [HQ1.out, HUS.out, HU.out]
        refine HEND.out _ _ (fun b h1 h2 => ?_) (by simp [World.setCell])
        iterate 7 (with_reducible rw [Below.heap_setCell _ _ _ b (by simp; omega)])
      · iterate 7 (with_reducible refine Below.setCell ?_ (by simp; try omega) _)
        exact HBEL.out

end Go.Proofs.Ytcfmgmbolnifgaa
