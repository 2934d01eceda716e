/- Both DevicesOk walked. -/
import Derived.Test.YtcfmgmbolnifgaaDevTo
import Derived.Test.YtcfmgmbolnifgaaRegion
import Derived.IntWalk
namespace Go.Proofs.Ytcfmgmbolnifgaa
open Go.RowKit

/-- The file k is right and comes after the one before. -/
def filOkAt (fs : List Fil) (k : Nat) : Bool := filB (fs.getD k filD) && (decide (k = 0) || Op.bytesLess (fs.getD (k - 1) filD).name.toList (fs.getD k filD).name.toList)
def filsTo (fs : List Fil) (k : Nat) : Bool := (List.range k).all (filOkAt fs)
def devB (d : Dev) : Bool := inB d.use 0 d.files.length && scrB d.scr && decide (d.files.length ≤ 3) && decide (d.keys.length ≤ 20) && keysB d.keys && filsTo d.files d.files.length
theorem filsTo_succ (fs : List Fil) (k : Nat) : filsTo fs (k + 1) = (filsTo fs k && filOkAt fs k) := by
  unfold filsTo
  rw [List.range_succ, List.all_append]
  simp
theorem filsTo_false {fs : List Fil} {k n : Nat} (hk : k < n) (h : filOkAt fs k = false) : filsTo fs n = false := by
  unfold filsTo
  rw [List.all_eq_false]
  exact ⟨k, List.mem_range.2 hk, by rw [h]; simp⟩
theorem devB_false_at {d : Dev} {k : Nat} (hk : k < d.files.length) (h : filOkAt d.files k = false) : devB d = false := by
  unfold devB; rw [filsTo_false hk h, Bool.and_false]

/-- The name of file k. -/
theorem filesR_name {w : World} {lo hi b off n : Nat} {fs : List Fil} {k : Nat} (h : FilesR w lo hi (some ⟨b, off, none⟩) n fs) (hk : k < n) : w.cell? ⟨b, off + k * 4, none⟩ = some (.string (fs.getD k filD).name) := by
  obtain ⟨b', off', hbo, _, _, _, _, y0, _⟩ := h.at_ hk
  injection hbo with hbo; injection hbo with h1 h2
  rw [h1, h2]; exact y0

set_option maxHeartbeats 4000000 in
set_option maxRecDepth 100000 in
theorem specDevicesOk_any (d : Dev) (v : Value) (lo hi : Nat) (w : World) (hx : DevR w lo hi v d) (hhi : hi ≤ w.heap.size) (hs : DevSmall d) :
    Calls Try.prog 36 #[v] w fun e w' => e = .returned (.bool (devB d)) ∧ Below w.heap.size w w' := by
  obtain ⟨A, c, F, cf, K, ck, rfl, hA, hF, hK⟩ := hx
  have HRES := Lib.hid (show devB d = (inB d.use 0 d.files.length && scrB d.scr && decide (d.files.length ≤ 3) && decide (d.keys.length ≤ 20) && keysB d.keys && filsTo d.files d.files.length) from rfl)
  have HAT := Lib.hid (fun k hk h => devB_false_at (d := d) (k := k) hk h)
  generalize devB d = RES at *
  obtain ⟨use, scr, files, keys⟩ := d
  obtain ⟨hs1, hs2, hs3⟩ := hs
  dsimp only at *
  have R0 := ((((Stand.nil w).add lo hi _ (loc_strR0 lo hi A _ scr.rows) hhi hA).add lo hi _ (loc_filesR lo hi F _ files) hhi hF).add lo hi _ (loc_strR0 lo hi K _ keys) hhi hK).box 61 (devCs ⟨use, scr, files, keys⟩ A c F cf K ck)
  have HR0 := Lib.hid R0; have HS1 := Lib.hid hs1; have HS2 := Lib.hid hs2; have HS3 := Lib.hid hs3
  have hk := hs3.1; have hfl := hs2.1
  clear hA hF hK R0 hs1 hs2 hs3
  have no : ∀ b : Bool, b = false → RES = b → Ending.returned (.bool false) = Ending.returned (.bool RES) := fun b h1 h2 => by rw [h2, h1]
  have NO := Lib.hid no; clear no
  have HI := Lib.hid (fun W => l00In_any use 0 files.length W)
  cases hI : inB use 0 files.length <;> rw [hI] at HI HRES <;> clear hI
  · go_enter Try.func36, Try.ntmps36
    go_wp2_with fail
    refine (HI.out _).mono ?_
    rintro e1 w1 ⟨rfl, rfl⟩
    go_wp2_with fail
    go_ret
    exact ⟨NO.out _ rfl (by rw [HRES.out]; rfl), HR0.out.1⟩
  have HO := Lib.hid (fun W h1 h2 => specScreenOk_any scr (.agg #[.int .i64 scr.row, .int .i64 scr.col, .slice A scr.rows.length c]) lo hi W ⟨A, c, rfl, h1⟩ h2 HS1.out)
  cases hO : scrB scr <;> rw [hO] at HO HRES <;> clear hO
  · go_enter Try.func36, Try.ntmps36
    go_wp2_with fail
    refine (HI.out _).mono ?_
    rintro e1 w1 ⟨rfl, rfl⟩
    go_wp2_with fail
    refine (HO.out _ (HR0.out.get 3 rfl) (HR0.out.le 3 rfl)).mono ?_
    rintro e2 w2 ⟨rfl, hb2⟩
    have HB := Lib.hid (HR0.out.below hb2); clear hb2
    go_wp2_with fail
    go_ret
    exact ⟨NO.out _ rfl (by rw [HRES.out]; rfl), HB.out.1⟩
  by_cases h3 : 3 < files.length ∨ 20 < keys.length
  · have hr : RES = false := by
      rw [HRES.out]
      rcases h3 with h | h
      · rw [decide_eq_false (show ¬ files.length ≤ 3 by omega)]; simp
      · rw [decide_eq_false (show ¬ keys.length ≤ 20 by omega)]; simp
    have HRF := Lib.hid hr; clear hr
    go_enter Try.func36, Try.ntmps36
    go_wp2_with fail
    refine (HI.out _).mono ?_
    rintro e1 w1 ⟨rfl, rfl⟩
    go_wp2_with fail
    refine (HO.out _ (HR0.out.get 3 rfl) (HR0.out.le 3 rfl)).mono ?_
    rintro e2 w2 ⟨rfl, hb2⟩
    have HB := Lib.hid (HR0.out.below hb2); clear hb2
    have f := (HB.out.get 0 rfl).cell
    by_cases h3a : 3 < files.length
    · go_wp2_with fail
      go_ret
      exact ⟨NO.out _ rfl HRF.out, HB.out.1⟩
    · have h3b : 20 < keys.length := by omega
      clear h3
      go_wp2_with fail
      go_ret
      exact ⟨NO.out _ rfl HRF.out, HB.out.1⟩
  have h3a : files.length ≤ 3 := by omega
  have h20 : keys.length ≤ 20 := by omega
  clear h3
  have HRES2 := Lib.hid (show RES = (keysB keys && filsTo files files.length) by rw [HRES.out, decide_eq_true h3a, decide_eq_true h20]; simp)
  clear HRES
  go_enter Try.func36, Try.ntmps36
  go_wp2_with fail
  refine (HI.out _).mono ?_
  rintro e1 w1 ⟨rfl, rfl⟩
  go_wp2_with fail
  refine (HO.out _ (HR0.out.get 3 rfl) (HR0.out.le 3 rfl)).mono ?_
  rintro e2 w2 ⟨rfl, hb2⟩
  have HR2 := Lib.hid (HR0.out.below hb2)
  have f := (HR2.out.get 0 rfl).cell
  clear hb2 HI HO HR0
  go_wp2_with fail
  go_loopw [3] (fun i wr => ∃ k : Nat, k ≤ files.length ∧ i = .int .i64 k ∧ filsTo files k = true ∧ Below w2.heap.size w2 wr) (fun i _ => files.length - (intOf i).toNat)
  case atStart => exact ⟨0, Nat.zero_le _, rfl, rfl, Below.refl _ _⟩
  case round =>
    clear f
    obtain ⟨k, hkl, rfl, ht, hb⟩ := hrel
    have HT := Lib.hid ht; clear ht
    have HRk := Lib.hid (HR2.out.below hb)
    have hsz := hb.size
    have HBk := Lib.hid hb; clear hb
    by_cases hlt : k < files.length
    · obtain ⟨b, off, rfl, hb1, hb2, L1, d1, e0, e1, e2, e3, hL⟩ := (HRk.out.get 2 rfl).at_ hlt
      have HX := Lib.hid (HS2.out.2 _ (getD_mem (d := filD) hlt))
      have HS := Lib.hid (filsTo_succ files k)
      have HA := Lib.hid (HAT.out k hlt)
      have HO := Lib.hid (show filOkAt files k = (filB (files.getD k filD) && (decide (k = 0) || Op.bytesLess (files.getD (k - 1) filD).name.toList (files.getD k filD).name.toList)) from rfl)
      have HF := Lib.hid (HRk.out.get 2 rfl)
      generalize files.getD k filD = X at *
      have f := (HRk.out.get 0 rfl).cell
      have HL := Lib.hid hL
      have hwi : hi ≤ wr.drew.heap.size := (show hi ≤ wr.heap.size from HRk.out.le 2 rfl)
      have hgw : w.heap.size < wr.drew.heap.size := (show w.heap.size < wr.heap.size from (HRk.out.get 0 rfl).lt)
      have hbw : b < wr.drew.heap.size := (show b < wr.heap.size from Nat.lt_of_lt_of_le hb2 (HRk.out.le 2 rfl))
      have HLd := Lib.hid (HL.out.drewN 1)
      have HRd := Lib.hid HRk.out.drew
      have i0 : (0 : Int) ≤ (k : Int) := by omega
      have i1 : (k : Int) < (files.length : Int) := by omega
      clear hL
      cases hX : filB X
      · rw [hX] at HO
        have HXF := Lib.hid hX; clear hX
        go_wp2_with fail
        refine wp_region_held_drew (S := (fun w' => (∀ i, w'.cell? ⟨w.heap.size, i, none⟩ = (devCs ⟨use, scr, files, keys⟩ A c (some ⟨b, off, none⟩) cf K ck)[i]?) ∧ w'.cell? ⟨b, off + k * 4, none⟩ = some (.string X.name) ∧ w'.cell? ⟨b, off + k * 4 + 1, none⟩ = some (.slice L1 X.lines.length d1) ∧ w'.cell? ⟨b, off + k * 4 + 2, none⟩ = some (.string X.part) ∧ w'.cell? ⟨b, off + k * 4 + 3, none⟩ = some (.int .i64 X.at_))) (by kernel_rfl) ⟨f, e0, e1, e2, e3⟩ (fun hHeld => ?_)
        ((refine held_take 0 36 ?_ rfl (by kernel_rfl) (by kernel_rfl) (by kernel_rfl) rfl (fun _ _ _ _ h => h) rfl ?_ (by assumption) ?_); rotate_left; (intro w hSw; (try dsimp only at hSw); go_simp; (try (with_reducible rfl))); simp only [Act.put, List.setIfInBounds_toArray, List.set_cons_zero, List.set_cons_succ])
        ((refine held_take 1 37 ?_ rfl (by kernel_rfl) (by kernel_rfl) (by kernel_rfl) rfl (fun _ _ _ _ h => h) rfl ?_ (by assumption) ?_); rotate_left; (intro w hSw; (try dsimp only at hSw); go_simp; (try (with_reducible rfl))); simp only [Act.put, List.setIfInBounds_toArray, List.set_cons_zero, List.set_cons_succ])
        ((refine held_take 2 38 ?_ rfl (by kernel_rfl) (by kernel_rfl) (by kernel_rfl) rfl (fun _ _ _ _ h => h) rfl ?_ (by assumption) ?_); rotate_left; (intro w hSw; (try dsimp only at hSw); go_simp; (try (with_reducible rfl))); simp only [Act.put, List.setIfInBounds_toArray, List.set_cons_zero, List.set_cons_succ])
        ((refine held_take 3 39 ?_ rfl (by kernel_rfl) (by kernel_rfl) (by kernel_rfl) rfl (fun _ _ _ _ h => h) rfl ?_ (by assumption) ?_); rotate_left; (intro w hSw; (try dsimp only at hSw); go_simp; (try (with_reducible rfl))); simp only [Act.put, List.setIfInBounds_toArray, List.set_cons_zero, List.set_cons_succ])
        ((refine held_take 4 40 ?_ rfl (by kernel_rfl) (by kernel_rfl) (by kernel_rfl) rfl (fun _ _ _ _ h => h) rfl ?_ (by assumption) ?_); rotate_left; (intro w hSw; (try dsimp only at hSw); go_simp; (try (with_reducible rfl))); simp only [Act.put, List.setIfInBounds_toArray, List.set_cons_zero, List.set_cons_succ])
        ((refine wpAnyH_ready (rs := [5]) (by kernel_rfl) (by simp) ?_); (refine AllReadyH.cons rfl (fun K hK => ?_) AllReadyH.nil); go_simp)
        refine (l31File_any X _ lo hi wr.drew ⟨L1, d1, rfl, HLd.out⟩ hwi HX.out).mono ?_
        rintro e5 w5 ⟨rfl, hb5⟩
        rw [HXF.out]
        go_simp
        refine hK.out _ _ ⟨fun i => (hb5.cell hgw).trans (f i), (hb5.cell hbw).trans e0, (hb5.cell hbw).trans e1, (hb5.cell hbw).trans e2, (hb5.cell hbw).trans e3⟩ (fun hHeld => ?_)
        clear hK K
        (try simp only [Act.put, List.setIfInBounds_toArray, List.set_cons_zero, List.set_cons_succ])
        ((refine held_take 6 42 ?_ rfl (by kernel_rfl) (by kernel_rfl) (by kernel_rfl) rfl (fun _ _ _ _ h => h) rfl ?_ (by assumption) ?_); rotate_left; (intro w hSw; (try dsimp only at hSw); go_simp; (try (with_reducible rfl))); simp only [Act.put, List.setIfInBounds_toArray, List.set_cons_zero, List.set_cons_succ])
        ((refine held_take 7 43 ?_ rfl (by kernel_rfl) (by kernel_rfl) (by kernel_rfl) rfl (fun _ _ _ _ h => h) rfl ?_ (by assumption) ?_); rotate_left; (intro w hSw; (try dsimp only at hSw); go_simp; (try (with_reducible rfl))); simp only [Act.put, List.setIfInBounds_toArray, List.set_cons_zero, List.set_cons_succ])
        ((refine held_skip 8 44 rfl (by kernel_rfl) (by kernel_rfl) (by kernel_rfl) rfl (fun _ _ _ _ h => h) rfl (by assumption) ?_); simp only [Act.put, List.setIfInBounds_toArray, List.set_cons_zero, List.set_cons_succ])
        ((refine held_skip 9 45 rfl (by kernel_rfl) (by kernel_rfl) (by kernel_rfl) rfl (fun _ _ _ _ h => h) rfl (by assumption) ?_); simp only [Act.put, List.setIfInBounds_toArray, List.set_cons_zero, List.set_cons_succ])
        ((refine held_skip 10 46 rfl (by kernel_rfl) (by kernel_rfl) (by kernel_rfl) rfl (fun _ _ _ _ h => h) rfl (by assumption) ?_); simp only [Act.put, List.setIfInBounds_toArray, List.set_cons_zero, List.set_cons_succ])
        ((refine held_skip 11 47 rfl (by kernel_rfl) (by kernel_rfl) (by kernel_rfl) rfl (fun _ _ _ _ h => h) rfl (by assumption) ?_); simp only [Act.put, List.setIfInBounds_toArray, List.set_cons_zero, List.set_cons_succ])
        ((refine held_skip 12 48 rfl (by kernel_rfl) (by kernel_rfl) (by kernel_rfl) rfl (fun _ _ _ _ h => h) rfl (by assumption) ?_); simp only [Act.put, List.setIfInBounds_toArray, List.set_cons_zero, List.set_cons_succ])
        ((refine held_skip 13 49 rfl (by kernel_rfl) (by kernel_rfl) (by kernel_rfl) rfl (fun _ _ _ _ h => h) rfl (by assumption) ?_); simp only [Act.put, List.setIfInBounds_toArray, List.set_cons_zero, List.set_cons_succ])
        ((refine held_skip 14 50 rfl (by kernel_rfl) (by kernel_rfl) (by kernel_rfl) rfl (fun _ _ _ _ h => h) rfl (by assumption) ?_); simp only [Act.put, List.setIfInBounds_toArray, List.set_cons_zero, List.set_cons_succ])
        ((refine held_skip 15 51 rfl (by kernel_rfl) (by kernel_rfl) (by kernel_rfl) rfl (fun _ _ _ _ h => h) rfl (by assumption) ?_); simp only [Act.put, List.setIfInBounds_toArray, List.set_cons_zero, List.set_cons_succ])
        ((refine held_skip 16 52 rfl (by kernel_rfl) (by kernel_rfl) (by kernel_rfl) rfl (fun _ _ _ _ h => h) rfl (by assumption) ?_); simp only [Act.put, List.setIfInBounds_toArray, List.set_cons_zero, List.set_cons_succ])
        ((refine held_skip 17 53 rfl (by kernel_rfl) (by kernel_rfl) (by kernel_rfl) rfl (fun _ _ _ _ h => h) rfl (by assumption) ?_); simp only [Act.put, List.setIfInBounds_toArray, List.set_cons_zero, List.set_cons_succ])
        ((refine held_skip 18 54 rfl (by kernel_rfl) (by kernel_rfl) (by kernel_rfl) rfl (fun _ _ _ _ h => h) rfl (by assumption) ?_); simp only [Act.put, List.setIfInBounds_toArray, List.set_cons_zero, List.set_cons_succ])
        ((refine held_skip 19 55 rfl (by kernel_rfl) (by kernel_rfl) (by kernel_rfl) rfl (fun _ _ _ _ h => h) rfl (by assumption) ?_); simp only [Act.put, List.setIfInBounds_toArray, List.set_cons_zero, List.set_cons_succ])
        ((refine held_skip 20 56 rfl (by kernel_rfl) (by kernel_rfl) (by kernel_rfl) rfl (fun _ _ _ _ h => h) rfl (by assumption) ?_); simp only [Act.put, List.setIfInBounds_toArray, List.set_cons_zero, List.set_cons_succ])
        ((refine held_skip 21 57 rfl (by kernel_rfl) (by kernel_rfl) (by kernel_rfl) rfl (fun _ _ _ _ h => h) rfl (by assumption) ?_); simp only [Act.put, List.setIfInBounds_toArray, List.set_cons_zero, List.set_cons_succ])
        ((refine held_skip 22 58 rfl (by kernel_rfl) (by kernel_rfl) (by kernel_rfl) rfl (fun _ _ _ _ h => h) rfl (by assumption) ?_); simp only [Act.put, List.setIfInBounds_toArray, List.set_cons_zero, List.set_cons_succ])
        ((refine held_skip 23 59 rfl (by kernel_rfl) (by kernel_rfl) (by kernel_rfl) rfl (fun _ _ _ _ h => h) rfl (by assumption) ?_); simp only [Act.put, List.setIfInBounds_toArray, List.set_cons_zero, List.set_cons_succ])
        ((refine held_skip 24 60 rfl (by kernel_rfl) (by kernel_rfl) (by kernel_rfl) rfl (fun _ _ _ _ h => h) rfl (by assumption) ?_); simp only [Act.put, List.setIfInBounds_toArray, List.set_cons_zero, List.set_cons_succ])
        ((refine held_skip 25 61 rfl (by kernel_rfl) (by kernel_rfl) (by kernel_rfl) rfl (fun _ _ _ _ h => h) rfl (by assumption) ?_); simp only [Act.put, List.setIfInBounds_toArray, List.set_cons_zero, List.set_cons_succ])
        ((refine held_take 26 62 ?_ rfl (by kernel_rfl) (by kernel_rfl) (by kernel_rfl) rfl (fun _ _ _ _ h => h) rfl ?_ (by assumption) ?_); rotate_left; (intro w hSw; (try dsimp only at hSw); go_simp; (try (with_reducible rfl))); simp only [Act.put, List.setIfInBounds_toArray, List.set_cons_zero, List.set_cons_succ])
        refine wpAnyH_done (by kernel_rfl) ?_ _
        have HB5 := Lib.hid (HRd.out.below hb5); clear hb5
        go_wp2_with fail
        go_ret
        exact ⟨NO.out _ rfl (HA.out (by rw [HO.out]; rfl)), HB5.out.1⟩
      · rw [hX] at HO
        have HXF := Lib.hid hX; clear hX
        by_cases hk0 : k = 0
        · have HK0 := Lib.hid hk0
          have nk : decide ((0 : Int) < (k : Int)) = false := by rw [decide_eq_false_iff_not]; omega
          have nk' : decide (0 < k) = false := by rw [decide_eq_false_iff_not]; omega
          clear hk0
          go_wp2_with fail
          refine wp_region_held_drew (S := (fun w' => (∀ i, w'.cell? ⟨w.heap.size, i, none⟩ = (devCs ⟨use, scr, files, keys⟩ A c (some ⟨b, off, none⟩) cf K ck)[i]?) ∧ w'.cell? ⟨b, off + k * 4, none⟩ = some (.string X.name) ∧ w'.cell? ⟨b, off + k * 4 + 1, none⟩ = some (.slice L1 X.lines.length d1) ∧ w'.cell? ⟨b, off + k * 4 + 2, none⟩ = some (.string X.part) ∧ w'.cell? ⟨b, off + k * 4 + 3, none⟩ = some (.int .i64 X.at_))) (by kernel_rfl) ⟨f, e0, e1, e2, e3⟩ (fun hHeld => ?_)
          ((refine held_take 0 36 ?_ rfl (by kernel_rfl) (by kernel_rfl) (by kernel_rfl) rfl (fun _ _ _ _ h => h) rfl ?_ (by assumption) ?_); rotate_left; (intro w hSw; (try dsimp only at hSw); go_simp; (try (with_reducible rfl))); simp only [Act.put, List.setIfInBounds_toArray, List.set_cons_zero, List.set_cons_succ])
          ((refine held_take 1 37 ?_ rfl (by kernel_rfl) (by kernel_rfl) (by kernel_rfl) rfl (fun _ _ _ _ h => h) rfl ?_ (by assumption) ?_); rotate_left; (intro w hSw; (try dsimp only at hSw); go_simp; (try (with_reducible rfl))); simp only [Act.put, List.setIfInBounds_toArray, List.set_cons_zero, List.set_cons_succ])
          ((refine held_take 2 38 ?_ rfl (by kernel_rfl) (by kernel_rfl) (by kernel_rfl) rfl (fun _ _ _ _ h => h) rfl ?_ (by assumption) ?_); rotate_left; (intro w hSw; (try dsimp only at hSw); go_simp; (try (with_reducible rfl))); simp only [Act.put, List.setIfInBounds_toArray, List.set_cons_zero, List.set_cons_succ])
          ((refine held_take 3 39 ?_ rfl (by kernel_rfl) (by kernel_rfl) (by kernel_rfl) rfl (fun _ _ _ _ h => h) rfl ?_ (by assumption) ?_); rotate_left; (intro w hSw; (try dsimp only at hSw); go_simp; (try (with_reducible rfl))); simp only [Act.put, List.setIfInBounds_toArray, List.set_cons_zero, List.set_cons_succ])
          ((refine held_take 4 40 ?_ rfl (by kernel_rfl) (by kernel_rfl) (by kernel_rfl) rfl (fun _ _ _ _ h => h) rfl ?_ (by assumption) ?_); rotate_left; (intro w hSw; (try dsimp only at hSw); go_simp; (try (with_reducible rfl))); simp only [Act.put, List.setIfInBounds_toArray, List.set_cons_zero, List.set_cons_succ])
          ((refine wpAnyH_ready (rs := [5]) (by kernel_rfl) (by simp) ?_); (refine AllReadyH.cons rfl (fun K hK => ?_) AllReadyH.nil); go_simp)
          refine (l31File_any X _ lo hi wr.drew ⟨L1, d1, rfl, HLd.out⟩ hwi HX.out).mono ?_
          rintro e5 w5 ⟨rfl, hb5⟩
          rw [HXF.out]
          go_simp
          refine hK.out _ _ ⟨fun i => (hb5.cell hgw).trans (f i), (hb5.cell hbw).trans e0, (hb5.cell hbw).trans e1, (hb5.cell hbw).trans e2, (hb5.cell hbw).trans e3⟩ (fun hHeld => ?_)
          clear hK K
          (try simp only [Act.put, List.setIfInBounds_toArray, List.set_cons_zero, List.set_cons_succ])
          ((refine held_take 6 42 ?_ rfl (by kernel_rfl) (by kernel_rfl) (by kernel_rfl) rfl (fun _ _ _ _ h => h) rfl ?_ (by assumption) ?_); rotate_left; (intro w hSw; (try dsimp only at hSw); go_simp; (try (with_reducible rfl))); simp only [Act.put, List.setIfInBounds_toArray, List.set_cons_zero, List.set_cons_succ])
          ((refine held_take 7 43 ?_ rfl (by kernel_rfl) (by kernel_rfl) (by kernel_rfl) rfl (fun _ _ _ _ h => h) rfl ?_ (by assumption) ?_); rotate_left; (intro w hSw; (try dsimp only at hSw); go_simp; (try (with_reducible rfl))); simp only [Act.put, List.setIfInBounds_toArray, List.set_cons_zero, List.set_cons_succ])
          ((refine held_take 8 44 ?_ rfl (by kernel_rfl) (by kernel_rfl) (by kernel_rfl) rfl (fun _ _ _ _ h => h) rfl ?_ (by assumption) ?_); rotate_left; (intro w hSw; (try dsimp only at hSw); go_simp; (try (with_reducible rfl))); simp only [Act.put, List.setIfInBounds_toArray, List.set_cons_zero, List.set_cons_succ])
          ((refine held_take 9 45 ?_ rfl (by kernel_rfl) (by kernel_rfl) (by kernel_rfl) rfl (fun _ _ _ _ h => h) rfl ?_ (by assumption) ?_); rotate_left; (intro w hSw; (try dsimp only at hSw); go_simp; (try (with_reducible rfl))); simp only [Act.put, List.setIfInBounds_toArray, List.set_cons_zero, List.set_cons_succ])
          ((refine held_take 10 46 ?_ rfl (by kernel_rfl) (by kernel_rfl) (by kernel_rfl) rfl (fun _ _ _ _ h => h) rfl ?_ (by assumption) ?_); rotate_left; (intro w hSw; (try dsimp only at hSw); go_simp; (try (with_reducible rfl))); simp only [Act.put, List.setIfInBounds_toArray, List.set_cons_zero, List.set_cons_succ])
          ((refine held_skip 11 47 rfl (by kernel_rfl) (by kernel_rfl) (by kernel_rfl) rfl (fun _ _ _ _ h => h) rfl (by assumption) ?_); simp only [Act.put, List.setIfInBounds_toArray, List.set_cons_zero, List.set_cons_succ])
          ((refine held_skip 12 48 rfl (by kernel_rfl) (by kernel_rfl) (by kernel_rfl) rfl (fun _ _ _ _ h => h) rfl (by assumption) ?_); simp only [Act.put, List.setIfInBounds_toArray, List.set_cons_zero, List.set_cons_succ])
          ((refine held_skip 13 49 rfl (by kernel_rfl) (by kernel_rfl) (by kernel_rfl) rfl (fun _ _ _ _ h => h) rfl (by assumption) ?_); simp only [Act.put, List.setIfInBounds_toArray, List.set_cons_zero, List.set_cons_succ])
          ((refine held_skip 14 50 rfl (by kernel_rfl) (by kernel_rfl) (by kernel_rfl) rfl (fun _ _ _ _ h => h) rfl (by assumption) ?_); simp only [Act.put, List.setIfInBounds_toArray, List.set_cons_zero, List.set_cons_succ])
          ((refine held_skip 15 51 rfl (by kernel_rfl) (by kernel_rfl) (by kernel_rfl) rfl (fun _ _ _ _ h => h) rfl (by assumption) ?_); simp only [Act.put, List.setIfInBounds_toArray, List.set_cons_zero, List.set_cons_succ])
          ((refine held_skip 16 52 rfl (by kernel_rfl) (by kernel_rfl) (by kernel_rfl) rfl (fun _ _ _ _ h => h) rfl (by assumption) ?_); simp only [Act.put, List.setIfInBounds_toArray, List.set_cons_zero, List.set_cons_succ])
          ((refine held_skip 17 53 rfl (by kernel_rfl) (by kernel_rfl) (by kernel_rfl) rfl (fun _ _ _ _ h => h) rfl (by assumption) ?_); simp only [Act.put, List.setIfInBounds_toArray, List.set_cons_zero, List.set_cons_succ])
          ((refine held_skip 18 54 rfl (by kernel_rfl) (by kernel_rfl) (by kernel_rfl) rfl (fun _ _ _ _ h => h) rfl (by assumption) ?_); simp only [Act.put, List.setIfInBounds_toArray, List.set_cons_zero, List.set_cons_succ])
          ((refine held_skip 19 55 rfl (by kernel_rfl) (by kernel_rfl) (by kernel_rfl) rfl (fun _ _ _ _ h => h) rfl (by assumption) ?_); simp only [Act.put, List.setIfInBounds_toArray, List.set_cons_zero, List.set_cons_succ])
          ((refine held_skip 20 56 rfl (by kernel_rfl) (by kernel_rfl) (by kernel_rfl) rfl (fun _ _ _ _ h => h) rfl (by assumption) ?_); simp only [Act.put, List.setIfInBounds_toArray, List.set_cons_zero, List.set_cons_succ])
          ((refine held_skip 21 57 rfl (by kernel_rfl) (by kernel_rfl) (by kernel_rfl) rfl (fun _ _ _ _ h => h) rfl (by assumption) ?_); simp only [Act.put, List.setIfInBounds_toArray, List.set_cons_zero, List.set_cons_succ])
          ((refine held_skip 22 58 rfl (by kernel_rfl) (by kernel_rfl) (by kernel_rfl) rfl (fun _ _ _ _ h => h) rfl (by assumption) ?_); simp only [Act.put, List.setIfInBounds_toArray, List.set_cons_zero, List.set_cons_succ])
          ((refine held_skip 23 59 rfl (by kernel_rfl) (by kernel_rfl) (by kernel_rfl) rfl (fun _ _ _ _ h => h) rfl (by assumption) ?_); simp only [Act.put, List.setIfInBounds_toArray, List.set_cons_zero, List.set_cons_succ])
          ((refine held_skip 24 60 rfl (by kernel_rfl) (by kernel_rfl) (by kernel_rfl) rfl (fun _ _ _ _ h => h) rfl (by assumption) ?_); simp only [Act.put, List.setIfInBounds_toArray, List.set_cons_zero, List.set_cons_succ])
          ((refine held_take 25 61 ?_ rfl (by kernel_rfl) (by kernel_rfl) (by kernel_rfl) rfl (fun _ _ _ _ h => h) rfl ?_ (by assumption) ?_); rotate_left; (intro w hSw; (try dsimp only at hSw); go_simp; (try (with_reducible rfl))); simp only [Act.put, List.setIfInBounds_toArray, List.set_cons_zero, List.set_cons_succ])
          ((refine held_take 26 62 ?_ rfl (by kernel_rfl) (by kernel_rfl) (by kernel_rfl) rfl (fun _ _ _ _ h => h) rfl ?_ (by assumption) ?_); rotate_left; (intro w hSw; (try dsimp only at hSw); go_simp; (try (with_reducible rfl))); simp only [Act.put, List.setIfInBounds_toArray, List.set_cons_zero, List.set_cons_succ])
          refine wpAnyH_done (by kernel_rfl) ?_ _
          have HB5 := Lib.hid (HBk.out.trans ((below_drewN' wr 1).mono hsz |>.trans (hb5.mono hsz))); clear hb5
          go_wp2_with fail
          go_roundw
          case rel => exact ⟨k + 1, by omega, by go_num, by rw [HS.out, HT.out, HO.out, decide_eq_true HK0.out]; rfl, HB5.out⟩
          case measure => simp [intOf]; omega
        · obtain ⟨b', off', hbo, _, _, L2, d2, y0, y1, y2, y3, hL2⟩ := HF.out.at_ (show k - 1 < files.length by omega)
          obtain ⟨rfl, rfl⟩ : b = b' ∧ off = off' := by
            injection hbo with hbo; injection hbo with h1 h2; exact ⟨h1, h2⟩
          clear hL2 y1 y2 y3 hbo
          rw [decide_eq_false hk0, Bool.true_and, Bool.false_or] at HO
          generalize files.getD (k - 1) filD = Y at *
          have nk : decide ((0 : Int) < (k : Int)) = true := by rw [decide_eq_true_iff]; omega
          have nk' : decide (0 < k) = true := by rw [decide_eq_true_iff]; omega
          have j2 : (0 : Int) ≤ (k : Int) - 1 := by omega
          have j2' : 1 ≤ k := by omega
          have j5 : (1 : Int) ≤ (k : Int) := by omega
          have j3 : (k : Int) - 1 < (files.length : Int) := by omega
          have j1 : IntKind.i64.wrap ((k : Int) - 1) = (k : Int) - 1 := IntWalk.i64_in _ (by omega)
          have j4 : ((k : Int) - 1).toNat = k - 1 := by omega
          clear hk0
          cases hL : Op.bytesLess Y.name.toList X.name.toList <;> rw [hL] at HO
          all_goals
            go_wp2_with fail
            refine wp_region_held_drew (S := (fun w' => (∀ i, w'.cell? ⟨w.heap.size, i, none⟩ = (devCs ⟨use, scr, files, keys⟩ A c (some ⟨b, off, none⟩) cf K ck)[i]?) ∧ w'.cell? ⟨b, off + k * 4, none⟩ = some (.string X.name) ∧ w'.cell? ⟨b, off + k * 4 + 1, none⟩ = some (.slice L1 X.lines.length d1) ∧ w'.cell? ⟨b, off + k * 4 + 2, none⟩ = some (.string X.part) ∧ w'.cell? ⟨b, off + k * 4 + 3, none⟩ = some (.int .i64 X.at_) ∧ w'.cell? ⟨b, off + (k - 1) * 4, none⟩ = some (.string Y.name))) (by kernel_rfl) ⟨f, e0, e1, e2, e3, y0⟩ (fun hHeld => ?_)
            ((refine held_take 0 36 ?_ rfl (by kernel_rfl) (by kernel_rfl) (by kernel_rfl) rfl (fun _ _ _ _ h => h) rfl ?_ (by assumption) ?_); rotate_left; (intro w hSw; (try dsimp only at hSw); go_simp; (try (with_reducible rfl))); simp only [Act.put, List.setIfInBounds_toArray, List.set_cons_zero, List.set_cons_succ])
            ((refine held_take 1 37 ?_ rfl (by kernel_rfl) (by kernel_rfl) (by kernel_rfl) rfl (fun _ _ _ _ h => h) rfl ?_ (by assumption) ?_); rotate_left; (intro w hSw; (try dsimp only at hSw); go_simp; (try (with_reducible rfl))); simp only [Act.put, List.setIfInBounds_toArray, List.set_cons_zero, List.set_cons_succ])
            ((refine held_take 2 38 ?_ rfl (by kernel_rfl) (by kernel_rfl) (by kernel_rfl) rfl (fun _ _ _ _ h => h) rfl ?_ (by assumption) ?_); rotate_left; (intro w hSw; (try dsimp only at hSw); go_simp; (try (with_reducible rfl))); simp only [Act.put, List.setIfInBounds_toArray, List.set_cons_zero, List.set_cons_succ])
            ((refine held_take 3 39 ?_ rfl (by kernel_rfl) (by kernel_rfl) (by kernel_rfl) rfl (fun _ _ _ _ h => h) rfl ?_ (by assumption) ?_); rotate_left; (intro w hSw; (try dsimp only at hSw); go_simp; (try (with_reducible rfl))); simp only [Act.put, List.setIfInBounds_toArray, List.set_cons_zero, List.set_cons_succ])
            ((refine held_take 4 40 ?_ rfl (by kernel_rfl) (by kernel_rfl) (by kernel_rfl) rfl (fun _ _ _ _ h => h) rfl ?_ (by assumption) ?_); rotate_left; (intro w hSw; (try dsimp only at hSw); go_simp; (try (with_reducible rfl))); simp only [Act.put, List.setIfInBounds_toArray, List.set_cons_zero, List.set_cons_succ])
            ((refine wpAnyH_ready (rs := [5]) (by kernel_rfl) (by simp) ?_); (refine AllReadyH.cons rfl (fun K hK => ?_) AllReadyH.nil); go_simp)
            refine (l31File_any X _ lo hi wr.drew ⟨L1, d1, rfl, HLd.out⟩ hwi HX.out).mono ?_
            rintro e5 w5 ⟨rfl, hb5⟩
            rw [HXF.out]
            go_simp
            refine hK.out _ _ ⟨fun i => (hb5.cell hgw).trans (f i), (hb5.cell hbw).trans e0, (hb5.cell hbw).trans e1, (hb5.cell hbw).trans e2, (hb5.cell hbw).trans e3, (hb5.cell hbw).trans y0⟩ (fun hHeld => ?_)
            clear hK K
            (try simp only [Act.put, List.setIfInBounds_toArray, List.set_cons_zero, List.set_cons_succ])
            ((refine held_take 6 42 ?_ rfl (by kernel_rfl) (by kernel_rfl) (by kernel_rfl) rfl (fun _ _ _ _ h => h) rfl ?_ (by assumption) ?_); rotate_left; (intro w hSw; (try dsimp only at hSw); go_simp; (try (with_reducible rfl))); simp only [Act.put, List.setIfInBounds_toArray, List.set_cons_zero, List.set_cons_succ])
            ((refine held_take 7 43 ?_ rfl (by kernel_rfl) (by kernel_rfl) (by kernel_rfl) rfl (fun _ _ _ _ h => h) rfl ?_ (by assumption) ?_); rotate_left; (intro w hSw; (try dsimp only at hSw); go_simp; (try (with_reducible rfl))); simp only [Act.put, List.setIfInBounds_toArray, List.set_cons_zero, List.set_cons_succ])
            ((refine held_take 8 44 ?_ rfl (by kernel_rfl) (by kernel_rfl) (by kernel_rfl) rfl (fun _ _ _ _ h => h) rfl ?_ (by assumption) ?_); rotate_left; (intro w hSw; (try dsimp only at hSw); go_simp; (try (with_reducible rfl))); simp only [Act.put, List.setIfInBounds_toArray, List.set_cons_zero, List.set_cons_succ])
            ((refine held_take 9 45 ?_ rfl (by kernel_rfl) (by kernel_rfl) (by kernel_rfl) rfl (fun _ _ _ _ h => h) rfl ?_ (by assumption) ?_); rotate_left; (intro w hSw; (try dsimp only at hSw); go_simp; (try (with_reducible rfl))); simp only [Act.put, List.setIfInBounds_toArray, List.set_cons_zero, List.set_cons_succ])
            ((refine held_take 10 46 ?_ rfl (by kernel_rfl) (by kernel_rfl) (by kernel_rfl) rfl (fun _ _ _ _ h => h) rfl ?_ (by assumption) ?_); rotate_left; (intro w hSw; (try dsimp only at hSw); go_simp; (try (with_reducible rfl))); simp only [Act.put, List.setIfInBounds_toArray, List.set_cons_zero, List.set_cons_succ])
            ((refine held_take 11 47 ?_ rfl (by kernel_rfl) (by kernel_rfl) (by kernel_rfl) rfl (fun _ _ _ _ h => h) rfl ?_ (by assumption) ?_); rotate_left; (intro w hSw; (try dsimp only at hSw); go_simp; (try (with_reducible rfl))); simp only [Act.put, List.setIfInBounds_toArray, List.set_cons_zero, List.set_cons_succ])
            ((refine held_take 12 48 ?_ rfl (by kernel_rfl) (by kernel_rfl) (by kernel_rfl) rfl (fun _ _ _ _ h => h) rfl ?_ (by assumption) ?_); rotate_left; (intro w hSw; (try dsimp only at hSw); go_simp; (try (with_reducible rfl))); simp only [Act.put, List.setIfInBounds_toArray, List.set_cons_zero, List.set_cons_succ])
            ((refine held_take 13 49 ?_ rfl (by kernel_rfl) (by kernel_rfl) (by kernel_rfl) rfl (fun _ _ _ _ h => h) rfl ?_ (by assumption) ?_); rotate_left; (intro w hSw; (try dsimp only at hSw); go_simp; (try (with_reducible rfl))); simp only [Act.put, List.setIfInBounds_toArray, List.set_cons_zero, List.set_cons_succ])
            ((refine held_take 14 50 ?_ rfl (by kernel_rfl) (by kernel_rfl) (by kernel_rfl) rfl (fun _ _ _ _ h => h) rfl ?_ (by assumption) ?_); rotate_left; (intro w hSw; (try dsimp only at hSw); go_simp; (try (with_reducible rfl))); simp only [Act.put, List.setIfInBounds_toArray, List.set_cons_zero, List.set_cons_succ])
            ((refine held_take 15 51 ?_ rfl (by kernel_rfl) (by kernel_rfl) (by kernel_rfl) rfl (fun _ _ _ _ h => h) rfl ?_ (by assumption) ?_); rotate_left; (intro w hSw; (try dsimp only at hSw); go_simp; (try (with_reducible rfl))); simp only [Act.put, List.setIfInBounds_toArray, List.set_cons_zero, List.set_cons_succ])
            ((refine held_take 16 52 ?_ rfl (by kernel_rfl) (by kernel_rfl) (by kernel_rfl) rfl (fun _ _ _ _ h => h) rfl ?_ (by assumption) ?_); rotate_left; (intro w hSw; (try dsimp only at hSw); go_simp; (try (with_reducible rfl))); simp only [Act.put, List.setIfInBounds_toArray, List.set_cons_zero, List.set_cons_succ])
            ((refine held_take 17 53 ?_ rfl (by kernel_rfl) (by kernel_rfl) (by kernel_rfl) rfl (fun _ _ _ _ h => h) rfl ?_ (by assumption) ?_); rotate_left; (intro w hSw; (try dsimp only at hSw); go_simp; (try (with_reducible rfl))); simp only [Act.put, List.setIfInBounds_toArray, List.set_cons_zero, List.set_cons_succ])
            ((refine held_take 18 54 ?_ rfl (by kernel_rfl) (by kernel_rfl) (by kernel_rfl) rfl (fun _ _ _ _ h => h) rfl ?_ (by assumption) ?_); rotate_left; (intro w hSw; (try dsimp only at hSw); go_simp; (try (with_reducible rfl))); simp only [Act.put, List.setIfInBounds_toArray, List.set_cons_zero, List.set_cons_succ])
            ((refine held_take 19 55 ?_ rfl (by kernel_rfl) (by kernel_rfl) (by kernel_rfl) rfl (fun _ _ _ _ h => h) rfl ?_ (by assumption) ?_); rotate_left; (intro w hSw; (try dsimp only at hSw); go_simp; (try (with_reducible rfl))); simp only [Act.put, List.setIfInBounds_toArray, List.set_cons_zero, List.set_cons_succ])
            ((refine held_take 20 56 ?_ rfl (by kernel_rfl) (by kernel_rfl) (by kernel_rfl) rfl (fun _ _ _ _ h => h) rfl ?_ (by assumption) ?_); rotate_left; (intro w hSw; (try dsimp only at hSw); go_simp; (try (with_reducible rfl))); simp only [Act.put, List.setIfInBounds_toArray, List.set_cons_zero, List.set_cons_succ])
            ((refine held_take 21 57 ?_ rfl (by kernel_rfl) (by kernel_rfl) (by kernel_rfl) rfl (fun _ _ _ _ h => h) rfl ?_ (by assumption) ?_); rotate_left; (intro w hSw; (try dsimp only at hSw); go_simp; (try (with_reducible rfl))); simp only [Act.put, List.setIfInBounds_toArray, List.set_cons_zero, List.set_cons_succ])
            ((refine held_take 22 58 ?_ rfl (by kernel_rfl) (by kernel_rfl) (by kernel_rfl) rfl (fun _ _ _ _ h => h) rfl ?_ (by assumption) ?_); rotate_left; (intro w hSw; (try dsimp only at hSw); go_simp; (try (with_reducible rfl))); simp only [Act.put, List.setIfInBounds_toArray, List.set_cons_zero, List.set_cons_succ])
            ((refine held_take 23 59 ?_ rfl (by kernel_rfl) (by kernel_rfl) (by kernel_rfl) rfl (fun _ _ _ _ h => h) rfl ?_ (by assumption) ?_); rotate_left; (intro w hSw; (try dsimp only at hSw); go_simp; (try (with_reducible rfl))); simp only [Act.put, List.setIfInBounds_toArray, List.set_cons_zero, List.set_cons_succ])
            ((refine held_take 24 60 ?_ rfl (by kernel_rfl) (by kernel_rfl) (by kernel_rfl) rfl (fun _ _ _ _ h => h) rfl ?_ (by assumption) ?_); rotate_left; (intro w hSw; (try dsimp only at hSw); go_simp; (try (with_reducible rfl))); simp only [Act.put, List.setIfInBounds_toArray, List.set_cons_zero, List.set_cons_succ])
            ((refine held_take 25 61 ?_ rfl (by kernel_rfl) (by kernel_rfl) (by kernel_rfl) rfl (fun _ _ _ _ h => h) rfl ?_ (by assumption) ?_); rotate_left; (intro w hSw; (try dsimp only at hSw); go_simp; (try (with_reducible rfl))); simp only [Act.put, List.setIfInBounds_toArray, List.set_cons_zero, List.set_cons_succ])
            ((refine held_take 26 62 ?_ rfl (by kernel_rfl) (by kernel_rfl) (by kernel_rfl) rfl (fun _ _ _ _ h => h) rfl ?_ (by assumption) ?_); rotate_left; (intro w hSw; (try dsimp only at hSw); go_simp; (try (with_reducible rfl))); simp only [Act.put, List.setIfInBounds_toArray, List.set_cons_zero, List.set_cons_succ])
            refine wpAnyH_done (by kernel_rfl) ?_ _
            have HB5 := Lib.hid (HBk.out.trans ((below_drewN' wr 1).mono hsz |>.trans (hb5.mono hsz))); have HB6 := Lib.hid (HRd.out.below hb5); clear hb5 j1 j4
          · go_wp2_with fail
            go_ret
            exact ⟨NO.out _ rfl (HA.out HO.out), HB6.out.1⟩
          · go_wp2_with fail
            go_roundw
            case rel => exact ⟨k + 1, by omega, by go_num, by rw [HS.out, HT.out, HO.out]; rfl, HB5.out⟩
            case measure => simp [intOf]; omega
    · have hkl : k = files.length := by omega
      have HKL := Lib.hid hkl; clear hkl
      have f := (HRk.out.get 0 rfl).cell
      go_wp2_with fail
      refine (l31Keys_any _ _ _ lo hi keys _ (HRk.out.get 1 rfl) hk (fun x hx => by have := HS3.out.2 x hx; omega)).mono ?_
      rintro e5 w5 ⟨rfl, rfl⟩
      go_wp2_with fail
      go_ret
      refine ⟨congrArg (fun b => Ending.returned (.bool b)) ?_, HRk.out.1⟩
      rw [HRES2.out, ← HKL.out, HT.out, Bool.and_true]

end Go.Proofs.Ytcfmgmbolnifgaa
