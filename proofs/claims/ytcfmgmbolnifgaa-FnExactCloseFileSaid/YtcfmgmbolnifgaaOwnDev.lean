/- The reference's l31Own walked (printed by a program first, then turned by hand). -/
import Derived.Test.YtcfmgmbolnifgaaCopyDev
import Derived.Deep.DeepCutAuto
namespace Go.Proofs.Ytcfmgmbolnifgaa
open Go.RowKit

theorem Stand.set {w0 w : World} {Fs : Facts} (h : Stand w0 Fs w) (a : Addr) (u : Value) (hd : ∀ f ∈ Fs, f.2.1 ≤ a.block ∨ a.block < f.1) (hp : w0.heap.size ≤ a.block) : Stand w0 Fs (w.setCell a u) :=
  ⟨h.1.setCell hp u, fun f hf => by
    obtain ⟨h1, h2, h3⟩ := h.2 f hf
    have := hd f hf
    exact ⟨h1, by simpa [World.setCell] using h2, h1 w _ (fun k hk1 hk2 => Below.heap_setCell w a u k (by omega)) h3⟩⟩
theorem Stand.set6 {w0 w : World} {Fs : Facts} (h : Stand w0 Fs w) (p : Nat) (u0 u1 u2 u3 u4 u5 : Value) (hd : ∀ f ∈ Fs, f.2.1 ≤ p ∨ p < f.1) (hp : w0.heap.size ≤ p) :
    Stand w0 Fs ((((((w.setCell ⟨p, 0, none⟩ u0).setCell ⟨p, 1, none⟩ u1).setCell ⟨p, 2, none⟩ u2).setCell ⟨p, 3, none⟩ u3).setCell ⟨p, 4, none⟩ u4).setCell ⟨p, 5, none⟩ u5) :=
  ((((((h.set ⟨p, 0, none⟩ u0 hd hp).set ⟨p, 1, none⟩ u1 hd hp).set ⟨p, 2, none⟩ u2 hd hp).set ⟨p, 3, none⟩ u3 hd hp).set ⟨p, 4, none⟩ u4 hd hp).set ⟨p, 5, none⟩ u5 hd hp)

theorem Loc.set6 {lo hi : Nat} {F : World → Prop} (L : Loc lo hi F) {w : World} (h : F w) (p : Nat) (u0 u1 u2 u3 u4 u5 : Value) (hp : hi ≤ p ∨ p < lo) :
    F ((((((w.setCell ⟨p, 0, none⟩ u0).setCell ⟨p, 1, none⟩ u1).setCell ⟨p, 2, none⟩ u2).setCell ⟨p, 3, none⟩ u3).setCell ⟨p, 4, none⟩ u4).setCell ⟨p, 5, none⟩ u5) :=
  L w _ (fun k h1 h2 => by
    have hk : k ≠ p := by omega
    rw [Below.heap_setCell _ ⟨p, 5, none⟩ u5 k hk, Below.heap_setCell _ ⟨p, 4, none⟩ u4 k hk, Below.heap_setCell _ ⟨p, 3, none⟩ u3 k hk, Below.heap_setCell _ ⟨p, 2, none⟩ u2 k hk, Below.heap_setCell _ ⟨p, 1, none⟩ u1 k hk, Below.heap_setCell _ ⟨p, 0, none⟩ u0 k hk]) h
theorem set6_size (w : World) (p : Nat) (u0 u1 u2 u3 u4 u5 : Value) :
    ((((((w.setCell ⟨p, 0, none⟩ u0).setCell ⟨p, 1, none⟩ u1).setCell ⟨p, 2, none⟩ u2).setCell ⟨p, 3, none⟩ u3).setCell ⟨p, 4, none⟩ u4).setCell ⟨p, 5, none⟩ u5).heap.size = w.heap.size := by simp [World.setCell]

theorem l31Show_none (s : Scr) (v : Value) (lo hi : Nat) (w : World) (hx : ScrR w lo hi v s) (hhi : hi ≤ w.heap.size) (hf : Fine s) :
    Calls Try.prog 76 #[v, .string ⟨#[]⟩] w fun e w' => ∃ v', e = .returned v' ∧ ScrR w' w.heap.size w'.heap.size v' s ∧ Below w.heap.size w w' :=
  (l31Show_any s ⟨#[]⟩ v lo hi w hx hhi hf (by decide)).mono fun _ _ h => h

/-- Devices that read as d, their files a row of the call's own behind block B. -/
def DevF (w : World) (lo hi : Nat) (v : Value) (d : Dev) : Prop :=
  ∃ A c F cf K ck B xs, v = .agg (devCs d A c F cf K ck) ∧ (lo ≤ B ∧ B ≤ hi) ∧ StrR w lo B A d.scr.rows.length d.scr.rows ∧ StrR w lo B K d.keys.length d.keys ∧ xs.map Fx.f = d.files ∧ OwnFx w B hi (.slice F d.files.length cf) xs
theorem DevF.reads {w : World} {lo hi : Nat} {v : Value} {d : Dev} (h : DevF w lo hi v d) : DevR w lo hi v d := by
  obtain ⟨A, c, F, cf, K, ck, B, xs, hv, ⟨h1, h2⟩, h3, h4, h5, h6⟩ := h
  have h7 := h6.fils.reads
  rw [h5] at h7
  exact ⟨A, c, F, cf, K, ck, hv, RowR.more h3 (Nat.le_refl _) h2, FilesR.more h7 h1 (Nat.le_refl _), RowR.more h4 (Nat.le_refl _) h2⟩
theorem loc_devF (lo hi : Nat) (v : Value) (d : Dev) : Loc lo hi (fun w => DevF w lo hi v d) := fun w w' hk ⟨A, c, F, cf, K, ck, B, xs, hv, ⟨h1, h2⟩, h3, h4, h5, h6⟩ =>
  ⟨A, c, F, cf, K, ck, B, xs, hv, ⟨h1, h2⟩, h3.keep (fun b q1 q2 => hk b q1 (by omega)), h4.keep (fun b q1 q2 => hk b q1 (by omega)), h5, loc_ownFx B hi _ xs w w' (fun b q1 q2 => hk b (by omega) q2) h6⟩

set_option maxHeartbeats 8000000 in
set_option maxRecDepth 100000 in
theorem l31Own_own (d : Dev) (v : Value) (lo hi : Nat) (w : World) (hx : DevR w lo hi v d) (hhi : hi ≤ w.heap.size) (hf : Fine d.scr) (hs : DevSmall d) :
    Calls Try.prog 97 #[v] w fun e w' => ∃ v', e = .returned v' ∧ DevF w' w.heap.size w'.heap.size v' d ∧ Below w.heap.size w w' := by
  obtain ⟨A, c, F, cf, J, cj, rfl, hA, hF, hJ⟩ := hx
  obtain ⟨hs1, hs2, hs3⟩ := hs
  have R0 := (((((Stand.nil w).add lo hi _ (loc_strR0 lo hi A _ d.scr.rows) hhi hA).add lo hi _ (loc_filesR lo hi F _ d.files) hhi hF).add lo hi _ (loc_strR0 lo hi J _ d.keys) hhi hJ).box 61 (devCs d A c F cf J cj)).box 61 #[.int .i64 0, .int .i64 0, .int .i64 0, .slice none 0 0, .slice none 0 0, .slice none 0 0]
  rw [heap_size_alloc1] at R0
  have HS1 := Lib.hid hs1; have HS2 := Lib.hid hs2; have HFI := Lib.hid hf
  have hk := hs3.1; have hfl := hs2.1
  have HD := Lib.hid R0.drew
  clear hA hF hJ R0 hs1 hs2 hs3 hf
  go_enter Try.func97, Try.ntmps97
  go_upto_region 1 with fail
  go_cut [3] from 6 to 14 (fun o wc => ∃ p B A1 c1 K1 ck1 a1 b1 a3 b3, o = .pointer (some ⟨p, 0, none⟩) ∧ CopyA w [(a3, b3, fun W => StrR W a3 b3 K1 d.keys.length d.keys), (a1, b1, fun W => StrR W a1 b1 A1 d.scr.rows.length d.scr.rows),
      (w.heap.size + 1, w.heap.size + 1 + 1, fun W => Blk W (w.heap.size + 1) 61 #[.int .i64 0, .int .i64 0, .int .i64 0, .slice none 0 0, .slice none 0 0, .slice none 0 0]), (w.heap.size, w.heap.size + 1, fun W => Blk W w.heap.size 61 (devCs d A c F cf J cj)), (lo, hi, fun w => FilesR w lo hi F d.files.length d.files)] p B d A1 c1 K1 ck1 0 wc ∧
      Hid (w.heap.size + 1 < a1 ∧ b1 ≤ B ∧ w.heap.size + 1 < a3 ∧ b3 ≤ B ∧ (b1 ≤ p ∨ p < a1) ∧ (b3 ≤ p ∨ p < a3) ∧ p < B ∧ w.heap.size + 1 < p))
  case first =>
    have eD : ((w.alloc (.cells (devCs d A c F cf J cj) 61)).alloc (.cells #[.int .i64 0, .int .i64 0, .int .i64 0, .slice none 0 0, .slice none 0 0, .slice none 0 0] 61)).drew.heap.size = w.heap.size + 1 + 1 := by show ((w.alloc _).alloc _).heap.size = _; simp
    generalize hDD : ((w.alloc (.cells (devCs d A c F cf J cj) 61)).alloc (.cells #[.int .i64 0, .int .i64 0, .int .i64 0, .slice none 0 0, .slice none 0 0, .slice none 0 0] 61)) = D0 at *
    clear hDD
    have hD2 : w.heap.size + 1 + 1 ≤ D0.heap.size := (show w.heap.size + 1 + 1 ≤ D0.drew.heap.size by omega)
    have HED := Lib.hid eD; clear eD
    refine wp_region_held_drew (S := (fun w' => ∀ i, w'.cell? ⟨w.heap.size, i, none⟩ = (devCs d A c F cf J cj)[i]?)) (by kernel_rfl) (HD.out.get 1 rfl).cell (fun hHeld => ?_)
    ((refine held_take 0 6 ?_ rfl (by kernel_rfl) (by kernel_rfl) (by kernel_rfl) rfl (fun _ _ _ _ h => h) rfl ?_ (by assumption) ?_); rotate_left; (intro w hSw; (try dsimp only at hSw); go_simp; (try (with_reducible rfl))); simp only [Act.put, List.setIfInBounds_toArray, List.set_cons_zero, List.set_cons_succ])
    ((refine held_take 1 7 ?_ rfl (by kernel_rfl) (by kernel_rfl) (by kernel_rfl) rfl (fun _ _ _ _ h => h) rfl ?_ (by assumption) ?_); rotate_left; (intro w hSw; (try dsimp only at hSw); go_simp; (try (with_reducible rfl))); simp only [Act.put, List.setIfInBounds_toArray, List.set_cons_zero, List.set_cons_succ])
    ((refine held_take 2 8 ?_ rfl (by kernel_rfl) (by kernel_rfl) (by kernel_rfl) rfl (fun _ _ _ _ h => h) rfl ?_ (by assumption) ?_); rotate_left; (intro w hSw; (try dsimp only at hSw); go_simp; (try (with_reducible rfl))); simp only [Act.put, List.setIfInBounds_toArray, List.set_cons_zero, List.set_cons_succ])
    ((refine held_take 3 9 ?_ rfl (by kernel_rfl) (by kernel_rfl) (by kernel_rfl) rfl (fun _ _ _ _ h => h) rfl ?_ (by assumption) ?_); rotate_left; (intro w hSw; (try dsimp only at hSw); go_simp; (try (with_reducible rfl))); simp only [Act.put, List.setIfInBounds_toArray, List.set_cons_zero, List.set_cons_succ])
    ((refine held_take 5 11 ?_ rfl (by kernel_rfl) (by kernel_rfl) (by kernel_rfl) rfl (fun _ _ _ _ h => h) rfl ?_ (by assumption) ?_); rotate_left; (intro w hSw; (try dsimp only at hSw); go_simp; (try (with_reducible rfl))); simp only [Act.put, List.setIfInBounds_toArray, List.set_cons_zero, List.set_cons_succ])
    ((refine held_take 6 12 ?_ rfl (by kernel_rfl) (by kernel_rfl) (by kernel_rfl) rfl (fun _ _ _ _ h => h) rfl ?_ (by assumption) ?_); rotate_left; (intro w hSw; (try dsimp only at hSw); go_simp; (try (with_reducible rfl))); simp only [Act.put, List.setIfInBounds_toArray, List.set_cons_zero, List.set_cons_succ])
    refine wpAnyH_ready (rs := [4, 9]) (by kernel_rfl) (by simp) ?_
    refine AllReadyH.cons rfl (fun K hK => ?_) (AllReadyH.cons rfl (fun K hK => ?_) AllReadyH.nil)
    · go_simp
      refine (l31Show_none d.scr _ lo hi _ ⟨A, c, rfl, HD.out.get 4 rfl⟩ (HD.out.le 4 rfl) HFI.out).mono ?_
      rintro x1 w1 ⟨v1, rfl, ⟨A1, c1, rfl, hA1⟩, hb1⟩
      go_simp
      have R1 := HD.out.below hb1
      have s1 : D0.heap.size ≤ w1.heap.size := hb1.size
      refine hK.out _ _ (R1.get 1 rfl).cell (fun hHeld => ?_)
      clear hK K
      (try simp only [Act.put, List.setIfInBounds_toArray, List.set_cons_zero, List.set_cons_succ])
      refine wpAnyH_ready (rs := [7, 9]) (by kernel_rfl) (by simp) ?_
      refine AllReadyH.cons rfl (fun K hK => ?_) (AllReadyH.cons rfl (fun K hK => ?_) AllReadyH.nil)
      · go_simp
        refine (l03Subs_any J d.keys.length cj lo hi d.keys _ (R1.get 2 rfl) (R1.le 2 rfl) hk).mono ?_
        rintro x2 w2 ⟨v2, rfl, ⟨⟨K1, ck1, rfl⟩, ho⟩, hb2⟩
        go_simp
        have R2 := R1.below hb2
        have s2 := hb2.size
        refine hK.out _ _ (R2.get 1 rfl).cell (fun hHeld => ?_)
        clear hK K
        (try simp only [Act.put, List.setIfInBounds_toArray, List.set_cons_zero, List.set_cons_succ])
        ((refine held_take 8 14 ?_ rfl (by kernel_rfl) (by kernel_rfl) (by kernel_rfl) rfl (fun _ _ _ _ h => h) rfl ?_ (by assumption) ?_); rotate_left; (intro w hSw; (try dsimp only at hSw); go_simp; (try (with_reducible rfl))); simp only [Act.put, List.setIfInBounds_toArray, List.set_cons_zero, List.set_cons_succ])
        ((refine wpAnyH_ready (rs := [9]) (by kernel_rfl) (by simp) ?_); (refine AllReadyH.cons rfl (fun K hK => ?_) AllReadyH.nil); go_simp)
        refine hK.out _ _ ((R2.alloc _).get 1 rfl).cell (fun hHeld => ?_)
        clear hK K
        (try simp only [Act.put, List.setIfInBounds_toArray, List.set_cons_zero, List.set_cons_succ])
        ((refine wpAnyH_ready (rs := [10]) (by kernel_rfl) (by simp) ?_); (refine AllReadyH.cons rfl (fun K hK => ?_) AllReadyH.nil); go_simp)
        refine hK.out _ _ ((R2.alloc _).get 1 rfl).cell (fun hHeld => ?_)
        clear hK K
        (try simp only [Act.put, List.setIfInBounds_toArray, List.set_cons_zero, List.set_cons_succ])
        refine wpAnyH_done (by kernel_rfl) ?_ _
        go_wp2_with fail
        go_meet
        refine ⟨w2.heap.size, w2.heap.size + 1, A1, c1, K1, ck1, D0.heap.size, w1.heap.size, w1.heap.size, w2.heap.size, rfl, ⟨[], none, 0, by simp, rfl, ?_, OwnFx.nil_ _ _ _, ?_, ?_⟩, ?_⟩
        · exact Blk.new _ _ _
        · refine Stand.alloc ?_ _
          exact ((R2.only [0, 1, 3]).add _ _ _ (loc_strR0 _ _ _ _ _) s2 (hA1.below hb2 (Nat.le_refl _))).add _ _ _ (loc_strR0 _ _ _ _ _) (Nat.le_refl _) (StrR.of_own ho)
        · simp
        · exact ⟨by omega, by omega, by omega, by omega, .inl s2, .inl (Nat.le_refl _), by omega, by omega⟩
      · go_simp
        have R2 := R1.box 61 #[.int .i64 0, .int .i64 0, .int .i64 0, .slice none 0 0, .slice none 0 0, .slice none 0 0]
        have e2 : (w1.alloc (.cells #[.int .i64 0, .int .i64 0, .int .i64 0, .slice none 0 0, .slice none 0 0, .slice none 0 0] 61)).heap.size = w1.heap.size + 1 := by simp
        refine hK.out _ _ (R2.get 2 rfl).cell (fun hHeld => ?_)
        clear hK K
        (try simp only [Act.put, List.setIfInBounds_toArray, List.set_cons_zero, List.set_cons_succ])
        ((refine wpAnyH_ready (rs := [7]) (by kernel_rfl) (by simp) ?_); (refine AllReadyH.cons rfl (fun K hK => ?_) AllReadyH.nil); go_simp)
        refine (l03Subs_any J d.keys.length cj lo hi d.keys _ (R2.get 3 rfl) (R2.le 3 rfl) hk).mono ?_
        rintro x3 w3 ⟨v3, rfl, ⟨⟨K1, ck1, rfl⟩, ho⟩, hb3⟩
        go_simp
        have R3 := R2.below hb3
        have s3 := hb3.size
        rw [e2] at s3 ho
        have hA3 := (hA1.below ((Below.refl _ _).alloc (Nat.le_refl _) (.cells #[.int .i64 0, .int .i64 0, .int .i64 0, .slice none 0 0, .slice none 0 0, .slice none 0 0] 61)) (Nat.le_refl _)).below hb3 (by rw [e2]; omega)
        clear e2
        refine hK.out _ _ (R3.get 2 rfl).cell (fun hHeld => ?_)
        clear hK K
        (try simp only [Act.put, List.setIfInBounds_toArray, List.set_cons_zero, List.set_cons_succ])
        ((refine held_take 8 14 ?_ rfl (by kernel_rfl) (by kernel_rfl) (by kernel_rfl) rfl (fun _ _ _ _ h => h) rfl ?_ (by assumption) ?_); rotate_left; (intro w hSw; (try dsimp only at hSw); go_simp; (try (with_reducible rfl))); simp only [Act.put, List.setIfInBounds_toArray, List.set_cons_zero, List.set_cons_succ])
        have B3 : Blk _ w1.heap.size 61 _ := R3.get 0 rfl
        have HBF := Lib.hid (show Blk _ w1.heap.size 61 (outCs d A1 c1 none 0 0 K1 ck1) from (((((B3.set_ 0 (.int .i64 d.use)).set_ 1 (.int .i64 d.scr.row)).set_ 2 (.int .i64 d.scr.col)).set_ 3 (.slice A1 d.scr.rows.length c1)).set_ 4 (.slice none 0 0)).set_ 5 (.slice K1 d.keys.length ck1))
        have hz3 := w3.heap.size
        have R5 := (((R3.only [1, 2, 4]).add (D0.heap.size) (w1.heap.size) _ (loc_strR0 (D0.heap.size) (w1.heap.size) A1 _ d.scr.rows) (by omega) (hA3)).add (w1.heap.size + 1) (w3.heap.size) _ (loc_strR0 (w1.heap.size + 1) (w3.heap.size) K1 _ d.keys) (Nat.le_refl _) (StrR.of_own ho))
        have hd5 : ∀ f ∈ [(((w1.heap.size + 1)), ((w3.heap.size)), fun W => StrR W ((w1.heap.size + 1)) ((w3.heap.size)) K1 d.keys.length d.keys), (((D0.heap.size)), ((w1.heap.size)), fun W => StrR W ((D0.heap.size)) ((w1.heap.size)) A1 d.scr.rows.length d.scr.rows),       (w.heap.size + 1, w.heap.size + 1 + 1, fun W => Blk W (w.heap.size + 1) 61 #[.int .i64 0, .int .i64 0, .int .i64 0, .slice none 0 0, .slice none 0 0, .slice none 0 0]), (w.heap.size, w.heap.size + 1, fun W => Blk W w.heap.size 61 (devCs d A c F cf J cj)), (lo, hi, fun w => FilesR w lo hi F d.files.length d.files)], f.2.1 ≤ w1.heap.size ∨ w1.heap.size < f.1 := by
          intro f hf
          simp only [List.mem_cons, List.not_mem_nil, or_false] at hf
          rcases hf with rfl | rfl | rfl | rfl | rfl
          all_goals (simp only; omega)
        have HS6 := Lib.hid (Stand.set6 R5 w1.heap.size (.int .i64 d.use) (.int .i64 d.scr.row) (.int .i64 d.scr.col) (.slice A1 d.scr.rows.length c1) (.slice none 0 0) (.slice K1 d.keys.length ck1) hd5 (by omega))
        have f3 := B3.cell; have z3 := B3.frozen
        clear B3 R5 hd5 hz3
        ((refine wpAnyH_ready (rs := [10]) (by kernel_rfl) (by simp) ?_); (refine AllReadyH.cons rfl (fun K hK => ?_) AllReadyH.nil); go_simp)
        refine hK.out _ _ (HS6.out.get 3 rfl).cell (fun hHeld => ?_)
        clear hK K f3 z3
        (try simp only [Act.put, List.setIfInBounds_toArray, List.set_cons_zero, List.set_cons_succ])
        refine wpAnyH_done (by kernel_rfl) ?_ _
        go_wp2_with fail
        go_meet
        refine ⟨w1.heap.size, w3.heap.size, A1, c1, K1, ck1, (D0.heap.size), (w1.heap.size), (w1.heap.size + 1), (w3.heap.size), rfl, ⟨[], none, 0, by simp, rfl, ?_, OwnFx.nil_ _ _ _, ?_, ?_⟩, ?_⟩
        · exact HBF.out
        · exact HS6.out
        · simp [World.setCell]
        · exact ⟨by omega, by omega, by omega, by omega, by omega, by omega, by omega, by omega⟩
    · go_simp
      have R1 := HD.out.box 61 #[.int .i64 0, .int .i64 0, .int .i64 0, .slice none 0 0, .slice none 0 0, .slice none 0 0]
      have e1 : (D0.drew.alloc (.cells #[.int .i64 0, .int .i64 0, .int .i64 0, .slice none 0 0, .slice none 0 0, .slice none 0 0] 61)).heap.size = D0.heap.size + 1 := by rw [World.heap_size_alloc']; rfl
      have R1' : Stand w _ (D0.alloc (.cells #[.int .i64 0, .int .i64 0, .int .i64 0, .slice none 0 0, .slice none 0 0, .slice none 0 0] 61)).drew := R1
      refine hK.out _ _ (R1.get 2 rfl).cell (fun hHeld => ?_)
      clear hK K
      (try simp only [Act.put, List.setIfInBounds_toArray, List.set_cons_zero, List.set_cons_succ])
      ((refine wpAnyH_ready (rs := [4]) (by kernel_rfl) (by simp) ?_); (refine AllReadyH.cons rfl (fun K hK => ?_) AllReadyH.nil); go_simp)
      refine (l31Show_none d.scr _ lo hi _ ⟨A, c, rfl, R1.get 5 rfl⟩ (R1.le 5 rfl) HFI.out).mono ?_
      rintro x2 w2 ⟨v2, rfl, ⟨A1, c1, rfl, hA1⟩, hb2⟩
      go_simp
      have R2 := R1.below hb2
      have s2 := hb2.size
      have hA2 : StrR w2 (D0.heap.size + 1) w2.heap.size A1 d.scr.rows.length d.scr.rows := by rw [← e1]; exact hA1
      have s2' : D0.heap.size + 1 ≤ w2.heap.size := by rw [← e1]; exact s2
      clear e1 s2
      refine hK.out _ _ (R2.get 2 rfl).cell (fun hHeld => ?_)
      clear hK K
      (try simp only [Act.put, List.setIfInBounds_toArray, List.set_cons_zero, List.set_cons_succ])
      ((refine wpAnyH_ready (rs := [7]) (by kernel_rfl) (by simp) ?_); (refine AllReadyH.cons rfl (fun K hK => ?_) AllReadyH.nil); go_simp)
      refine (l03Subs_any J d.keys.length cj lo hi d.keys _ (R2.get 3 rfl) (R2.le 3 rfl) hk).mono ?_
      rintro x3 w3 ⟨v3, rfl, ⟨⟨K1, ck1, rfl⟩, ho⟩, hb3⟩
      go_simp
      have R3 := R2.below hb3
      have s3 := hb3.size
      have hA3 := hA2.below hb3 (Nat.le_refl _)
      refine hK.out _ _ (R3.get 2 rfl).cell (fun hHeld => ?_)
      clear hK K
      (try simp only [Act.put, List.setIfInBounds_toArray, List.set_cons_zero, List.set_cons_succ])
      ((refine held_take 8 14 ?_ rfl (by kernel_rfl) (by kernel_rfl) (by kernel_rfl) rfl (fun _ _ _ _ h => h) rfl ?_ (by assumption) ?_); rotate_left; (intro w hSw; (try dsimp only at hSw); go_simp; (try (with_reducible rfl))); simp only [Act.put, List.setIfInBounds_toArray, List.set_cons_zero, List.set_cons_succ])
      have B3 : Blk _ D0.heap.size 61 _ := R3.get 0 rfl
      have HBF := Lib.hid (show Blk _ D0.heap.size 61 (outCs d A1 c1 none 0 0 K1 ck1) from (((((B3.set_ 0 (.int .i64 d.use)).set_ 1 (.int .i64 d.scr.row)).set_ 2 (.int .i64 d.scr.col)).set_ 3 (.slice A1 d.scr.rows.length c1)).set_ 4 (.slice none 0 0)).set_ 5 (.slice K1 d.keys.length ck1))
      have hz3 := w3.heap.size
      have R5 := (((R3.only [1, 2, 4]).add (D0.heap.size + 1) (w2.heap.size) _ (loc_strR0 (D0.heap.size + 1) (w2.heap.size) A1 _ d.scr.rows) (by omega) (hA3)).add (w2.heap.size) (w3.heap.size) _ (loc_strR0 (w2.heap.size) (w3.heap.size) K1 _ d.keys) (Nat.le_refl _) (StrR.of_own ho))
      have hd5 : ∀ f ∈ [(((w2.heap.size)), ((w3.heap.size)), fun W => StrR W ((w2.heap.size)) ((w3.heap.size)) K1 d.keys.length d.keys), (((D0.heap.size + 1)), ((w2.heap.size)), fun W => StrR W ((D0.heap.size + 1)) ((w2.heap.size)) A1 d.scr.rows.length d.scr.rows),       (w.heap.size + 1, w.heap.size + 1 + 1, fun W => Blk W (w.heap.size + 1) 61 #[.int .i64 0, .int .i64 0, .int .i64 0, .slice none 0 0, .slice none 0 0, .slice none 0 0]), (w.heap.size, w.heap.size + 1, fun W => Blk W w.heap.size 61 (devCs d A c F cf J cj)), (lo, hi, fun w => FilesR w lo hi F d.files.length d.files)], f.2.1 ≤ D0.heap.size ∨ D0.heap.size < f.1 := by
        intro f hf
        simp only [List.mem_cons, List.not_mem_nil, or_false] at hf
        rcases hf with rfl | rfl | rfl | rfl | rfl
        all_goals (simp only; omega)
      have HS6 := Lib.hid (Stand.set6 R5 D0.heap.size (.int .i64 d.use) (.int .i64 d.scr.row) (.int .i64 d.scr.col) (.slice A1 d.scr.rows.length c1) (.slice none 0 0) (.slice K1 d.keys.length ck1) hd5 (by omega))
      have f3 := B3.cell; have z3 := B3.frozen
      clear B3 R5 hd5 hz3
      ((refine wpAnyH_ready (rs := [10]) (by kernel_rfl) (by simp) ?_); (refine AllReadyH.cons rfl (fun K hK => ?_) AllReadyH.nil); go_simp)
      refine hK.out _ _ (HS6.out.get 3 rfl).cell (fun hHeld => ?_)
      clear hK K f3 z3
      (try simp only [Act.put, List.setIfInBounds_toArray, List.set_cons_zero, List.set_cons_succ])
      refine wpAnyH_done (by kernel_rfl) ?_ _
      go_wp2_with fail
      go_meet
      refine ⟨D0.heap.size, w3.heap.size, A1, c1, K1, ck1, (D0.heap.size + 1), (w2.heap.size), (w2.heap.size), (w3.heap.size), rfl, ⟨[], none, 0, by simp, rfl, ?_, OwnFx.nil_ _ _ _, ?_, ?_⟩, ?_⟩
      · exact HBF.out
      · exact HS6.out
      · simp [World.setCell]
      · exact ⟨by omega, by omega, by omega, by omega, by omega, by omega, by omega, by omega⟩
  case rest =>
    obtain ⟨p, B, A1, c1, K1, ck1, a1, b1, a3, b3, rfl, hC, HH⟩ := hcut
    have hcl : Clear w [(a3, b3, fun W => StrR W a3 b3 K1 d.keys.length d.keys), (a1, b1, fun W => StrR W a1 b1 A1 d.scr.rows.length d.scr.rows),
      (w.heap.size + 1, w.heap.size + 1 + 1, fun W => Blk W (w.heap.size + 1) 61 #[.int .i64 0, .int .i64 0, .int .i64 0, .slice none 0 0, .slice none 0 0, .slice none 0 0]), (w.heap.size, w.heap.size + 1, fun W => Blk W w.heap.size 61 (devCs d A c F cf J cj)), (lo, hi, fun w => FilesR w lo hi F d.files.length d.files)] p B := by
      obtain ⟨q1, q2, q3, q4, q5, q6, q7, q8⟩ := HH.out
      refine ⟨by omega, by omega, fun f hf => ?_⟩
      simp only [List.mem_cons, List.not_mem_nil, or_false] at hf
      rcases hf with rfl | rfl | rfl | rfl | rfl
      all_goals (simp only; omega)
    generalize hFs : [(a3, b3, fun W => StrR W a3 b3 K1 d.keys.length d.keys), (a1, b1, fun W => StrR W a1 b1 A1 d.scr.rows.length d.scr.rows),
      (w.heap.size + 1, w.heap.size + 1 + 1, fun W => Blk W (w.heap.size + 1) 61 #[.int .i64 0, .int .i64 0, .int .i64 0, .slice none 0 0, .slice none 0 0, .slice none 0 0]), (w.heap.size, w.heap.size + 1, fun W => Blk W w.heap.size 61 (devCs d A c F cf J cj)), (lo, hi, fun w => FilesR w lo hi F d.files.length d.files)] = Fs at *
    have HG := Lib.hid (fun W (h : Stand w Fs W) => (show (Blk W w.heap.size 61 (devCs d A c F cf J cj) ∧ FilesR W lo hi F d.files.length d.files) ∧ Blk W (w.heap.size + 1) 61 #[.int .i64 0, .int .i64 0, .int .i64 0, .slice none 0 0, .slice none 0 0, .slice none 0 0] by rw [← hFs] at h; exact ⟨⟨h.get 3 rfl, h.get 4 rfl⟩, h.get 2 rfl⟩))
    have HG2 := Lib.hid (fun W (h : Stand w Fs W) => (show StrR W a1 b1 A1 d.scr.rows.length d.scr.rows ∧ StrR W a3 b3 K1 d.keys.length d.keys by rw [← hFs] at h; exact ⟨h.get 1 rfl, h.get 0 rfl⟩))
    have HCL := Lib.hid hcl
    have HC := Lib.hid hC
    clear hFs hcl hC
    go_wp2_with fail
    go_loopw [4] (fun i wr => ∃ k : Nat, k ≤ d.files.length ∧ i = .int .i64 k ∧ CopyA w Fs p B d A1 c1 K1 ck1 k wr) (fun i _ => d.files.length - (intOf i).toNat)
    case atStart => exact ⟨0, Nat.zero_le _, rfl, HC.out⟩
    case round =>
      obtain ⟨k, hkl, rfl, hCk⟩ := hrel
      obtain ⟨xs, V, cv, hxs, hxl, hbp, hfx, hSt, hBw⟩ := hCk
      have f := (HG.out _ hSt).1.1.cell
      by_cases hlt : k < d.files.length
      · obtain ⟨b, off, rfl, hb1, hb2, L1, d1, e0, e1, e2, e3, hL⟩ := (HG.out _ hSt).1.2.at_ hlt
        have HX := Lib.hid (HS2.out.2 _ (getD_mem (d := filD) hlt))
        have HNX := Lib.hid (fun y w1 w4 fc cs q g cap z1 z2 z3 z4 z5 z6 => CopyA.next (w := w) (wr := wr) (w1 := w1) (w4 := w4) (fc := fc) (cs := cs) (q := q) (g := g) (cap := cap) (y := y) HCL.out hlt hxs hxl hbp hfx hSt hBw z1 z2 z3 z4 z5 z6)
        have HRD := Lib.hid (fun w1 fc v1 X q u cs z1 z2 => CopyA.ready (w1 := w1) (fc := fc) (v1 := v1) (X := X) hfx hBw z1 z2 q u cs)
        generalize d.files.getD k filD = X at *
        obtain ⟨i0, hi0, hz0, hz1, hz2⟩ := info_parts infoFile
        have HHI := Lib.hid (show hi ≤ wr.heap.size from Nat.le_trans hhi hSt.1.size)
        have HN := Lib.hid (((Stand.nil wr).add lo hi _ (loc_strR0 lo hi L1 _ X.lines) HHI.out hL).box 91 #[.string X.name, .slice L1 X.lines.length d1, .string X.part, .int .i64 X.at_])
        have HBP := Lib.hid hbp
        have hpw := hbp.lt
        have j0 : (0 : Int) ≤ (k : Int) := by omega
        have j1 : (k : Int) < (d.files.length : Int) := by omega
        have hBw' := hBw
        clear hbp hfx hSt hL hxs hBw
        go_wp2_with fail
        refine (l03Subs_any L1 X.lines.length d1 lo hi X.lines _ (HN.out.get 1 rfl) (HN.out.le 1 rfl) HX.out.2.2.1).mono ?_
        rintro x5 w5 ⟨v5, rfl, ⟨⟨L5, c5, rfl⟩, ho5⟩, hb5⟩
        have HN5 := Lib.hid (HN.out.below hb5)
        have B5 := HN5.out.get 0 rfl
        have f5 := B5.cell
        have z5 := B5.frozen
        have HB5 := Lib.hid (show Blk (w5.setCell ⟨wr.heap.size, 1, none⟩ (.slice L5 X.lines.length c5)) wr.heap.size 91 #[.string X.name, .slice L5 X.lines.length c5, .string X.part, .int .i64 X.at_] from B5.set_ 1 (.slice L5 X.lines.length c5))
        have HP5 := Lib.hid (((HBP.out.below ((Below.refl _ _).alloc (Nat.le_refl _) _) hpw).below hb5 (by simp; omega)).far (p := ⟨wr.heap.size, 1, none⟩) (by simp; omega) (.slice L5 X.lines.length c5))
        have HR5 := Lib.hid (HRD.out w5 _ _ X 0 (.slice L5 X.lines.length c5) #[.string X.name, .slice L5 X.lines.length c5, .string X.part, .int .i64 X.at_] hb5 ho5)
        have HN6 := Lib.hid (fun w4 g cap z4 z5 z6 => HNX.out ⟨X, L5, c5⟩ w5 w4 _ #[.string X.name, .slice L5 X.lines.length c5, .string X.part, .int .i64 X.at_] 0 g cap hb5 rfl ho5 z4 z5 z6)
        have s5 : wr.heap.size + 1 ≤ w5.heap.size := by have := hb5.size; simpa using this
        have hbd := HCL.out.2.1
        have HR8 := Lib.hid (show ((w5.setCell ⟨wr.heap.size, 1, none⟩ (.slice L5 X.lines.length c5)).alloc (.cells #[.string X.name, .slice L5 X.lines.length c5, .string X.part, .int .i64 X.at_] 91)).ownsRow B 91 4 (.slice V k cv) k (flat xs) by have := HR5.out.1.row; rw [hxl] at this; exact this)
        have HTOP := Lib.hid HR5.out.1.top
        have HLOW := Lib.hid (fun g hg => (HR5.out.1.row.lt g hg).1)
        have hZ : (w5.setCell ⟨wr.heap.size, 1, none⟩ (.slice L5 X.lines.length c5)).heap.size = w5.heap.size := by simp [World.setCell]
        have HNW := Lib.hid (show ∀ j u, (Fx.mk X L5 c5).cells[j]? = some u → ((w5.setCell ⟨wr.heap.size, 1, none⟩ (.slice L5 X.lines.length c5)).alloc (.cells #[.string X.name, .slice L5 X.lines.length c5, .string X.part, .int .i64 X.at_] 91)).cell? ((⟨w5.heap.size, 0, none⟩ : Addr).add j) = some u by
          have := World.news_of_block (Blk.new (w5.setCell ⟨wr.heap.size, 1, none⟩ (.slice L5 X.lines.length c5)) 91 #[.string X.name, .slice L5 X.lines.length c5, .string X.part, .int .i64 X.at_])
          rw [hZ] at this; exact this)
        have HON := Lib.hid (show ∀ u ∈ (Fx.mk X L5 c5).cells, u.oneCell' = true by intro u hu; simp only [Fx.cells, Fx.sl, List.mem_cons, List.not_mem_nil, or_false] at hu; rcases hu with rfl | rfl | rfl | rfl <;> rfl)
        have HBS := Lib.hid (show B ≤ ((w5.setCell ⟨wr.heap.size, 1, none⟩ (.slice L5 X.lines.length c5)).alloc (.cells #[.string X.name, .slice L5 X.lines.length c5, .string X.part, .int .i64 X.at_] 91)).heap.size by rw [World.heap_size_alloc', hZ]; omega)
        have hby : (k + 1) * 64 ≤ 140737488355328 := by omega
        have H63 := Lib.hid (show k + 1 ≤ maxLen by unfold maxLen; omega)
        have BPA := HP5.out.alloc (.cells #[.string X.name, .slice L5 X.lines.length c5, .string X.part, .int .i64 X.at_] 91)
        have HBP6 := Lib.hid (fun w6 (hg : ((w5.setCell ⟨wr.heap.size, 1, none⟩ (.slice L5 X.lines.length c5)).alloc (.cells #[.string X.name, .slice L5 X.lines.length c5, .string X.part, .int .i64 X.at_] 91)).grownBy w6 (Value.slice V k cv).ownBlock) => (show Blk w6 p 61 (outCs d A1 c1 V k cv K1 ck1) from (hg.block _ BPA.lt (fun e => by have := HLOW.out _ e.symm; omega)).trans BPA))
        have fp := HP5.out.cell
        have fb := HB5.out.cell
        clear ho5 hb5 B5 HN HN5 e0 e1 e2 e3 HRD HNX HBP hZ BPA HR5 f
        go_wp2_with (at_builtin; refine wpList_append_lies _ (by rfl) (.tmp 32) (.tmp 34) 59 (by rfl) B 91 i0 _ 4 64 Try.underlying59 hi0 hz0 hz1 hz2 rfl (by decide) (.slice V k cv) k (flat xs) (by rfl) HR8.out ⟨w5.heap.size, 0, none⟩ 1 1 (Fx.mk X L5 c5).cells (by rfl) rfl HNW.out HON.out (by omega) H63.out hby HBS.out _ rfl ?_; intro g cap w6 hr6 hg6 hat6 hlt6; have f6 := (HBP6.out w6 hg6).cell; have z6 := (HBP6.out w6 hg6).frozen; have HFIN := Lib.hid (HN6.out w6 g cap hr6 hg6 hat6); clear hr6 hg6 hat6 fp fb f5 z5)
        go_roundw
        case rel => exact ⟨k + 1, by omega, by go_num, HFIN.out⟩
        case measure => simp [intOf]; omega
      · obtain rfl : k = d.files.length := by omega
        have fp := hbp.cell
        have f1 := (HG.out _ hSt).2.cell
        have z1 := (HG.out _ hSt).2.frozen
        have HF := Lib.hid hfx; have HST := Lib.hid hSt; have HXS := Lib.hid hxs
        have hszz := hSt.1.size
        clear hbp hfx hSt hxs
        go_wp2_with fail
        obtain ⟨q1, q2, q3, q4, q5, q6, q7, q8⟩ := HH.out
        have hb1 : b1 ≤ wr.heap.size := by omega
        refine bodyPost_ret (v := .agg (devCs d A1 c1 V cv K1 ck1)) (by simp [results, Try.results97, go_sem, f1]) rfl ⟨_, rfl, ?_, ?_⟩
        · have hHX := HXS.out
          rw [List.take_length] at hHX
          have g1 := Loc.set6 (loc_strR0 a1 b1 A1 _ d.scr.rows) (HG2.out _ HST.out).1 (w.heap.size + 1) (.int .i64 d.use) (.int .i64 d.scr.row) (.int .i64 d.scr.col) (.slice A1 d.scr.rows.length c1) (.slice V d.files.length cv) (.slice K1 d.keys.length ck1) (.inr (by omega))
          have g2 := Loc.set6 (loc_ownFx B wr.heap.size _ xs) HF.out (w.heap.size + 1) (.int .i64 d.use) (.int .i64 d.scr.row) (.int .i64 d.scr.col) (.slice A1 d.scr.rows.length c1) (.slice V d.files.length cv) (.slice K1 d.keys.length ck1) (.inr (by omega))
          have g3 := Loc.set6 (loc_strR0 a3 b3 K1 _ d.keys) (HG2.out _ HST.out).2 (w.heap.size + 1) (.int .i64 d.use) (.int .i64 d.scr.row) (.int .i64 d.scr.col) (.slice A1 d.scr.rows.length c1) (.slice V d.files.length cv) (.slice K1 d.keys.length ck1) (.inr (by omega))
          have hsz6 := set6_size wr (w.heap.size + 1) (.int .i64 d.use) (.int .i64 d.scr.row) (.int .i64 d.scr.col) (.slice A1 d.scr.rows.length c1) (.slice V d.files.length cv) (.slice K1 d.keys.length ck1)
          refine ⟨A1, c1, V, cv, K1, ck1, B, xs, rfl, ⟨?_, ?_⟩, RowR.more g1 (by omega) (by omega), RowR.more g3 (by omega) (by omega), hHX, OwnFx.more g2 (Nat.le_of_eq hsz6.symm)⟩
          · omega
          · exact Nat.le_trans (show B ≤ wr.heap.size by omega) (Nat.le_of_eq hsz6.symm)
        · iterate 6 (with_reducible refine Below.setCell ?_ (by simp) _)
          exact HST.out.1

theorem l31Own_any (d : Dev) (v : Value) (lo hi : Nat) (w : World) (hx : DevR w lo hi v d) (hhi : hi ≤ w.heap.size) (hf : Fine d.scr) (hs : DevSmall d) :
    Calls Try.prog 97 #[v] w fun e w' => ∃ v', e = .returned v' ∧ DevR w' w.heap.size w'.heap.size v' d ∧ Below w.heap.size w w' :=
  (l31Own_own d v lo hi w hx hhi hf hs).mono fun _ _ ⟨v', h1, h2, h3⟩ => ⟨v', h1, h2.reads, h3⟩

end Go.Proofs.Ytcfmgmbolnifgaa

