/- copyDevices of the program walked. -/
import Derived.Test.YtmeholhmadeehaaGreatDoorJoinFLAk
import Derived.Deep.DeepCutAuto
import Derived.Test.YtmeholhmadeehaaGreatDoorJoinFLAl
namespace Go.Proofs.YtmeholhmadeehaaGreatDoor
open Go.RowKit

/-- Devices of the call's own but for the block p of the devices themselves. -/
def OwnDevP (w : World) (lo hi p : Nat) (d : Dev) (A : Option Addr) (c : Nat) (V : Option Addr) (cv : Nat) (K : Option Addr) (ck : Nat) : Prop :=
  ∃ a1 b1 a2 b2 a3 b3, (lo ≤ a1 ∧ b1 ≤ hi ∧ lo ≤ a2 ∧ b2 ≤ hi ∧ lo ≤ a3 ∧ b3 ≤ hi) ∧ (apart2 a1 b1 a2 b2 ∧ apart2 a1 b1 a3 b3 ∧ apart2 a2 b2 a3 b3) ∧ ((b1 ≤ p ∨ p < a1) ∧ (b2 ≤ p ∨ p < a2) ∧ (b3 ≤ p ∨ p < a3)) ∧
    (w.ownsRow a1 9 1 (.slice A d.scr.rows.length c) d.scr.rows.length (d.scr.rows.map Value.string) ∧ ∀ g, rowOf A d.scr.rows.length c = some g → g < b1) ∧
    (∃ xs, xs.map Fx.f = d.files ∧ OwnFx w a2 b2 (.slice V d.files.length cv) xs) ∧
    (w.ownsRow a3 9 1 (.slice K d.keys.length ck) d.keys.length (d.keys.map Value.string) ∧ ∀ g, rowOf K d.keys.length ck = some g → g < b3)

/-- The same, told more closely: the files lie behind the block p, rows and keys ahead of it. -/
def OwnDevQ (w : World) (lo hi p : Nat) (d : Dev) (A : Option Addr) (c : Nat) (V : Option Addr) (cv : Nat) (K : Option Addr) (ck : Nat) : Prop :=
  ∃ a1 b1 a3 b3 B, (lo ≤ a1 ∧ b1 ≤ p ∧ lo ≤ a3 ∧ b3 ≤ p ∧ p < B ∧ B ≤ hi) ∧ apart2 a1 b1 a3 b3 ∧
    (w.ownsRow a1 9 1 (.slice A d.scr.rows.length c) d.scr.rows.length (d.scr.rows.map Value.string) ∧ ∀ g, rowOf A d.scr.rows.length c = some g → g < b1) ∧
    (∃ xs, xs.map Fx.f = d.files ∧ OwnFx w B hi (.slice V d.files.length cv) xs) ∧
    (w.ownsRow a3 9 1 (.slice K d.keys.length ck) d.keys.length (d.keys.map Value.string) ∧ ∀ g, rowOf K d.keys.length ck = some g → g < b3)

theorem cloneStr_any (A : Option Addr) (n c lo hi : Nat) (xs : List ByteArray) (w : World) (ha : StrR w lo hi A n xs) (hn : n ≤ 1048576) :
    Calls Tryz.prog 49 #[.slice A n c] w fun e w' => ∃ A' c', e = .returned (.slice A' n c') ∧ w'.ownsRow w.heap.size 9 1 (.slice A' n c') n (xs.map Value.string) ∧ Below w.heap.size w w' := by
  refine (cloneStrs_any A n c lo hi xs w ha hn).mono fun e w' ⟨v, he, ⟨⟨A', c', hv⟩, ho⟩, hb⟩ => ?_
  have := ha.1
  subst this
  subst hv
  exact ⟨A', c', he, ho, hb⟩

set_option maxHeartbeats 8000000 in
set_option maxRecDepth 100000 in
theorem copyDevices_own (d : Dev) (v : Value) (lo hi : Nat) (w : World) (hx : DevR w lo hi v d) (hhi : hi ≤ w.heap.size) (h0 : 0 < d.scr.rows.length) (hs : DevSmall d) :
    Calls Tryz.prog 33 #[v] w fun e w' => ∃ p A c V cv K ck, e = .returned (.pointer (some ⟨p, 0, none⟩)) ∧ w.heap.size ≤ p ∧ p < w'.heap.size ∧ Blk w' p 32 (devCs d A c V cv K ck) ∧ OwnDevQ w' w.heap.size w'.heap.size p d A c V cv K ck ∧ Below w.heap.size w w' := by
  obtain ⟨A, c, F, cf, J, cj, rfl, hA, hF, hJ⟩ := hx
  obtain ⟨hs1, hs2, hs3⟩ := hs
  have R0 := ((((Stand.nil w).add lo hi _ (loc_strR0 lo hi A _ d.scr.rows) hhi hA).add lo hi _ (loc_filesR lo hi F _ d.files) hhi hF).add lo hi _ (loc_strR0 lo hi J _ d.keys) hhi hJ).box 32 (devCs d A c F cf J cj)
  have HR0 := Lib.hid R0; have HS1 := Lib.hid hs1; have HS2 := Lib.hid hs2
  have hk := hs3.1; have hfl := hs2.1
  have HD := Lib.hid R0.drew
  clear hA hF hJ R0 hs1 hs2 hs3
  go_enter Tryz.func33, Tryz.ntmps33
  go_upto_region 1 with fail
  go_cut [3] from 6 to 17 (fun o wc => ∃ p B A1 c1 K1 ck1 a1 b1 a3 b3, o = .pointer (some ⟨p, 0, none⟩) ∧ CopyA w [(a3, b3, fun W => W.ownsRow a3 9 1 (.slice K1 d.keys.length ck1) d.keys.length (d.keys.map Value.string)), (a1, b1, fun W => W.ownsRow a1 9 1 (.slice A1 d.scr.rows.length c1) d.scr.rows.length (d.scr.rows.map Value.string)),
      (w.heap.size, w.heap.size + 1, fun W => Blk W w.heap.size 32 (devCs d A c F cf J cj)), (lo, hi, fun w => FilesR w lo hi F d.files.length d.files)] p B d A1 c1 K1 ck1 0 wc ∧
      Hid (w.heap.size < a1 ∧ b1 ≤ p ∧ w.heap.size < a3 ∧ b3 ≤ p ∧ apart2 a1 b1 a3 b3 ∧ B = p + 1 ∧ w.heap.size < p ∧ (∀ g, rowOf A1 d.scr.rows.length c1 = some g → g < b1) ∧ (∀ g, rowOf K1 d.keys.length ck1 = some g → g < b3)))
  case first =>
    refine wp_region_held_drew (S := (fun w' => ∀ i, w'.cell? ⟨w.heap.size, i, none⟩ = (devCs d A c F cf J cj)[i]?)) (by kernel_rfl) (HD.out.get 0 rfl).cell (fun hHeld => ?_)
    ((refine held_take 0 6 ?_ rfl (by kernel_rfl) (by kernel_rfl) (by kernel_rfl) rfl (fun _ _ _ _ h => h) rfl ?_ (by assumption) ?_); rotate_left; (intro w hSw; (try dsimp only at hSw); go_simp; (try (with_reducible rfl))); simp only [Act.put, List.setIfInBounds_toArray, List.set_cons_zero, List.set_cons_succ])
    ((refine held_take 1 7 ?_ rfl (by kernel_rfl) (by kernel_rfl) (by kernel_rfl) rfl (fun _ _ _ _ h => h) rfl ?_ (by assumption) ?_); rotate_left; (intro w hSw; (try dsimp only at hSw); go_simp; (try (with_reducible rfl))); simp only [Act.put, List.setIfInBounds_toArray, List.set_cons_zero, List.set_cons_succ])
    ((refine held_take 2 8 ?_ rfl (by kernel_rfl) (by kernel_rfl) (by kernel_rfl) rfl (fun _ _ _ _ h => h) rfl ?_ (by assumption) ?_); rotate_left; (intro w hSw; (try dsimp only at hSw); go_simp; (try (with_reducible rfl))); simp only [Act.put, List.setIfInBounds_toArray, List.set_cons_zero, List.set_cons_succ])
    ((refine held_take 3 9 ?_ rfl (by kernel_rfl) (by kernel_rfl) (by kernel_rfl) rfl (fun _ _ _ _ h => h) rfl ?_ (by assumption) ?_); rotate_left; (intro w hSw; (try dsimp only at hSw); go_simp; (try (with_reducible rfl))); simp only [Act.put, List.setIfInBounds_toArray, List.set_cons_zero, List.set_cons_succ])
    ((refine held_take 7 13 ?_ rfl (by kernel_rfl) (by kernel_rfl) (by kernel_rfl) rfl (fun _ _ _ _ h => h) rfl ?_ (by assumption) ?_); rotate_left; (intro w hSw; (try dsimp only at hSw); go_simp; (try (with_reducible rfl))); simp only [Act.put, List.setIfInBounds_toArray, List.set_cons_zero, List.set_cons_succ])
    ((refine held_take 8 14 ?_ rfl (by kernel_rfl) (by kernel_rfl) (by kernel_rfl) rfl (fun _ _ _ _ h => h) rfl ?_ (by assumption) ?_); rotate_left; (intro w hSw; (try dsimp only at hSw); go_simp; (try (with_reducible rfl))); simp only [Act.put, List.setIfInBounds_toArray, List.set_cons_zero, List.set_cons_succ])
    ((refine wpAnyH_ready (rs := [4]) (by kernel_rfl) (by simp) ?_); (refine AllReadyH.cons rfl (fun K hK => ?_) AllReadyH.nil); go_simp)
    refine (copyScreen_any d.scr _ lo hi _ ⟨A, c, rfl, HD.out.get 3 rfl⟩ (HD.out.le 3 rfl) h0 HS1.out.1).mono ?_
    rintro x1 w1 ⟨rfl, ⟨b1, cap1, hP⟩, hb1⟩
    go_simp
    have R1 := HD.out.below hb1
    have s1 := hb1.size
    refine hK.out _ _ (R1.get 0 rfl).cell (fun hHeld => ?_)
    clear hK K
    (try simp only [Act.put, List.setIfInBounds_toArray, List.set_cons_zero, List.set_cons_succ])
    have e0 : (w.alloc (.cells (devCs d A c F cf J cj) 32)).drew.heap.size = w.heap.size + 1 := by show (w.alloc _).heap.size = _; simp
    rw [e0] at hP s1
    refine wpAnyH_mono (S' := (fun w' => (∀ i, w'.cell? ⟨w.heap.size, i, none⟩ = (devCs d A c F cf J cj)[i]?) ∧ (∀ i, w'.cell? ⟨w.heap.size + 1, i, none⟩ = (#[.int .i64 d.scr.row, .int .i64 d.scr.col, .slice (some ⟨b1, 0, none⟩) d.scr.rows.length cap1] : Array Value)[i]?))) (fun _ h => h.1) _ _ _ _ ?_
    have hHeld2 : _ ∧ _ := ⟨(R1.get 0 rfl).cell, hP.2.2.1.cell⟩
    ((refine held_take 5 11 ?_ rfl (by kernel_rfl) (by kernel_rfl) (by kernel_rfl) rfl (fun _ _ _ _ h => h) rfl ?_ (by assumption) ?_); rotate_left; (intro w hSw; (try dsimp only at hSw); go_simp; (try (with_reducible rfl))); simp only [Act.put, List.setIfInBounds_toArray, List.set_cons_zero, List.set_cons_succ])
    ((refine held_take 6 12 ?_ rfl (by kernel_rfl) (by kernel_rfl) (by kernel_rfl) rfl (fun _ _ _ _ h => h) rfl ?_ (by assumption) ?_); rotate_left; (intro w hSw; (try dsimp only at hSw); go_simp; (try (with_reducible rfl))); simp only [Act.put, List.setIfInBounds_toArray, List.set_cons_zero, List.set_cons_succ])
    ((refine wpAnyH_ready (rs := [9]) (by kernel_rfl) (by simp) ?_); (refine AllReadyH.cons rfl (fun K hK => ?_) AllReadyH.nil); go_simp)
    refine (cloneStr_any J d.keys.length cj lo hi d.keys _ (R1.get 1 rfl) hk).mono ?_
    rintro x2 w2 ⟨K1, ck1, rfl, ho, hb2⟩
    go_simp
    have R2 := R1.below hb2
    have s2 := hb2.size
    have hP2 := hP.below hb2
    refine hK.out _ _ ⟨(R2.get 0 rfl).cell, hP2.2.2.1.cell⟩ (fun hHeld => ?_)
    clear hK K
    (try simp only [Act.put, List.setIfInBounds_toArray, List.set_cons_zero, List.set_cons_succ])
    ((refine held_take 10 16 ?_ rfl (by kernel_rfl) (by kernel_rfl) (by kernel_rfl) rfl (fun _ _ _ _ h => h) rfl ?_ (by assumption) ?_); rotate_left; (intro w hSw; (try dsimp only at hSw); go_simp; (try (with_reducible rfl))); simp only [Act.put, List.setIfInBounds_toArray, List.set_cons_zero, List.set_cons_succ])
    ((refine wpAnyH_ready (rs := [11]) (by kernel_rfl) (by simp) ?_); (refine AllReadyH.cons rfl (fun K hK => ?_) AllReadyH.nil); go_simp)
    refine hK.out _ _ ⟨((R2.alloc _).get 0 rfl).cell, (hP2.2.2.1.alloc _).cell⟩ (fun hHeld => ?_)
    clear hK K
    (try simp only [Act.put, List.setIfInBounds_toArray, List.set_cons_zero, List.set_cons_succ])
    ((refine held_take 12 3 ?_ rfl (by kernel_rfl) (by kernel_rfl) (by kernel_rfl) rfl (fun _ _ _ _ h => h) rfl ?_ (by assumption) ?_); rotate_left; (intro w hSw; (try dsimp only at hSw); go_simp; (try (with_reducible rfl))); simp only [Act.put, List.setIfInBounds_toArray, List.set_cons_zero, List.set_cons_succ])
    refine wpAnyH_done (by kernel_rfl) ?_ _
    go_wp2_with fail
    go_meet
    have hO1 := hP2.2.2.2.to_own
    have hO1b := hP.2.2.2.to_own
    refine ⟨w2.heap.size, w2.heap.size + 1, some ⟨b1, 0, none⟩, cap1, K1, ck1, w.heap.size + 1, w1.heap.size, w1.heap.size, w2.heap.size, rfl, ?_, ?_⟩
    · refine ⟨[], none, 0, by simp, rfl, Blk.new _ _ _, OwnFx.nil_ _ _ _, ?_, by simp⟩
      refine Stand.alloc ?_ _
      exact ((R2.only [0, 2]).add _ _ _ (loc_own _ _ _ _ _ _ _ (fun g hg => (hO1b.lt g hg).2)) s2 hO1).add _ _ _ (loc_own _ _ _ _ _ _ _ (fun g hg => (ho.lt g hg).2)) (Nat.le_refl _) ho
    · exact ⟨by omega, s2, by omega, Nat.le_refl _, .inl (Nat.le_refl _), rfl, by omega, fun g hg => (hO1b.lt g hg).2, fun g hg => (ho.lt g hg).2⟩
  case rest =>
    obtain ⟨p, B, A1, c1, K1, ck1, a1, b1, a3, b3, rfl, hC, HH⟩ := hcut
    have hcl : Clear w [(a3, b3, fun W => W.ownsRow a3 9 1 (.slice K1 d.keys.length ck1) d.keys.length (d.keys.map Value.string)), (a1, b1, fun W => W.ownsRow a1 9 1 (.slice A1 d.scr.rows.length c1) d.scr.rows.length (d.scr.rows.map Value.string)),
      (w.heap.size, w.heap.size + 1, fun W => Blk W w.heap.size 32 (devCs d A c F cf J cj)), (lo, hi, fun w => FilesR w lo hi F d.files.length d.files)] p B := by
      obtain ⟨q1, q2, q3, q4, q5, q6, q7, _⟩ := HH.out
      refine ⟨by omega, by omega, fun f hf => ?_⟩
      simp only [List.mem_cons, List.not_mem_nil, or_false] at hf
      rcases hf with rfl | rfl | rfl | rfl
      all_goals (simp only; omega)
    generalize hFs : [(a3, b3, fun W => W.ownsRow a3 9 1 (.slice K1 d.keys.length ck1) d.keys.length (d.keys.map Value.string)), (a1, b1, fun W => W.ownsRow a1 9 1 (.slice A1 d.scr.rows.length c1) d.scr.rows.length (d.scr.rows.map Value.string)),
      (w.heap.size, w.heap.size + 1, fun W => Blk W w.heap.size 32 (devCs d A c F cf J cj)), (lo, hi, fun w => FilesR w lo hi F d.files.length d.files)] = Fs at *
    have HG := Lib.hid (fun W (h : Stand w Fs W) => (show Blk W w.heap.size 32 (devCs d A c F cf J cj) ∧ FilesR W lo hi F d.files.length d.files by rw [← hFs] at h; exact ⟨h.get 2 rfl, h.get 3 rfl⟩))
    have HG2 := Lib.hid (fun W (h : Stand w Fs W) => (show W.ownsRow a1 9 1 (.slice A1 d.scr.rows.length c1) d.scr.rows.length (d.scr.rows.map Value.string) ∧ W.ownsRow a3 9 1 (.slice K1 d.keys.length ck1) d.keys.length (d.keys.map Value.string) by rw [← hFs] at h; exact ⟨h.get 1 rfl, h.get 0 rfl⟩))
    have HCL := Lib.hid hcl
    have HC := Lib.hid hC
    obtain ⟨xs0, V0, cv0, _, _, hbp, _, hSt, _⟩ := hC
    have f := (HG.out _ hSt).1.cell
    clear hFs hcl hbp hSt
    go_wp2_with fail
    clear f
    go_loopw [21] (fun i wr => ∃ k : Nat, k ≤ d.files.length ∧ i = .int .i64 k ∧ CopyA w Fs p B d A1 c1 K1 ck1 k wr) (fun i _ => d.files.length - (intOf i).toNat)
    case atStart => exact ⟨0, Nat.zero_le _, rfl, HC.out⟩
    case round =>
      obtain ⟨k, hkl, rfl, hCk⟩ := hrel
      by_cases hlt : k < d.files.length
      · obtain ⟨xs, V, cv, hxs, hxl, hbp, hfx, hSt, hBw⟩ := hCk
        obtain ⟨b, off, rfl, hb1, hb2, L1, d1, e0, e1, e2, e3, hL⟩ := (HG.out _ hSt).2.at_ hlt
        have HX := Lib.hid (HS2.out.2 _ (getD_mem (d := filD) hlt))
        have HNX := Lib.hid (fun y w1 w4 fc cs q g cap z1 z2 z3 z4 z5 z6 => CopyA.next (w := w) (wr := wr) (w1 := w1) (w4 := w4) (fc := fc) (cs := cs) (q := q) (g := g) (cap := cap) (y := y) HCL.out hlt hxs hxl hbp hfx hSt hBw z1 z2 z3 z4 z5 z6)
        have HRD := Lib.hid (fun w1 fc v1 X q u cs z1 z2 => CopyA.ready (w1 := w1) (fc := fc) (v1 := v1) (X := X) hfx hBw z1 z2 q u cs)
        generalize d.files.getD k filD = X at *
        obtain ⟨i0, hi0, hz0, hz1, hz2⟩ := info_parts infoFile
        have HHI := Lib.hid (show hi ≤ wr.heap.size from Nat.le_trans hhi hSt.1.size)
        have HN := Lib.hid (((Stand.nil wr).add lo hi _ (loc_strR0 lo hi L1 _ X.lines) HHI.out hL).box 55 #[.string X.name, .slice L1 X.lines.length d1, .string X.part, .int .i64 X.at_])
        have HBP := Lib.hid hbp
        have hpw := hbp.lt
        have j0 : (0 : Int) ≤ (k : Int) := by omega
        have j1 : (k : Int) < (d.files.length : Int) := by omega
        have hBw' := hBw
        clear hbp hfx hSt hL hxs hBw
        go_wp2_with fail
        refine (cloneStr_any L1 X.lines.length d1 lo hi X.lines _ (HN.out.get 1 rfl) HX.out.2.2.1).mono ?_
        rintro x5 w5 ⟨L5, c5, rfl, ho5, hb5⟩
        have HN5 := Lib.hid (HN.out.below hb5)
        have B5 := HN5.out.get 0 rfl
        have f5 := B5.cell
        have z5 := B5.frozen
        have HB5 := Lib.hid (show Blk (w5.setCell ⟨wr.heap.size, 1, none⟩ (.slice L5 X.lines.length c5)) wr.heap.size 55 #[.string X.name, .slice L5 X.lines.length c5, .string X.part, .int .i64 X.at_] from B5.set_ 1 (.slice L5 X.lines.length c5))
        have HP5 := Lib.hid (((HBP.out.below ((Below.refl _ _).alloc (Nat.le_refl _) _) hpw).below hb5 (by simp; omega)).far (p := ⟨wr.heap.size, 1, none⟩) (by simp; omega) (.slice L5 X.lines.length c5))
        have HR5 := Lib.hid (HRD.out w5 _ _ X 1 (.slice L5 X.lines.length c5) #[.string X.name, .slice L5 X.lines.length c5, .string X.part, .int .i64 X.at_] hb5 ho5)
        have HN6 := Lib.hid (fun w4 g cap z4 z5 z6 => HNX.out ⟨X, L5, c5⟩ w5 w4 _ #[.string X.name, .slice L5 X.lines.length c5, .string X.part, .int .i64 X.at_] 1 g cap hb5 rfl ho5 z4 z5 z6)
        have s5 : wr.heap.size + 1 ≤ w5.heap.size := by have := hb5.size; simpa using this
        have hbd := HCL.out.2.1
        clear ho5 hb5 B5 HN HN5 e0 e1 e2 e3 HRD HNX HBP
        go_wp2_with fail
        clear f5 z5
        have hZ : (w5.setCell ⟨wr.heap.size, 1, none⟩ (.slice L5 X.lines.length c5)).heap.size = w5.heap.size := by simp [World.setCell]
        obtain ⟨W5, hW5⟩ : ∃ W5, W5 = w5.setCell ⟨wr.heap.size, 1, none⟩ (.slice L5 X.lines.length c5) := ⟨_, rfl⟩
        rw [← hW5] at hZ HB5 HP5 ⊢
        have e5 : (w5.setCell ⟨wr.heap.size, 1, none⟩ (.slice L5 X.lines.length c5)).drewN 1 = W5.drew := by rw [hW5]; rfl
        have HR6 := HR5.out
        have HN7 := Lib.hid (fun (w4 : World) (g cap : Nat) (z4 : w4.ownsRow B 55 4 (.slice (some ⟨g, 0, none⟩) (k + 1) cap) (k + 1) (flat xs ++ (Fx.mk X L5 c5).cells)) (z5 : (W5.drew.alloc (.cells #[.string X.name, .slice L5 X.lines.length c5, .string X.part, .int .i64 X.at_] 55)).grownBy w4 (Value.slice V k cv).ownBlock) (z6 : (Value.slice V k cv).ownBlock = some g ∨ g = (W5.drew.alloc (.cells #[.string X.name, .slice L5 X.lines.length c5, .string X.part, .int .i64 X.at_] 55)).heap.size) => HN6.out w4 g cap z4 (by rw [hW5] at z5; exact z5) (by rw [hW5] at z6; exact z6))
        have HR7 := Lib.hid (show OwnFx (W5.drew.alloc (.cells #[.string X.name, .slice L5 X.lines.length c5, .string X.part, .int .i64 X.at_] 55)) B wr.heap.size (.slice V k cv) xs by rw [hW5]; exact HR6.1)
        have HR8 := Lib.hid (show (W5.drew.alloc (.cells #[.string X.name, .slice L5 X.lines.length c5, .string X.part, .int .i64 X.at_] 55)).ownsRow B 55 4 (.slice V k cv) k (flat xs) by have := HR7.out.row; rw [hxl] at this; exact this)
        have HNW := Lib.hid (show ∀ j u, (Fx.mk X L5 c5).cells[j]? = some u → (W5.drew.alloc (.cells #[.string X.name, .slice L5 X.lines.length c5, .string X.part, .int .i64 X.at_] 55)).cell? ((⟨W5.drew.heap.size, 0, none⟩ : Addr).add j) = some u from World.news_of_block (Blk.new W5.drew 55 #[.string X.name, .slice L5 X.lines.length c5, .string X.part, .int .i64 X.at_]))
        have HON := Lib.hid (show ∀ u ∈ (Fx.mk X L5 c5).cells, u.oneCell' = true by intro u hu; simp only [Fx.cells, Fx.sl, List.mem_cons, List.not_mem_nil, or_false] at hu; rcases hu with rfl | rfl | rfl | rfl <;> rfl)
        have HBS := Lib.hid (show B ≤ (W5.drew.alloc (.cells #[.string X.name, .slice L5 X.lines.length c5, .string X.part, .int .i64 X.at_] 55)).heap.size by rw [World.heap_size_alloc']; show B ≤ W5.heap.size + 1; omega)
        have h63 : k + 1 ≤ maxLen := by unfold maxLen; omega
        have hby : (k + 1) * 64 ≤ 140737488355328 := by omega
        have BTA := (HB5.out.drewN 1).alloc (.cells #[.string X.name, .slice L5 X.lines.length c5, .string X.part, .int .i64 X.at_] 55)
        have BPA := (HP5.out.drewN 1).alloc (.cells #[.string X.name, .slice L5 X.lines.length c5, .string X.part, .int .i64 X.at_] 55)
        have HBT6 := Lib.hid (fun w6 (hg : (W5.drew.alloc (.cells #[.string X.name, .slice L5 X.lines.length c5, .string X.part, .int .i64 X.at_] 55)).grownBy w6 (Value.slice V k cv).ownBlock) => (show Blk w6 wr.heap.size 55 #[.string X.name, .slice L5 X.lines.length c5, .string X.part, .int .i64 X.at_] from (hg.block _ BTA.lt (fun e => by have := HR7.out.top _ e.symm; omega)).trans BTA))
        have HBP6 := Lib.hid (fun w6 (hg : (W5.drew.alloc (.cells #[.string X.name, .slice L5 X.lines.length c5, .string X.part, .int .i64 X.at_] 55)).grownBy w6 (Value.slice V k cv).ownBlock) => (show Blk w6 p 32 (outCs d A1 c1 V k cv K1 ck1) from (hg.block _ BPA.lt (fun e => by have := (HR7.out.row.lt _ e.symm).1; omega)).trans BPA))
        have H63 := Lib.hid h63
        have hZ1 : w5.heap.size ≤ W5.heap.size := by omega
        clear hW5 e5 HR6 HR5 HN6 BTA BPA h63 hZ
        refine wp_region_held_drew (S := fun w' => ∀ i, w'.cell? ⟨wr.heap.size, i, none⟩ = (#[.string X.name, .slice L5 X.lines.length c5, .string X.part, .int .i64 X.at_] : Array Value)[i]?) (by kernel_rfl) (HB5.out.drewN 1).cell (fun hHeld => ?_)
        ((refine held_take 0 29 ?_ rfl (by kernel_rfl) (by kernel_rfl) (by kernel_rfl) rfl (fun _ _ _ _ h => h) rfl ?_ (by assumption) ?_); rotate_left; (intro w hSw; (try dsimp only at hSw); go_simp; (try (with_reducible rfl))); simp only [Act.put, List.setIfInBounds_toArray, List.set_cons_zero, List.set_cons_succ])
        ((refine held_take 1 30 ?_ rfl (by kernel_rfl) (by kernel_rfl) (by kernel_rfl) rfl (fun _ _ _ _ h => h) rfl ?_ (by assumption) ?_); rotate_left; (intro w hSw; (try dsimp only at hSw); go_simp; (try (with_reducible rfl))); simp only [Act.put, List.setIfInBounds_toArray, List.set_cons_zero, List.set_cons_succ])
        ((refine held_take 2 31 ?_ rfl (by kernel_rfl) (by kernel_rfl) (by kernel_rfl) rfl (fun _ _ _ _ h => h) rfl ?_ (by assumption) ?_); rotate_left; (intro w hSw; (try dsimp only at hSw); go_simp; (try (with_reducible rfl))); simp only [Act.put, List.setIfInBounds_toArray, List.set_cons_zero, List.set_cons_succ])
        ((refine held_take 3 32 ?_ rfl (by kernel_rfl) (by kernel_rfl) (by kernel_rfl) rfl (fun _ _ _ _ h => h) rfl ?_ (by assumption) ?_); rotate_left; (intro w hSw; (try dsimp only at hSw); go_simp; (try (with_reducible rfl))); simp only [Act.put, List.setIfInBounds_toArray, List.set_cons_zero, List.set_cons_succ])
        ((refine held_take 5 34 ?_ rfl (by kernel_rfl) (by kernel_rfl) (by kernel_rfl) rfl (fun _ _ _ _ h => h) rfl ?_ (by assumption) ?_); rotate_left; (intro w hSw; (try dsimp only at hSw); go_simp; (try (with_reducible rfl))); simp only [Act.put, List.setIfInBounds_toArray, List.set_cons_zero, List.set_cons_succ])
        refine wpAnyH_ready (rs := [4, 6]) (by kernel_rfl) (by simp) ?_
        refine AllReadyH.cons rfl (fun K hK => ?_) (AllReadyH.cons rfl (fun K hK => ?_) AllReadyH.nil)
        · have fp := HP5.out.cell
          go_simp
          refine hK.out _ _ (HB5.out.drewN 1).cell (fun hHeld => ?_)
          clear hK K fp
          (try simp only [Act.put, List.setIfInBounds_toArray, List.set_cons_zero, List.set_cons_succ])
          ((refine wpAnyH_ready (rs := [6]) (by kernel_rfl) (by simp) ?_); (refine AllReadyH.cons rfl (fun K hK => ?_) AllReadyH.nil); go_simp)
          refine hK.out _ _ ((HB5.out.drewN 1).alloc _).cell (fun hHeld => ?_)
          clear hK K
          (try simp only [Act.put, List.setIfInBounds_toArray, List.set_cons_zero, List.set_cons_succ])
          refine wpAnyH_ready (rs := [7]) (by kernel_rfl) (by simp) ?_
          refine AllReadyH.cons rfl (fun K hK => ?_) AllReadyH.nil
          refine step_append_lies _ (by rfl) (.tmp 33) (.tmp 35) 30 (by rfl) B 55 i0 _ 4 64 Tryz.underlying30 hi0 hz0 hz1 hz2 rfl (by decide) (.slice V k cv) k (flat xs) (by rfl) HR8.out ⟨W5.drew.heap.size, 0, none⟩ 1 1 (Fx.mk X L5 c5).cells (by rfl) rfl HNW.out HON.out (by omega) H63.out hby HBS.out _ rfl ?_
          intro g cap w6 hr6 hg6 hat6 hlt6
          refine hK.out _ _ (HBT6.out w6 hg6).cell (fun hHeld => ?_)
          clear hK K
          (try simp only [Act.put, List.setIfInBounds_toArray, List.set_cons_zero, List.set_cons_succ])
          ((refine held_take 8 37 ?_ rfl (by kernel_rfl) (by kernel_rfl) (by kernel_rfl) rfl (fun _ _ _ _ h => h) rfl ?_ (by assumption) ?_); rotate_left; (intro w hSw; (try dsimp only at hSw); go_simp; (try (with_reducible rfl))); simp only [Act.put, List.setIfInBounds_toArray, List.set_cons_zero, List.set_cons_succ])
          ((refine held_take 9 38 ?_ rfl (by kernel_rfl) (by kernel_rfl) (by kernel_rfl) rfl (fun _ _ _ _ h => h) rfl ?_ (by assumption) ?_); rotate_left; (intro w hSw; (try dsimp only at hSw); go_simp; (try (with_reducible rfl))); simp only [Act.put, List.setIfInBounds_toArray, List.set_cons_zero, List.set_cons_succ])
          have f6 := (HBP6.out w6 hg6).cell
          have z6 := (HBP6.out w6 hg6).frozen
          have HFIN := Lib.hid (HN7.out w6 g cap hr6 hg6 hat6)
          have HBT := Lib.hid ((HBT6.out w6 hg6).far (p := ⟨p, 4, none⟩) (by simp; omega) (.slice (some ⟨g, 0, none⟩) (k + 1) cap))
          clear hr6 hg6 hat6
          ((refine wpAnyH_ready (rs := [10]) (by kernel_rfl) (by simp) ?_); (refine AllReadyH.cons rfl (fun K hK => ?_) AllReadyH.nil); go_simp)
          refine hK.out _ _ HBT.out.cell (fun hHeld => ?_)
          clear hK K f6 z6
          (try simp only [Act.put, List.setIfInBounds_toArray, List.set_cons_zero, List.set_cons_succ])
          refine wpAnyH_done (by kernel_rfl) ?_ _
          go_wp2_with fail
          go_roundw
          case rel => exact ⟨k + 1, by omega, by go_num, HFIN.out⟩
          case measure => simp [intOf]; omega
        · go_simp
          refine hK.out _ _ ((HB5.out.drewN 1).alloc _).cell (fun hHeld => ?_)
          clear hK K
          (try simp only [Act.put, List.setIfInBounds_toArray, List.set_cons_zero, List.set_cons_succ])
          have fp : ∀ i, (W5.alloc (.cells #[.string X.name, .slice L5 X.lines.length c5, .string X.part, .int .i64 X.at_] 55)).cell? ⟨p, i, none⟩ = (outCs d A1 c1 V k cv K1 ck1)[i]? := (HP5.out.alloc (.cells #[.string X.name, .slice L5 X.lines.length c5, .string X.part, .int .i64 X.at_] 55)).cell
          have fp2 : ∀ i, (W5.drew.alloc (.cells #[.string X.name, .slice L5 X.lines.length c5, .string X.part, .int .i64 X.at_] 55)).cell? ⟨p, i, none⟩ = (outCs d A1 c1 V k cv K1 ck1)[i]? := fp
          ((refine wpAnyH_ready (rs := [4]) (by kernel_rfl) (by simp) ?_); (refine AllReadyH.cons rfl (fun K hK => ?_) AllReadyH.nil); go_simp)
          refine hK.out _ _ ((HB5.out.drewN 1).alloc _).cell (fun hHeld => ?_)
          clear hK K
          clear fp
          (try clear fp2)
          (try simp only [Act.put, List.setIfInBounds_toArray, List.set_cons_zero, List.set_cons_succ])
          refine wpAnyH_ready (rs := [7]) (by kernel_rfl) (by simp) ?_
          refine AllReadyH.cons rfl (fun K hK => ?_) AllReadyH.nil
          refine step_append_lies _ (by rfl) (.tmp 33) (.tmp 35) 30 (by rfl) B 55 i0 _ 4 64 Tryz.underlying30 hi0 hz0 hz1 hz2 rfl (by decide) (.slice V k cv) k (flat xs) (by rfl) HR8.out ⟨W5.drew.heap.size, 0, none⟩ 1 1 (Fx.mk X L5 c5).cells (by rfl) rfl HNW.out HON.out (by omega) H63.out hby HBS.out _ rfl ?_
          intro g cap w6 hr6 hg6 hat6 hlt6
          refine hK.out _ _ (HBT6.out w6 hg6).cell (fun hHeld => ?_)
          clear hK K
          (try simp only [Act.put, List.setIfInBounds_toArray, List.set_cons_zero, List.set_cons_succ])
          ((refine held_take 8 37 ?_ rfl (by kernel_rfl) (by kernel_rfl) (by kernel_rfl) rfl (fun _ _ _ _ h => h) rfl ?_ (by assumption) ?_); rotate_left; (intro w hSw; (try dsimp only at hSw); go_simp; (try (with_reducible rfl))); simp only [Act.put, List.setIfInBounds_toArray, List.set_cons_zero, List.set_cons_succ])
          ((refine held_take 9 38 ?_ rfl (by kernel_rfl) (by kernel_rfl) (by kernel_rfl) rfl (fun _ _ _ _ h => h) rfl ?_ (by assumption) ?_); rotate_left; (intro w hSw; (try dsimp only at hSw); go_simp; (try (with_reducible rfl))); simp only [Act.put, List.setIfInBounds_toArray, List.set_cons_zero, List.set_cons_succ])
          have f6 := (HBP6.out w6 hg6).cell
          have z6 := (HBP6.out w6 hg6).frozen
          have HFIN := Lib.hid (HN7.out w6 g cap hr6 hg6 hat6)
          have HBT := Lib.hid ((HBT6.out w6 hg6).far (p := ⟨p, 4, none⟩) (by simp; omega) (.slice (some ⟨g, 0, none⟩) (k + 1) cap))
          clear hr6 hg6 hat6
          ((refine wpAnyH_ready (rs := [10]) (by kernel_rfl) (by simp) ?_); (refine AllReadyH.cons rfl (fun K hK => ?_) AllReadyH.nil); go_simp)
          refine hK.out _ _ HBT.out.cell (fun hHeld => ?_)
          clear hK K f6 z6
          (try simp only [Act.put, List.setIfInBounds_toArray, List.set_cons_zero, List.set_cons_succ])
          refine wpAnyH_done (by kernel_rfl) ?_ _
          go_wp2_with fail
          go_roundw
          case rel => exact ⟨k + 1, by omega, by go_num, HFIN.out⟩
          case measure => simp [intOf]; omega
      · obtain rfl : k = d.files.length := by omega
        have HCk := Lib.hid hCk; clear hCk
        go_wp2_with fail
        go_ret
        obtain ⟨xs, V, cv, hxs, hxl, hbp, hfx, hSt, hBw⟩ := HCk.out
        obtain ⟨q1, q2, q3, q4, q5, q6, q7, q8, q9⟩ := HH.out
        rw [List.take_length] at hxs
        have hpl := hbp.lt
        exact ⟨p, A1, c1, V, cv, K1, ck1, rfl, by omega, hpl, hbp, ⟨a1, b1, a3, b3, B, ⟨by omega, by omega, by omega, by omega, by omega, by omega⟩, q5, ⟨(HG2.out _ hSt).1, q8⟩, ⟨xs, hxs, hfx⟩, (HG2.out _ hSt).2, q9⟩, hSt.1⟩

theorem copyDevices_any (d : Dev) (v : Value) (lo hi : Nat) (w : World) (hx : DevR w lo hi v d) (hhi : hi ≤ w.heap.size) (h0 : 0 < d.scr.rows.length) (hs : DevSmall d) :
    Calls Tryz.prog 33 #[v] w fun e w' => ∃ p A c V cv K ck, e = .returned (.pointer (some ⟨p, 0, none⟩)) ∧ w.heap.size ≤ p ∧ p < w'.heap.size ∧ Blk w' p 32 (devCs d A c V cv K ck) ∧ OwnDevP w' w.heap.size w'.heap.size p d A c V cv K ck ∧ Below w.heap.size w w' :=
  (copyDevices_own d v lo hi w hx hhi h0 hs).mono fun _ w' ⟨p, A, c, V, cv, K, ck, h1, h2, h3, h4, ⟨a1, b1, a3, b3, B, ⟨q1, q2, q3, q4, q5, q6⟩, q7, q8, q9, q10⟩, h6⟩ =>
    ⟨p, A, c, V, cv, K, ck, h1, h2, h3, h4, ⟨a1, b1, B, w'.heap.size, a3, b3, ⟨q1, by omega, by omega, Nat.le_refl _, q3, by omega⟩, ⟨.inl (by omega), q7, .inr (by omega)⟩, ⟨.inl q2, .inr q5, .inl q4⟩, q8, q9, q10⟩, h6⟩

end Go.Proofs.YtmeholhmadeehaaGreatDoor

/- The program's DevicesOk walked (printed by wip/gen_devok.py). -/
namespace Go.Proofs.YtmeholhmadeehaaGreatDoor
open Go.RowKit

set_option maxHeartbeats 8000000 in
set_option maxRecDepth 100000 in
theorem implDevicesOk_any (d : Dev) (v : Value) (lo hi : Nat) (w : World) (hx : DevR w lo hi v d) (hhi : hi ≤ w.heap.size) (hs : DevSmall d) :
    Calls Tryz.prog 31 #[v] w fun e w' => e = .returned (.bool (devB d)) ∧ Below w.heap.size w w' := by
  obtain ⟨A, c, F, cf, K, ck, rfl, hA, hF, hK⟩ := hx
  have HRES := Lib.hid (show devB d = (inB d.use 0 d.files.length && scrB d.scr && decide (d.files.length ≤ 3) && decide (d.keys.length ≤ 20) && keysB d.keys && filsTo d.files d.files.length) from rfl)
  have HAT := Lib.hid (fun k hk h => devB_false_at (d := d) (k := k) hk h)
  generalize devB d = RES at *
  obtain ⟨use, scr, files, keys⟩ := d
  obtain ⟨hs1, hs2, hs3⟩ := hs
  dsimp only at *
  have R0 := ((((Stand.nil w).add lo hi _ (loc_strR0 lo hi A _ scr.rows) hhi hA).add lo hi _ (loc_filesR lo hi F _ files) hhi hF).add lo hi _ (loc_strR0 lo hi K _ keys) hhi hK).box 32 (devCs ⟨use, scr, files, keys⟩ A c F cf K ck)
  have HR0 := Lib.hid R0; have HS1 := Lib.hid hs1; have HS2 := Lib.hid hs2; have HS3 := Lib.hid hs3
  have hk := hs3.1; have hfl := hs2.1
  clear hA hF hK R0 hs1 hs2 hs3
  have no : ∀ b : Bool, b = false → RES = b → Ending.returned (.bool false) = Ending.returned (.bool RES) := fun b h1 h2 => by rw [h2, h1]
  have NO := Lib.hid no; clear no
  have HI := Lib.hid (fun W => within_any use 0 files.length W)
  cases hI : inB use 0 files.length <;> rw [hI] at HI HRES <;> clear hI
  case false =>
    go_enter Tryz.func31, Tryz.ntmps31
    go_wp2_with fail
    refine wp_region_held_drew (S := (fun w' => ∀ i, w'.cell? ⟨w.heap.size, i, none⟩ = (devCs ⟨use, scr, files, keys⟩ A c F cf K ck)[i]?)) (by kernel_rfl) (HR0.out.drew.get 0 rfl).cell (fun hHeld => ?_)
    ((refine held_take 0 5 ?_ rfl (by kernel_rfl) (by kernel_rfl) (by kernel_rfl) rfl (fun _ _ _ _ h => h) rfl ?_ (by assumption) ?_); rotate_left; (intro w hSw; (try dsimp only at hSw); go_simp; (try (with_reducible rfl))); simp only [Act.put, List.setIfInBounds_toArray, List.set_cons_zero, List.set_cons_succ])
    ((refine held_take 1 6 ?_ rfl (by kernel_rfl) (by kernel_rfl) (by kernel_rfl) rfl (fun _ _ _ _ h => h) rfl ?_ (by assumption) ?_); rotate_left; (intro w hSw; (try dsimp only at hSw); go_simp; (try (with_reducible rfl))); simp only [Act.put, List.setIfInBounds_toArray, List.set_cons_zero, List.set_cons_succ])
    ((refine held_take 2 7 ?_ rfl (by kernel_rfl) (by kernel_rfl) (by kernel_rfl) rfl (fun _ _ _ _ h => h) rfl ?_ (by assumption) ?_); rotate_left; (intro w hSw; (try dsimp only at hSw); go_simp; (try (with_reducible rfl))); simp only [Act.put, List.setIfInBounds_toArray, List.set_cons_zero, List.set_cons_succ])
    ((refine held_take 3 8 ?_ rfl (by kernel_rfl) (by kernel_rfl) (by kernel_rfl) rfl (fun _ _ _ _ h => h) rfl ?_ (by assumption) ?_); rotate_left; (intro w hSw; (try dsimp only at hSw); go_simp; (try (with_reducible rfl))); simp only [Act.put, List.setIfInBounds_toArray, List.set_cons_zero, List.set_cons_succ])
    ((refine wpAnyH_ready (rs := [4]) (by kernel_rfl) (by simp) ?_); (refine AllReadyH.cons rfl (fun K hK => ?_) AllReadyH.nil); go_simp)
    refine (countFil_any F files.length cf _).mono ?_
    rintro e1 w1 ⟨rfl, rfl⟩
    go_simp
    refine hK.out _ _ (HR0.out.drew.get 0 rfl).cell (fun hHeld => ?_)
    clear hK K
    (try simp only [Act.put, List.setIfInBounds_toArray, List.set_cons_zero, List.set_cons_succ])
    ((refine wpAnyH_ready (rs := [5]) (by kernel_rfl) (by simp) ?_); (refine AllReadyH.cons rfl (fun K hK => ?_) AllReadyH.nil); go_simp)
    refine (HI.out _).mono ?_
    rintro e1 w1 ⟨rfl, rfl⟩
    go_simp
    refine hK.out _ _ (HR0.out.drew.get 0 rfl).cell (fun hHeld => ?_)
    clear hK K
    (try simp only [Act.put, List.setIfInBounds_toArray, List.set_cons_zero, List.set_cons_succ])
    ((refine held_take 6 11 ?_ rfl (by kernel_rfl) (by kernel_rfl) (by kernel_rfl) rfl (fun _ _ _ _ h => h) rfl ?_ (by assumption) ?_); rotate_left; (intro w hSw; (try dsimp only at hSw); go_simp; (try (with_reducible rfl))); simp only [Act.put, List.setIfInBounds_toArray, List.set_cons_zero, List.set_cons_succ])
    ((refine held_take 7 12 ?_ rfl (by kernel_rfl) (by kernel_rfl) (by kernel_rfl) rfl (fun _ _ _ _ h => h) rfl ?_ (by assumption) ?_); rotate_left; (intro w hSw; (try dsimp only at hSw); go_simp; (try (with_reducible rfl))); simp only [Act.put, List.setIfInBounds_toArray, List.set_cons_zero, List.set_cons_succ])
    ((refine held_skip 8 13 rfl (by kernel_rfl) (by kernel_rfl) (by kernel_rfl) rfl (fun _ _ _ _ h => h) rfl (by assumption) ?_); simp only [Act.put, List.setIfInBounds_toArray, List.set_cons_zero, List.set_cons_succ])
    ((refine held_skip 9 14 rfl (by kernel_rfl) (by kernel_rfl) (by kernel_rfl) rfl (fun _ _ _ _ h => h) rfl (by assumption) ?_); simp only [Act.put, List.setIfInBounds_toArray, List.set_cons_zero, List.set_cons_succ])
    ((refine held_skip 10 15 rfl (by kernel_rfl) (by kernel_rfl) (by kernel_rfl) rfl (fun _ _ _ _ h => h) rfl (by assumption) ?_); simp only [Act.put, List.setIfInBounds_toArray, List.set_cons_zero, List.set_cons_succ])
    ((refine held_skip 11 16 rfl (by kernel_rfl) (by kernel_rfl) (by kernel_rfl) rfl (fun _ _ _ _ h => h) rfl (by assumption) ?_); simp only [Act.put, List.setIfInBounds_toArray, List.set_cons_zero, List.set_cons_succ])
    ((refine held_take 12 17 ?_ rfl (by kernel_rfl) (by kernel_rfl) (by kernel_rfl) rfl (fun _ _ _ _ h => h) rfl ?_ (by assumption) ?_); rotate_left; (intro w hSw; (try dsimp only at hSw); go_simp; (try (with_reducible rfl))); simp only [Act.put, List.setIfInBounds_toArray, List.set_cons_zero, List.set_cons_succ])
    ((refine held_take 13 18 ?_ rfl (by kernel_rfl) (by kernel_rfl) (by kernel_rfl) rfl (fun _ _ _ _ h => h) rfl ?_ (by assumption) ?_); rotate_left; (intro w hSw; (try dsimp only at hSw); go_simp; (try (with_reducible rfl))); simp only [Act.put, List.setIfInBounds_toArray, List.set_cons_zero, List.set_cons_succ])
    ((refine held_skip 14 19 rfl (by kernel_rfl) (by kernel_rfl) (by kernel_rfl) rfl (fun _ _ _ _ h => h) rfl (by assumption) ?_); simp only [Act.put, List.setIfInBounds_toArray, List.set_cons_zero, List.set_cons_succ])
    ((refine held_skip 15 20 rfl (by kernel_rfl) (by kernel_rfl) (by kernel_rfl) rfl (fun _ _ _ _ h => h) rfl (by assumption) ?_); simp only [Act.put, List.setIfInBounds_toArray, List.set_cons_zero, List.set_cons_succ])
    ((refine held_skip 16 21 rfl (by kernel_rfl) (by kernel_rfl) (by kernel_rfl) rfl (fun _ _ _ _ h => h) rfl (by assumption) ?_); simp only [Act.put, List.setIfInBounds_toArray, List.set_cons_zero, List.set_cons_succ])
    ((refine held_skip 17 22 rfl (by kernel_rfl) (by kernel_rfl) (by kernel_rfl) rfl (fun _ _ _ _ h => h) rfl (by assumption) ?_); simp only [Act.put, List.setIfInBounds_toArray, List.set_cons_zero, List.set_cons_succ])
    ((refine held_take 18 23 ?_ rfl (by kernel_rfl) (by kernel_rfl) (by kernel_rfl) rfl (fun _ _ _ _ h => h) rfl ?_ (by assumption) ?_); rotate_left; (intro w hSw; (try dsimp only at hSw); go_simp; (try (with_reducible rfl))); simp only [Act.put, List.setIfInBounds_toArray, List.set_cons_zero, List.set_cons_succ])
    ((refine held_take 19 24 ?_ rfl (by kernel_rfl) (by kernel_rfl) (by kernel_rfl) rfl (fun _ _ _ _ h => h) rfl ?_ (by assumption) ?_); rotate_left; (intro w hSw; (try dsimp only at hSw); go_simp; (try (with_reducible rfl))); simp only [Act.put, List.setIfInBounds_toArray, List.set_cons_zero, List.set_cons_succ])
    ((refine held_skip 20 25 rfl (by kernel_rfl) (by kernel_rfl) (by kernel_rfl) rfl (fun _ _ _ _ h => h) rfl (by assumption) ?_); simp only [Act.put, List.setIfInBounds_toArray, List.set_cons_zero, List.set_cons_succ])
    ((refine held_skip 21 26 rfl (by kernel_rfl) (by kernel_rfl) (by kernel_rfl) rfl (fun _ _ _ _ h => h) rfl (by assumption) ?_); simp only [Act.put, List.setIfInBounds_toArray, List.set_cons_zero, List.set_cons_succ])
    ((refine held_skip 22 27 rfl (by kernel_rfl) (by kernel_rfl) (by kernel_rfl) rfl (fun _ _ _ _ h => h) rfl (by assumption) ?_); simp only [Act.put, List.setIfInBounds_toArray, List.set_cons_zero, List.set_cons_succ])
    ((refine held_skip 23 28 rfl (by kernel_rfl) (by kernel_rfl) (by kernel_rfl) rfl (fun _ _ _ _ h => h) rfl (by assumption) ?_); simp only [Act.put, List.setIfInBounds_toArray, List.set_cons_zero, List.set_cons_succ])
    ((refine held_take 24 29 ?_ rfl (by kernel_rfl) (by kernel_rfl) (by kernel_rfl) rfl (fun _ _ _ _ h => h) rfl ?_ (by assumption) ?_); rotate_left; (intro w hSw; (try dsimp only at hSw); go_simp; (try (with_reducible rfl))); simp only [Act.put, List.setIfInBounds_toArray, List.set_cons_zero, List.set_cons_succ])
    ((refine held_take 25 30 ?_ rfl (by kernel_rfl) (by kernel_rfl) (by kernel_rfl) rfl (fun _ _ _ _ h => h) rfl ?_ (by assumption) ?_); rotate_left; (intro w hSw; (try dsimp only at hSw); go_simp; (try (with_reducible rfl))); simp only [Act.put, List.setIfInBounds_toArray, List.set_cons_zero, List.set_cons_succ])
    ((refine held_skip 26 31 rfl (by kernel_rfl) (by kernel_rfl) (by kernel_rfl) rfl (fun _ _ _ _ h => h) rfl (by assumption) ?_); simp only [Act.put, List.setIfInBounds_toArray, List.set_cons_zero, List.set_cons_succ])
    ((refine held_skip 27 32 rfl (by kernel_rfl) (by kernel_rfl) (by kernel_rfl) rfl (fun _ _ _ _ h => h) rfl (by assumption) ?_); simp only [Act.put, List.setIfInBounds_toArray, List.set_cons_zero, List.set_cons_succ])
    ((refine held_skip 28 33 rfl (by kernel_rfl) (by kernel_rfl) (by kernel_rfl) rfl (fun _ _ _ _ h => h) rfl (by assumption) ?_); simp only [Act.put, List.setIfInBounds_toArray, List.set_cons_zero, List.set_cons_succ])
    ((refine held_skip 29 34 rfl (by kernel_rfl) (by kernel_rfl) (by kernel_rfl) rfl (fun _ _ _ _ h => h) rfl (by assumption) ?_); simp only [Act.put, List.setIfInBounds_toArray, List.set_cons_zero, List.set_cons_succ])
    ((refine held_take 30 35 ?_ rfl (by kernel_rfl) (by kernel_rfl) (by kernel_rfl) rfl (fun _ _ _ _ h => h) rfl ?_ (by assumption) ?_); rotate_left; (intro w hSw; (try dsimp only at hSw); go_simp; (try (with_reducible rfl))); simp only [Act.put, List.setIfInBounds_toArray, List.set_cons_zero, List.set_cons_succ])
    refine wpAnyH_done (by kernel_rfl) ?_ _
    have HZ := Lib.hid (HR0.out.drew)
    go_wp2_with fail
    go_ret
    exact ⟨NO.out _ rfl (by rw [HRES.out]; rfl), HZ.out.1⟩
  have HO := Lib.hid (fun W h1 h2 => implScreenOk_any scr (.agg #[.int .i64 scr.row, .int .i64 scr.col, .slice A scr.rows.length c]) lo hi W ⟨A, c, rfl, h1⟩ h2 HS1.out)
  cases hO : scrB scr <;> rw [hO] at HO HRES <;> clear hO
  case false =>
    go_enter Tryz.func31, Tryz.ntmps31
    go_wp2_with fail
    refine wp_region_held_drew (S := (fun w' => ∀ i, w'.cell? ⟨w.heap.size, i, none⟩ = (devCs ⟨use, scr, files, keys⟩ A c F cf K ck)[i]?)) (by kernel_rfl) (HR0.out.drew.get 0 rfl).cell (fun hHeld => ?_)
    ((refine held_take 0 5 ?_ rfl (by kernel_rfl) (by kernel_rfl) (by kernel_rfl) rfl (fun _ _ _ _ h => h) rfl ?_ (by assumption) ?_); rotate_left; (intro w hSw; (try dsimp only at hSw); go_simp; (try (with_reducible rfl))); simp only [Act.put, List.setIfInBounds_toArray, List.set_cons_zero, List.set_cons_succ])
    ((refine held_take 1 6 ?_ rfl (by kernel_rfl) (by kernel_rfl) (by kernel_rfl) rfl (fun _ _ _ _ h => h) rfl ?_ (by assumption) ?_); rotate_left; (intro w hSw; (try dsimp only at hSw); go_simp; (try (with_reducible rfl))); simp only [Act.put, List.setIfInBounds_toArray, List.set_cons_zero, List.set_cons_succ])
    ((refine held_take 2 7 ?_ rfl (by kernel_rfl) (by kernel_rfl) (by kernel_rfl) rfl (fun _ _ _ _ h => h) rfl ?_ (by assumption) ?_); rotate_left; (intro w hSw; (try dsimp only at hSw); go_simp; (try (with_reducible rfl))); simp only [Act.put, List.setIfInBounds_toArray, List.set_cons_zero, List.set_cons_succ])
    ((refine held_take 3 8 ?_ rfl (by kernel_rfl) (by kernel_rfl) (by kernel_rfl) rfl (fun _ _ _ _ h => h) rfl ?_ (by assumption) ?_); rotate_left; (intro w hSw; (try dsimp only at hSw); go_simp; (try (with_reducible rfl))); simp only [Act.put, List.setIfInBounds_toArray, List.set_cons_zero, List.set_cons_succ])
    ((refine wpAnyH_ready (rs := [4]) (by kernel_rfl) (by simp) ?_); (refine AllReadyH.cons rfl (fun K hK => ?_) AllReadyH.nil); go_simp)
    refine (countFil_any F files.length cf _).mono ?_
    rintro e1 w1 ⟨rfl, rfl⟩
    go_simp
    refine hK.out _ _ (HR0.out.drew.get 0 rfl).cell (fun hHeld => ?_)
    clear hK K
    (try simp only [Act.put, List.setIfInBounds_toArray, List.set_cons_zero, List.set_cons_succ])
    ((refine wpAnyH_ready (rs := [5]) (by kernel_rfl) (by simp) ?_); (refine AllReadyH.cons rfl (fun K hK => ?_) AllReadyH.nil); go_simp)
    refine (HI.out _).mono ?_
    rintro e1 w1 ⟨rfl, rfl⟩
    go_simp
    refine hK.out _ _ (HR0.out.drew.get 0 rfl).cell (fun hHeld => ?_)
    clear hK K
    (try simp only [Act.put, List.setIfInBounds_toArray, List.set_cons_zero, List.set_cons_succ])
    ((refine held_take 6 11 ?_ rfl (by kernel_rfl) (by kernel_rfl) (by kernel_rfl) rfl (fun _ _ _ _ h => h) rfl ?_ (by assumption) ?_); rotate_left; (intro w hSw; (try dsimp only at hSw); go_simp; (try (with_reducible rfl))); simp only [Act.put, List.setIfInBounds_toArray, List.set_cons_zero, List.set_cons_succ])
    ((refine held_take 7 12 ?_ rfl (by kernel_rfl) (by kernel_rfl) (by kernel_rfl) rfl (fun _ _ _ _ h => h) rfl ?_ (by assumption) ?_); rotate_left; (intro w hSw; (try dsimp only at hSw); go_simp; (try (with_reducible rfl))); simp only [Act.put, List.setIfInBounds_toArray, List.set_cons_zero, List.set_cons_succ])
    ((refine held_take 8 13 ?_ rfl (by kernel_rfl) (by kernel_rfl) (by kernel_rfl) rfl (fun _ _ _ _ h => h) rfl ?_ (by assumption) ?_); rotate_left; (intro w hSw; (try dsimp only at hSw); go_simp; (try (with_reducible rfl))); simp only [Act.put, List.setIfInBounds_toArray, List.set_cons_zero, List.set_cons_succ])
    ((refine held_take 9 14 ?_ rfl (by kernel_rfl) (by kernel_rfl) (by kernel_rfl) rfl (fun _ _ _ _ h => h) rfl ?_ (by assumption) ?_); rotate_left; (intro w hSw; (try dsimp only at hSw); go_simp; (try (with_reducible rfl))); simp only [Act.put, List.setIfInBounds_toArray, List.set_cons_zero, List.set_cons_succ])
    ((refine wpAnyH_ready (rs := [10]) (by kernel_rfl) (by simp) ?_); (refine AllReadyH.cons rfl (fun K hK => ?_) AllReadyH.nil); go_simp)
    refine (HO.out _ (HR0.out.drew.get 3 rfl) (HR0.out.drew.le 3 rfl)).mono ?_
    rintro e2 w2 ⟨rfl, hb2⟩
    go_simp
    refine hK.out _ _ ((HR0.out.drew.below hb2).get 0 rfl).cell (fun hHeld => ?_)
    clear hK K
    (try simp only [Act.put, List.setIfInBounds_toArray, List.set_cons_zero, List.set_cons_succ])
    ((refine held_take 11 16 ?_ rfl (by kernel_rfl) (by kernel_rfl) (by kernel_rfl) rfl (fun _ _ _ _ h => h) rfl ?_ (by assumption) ?_); rotate_left; (intro w hSw; (try dsimp only at hSw); go_simp; (try (with_reducible rfl))); simp only [Act.put, List.setIfInBounds_toArray, List.set_cons_zero, List.set_cons_succ])
    ((refine held_take 12 17 ?_ rfl (by kernel_rfl) (by kernel_rfl) (by kernel_rfl) rfl (fun _ _ _ _ h => h) rfl ?_ (by assumption) ?_); rotate_left; (intro w hSw; (try dsimp only at hSw); go_simp; (try (with_reducible rfl))); simp only [Act.put, List.setIfInBounds_toArray, List.set_cons_zero, List.set_cons_succ])
    ((refine held_take 13 18 ?_ rfl (by kernel_rfl) (by kernel_rfl) (by kernel_rfl) rfl (fun _ _ _ _ h => h) rfl ?_ (by assumption) ?_); rotate_left; (intro w hSw; (try dsimp only at hSw); go_simp; (try (with_reducible rfl))); simp only [Act.put, List.setIfInBounds_toArray, List.set_cons_zero, List.set_cons_succ])
    ((refine held_skip 14 19 rfl (by kernel_rfl) (by kernel_rfl) (by kernel_rfl) rfl (fun _ _ _ _ h => h) rfl (by assumption) ?_); simp only [Act.put, List.setIfInBounds_toArray, List.set_cons_zero, List.set_cons_succ])
    ((refine held_skip 15 20 rfl (by kernel_rfl) (by kernel_rfl) (by kernel_rfl) rfl (fun _ _ _ _ h => h) rfl (by assumption) ?_); simp only [Act.put, List.setIfInBounds_toArray, List.set_cons_zero, List.set_cons_succ])
    ((refine held_skip 16 21 rfl (by kernel_rfl) (by kernel_rfl) (by kernel_rfl) rfl (fun _ _ _ _ h => h) rfl (by assumption) ?_); simp only [Act.put, List.setIfInBounds_toArray, List.set_cons_zero, List.set_cons_succ])
    ((refine held_skip 17 22 rfl (by kernel_rfl) (by kernel_rfl) (by kernel_rfl) rfl (fun _ _ _ _ h => h) rfl (by assumption) ?_); simp only [Act.put, List.setIfInBounds_toArray, List.set_cons_zero, List.set_cons_succ])
    ((refine held_take 18 23 ?_ rfl (by kernel_rfl) (by kernel_rfl) (by kernel_rfl) rfl (fun _ _ _ _ h => h) rfl ?_ (by assumption) ?_); rotate_left; (intro w hSw; (try dsimp only at hSw); go_simp; (try (with_reducible rfl))); simp only [Act.put, List.setIfInBounds_toArray, List.set_cons_zero, List.set_cons_succ])
    ((refine held_take 19 24 ?_ rfl (by kernel_rfl) (by kernel_rfl) (by kernel_rfl) rfl (fun _ _ _ _ h => h) rfl ?_ (by assumption) ?_); rotate_left; (intro w hSw; (try dsimp only at hSw); go_simp; (try (with_reducible rfl))); simp only [Act.put, List.setIfInBounds_toArray, List.set_cons_zero, List.set_cons_succ])
    ((refine held_skip 20 25 rfl (by kernel_rfl) (by kernel_rfl) (by kernel_rfl) rfl (fun _ _ _ _ h => h) rfl (by assumption) ?_); simp only [Act.put, List.setIfInBounds_toArray, List.set_cons_zero, List.set_cons_succ])
    ((refine held_skip 21 26 rfl (by kernel_rfl) (by kernel_rfl) (by kernel_rfl) rfl (fun _ _ _ _ h => h) rfl (by assumption) ?_); simp only [Act.put, List.setIfInBounds_toArray, List.set_cons_zero, List.set_cons_succ])
    ((refine held_skip 22 27 rfl (by kernel_rfl) (by kernel_rfl) (by kernel_rfl) rfl (fun _ _ _ _ h => h) rfl (by assumption) ?_); simp only [Act.put, List.setIfInBounds_toArray, List.set_cons_zero, List.set_cons_succ])
    ((refine held_skip 23 28 rfl (by kernel_rfl) (by kernel_rfl) (by kernel_rfl) rfl (fun _ _ _ _ h => h) rfl (by assumption) ?_); simp only [Act.put, List.setIfInBounds_toArray, List.set_cons_zero, List.set_cons_succ])
    ((refine held_take 24 29 ?_ rfl (by kernel_rfl) (by kernel_rfl) (by kernel_rfl) rfl (fun _ _ _ _ h => h) rfl ?_ (by assumption) ?_); rotate_left; (intro w hSw; (try dsimp only at hSw); go_simp; (try (with_reducible rfl))); simp only [Act.put, List.setIfInBounds_toArray, List.set_cons_zero, List.set_cons_succ])
    ((refine held_take 25 30 ?_ rfl (by kernel_rfl) (by kernel_rfl) (by kernel_rfl) rfl (fun _ _ _ _ h => h) rfl ?_ (by assumption) ?_); rotate_left; (intro w hSw; (try dsimp only at hSw); go_simp; (try (with_reducible rfl))); simp only [Act.put, List.setIfInBounds_toArray, List.set_cons_zero, List.set_cons_succ])
    ((refine held_skip 26 31 rfl (by kernel_rfl) (by kernel_rfl) (by kernel_rfl) rfl (fun _ _ _ _ h => h) rfl (by assumption) ?_); simp only [Act.put, List.setIfInBounds_toArray, List.set_cons_zero, List.set_cons_succ])
    ((refine held_skip 27 32 rfl (by kernel_rfl) (by kernel_rfl) (by kernel_rfl) rfl (fun _ _ _ _ h => h) rfl (by assumption) ?_); simp only [Act.put, List.setIfInBounds_toArray, List.set_cons_zero, List.set_cons_succ])
    ((refine held_skip 28 33 rfl (by kernel_rfl) (by kernel_rfl) (by kernel_rfl) rfl (fun _ _ _ _ h => h) rfl (by assumption) ?_); simp only [Act.put, List.setIfInBounds_toArray, List.set_cons_zero, List.set_cons_succ])
    ((refine held_skip 29 34 rfl (by kernel_rfl) (by kernel_rfl) (by kernel_rfl) rfl (fun _ _ _ _ h => h) rfl (by assumption) ?_); simp only [Act.put, List.setIfInBounds_toArray, List.set_cons_zero, List.set_cons_succ])
    ((refine held_take 30 35 ?_ rfl (by kernel_rfl) (by kernel_rfl) (by kernel_rfl) rfl (fun _ _ _ _ h => h) rfl ?_ (by assumption) ?_); rotate_left; (intro w hSw; (try dsimp only at hSw); go_simp; (try (with_reducible rfl))); simp only [Act.put, List.setIfInBounds_toArray, List.set_cons_zero, List.set_cons_succ])
    refine wpAnyH_done (by kernel_rfl) ?_ _
    have HZ := Lib.hid (HR0.out.drew.below hb2); clear hb2
    go_wp2_with fail
    go_ret
    exact ⟨NO.out _ rfl (by rw [HRES.out]; rfl), HZ.out.1⟩
  by_cases h3 : files.length ≤ 3
  case neg =>
    have n3 : decide ((3 : Int) < (files.length : Int)) = true := by rw [decide_eq_true_iff]; omega
    have n3' : decide (3 < files.length) = true := by rw [decide_eq_true_iff]; omega
    have H3 := Lib.hid h3; clear h3
    go_enter Tryz.func31, Tryz.ntmps31
    go_wp2_with fail
    refine wp_region_held_drew (S := (fun w' => ∀ i, w'.cell? ⟨w.heap.size, i, none⟩ = (devCs ⟨use, scr, files, keys⟩ A c F cf K ck)[i]?)) (by kernel_rfl) (HR0.out.drew.get 0 rfl).cell (fun hHeld => ?_)
    ((refine held_take 0 5 ?_ rfl (by kernel_rfl) (by kernel_rfl) (by kernel_rfl) rfl (fun _ _ _ _ h => h) rfl ?_ (by assumption) ?_); rotate_left; (intro w hSw; (try dsimp only at hSw); go_simp; (try (with_reducible rfl))); simp only [Act.put, List.setIfInBounds_toArray, List.set_cons_zero, List.set_cons_succ])
    ((refine held_take 1 6 ?_ rfl (by kernel_rfl) (by kernel_rfl) (by kernel_rfl) rfl (fun _ _ _ _ h => h) rfl ?_ (by assumption) ?_); rotate_left; (intro w hSw; (try dsimp only at hSw); go_simp; (try (with_reducible rfl))); simp only [Act.put, List.setIfInBounds_toArray, List.set_cons_zero, List.set_cons_succ])
    ((refine held_take 2 7 ?_ rfl (by kernel_rfl) (by kernel_rfl) (by kernel_rfl) rfl (fun _ _ _ _ h => h) rfl ?_ (by assumption) ?_); rotate_left; (intro w hSw; (try dsimp only at hSw); go_simp; (try (with_reducible rfl))); simp only [Act.put, List.setIfInBounds_toArray, List.set_cons_zero, List.set_cons_succ])
    ((refine held_take 3 8 ?_ rfl (by kernel_rfl) (by kernel_rfl) (by kernel_rfl) rfl (fun _ _ _ _ h => h) rfl ?_ (by assumption) ?_); rotate_left; (intro w hSw; (try dsimp only at hSw); go_simp; (try (with_reducible rfl))); simp only [Act.put, List.setIfInBounds_toArray, List.set_cons_zero, List.set_cons_succ])
    ((refine wpAnyH_ready (rs := [4]) (by kernel_rfl) (by simp) ?_); (refine AllReadyH.cons rfl (fun K hK => ?_) AllReadyH.nil); go_simp)
    refine (countFil_any F files.length cf _).mono ?_
    rintro e1 w1 ⟨rfl, rfl⟩
    go_simp
    refine hK.out _ _ (HR0.out.drew.get 0 rfl).cell (fun hHeld => ?_)
    clear hK K
    (try simp only [Act.put, List.setIfInBounds_toArray, List.set_cons_zero, List.set_cons_succ])
    ((refine wpAnyH_ready (rs := [5]) (by kernel_rfl) (by simp) ?_); (refine AllReadyH.cons rfl (fun K hK => ?_) AllReadyH.nil); go_simp)
    refine (HI.out _).mono ?_
    rintro e1 w1 ⟨rfl, rfl⟩
    go_simp
    refine hK.out _ _ (HR0.out.drew.get 0 rfl).cell (fun hHeld => ?_)
    clear hK K
    (try simp only [Act.put, List.setIfInBounds_toArray, List.set_cons_zero, List.set_cons_succ])
    ((refine held_take 6 11 ?_ rfl (by kernel_rfl) (by kernel_rfl) (by kernel_rfl) rfl (fun _ _ _ _ h => h) rfl ?_ (by assumption) ?_); rotate_left; (intro w hSw; (try dsimp only at hSw); go_simp; (try (with_reducible rfl))); simp only [Act.put, List.setIfInBounds_toArray, List.set_cons_zero, List.set_cons_succ])
    ((refine held_take 7 12 ?_ rfl (by kernel_rfl) (by kernel_rfl) (by kernel_rfl) rfl (fun _ _ _ _ h => h) rfl ?_ (by assumption) ?_); rotate_left; (intro w hSw; (try dsimp only at hSw); go_simp; (try (with_reducible rfl))); simp only [Act.put, List.setIfInBounds_toArray, List.set_cons_zero, List.set_cons_succ])
    ((refine held_take 8 13 ?_ rfl (by kernel_rfl) (by kernel_rfl) (by kernel_rfl) rfl (fun _ _ _ _ h => h) rfl ?_ (by assumption) ?_); rotate_left; (intro w hSw; (try dsimp only at hSw); go_simp; (try (with_reducible rfl))); simp only [Act.put, List.setIfInBounds_toArray, List.set_cons_zero, List.set_cons_succ])
    ((refine held_take 9 14 ?_ rfl (by kernel_rfl) (by kernel_rfl) (by kernel_rfl) rfl (fun _ _ _ _ h => h) rfl ?_ (by assumption) ?_); rotate_left; (intro w hSw; (try dsimp only at hSw); go_simp; (try (with_reducible rfl))); simp only [Act.put, List.setIfInBounds_toArray, List.set_cons_zero, List.set_cons_succ])
    ((refine wpAnyH_ready (rs := [10]) (by kernel_rfl) (by simp) ?_); (refine AllReadyH.cons rfl (fun K hK => ?_) AllReadyH.nil); go_simp)
    refine (HO.out _ (HR0.out.drew.get 3 rfl) (HR0.out.drew.le 3 rfl)).mono ?_
    rintro e2 w2 ⟨rfl, hb2⟩
    go_simp
    refine hK.out _ _ ((HR0.out.drew.below hb2).get 0 rfl).cell (fun hHeld => ?_)
    clear hK K
    (try simp only [Act.put, List.setIfInBounds_toArray, List.set_cons_zero, List.set_cons_succ])
    ((refine held_take 11 16 ?_ rfl (by kernel_rfl) (by kernel_rfl) (by kernel_rfl) rfl (fun _ _ _ _ h => h) rfl ?_ (by assumption) ?_); rotate_left; (intro w hSw; (try dsimp only at hSw); go_simp; (try (with_reducible rfl))); simp only [Act.put, List.setIfInBounds_toArray, List.set_cons_zero, List.set_cons_succ])
    ((refine held_take 12 17 ?_ rfl (by kernel_rfl) (by kernel_rfl) (by kernel_rfl) rfl (fun _ _ _ _ h => h) rfl ?_ (by assumption) ?_); rotate_left; (intro w hSw; (try dsimp only at hSw); go_simp; (try (with_reducible rfl))); simp only [Act.put, List.setIfInBounds_toArray, List.set_cons_zero, List.set_cons_succ])
    ((refine held_take 13 18 ?_ rfl (by kernel_rfl) (by kernel_rfl) (by kernel_rfl) rfl (fun _ _ _ _ h => h) rfl ?_ (by assumption) ?_); rotate_left; (intro w hSw; (try dsimp only at hSw); go_simp; (try (with_reducible rfl))); simp only [Act.put, List.setIfInBounds_toArray, List.set_cons_zero, List.set_cons_succ])
    ((refine held_take 14 19 ?_ rfl (by kernel_rfl) (by kernel_rfl) (by kernel_rfl) rfl (fun _ _ _ _ h => h) rfl ?_ (by assumption) ?_); rotate_left; (intro w hSw; (try dsimp only at hSw); go_simp; (try (with_reducible rfl))); simp only [Act.put, List.setIfInBounds_toArray, List.set_cons_zero, List.set_cons_succ])
    ((refine held_take 15 20 ?_ rfl (by kernel_rfl) (by kernel_rfl) (by kernel_rfl) rfl (fun _ _ _ _ h => h) rfl ?_ (by assumption) ?_); rotate_left; (intro w hSw; (try dsimp only at hSw); go_simp; (try (with_reducible rfl))); simp only [Act.put, List.setIfInBounds_toArray, List.set_cons_zero, List.set_cons_succ])
    ((refine held_take 16 21 ?_ rfl (by kernel_rfl) (by kernel_rfl) (by kernel_rfl) rfl (fun _ _ _ _ h => h) rfl ?_ (by assumption) ?_); rotate_left; (intro w hSw; (try dsimp only at hSw); go_simp; (try (with_reducible rfl))); simp only [Act.put, List.setIfInBounds_toArray, List.set_cons_zero, List.set_cons_succ])
    ((refine held_take 17 22 ?_ rfl (by kernel_rfl) (by kernel_rfl) (by kernel_rfl) rfl (fun _ _ _ _ h => h) rfl ?_ (by assumption) ?_); rotate_left; (intro w hSw; (try dsimp only at hSw); go_simp; (try (with_reducible rfl))); simp only [Act.put, List.setIfInBounds_toArray, List.set_cons_zero, List.set_cons_succ])
    ((refine held_take 18 23 ?_ rfl (by kernel_rfl) (by kernel_rfl) (by kernel_rfl) rfl (fun _ _ _ _ h => h) rfl ?_ (by assumption) ?_); rotate_left; (intro w hSw; (try dsimp only at hSw); go_simp; (try (with_reducible rfl))); simp only [Act.put, List.setIfInBounds_toArray, List.set_cons_zero, List.set_cons_succ])
    ((refine held_take 19 24 ?_ rfl (by kernel_rfl) (by kernel_rfl) (by kernel_rfl) rfl (fun _ _ _ _ h => h) rfl ?_ (by assumption) ?_); rotate_left; (intro w hSw; (try dsimp only at hSw); go_simp; (try (with_reducible rfl))); simp only [Act.put, List.setIfInBounds_toArray, List.set_cons_zero, List.set_cons_succ])
    ((refine held_skip 20 25 rfl (by kernel_rfl) (by kernel_rfl) (by kernel_rfl) rfl (fun _ _ _ _ h => h) rfl (by assumption) ?_); simp only [Act.put, List.setIfInBounds_toArray, List.set_cons_zero, List.set_cons_succ])
    ((refine held_skip 21 26 rfl (by kernel_rfl) (by kernel_rfl) (by kernel_rfl) rfl (fun _ _ _ _ h => h) rfl (by assumption) ?_); simp only [Act.put, List.setIfInBounds_toArray, List.set_cons_zero, List.set_cons_succ])
    ((refine held_skip 22 27 rfl (by kernel_rfl) (by kernel_rfl) (by kernel_rfl) rfl (fun _ _ _ _ h => h) rfl (by assumption) ?_); simp only [Act.put, List.setIfInBounds_toArray, List.set_cons_zero, List.set_cons_succ])
    ((refine held_skip 23 28 rfl (by kernel_rfl) (by kernel_rfl) (by kernel_rfl) rfl (fun _ _ _ _ h => h) rfl (by assumption) ?_); simp only [Act.put, List.setIfInBounds_toArray, List.set_cons_zero, List.set_cons_succ])
    ((refine held_take 24 29 ?_ rfl (by kernel_rfl) (by kernel_rfl) (by kernel_rfl) rfl (fun _ _ _ _ h => h) rfl ?_ (by assumption) ?_); rotate_left; (intro w hSw; (try dsimp only at hSw); go_simp; (try (with_reducible rfl))); simp only [Act.put, List.setIfInBounds_toArray, List.set_cons_zero, List.set_cons_succ])
    ((refine held_take 25 30 ?_ rfl (by kernel_rfl) (by kernel_rfl) (by kernel_rfl) rfl (fun _ _ _ _ h => h) rfl ?_ (by assumption) ?_); rotate_left; (intro w hSw; (try dsimp only at hSw); go_simp; (try (with_reducible rfl))); simp only [Act.put, List.setIfInBounds_toArray, List.set_cons_zero, List.set_cons_succ])
    ((refine held_skip 26 31 rfl (by kernel_rfl) (by kernel_rfl) (by kernel_rfl) rfl (fun _ _ _ _ h => h) rfl (by assumption) ?_); simp only [Act.put, List.setIfInBounds_toArray, List.set_cons_zero, List.set_cons_succ])
    ((refine held_skip 27 32 rfl (by kernel_rfl) (by kernel_rfl) (by kernel_rfl) rfl (fun _ _ _ _ h => h) rfl (by assumption) ?_); simp only [Act.put, List.setIfInBounds_toArray, List.set_cons_zero, List.set_cons_succ])
    ((refine held_skip 28 33 rfl (by kernel_rfl) (by kernel_rfl) (by kernel_rfl) rfl (fun _ _ _ _ h => h) rfl (by assumption) ?_); simp only [Act.put, List.setIfInBounds_toArray, List.set_cons_zero, List.set_cons_succ])
    ((refine held_skip 29 34 rfl (by kernel_rfl) (by kernel_rfl) (by kernel_rfl) rfl (fun _ _ _ _ h => h) rfl (by assumption) ?_); simp only [Act.put, List.setIfInBounds_toArray, List.set_cons_zero, List.set_cons_succ])
    ((refine held_take 30 35 ?_ rfl (by kernel_rfl) (by kernel_rfl) (by kernel_rfl) rfl (fun _ _ _ _ h => h) rfl ?_ (by assumption) ?_); rotate_left; (intro w hSw; (try dsimp only at hSw); go_simp; (try (with_reducible rfl))); simp only [Act.put, List.setIfInBounds_toArray, List.set_cons_zero, List.set_cons_succ])
    refine wpAnyH_done (by kernel_rfl) ?_ _
    have HZ := Lib.hid (HR0.out.drew.below hb2); clear hb2
    clear n3 n3'; have h3 := H3.out
    go_wp2_with fail
    go_ret
    exact ⟨NO.out _ rfl (by rw [HRES.out, decide_eq_false h3]; simp), HZ.out.1⟩
  have n3 : decide ((3 : Int) < (files.length : Int)) = false := by rw [decide_eq_false_iff_not]; omega
  have n3' : decide (3 < files.length) = false := by rw [decide_eq_false_iff_not]; omega
  rw [decide_eq_true h3] at HRES
  by_cases h20 : keys.length ≤ 20
  case neg =>
    have n20 : decide ((20 : Int) < (keys.length : Int)) = true := by rw [decide_eq_true_iff]; omega
    have n20' : decide (20 < keys.length) = true := by rw [decide_eq_true_iff]; omega
    have H20 := Lib.hid h20; clear h20
    go_enter Tryz.func31, Tryz.ntmps31
    go_wp2_with fail
    refine wp_region_held_drew (S := (fun w' => ∀ i, w'.cell? ⟨w.heap.size, i, none⟩ = (devCs ⟨use, scr, files, keys⟩ A c F cf K ck)[i]?)) (by kernel_rfl) (HR0.out.drew.get 0 rfl).cell (fun hHeld => ?_)
    ((refine held_take 0 5 ?_ rfl (by kernel_rfl) (by kernel_rfl) (by kernel_rfl) rfl (fun _ _ _ _ h => h) rfl ?_ (by assumption) ?_); rotate_left; (intro w hSw; (try dsimp only at hSw); go_simp; (try (with_reducible rfl))); simp only [Act.put, List.setIfInBounds_toArray, List.set_cons_zero, List.set_cons_succ])
    ((refine held_take 1 6 ?_ rfl (by kernel_rfl) (by kernel_rfl) (by kernel_rfl) rfl (fun _ _ _ _ h => h) rfl ?_ (by assumption) ?_); rotate_left; (intro w hSw; (try dsimp only at hSw); go_simp; (try (with_reducible rfl))); simp only [Act.put, List.setIfInBounds_toArray, List.set_cons_zero, List.set_cons_succ])
    ((refine held_take 2 7 ?_ rfl (by kernel_rfl) (by kernel_rfl) (by kernel_rfl) rfl (fun _ _ _ _ h => h) rfl ?_ (by assumption) ?_); rotate_left; (intro w hSw; (try dsimp only at hSw); go_simp; (try (with_reducible rfl))); simp only [Act.put, List.setIfInBounds_toArray, List.set_cons_zero, List.set_cons_succ])
    ((refine held_take 3 8 ?_ rfl (by kernel_rfl) (by kernel_rfl) (by kernel_rfl) rfl (fun _ _ _ _ h => h) rfl ?_ (by assumption) ?_); rotate_left; (intro w hSw; (try dsimp only at hSw); go_simp; (try (with_reducible rfl))); simp only [Act.put, List.setIfInBounds_toArray, List.set_cons_zero, List.set_cons_succ])
    ((refine wpAnyH_ready (rs := [4]) (by kernel_rfl) (by simp) ?_); (refine AllReadyH.cons rfl (fun K hK => ?_) AllReadyH.nil); go_simp)
    refine (countFil_any F files.length cf _).mono ?_
    rintro e1 w1 ⟨rfl, rfl⟩
    go_simp
    refine hK.out _ _ (HR0.out.drew.get 0 rfl).cell (fun hHeld => ?_)
    clear hK K
    (try simp only [Act.put, List.setIfInBounds_toArray, List.set_cons_zero, List.set_cons_succ])
    ((refine wpAnyH_ready (rs := [5]) (by kernel_rfl) (by simp) ?_); (refine AllReadyH.cons rfl (fun K hK => ?_) AllReadyH.nil); go_simp)
    refine (HI.out _).mono ?_
    rintro e1 w1 ⟨rfl, rfl⟩
    go_simp
    refine hK.out _ _ (HR0.out.drew.get 0 rfl).cell (fun hHeld => ?_)
    clear hK K
    (try simp only [Act.put, List.setIfInBounds_toArray, List.set_cons_zero, List.set_cons_succ])
    ((refine held_take 6 11 ?_ rfl (by kernel_rfl) (by kernel_rfl) (by kernel_rfl) rfl (fun _ _ _ _ h => h) rfl ?_ (by assumption) ?_); rotate_left; (intro w hSw; (try dsimp only at hSw); go_simp; (try (with_reducible rfl))); simp only [Act.put, List.setIfInBounds_toArray, List.set_cons_zero, List.set_cons_succ])
    ((refine held_take 7 12 ?_ rfl (by kernel_rfl) (by kernel_rfl) (by kernel_rfl) rfl (fun _ _ _ _ h => h) rfl ?_ (by assumption) ?_); rotate_left; (intro w hSw; (try dsimp only at hSw); go_simp; (try (with_reducible rfl))); simp only [Act.put, List.setIfInBounds_toArray, List.set_cons_zero, List.set_cons_succ])
    ((refine held_take 8 13 ?_ rfl (by kernel_rfl) (by kernel_rfl) (by kernel_rfl) rfl (fun _ _ _ _ h => h) rfl ?_ (by assumption) ?_); rotate_left; (intro w hSw; (try dsimp only at hSw); go_simp; (try (with_reducible rfl))); simp only [Act.put, List.setIfInBounds_toArray, List.set_cons_zero, List.set_cons_succ])
    ((refine held_take 9 14 ?_ rfl (by kernel_rfl) (by kernel_rfl) (by kernel_rfl) rfl (fun _ _ _ _ h => h) rfl ?_ (by assumption) ?_); rotate_left; (intro w hSw; (try dsimp only at hSw); go_simp; (try (with_reducible rfl))); simp only [Act.put, List.setIfInBounds_toArray, List.set_cons_zero, List.set_cons_succ])
    ((refine wpAnyH_ready (rs := [10]) (by kernel_rfl) (by simp) ?_); (refine AllReadyH.cons rfl (fun K hK => ?_) AllReadyH.nil); go_simp)
    refine (HO.out _ (HR0.out.drew.get 3 rfl) (HR0.out.drew.le 3 rfl)).mono ?_
    rintro e2 w2 ⟨rfl, hb2⟩
    go_simp
    refine hK.out _ _ ((HR0.out.drew.below hb2).get 0 rfl).cell (fun hHeld => ?_)
    clear hK K
    (try simp only [Act.put, List.setIfInBounds_toArray, List.set_cons_zero, List.set_cons_succ])
    ((refine held_take 11 16 ?_ rfl (by kernel_rfl) (by kernel_rfl) (by kernel_rfl) rfl (fun _ _ _ _ h => h) rfl ?_ (by assumption) ?_); rotate_left; (intro w hSw; (try dsimp only at hSw); go_simp; (try (with_reducible rfl))); simp only [Act.put, List.setIfInBounds_toArray, List.set_cons_zero, List.set_cons_succ])
    ((refine held_take 12 17 ?_ rfl (by kernel_rfl) (by kernel_rfl) (by kernel_rfl) rfl (fun _ _ _ _ h => h) rfl ?_ (by assumption) ?_); rotate_left; (intro w hSw; (try dsimp only at hSw); go_simp; (try (with_reducible rfl))); simp only [Act.put, List.setIfInBounds_toArray, List.set_cons_zero, List.set_cons_succ])
    ((refine held_take 13 18 ?_ rfl (by kernel_rfl) (by kernel_rfl) (by kernel_rfl) rfl (fun _ _ _ _ h => h) rfl ?_ (by assumption) ?_); rotate_left; (intro w hSw; (try dsimp only at hSw); go_simp; (try (with_reducible rfl))); simp only [Act.put, List.setIfInBounds_toArray, List.set_cons_zero, List.set_cons_succ])
    ((refine held_take 14 19 ?_ rfl (by kernel_rfl) (by kernel_rfl) (by kernel_rfl) rfl (fun _ _ _ _ h => h) rfl ?_ (by assumption) ?_); rotate_left; (intro w hSw; (try dsimp only at hSw); go_simp; (try (with_reducible rfl))); simp only [Act.put, List.setIfInBounds_toArray, List.set_cons_zero, List.set_cons_succ])
    ((refine held_take 15 20 ?_ rfl (by kernel_rfl) (by kernel_rfl) (by kernel_rfl) rfl (fun _ _ _ _ h => h) rfl ?_ (by assumption) ?_); rotate_left; (intro w hSw; (try dsimp only at hSw); go_simp; (try (with_reducible rfl))); simp only [Act.put, List.setIfInBounds_toArray, List.set_cons_zero, List.set_cons_succ])
    ((refine held_take 16 21 ?_ rfl (by kernel_rfl) (by kernel_rfl) (by kernel_rfl) rfl (fun _ _ _ _ h => h) rfl ?_ (by assumption) ?_); rotate_left; (intro w hSw; (try dsimp only at hSw); go_simp; (try (with_reducible rfl))); simp only [Act.put, List.setIfInBounds_toArray, List.set_cons_zero, List.set_cons_succ])
    ((refine held_take 17 22 ?_ rfl (by kernel_rfl) (by kernel_rfl) (by kernel_rfl) rfl (fun _ _ _ _ h => h) rfl ?_ (by assumption) ?_); rotate_left; (intro w hSw; (try dsimp only at hSw); go_simp; (try (with_reducible rfl))); simp only [Act.put, List.setIfInBounds_toArray, List.set_cons_zero, List.set_cons_succ])
    ((refine held_take 18 23 ?_ rfl (by kernel_rfl) (by kernel_rfl) (by kernel_rfl) rfl (fun _ _ _ _ h => h) rfl ?_ (by assumption) ?_); rotate_left; (intro w hSw; (try dsimp only at hSw); go_simp; (try (with_reducible rfl))); simp only [Act.put, List.setIfInBounds_toArray, List.set_cons_zero, List.set_cons_succ])
    ((refine held_take 19 24 ?_ rfl (by kernel_rfl) (by kernel_rfl) (by kernel_rfl) rfl (fun _ _ _ _ h => h) rfl ?_ (by assumption) ?_); rotate_left; (intro w hSw; (try dsimp only at hSw); go_simp; (try (with_reducible rfl))); simp only [Act.put, List.setIfInBounds_toArray, List.set_cons_zero, List.set_cons_succ])
    ((refine held_take 20 25 ?_ rfl (by kernel_rfl) (by kernel_rfl) (by kernel_rfl) rfl (fun _ _ _ _ h => h) rfl ?_ (by assumption) ?_); rotate_left; (intro w hSw; (try dsimp only at hSw); go_simp; (try (with_reducible rfl))); simp only [Act.put, List.setIfInBounds_toArray, List.set_cons_zero, List.set_cons_succ])
    ((refine held_take 21 26 ?_ rfl (by kernel_rfl) (by kernel_rfl) (by kernel_rfl) rfl (fun _ _ _ _ h => h) rfl ?_ (by assumption) ?_); rotate_left; (intro w hSw; (try dsimp only at hSw); go_simp; (try (with_reducible rfl))); simp only [Act.put, List.setIfInBounds_toArray, List.set_cons_zero, List.set_cons_succ])
    ((refine held_take 22 27 ?_ rfl (by kernel_rfl) (by kernel_rfl) (by kernel_rfl) rfl (fun _ _ _ _ h => h) rfl ?_ (by assumption) ?_); rotate_left; (intro w hSw; (try dsimp only at hSw); go_simp; (try (with_reducible rfl))); simp only [Act.put, List.setIfInBounds_toArray, List.set_cons_zero, List.set_cons_succ])
    ((refine held_take 23 28 ?_ rfl (by kernel_rfl) (by kernel_rfl) (by kernel_rfl) rfl (fun _ _ _ _ h => h) rfl ?_ (by assumption) ?_); rotate_left; (intro w hSw; (try dsimp only at hSw); go_simp; (try (with_reducible rfl))); simp only [Act.put, List.setIfInBounds_toArray, List.set_cons_zero, List.set_cons_succ])
    ((refine held_take 24 29 ?_ rfl (by kernel_rfl) (by kernel_rfl) (by kernel_rfl) rfl (fun _ _ _ _ h => h) rfl ?_ (by assumption) ?_); rotate_left; (intro w hSw; (try dsimp only at hSw); go_simp; (try (with_reducible rfl))); simp only [Act.put, List.setIfInBounds_toArray, List.set_cons_zero, List.set_cons_succ])
    ((refine held_take 25 30 ?_ rfl (by kernel_rfl) (by kernel_rfl) (by kernel_rfl) rfl (fun _ _ _ _ h => h) rfl ?_ (by assumption) ?_); rotate_left; (intro w hSw; (try dsimp only at hSw); go_simp; (try (with_reducible rfl))); simp only [Act.put, List.setIfInBounds_toArray, List.set_cons_zero, List.set_cons_succ])
    ((refine held_skip 26 31 rfl (by kernel_rfl) (by kernel_rfl) (by kernel_rfl) rfl (fun _ _ _ _ h => h) rfl (by assumption) ?_); simp only [Act.put, List.setIfInBounds_toArray, List.set_cons_zero, List.set_cons_succ])
    ((refine held_skip 27 32 rfl (by kernel_rfl) (by kernel_rfl) (by kernel_rfl) rfl (fun _ _ _ _ h => h) rfl (by assumption) ?_); simp only [Act.put, List.setIfInBounds_toArray, List.set_cons_zero, List.set_cons_succ])
    ((refine held_skip 28 33 rfl (by kernel_rfl) (by kernel_rfl) (by kernel_rfl) rfl (fun _ _ _ _ h => h) rfl (by assumption) ?_); simp only [Act.put, List.setIfInBounds_toArray, List.set_cons_zero, List.set_cons_succ])
    ((refine held_skip 29 34 rfl (by kernel_rfl) (by kernel_rfl) (by kernel_rfl) rfl (fun _ _ _ _ h => h) rfl (by assumption) ?_); simp only [Act.put, List.setIfInBounds_toArray, List.set_cons_zero, List.set_cons_succ])
    ((refine held_take 30 35 ?_ rfl (by kernel_rfl) (by kernel_rfl) (by kernel_rfl) rfl (fun _ _ _ _ h => h) rfl ?_ (by assumption) ?_); rotate_left; (intro w hSw; (try dsimp only at hSw); go_simp; (try (with_reducible rfl))); simp only [Act.put, List.setIfInBounds_toArray, List.set_cons_zero, List.set_cons_succ])
    refine wpAnyH_done (by kernel_rfl) ?_ _
    have HZ := Lib.hid (HR0.out.drew.below hb2); clear hb2
    clear n20 n20'; have h20 := H20.out
    go_wp2_with fail
    go_ret
    exact ⟨NO.out _ rfl (by rw [HRES.out, decide_eq_false h20]; simp), HZ.out.1⟩
  have n20 : decide ((20 : Int) < (keys.length : Int)) = false := by rw [decide_eq_false_iff_not]; omega
  have n20' : decide (20 < keys.length) = false := by rw [decide_eq_false_iff_not]; omega
  rw [decide_eq_true h20] at HRES
  have HK := Lib.hid (fun W h1 => keysFit_any K keys.length ck lo hi keys W h1 hk)
  cases hKK : keysB keys <;> rw [hKK] at HK HRES <;> clear hKK
  case false =>
    go_enter Tryz.func31, Tryz.ntmps31
    go_wp2_with fail
    refine wp_region_held_drew (S := (fun w' => ∀ i, w'.cell? ⟨w.heap.size, i, none⟩ = (devCs ⟨use, scr, files, keys⟩ A c F cf K ck)[i]?)) (by kernel_rfl) (HR0.out.drew.get 0 rfl).cell (fun hHeld => ?_)
    ((refine held_take 0 5 ?_ rfl (by kernel_rfl) (by kernel_rfl) (by kernel_rfl) rfl (fun _ _ _ _ h => h) rfl ?_ (by assumption) ?_); rotate_left; (intro w hSw; (try dsimp only at hSw); go_simp; (try (with_reducible rfl))); simp only [Act.put, List.setIfInBounds_toArray, List.set_cons_zero, List.set_cons_succ])
    ((refine held_take 1 6 ?_ rfl (by kernel_rfl) (by kernel_rfl) (by kernel_rfl) rfl (fun _ _ _ _ h => h) rfl ?_ (by assumption) ?_); rotate_left; (intro w hSw; (try dsimp only at hSw); go_simp; (try (with_reducible rfl))); simp only [Act.put, List.setIfInBounds_toArray, List.set_cons_zero, List.set_cons_succ])
    ((refine held_take 2 7 ?_ rfl (by kernel_rfl) (by kernel_rfl) (by kernel_rfl) rfl (fun _ _ _ _ h => h) rfl ?_ (by assumption) ?_); rotate_left; (intro w hSw; (try dsimp only at hSw); go_simp; (try (with_reducible rfl))); simp only [Act.put, List.setIfInBounds_toArray, List.set_cons_zero, List.set_cons_succ])
    ((refine held_take 3 8 ?_ rfl (by kernel_rfl) (by kernel_rfl) (by kernel_rfl) rfl (fun _ _ _ _ h => h) rfl ?_ (by assumption) ?_); rotate_left; (intro w hSw; (try dsimp only at hSw); go_simp; (try (with_reducible rfl))); simp only [Act.put, List.setIfInBounds_toArray, List.set_cons_zero, List.set_cons_succ])
    ((refine wpAnyH_ready (rs := [4]) (by kernel_rfl) (by simp) ?_); (refine AllReadyH.cons rfl (fun K hK => ?_) AllReadyH.nil); go_simp)
    refine (countFil_any F files.length cf _).mono ?_
    rintro e1 w1 ⟨rfl, rfl⟩
    go_simp
    refine hK.out _ _ (HR0.out.drew.get 0 rfl).cell (fun hHeld => ?_)
    clear hK K
    (try simp only [Act.put, List.setIfInBounds_toArray, List.set_cons_zero, List.set_cons_succ])
    ((refine wpAnyH_ready (rs := [5]) (by kernel_rfl) (by simp) ?_); (refine AllReadyH.cons rfl (fun K hK => ?_) AllReadyH.nil); go_simp)
    refine (HI.out _).mono ?_
    rintro e1 w1 ⟨rfl, rfl⟩
    go_simp
    refine hK.out _ _ (HR0.out.drew.get 0 rfl).cell (fun hHeld => ?_)
    clear hK K
    (try simp only [Act.put, List.setIfInBounds_toArray, List.set_cons_zero, List.set_cons_succ])
    ((refine held_take 6 11 ?_ rfl (by kernel_rfl) (by kernel_rfl) (by kernel_rfl) rfl (fun _ _ _ _ h => h) rfl ?_ (by assumption) ?_); rotate_left; (intro w hSw; (try dsimp only at hSw); go_simp; (try (with_reducible rfl))); simp only [Act.put, List.setIfInBounds_toArray, List.set_cons_zero, List.set_cons_succ])
    ((refine held_take 7 12 ?_ rfl (by kernel_rfl) (by kernel_rfl) (by kernel_rfl) rfl (fun _ _ _ _ h => h) rfl ?_ (by assumption) ?_); rotate_left; (intro w hSw; (try dsimp only at hSw); go_simp; (try (with_reducible rfl))); simp only [Act.put, List.setIfInBounds_toArray, List.set_cons_zero, List.set_cons_succ])
    ((refine held_take 8 13 ?_ rfl (by kernel_rfl) (by kernel_rfl) (by kernel_rfl) rfl (fun _ _ _ _ h => h) rfl ?_ (by assumption) ?_); rotate_left; (intro w hSw; (try dsimp only at hSw); go_simp; (try (with_reducible rfl))); simp only [Act.put, List.setIfInBounds_toArray, List.set_cons_zero, List.set_cons_succ])
    ((refine held_take 9 14 ?_ rfl (by kernel_rfl) (by kernel_rfl) (by kernel_rfl) rfl (fun _ _ _ _ h => h) rfl ?_ (by assumption) ?_); rotate_left; (intro w hSw; (try dsimp only at hSw); go_simp; (try (with_reducible rfl))); simp only [Act.put, List.setIfInBounds_toArray, List.set_cons_zero, List.set_cons_succ])
    ((refine wpAnyH_ready (rs := [10]) (by kernel_rfl) (by simp) ?_); (refine AllReadyH.cons rfl (fun K hK => ?_) AllReadyH.nil); go_simp)
    refine (HO.out _ (HR0.out.drew.get 3 rfl) (HR0.out.drew.le 3 rfl)).mono ?_
    rintro e2 w2 ⟨rfl, hb2⟩
    go_simp
    refine hK.out _ _ ((HR0.out.drew.below hb2).get 0 rfl).cell (fun hHeld => ?_)
    clear hK K
    (try simp only [Act.put, List.setIfInBounds_toArray, List.set_cons_zero, List.set_cons_succ])
    ((refine held_take 11 16 ?_ rfl (by kernel_rfl) (by kernel_rfl) (by kernel_rfl) rfl (fun _ _ _ _ h => h) rfl ?_ (by assumption) ?_); rotate_left; (intro w hSw; (try dsimp only at hSw); go_simp; (try (with_reducible rfl))); simp only [Act.put, List.setIfInBounds_toArray, List.set_cons_zero, List.set_cons_succ])
    ((refine held_take 12 17 ?_ rfl (by kernel_rfl) (by kernel_rfl) (by kernel_rfl) rfl (fun _ _ _ _ h => h) rfl ?_ (by assumption) ?_); rotate_left; (intro w hSw; (try dsimp only at hSw); go_simp; (try (with_reducible rfl))); simp only [Act.put, List.setIfInBounds_toArray, List.set_cons_zero, List.set_cons_succ])
    ((refine held_take 13 18 ?_ rfl (by kernel_rfl) (by kernel_rfl) (by kernel_rfl) rfl (fun _ _ _ _ h => h) rfl ?_ (by assumption) ?_); rotate_left; (intro w hSw; (try dsimp only at hSw); go_simp; (try (with_reducible rfl))); simp only [Act.put, List.setIfInBounds_toArray, List.set_cons_zero, List.set_cons_succ])
    ((refine held_take 14 19 ?_ rfl (by kernel_rfl) (by kernel_rfl) (by kernel_rfl) rfl (fun _ _ _ _ h => h) rfl ?_ (by assumption) ?_); rotate_left; (intro w hSw; (try dsimp only at hSw); go_simp; (try (with_reducible rfl))); simp only [Act.put, List.setIfInBounds_toArray, List.set_cons_zero, List.set_cons_succ])
    ((refine held_take 15 20 ?_ rfl (by kernel_rfl) (by kernel_rfl) (by kernel_rfl) rfl (fun _ _ _ _ h => h) rfl ?_ (by assumption) ?_); rotate_left; (intro w hSw; (try dsimp only at hSw); go_simp; (try (with_reducible rfl))); simp only [Act.put, List.setIfInBounds_toArray, List.set_cons_zero, List.set_cons_succ])
    ((refine held_take 16 21 ?_ rfl (by kernel_rfl) (by kernel_rfl) (by kernel_rfl) rfl (fun _ _ _ _ h => h) rfl ?_ (by assumption) ?_); rotate_left; (intro w hSw; (try dsimp only at hSw); go_simp; (try (with_reducible rfl))); simp only [Act.put, List.setIfInBounds_toArray, List.set_cons_zero, List.set_cons_succ])
    ((refine held_take 17 22 ?_ rfl (by kernel_rfl) (by kernel_rfl) (by kernel_rfl) rfl (fun _ _ _ _ h => h) rfl ?_ (by assumption) ?_); rotate_left; (intro w hSw; (try dsimp only at hSw); go_simp; (try (with_reducible rfl))); simp only [Act.put, List.setIfInBounds_toArray, List.set_cons_zero, List.set_cons_succ])
    ((refine held_take 18 23 ?_ rfl (by kernel_rfl) (by kernel_rfl) (by kernel_rfl) rfl (fun _ _ _ _ h => h) rfl ?_ (by assumption) ?_); rotate_left; (intro w hSw; (try dsimp only at hSw); go_simp; (try (with_reducible rfl))); simp only [Act.put, List.setIfInBounds_toArray, List.set_cons_zero, List.set_cons_succ])
    ((refine held_take 19 24 ?_ rfl (by kernel_rfl) (by kernel_rfl) (by kernel_rfl) rfl (fun _ _ _ _ h => h) rfl ?_ (by assumption) ?_); rotate_left; (intro w hSw; (try dsimp only at hSw); go_simp; (try (with_reducible rfl))); simp only [Act.put, List.setIfInBounds_toArray, List.set_cons_zero, List.set_cons_succ])
    ((refine held_take 20 25 ?_ rfl (by kernel_rfl) (by kernel_rfl) (by kernel_rfl) rfl (fun _ _ _ _ h => h) rfl ?_ (by assumption) ?_); rotate_left; (intro w hSw; (try dsimp only at hSw); go_simp; (try (with_reducible rfl))); simp only [Act.put, List.setIfInBounds_toArray, List.set_cons_zero, List.set_cons_succ])
    ((refine held_take 21 26 ?_ rfl (by kernel_rfl) (by kernel_rfl) (by kernel_rfl) rfl (fun _ _ _ _ h => h) rfl ?_ (by assumption) ?_); rotate_left; (intro w hSw; (try dsimp only at hSw); go_simp; (try (with_reducible rfl))); simp only [Act.put, List.setIfInBounds_toArray, List.set_cons_zero, List.set_cons_succ])
    ((refine held_take 22 27 ?_ rfl (by kernel_rfl) (by kernel_rfl) (by kernel_rfl) rfl (fun _ _ _ _ h => h) rfl ?_ (by assumption) ?_); rotate_left; (intro w hSw; (try dsimp only at hSw); go_simp; (try (with_reducible rfl))); simp only [Act.put, List.setIfInBounds_toArray, List.set_cons_zero, List.set_cons_succ])
    ((refine held_take 23 28 ?_ rfl (by kernel_rfl) (by kernel_rfl) (by kernel_rfl) rfl (fun _ _ _ _ h => h) rfl ?_ (by assumption) ?_); rotate_left; (intro w hSw; (try dsimp only at hSw); go_simp; (try (with_reducible rfl))); simp only [Act.put, List.setIfInBounds_toArray, List.set_cons_zero, List.set_cons_succ])
    ((refine held_take 24 29 ?_ rfl (by kernel_rfl) (by kernel_rfl) (by kernel_rfl) rfl (fun _ _ _ _ h => h) rfl ?_ (by assumption) ?_); rotate_left; (intro w hSw; (try dsimp only at hSw); go_simp; (try (with_reducible rfl))); simp only [Act.put, List.setIfInBounds_toArray, List.set_cons_zero, List.set_cons_succ])
    ((refine held_take 25 30 ?_ rfl (by kernel_rfl) (by kernel_rfl) (by kernel_rfl) rfl (fun _ _ _ _ h => h) rfl ?_ (by assumption) ?_); rotate_left; (intro w hSw; (try dsimp only at hSw); go_simp; (try (with_reducible rfl))); simp only [Act.put, List.setIfInBounds_toArray, List.set_cons_zero, List.set_cons_succ])
    ((refine held_take 26 31 ?_ rfl (by kernel_rfl) (by kernel_rfl) (by kernel_rfl) rfl (fun _ _ _ _ h => h) rfl ?_ (by assumption) ?_); rotate_left; (intro w hSw; (try dsimp only at hSw); go_simp; (try (with_reducible rfl))); simp only [Act.put, List.setIfInBounds_toArray, List.set_cons_zero, List.set_cons_succ])
    ((refine held_take 27 32 ?_ rfl (by kernel_rfl) (by kernel_rfl) (by kernel_rfl) rfl (fun _ _ _ _ h => h) rfl ?_ (by assumption) ?_); rotate_left; (intro w hSw; (try dsimp only at hSw); go_simp; (try (with_reducible rfl))); simp only [Act.put, List.setIfInBounds_toArray, List.set_cons_zero, List.set_cons_succ])
    ((refine wpAnyH_ready (rs := [28]) (by kernel_rfl) (by simp) ?_); (refine AllReadyH.cons rfl (fun K hK => ?_) AllReadyH.nil); go_simp)
    refine (HK.out _ ((HR0.out.drew.below hb2).get 1 rfl)).mono ?_
    rintro e3 w3 ⟨rfl, hb3⟩
    go_simp
    refine hK.out _ _ (((HR0.out.drew.below hb2).below hb3).get 0 rfl).cell (fun hHeld => ?_)
    clear hK K
    (try simp only [Act.put, List.setIfInBounds_toArray, List.set_cons_zero, List.set_cons_succ])
    ((refine held_take 29 34 ?_ rfl (by kernel_rfl) (by kernel_rfl) (by kernel_rfl) rfl (fun _ _ _ _ h => h) rfl ?_ (by assumption) ?_); rotate_left; (intro w hSw; (try dsimp only at hSw); go_simp; (try (with_reducible rfl))); simp only [Act.put, List.setIfInBounds_toArray, List.set_cons_zero, List.set_cons_succ])
    ((refine held_take 30 35 ?_ rfl (by kernel_rfl) (by kernel_rfl) (by kernel_rfl) rfl (fun _ _ _ _ h => h) rfl ?_ (by assumption) ?_); rotate_left; (intro w hSw; (try dsimp only at hSw); go_simp; (try (with_reducible rfl))); simp only [Act.put, List.setIfInBounds_toArray, List.set_cons_zero, List.set_cons_succ])
    refine wpAnyH_done (by kernel_rfl) ?_ _
    have HZ := Lib.hid ((HR0.out.drew.below hb2).below hb3); clear hb2 hb3
    go_wp2_with fail
    go_ret
    exact ⟨NO.out _ rfl (by rw [HRES.out]; simp), HZ.out.1⟩
  have HRES2 := Lib.hid (show RES = filsTo files files.length by rw [HRES.out]; simp)
  clear HRES
  go_enter Tryz.func31, Tryz.ntmps31
  go_wp2_with fail
  refine wp_region_held_drew (S := (fun w' => ∀ i, w'.cell? ⟨w.heap.size, i, none⟩ = (devCs ⟨use, scr, files, keys⟩ A c F cf K ck)[i]?)) (by kernel_rfl) (HR0.out.drew.get 0 rfl).cell (fun hHeld => ?_)
  ((refine held_take 0 5 ?_ rfl (by kernel_rfl) (by kernel_rfl) (by kernel_rfl) rfl (fun _ _ _ _ h => h) rfl ?_ (by assumption) ?_); rotate_left; (intro w hSw; (try dsimp only at hSw); go_simp; (try (with_reducible rfl))); simp only [Act.put, List.setIfInBounds_toArray, List.set_cons_zero, List.set_cons_succ])
  ((refine held_take 1 6 ?_ rfl (by kernel_rfl) (by kernel_rfl) (by kernel_rfl) rfl (fun _ _ _ _ h => h) rfl ?_ (by assumption) ?_); rotate_left; (intro w hSw; (try dsimp only at hSw); go_simp; (try (with_reducible rfl))); simp only [Act.put, List.setIfInBounds_toArray, List.set_cons_zero, List.set_cons_succ])
  ((refine held_take 2 7 ?_ rfl (by kernel_rfl) (by kernel_rfl) (by kernel_rfl) rfl (fun _ _ _ _ h => h) rfl ?_ (by assumption) ?_); rotate_left; (intro w hSw; (try dsimp only at hSw); go_simp; (try (with_reducible rfl))); simp only [Act.put, List.setIfInBounds_toArray, List.set_cons_zero, List.set_cons_succ])
  ((refine held_take 3 8 ?_ rfl (by kernel_rfl) (by kernel_rfl) (by kernel_rfl) rfl (fun _ _ _ _ h => h) rfl ?_ (by assumption) ?_); rotate_left; (intro w hSw; (try dsimp only at hSw); go_simp; (try (with_reducible rfl))); simp only [Act.put, List.setIfInBounds_toArray, List.set_cons_zero, List.set_cons_succ])
  ((refine wpAnyH_ready (rs := [4]) (by kernel_rfl) (by simp) ?_); (refine AllReadyH.cons rfl (fun K hK => ?_) AllReadyH.nil); go_simp)
  refine (countFil_any F files.length cf _).mono ?_
  rintro e1 w1 ⟨rfl, rfl⟩
  go_simp
  refine hK.out _ _ (HR0.out.drew.get 0 rfl).cell (fun hHeld => ?_)
  clear hK K
  (try simp only [Act.put, List.setIfInBounds_toArray, List.set_cons_zero, List.set_cons_succ])
  ((refine wpAnyH_ready (rs := [5]) (by kernel_rfl) (by simp) ?_); (refine AllReadyH.cons rfl (fun K hK => ?_) AllReadyH.nil); go_simp)
  refine (HI.out _).mono ?_
  rintro e1 w1 ⟨rfl, rfl⟩
  go_simp
  refine hK.out _ _ (HR0.out.drew.get 0 rfl).cell (fun hHeld => ?_)
  clear hK K
  (try simp only [Act.put, List.setIfInBounds_toArray, List.set_cons_zero, List.set_cons_succ])
  ((refine held_take 6 11 ?_ rfl (by kernel_rfl) (by kernel_rfl) (by kernel_rfl) rfl (fun _ _ _ _ h => h) rfl ?_ (by assumption) ?_); rotate_left; (intro w hSw; (try dsimp only at hSw); go_simp; (try (with_reducible rfl))); simp only [Act.put, List.setIfInBounds_toArray, List.set_cons_zero, List.set_cons_succ])
  ((refine held_take 7 12 ?_ rfl (by kernel_rfl) (by kernel_rfl) (by kernel_rfl) rfl (fun _ _ _ _ h => h) rfl ?_ (by assumption) ?_); rotate_left; (intro w hSw; (try dsimp only at hSw); go_simp; (try (with_reducible rfl))); simp only [Act.put, List.setIfInBounds_toArray, List.set_cons_zero, List.set_cons_succ])
  ((refine held_take 8 13 ?_ rfl (by kernel_rfl) (by kernel_rfl) (by kernel_rfl) rfl (fun _ _ _ _ h => h) rfl ?_ (by assumption) ?_); rotate_left; (intro w hSw; (try dsimp only at hSw); go_simp; (try (with_reducible rfl))); simp only [Act.put, List.setIfInBounds_toArray, List.set_cons_zero, List.set_cons_succ])
  ((refine held_take 9 14 ?_ rfl (by kernel_rfl) (by kernel_rfl) (by kernel_rfl) rfl (fun _ _ _ _ h => h) rfl ?_ (by assumption) ?_); rotate_left; (intro w hSw; (try dsimp only at hSw); go_simp; (try (with_reducible rfl))); simp only [Act.put, List.setIfInBounds_toArray, List.set_cons_zero, List.set_cons_succ])
  ((refine wpAnyH_ready (rs := [10]) (by kernel_rfl) (by simp) ?_); (refine AllReadyH.cons rfl (fun K hK => ?_) AllReadyH.nil); go_simp)
  refine (HO.out _ (HR0.out.drew.get 3 rfl) (HR0.out.drew.le 3 rfl)).mono ?_
  rintro e2 w2 ⟨rfl, hb2⟩
  go_simp
  refine hK.out _ _ ((HR0.out.drew.below hb2).get 0 rfl).cell (fun hHeld => ?_)
  clear hK K
  (try simp only [Act.put, List.setIfInBounds_toArray, List.set_cons_zero, List.set_cons_succ])
  ((refine held_take 11 16 ?_ rfl (by kernel_rfl) (by kernel_rfl) (by kernel_rfl) rfl (fun _ _ _ _ h => h) rfl ?_ (by assumption) ?_); rotate_left; (intro w hSw; (try dsimp only at hSw); go_simp; (try (with_reducible rfl))); simp only [Act.put, List.setIfInBounds_toArray, List.set_cons_zero, List.set_cons_succ])
  ((refine held_take 12 17 ?_ rfl (by kernel_rfl) (by kernel_rfl) (by kernel_rfl) rfl (fun _ _ _ _ h => h) rfl ?_ (by assumption) ?_); rotate_left; (intro w hSw; (try dsimp only at hSw); go_simp; (try (with_reducible rfl))); simp only [Act.put, List.setIfInBounds_toArray, List.set_cons_zero, List.set_cons_succ])
  ((refine held_take 13 18 ?_ rfl (by kernel_rfl) (by kernel_rfl) (by kernel_rfl) rfl (fun _ _ _ _ h => h) rfl ?_ (by assumption) ?_); rotate_left; (intro w hSw; (try dsimp only at hSw); go_simp; (try (with_reducible rfl))); simp only [Act.put, List.setIfInBounds_toArray, List.set_cons_zero, List.set_cons_succ])
  ((refine held_take 14 19 ?_ rfl (by kernel_rfl) (by kernel_rfl) (by kernel_rfl) rfl (fun _ _ _ _ h => h) rfl ?_ (by assumption) ?_); rotate_left; (intro w hSw; (try dsimp only at hSw); go_simp; (try (with_reducible rfl))); simp only [Act.put, List.setIfInBounds_toArray, List.set_cons_zero, List.set_cons_succ])
  ((refine held_take 15 20 ?_ rfl (by kernel_rfl) (by kernel_rfl) (by kernel_rfl) rfl (fun _ _ _ _ h => h) rfl ?_ (by assumption) ?_); rotate_left; (intro w hSw; (try dsimp only at hSw); go_simp; (try (with_reducible rfl))); simp only [Act.put, List.setIfInBounds_toArray, List.set_cons_zero, List.set_cons_succ])
  ((refine held_take 16 21 ?_ rfl (by kernel_rfl) (by kernel_rfl) (by kernel_rfl) rfl (fun _ _ _ _ h => h) rfl ?_ (by assumption) ?_); rotate_left; (intro w hSw; (try dsimp only at hSw); go_simp; (try (with_reducible rfl))); simp only [Act.put, List.setIfInBounds_toArray, List.set_cons_zero, List.set_cons_succ])
  ((refine held_take 17 22 ?_ rfl (by kernel_rfl) (by kernel_rfl) (by kernel_rfl) rfl (fun _ _ _ _ h => h) rfl ?_ (by assumption) ?_); rotate_left; (intro w hSw; (try dsimp only at hSw); go_simp; (try (with_reducible rfl))); simp only [Act.put, List.setIfInBounds_toArray, List.set_cons_zero, List.set_cons_succ])
  ((refine held_take 18 23 ?_ rfl (by kernel_rfl) (by kernel_rfl) (by kernel_rfl) rfl (fun _ _ _ _ h => h) rfl ?_ (by assumption) ?_); rotate_left; (intro w hSw; (try dsimp only at hSw); go_simp; (try (with_reducible rfl))); simp only [Act.put, List.setIfInBounds_toArray, List.set_cons_zero, List.set_cons_succ])
  ((refine held_take 19 24 ?_ rfl (by kernel_rfl) (by kernel_rfl) (by kernel_rfl) rfl (fun _ _ _ _ h => h) rfl ?_ (by assumption) ?_); rotate_left; (intro w hSw; (try dsimp only at hSw); go_simp; (try (with_reducible rfl))); simp only [Act.put, List.setIfInBounds_toArray, List.set_cons_zero, List.set_cons_succ])
  ((refine held_take 20 25 ?_ rfl (by kernel_rfl) (by kernel_rfl) (by kernel_rfl) rfl (fun _ _ _ _ h => h) rfl ?_ (by assumption) ?_); rotate_left; (intro w hSw; (try dsimp only at hSw); go_simp; (try (with_reducible rfl))); simp only [Act.put, List.setIfInBounds_toArray, List.set_cons_zero, List.set_cons_succ])
  ((refine held_take 21 26 ?_ rfl (by kernel_rfl) (by kernel_rfl) (by kernel_rfl) rfl (fun _ _ _ _ h => h) rfl ?_ (by assumption) ?_); rotate_left; (intro w hSw; (try dsimp only at hSw); go_simp; (try (with_reducible rfl))); simp only [Act.put, List.setIfInBounds_toArray, List.set_cons_zero, List.set_cons_succ])
  ((refine held_take 22 27 ?_ rfl (by kernel_rfl) (by kernel_rfl) (by kernel_rfl) rfl (fun _ _ _ _ h => h) rfl ?_ (by assumption) ?_); rotate_left; (intro w hSw; (try dsimp only at hSw); go_simp; (try (with_reducible rfl))); simp only [Act.put, List.setIfInBounds_toArray, List.set_cons_zero, List.set_cons_succ])
  ((refine held_take 23 28 ?_ rfl (by kernel_rfl) (by kernel_rfl) (by kernel_rfl) rfl (fun _ _ _ _ h => h) rfl ?_ (by assumption) ?_); rotate_left; (intro w hSw; (try dsimp only at hSw); go_simp; (try (with_reducible rfl))); simp only [Act.put, List.setIfInBounds_toArray, List.set_cons_zero, List.set_cons_succ])
  ((refine held_take 24 29 ?_ rfl (by kernel_rfl) (by kernel_rfl) (by kernel_rfl) rfl (fun _ _ _ _ h => h) rfl ?_ (by assumption) ?_); rotate_left; (intro w hSw; (try dsimp only at hSw); go_simp; (try (with_reducible rfl))); simp only [Act.put, List.setIfInBounds_toArray, List.set_cons_zero, List.set_cons_succ])
  ((refine held_take 25 30 ?_ rfl (by kernel_rfl) (by kernel_rfl) (by kernel_rfl) rfl (fun _ _ _ _ h => h) rfl ?_ (by assumption) ?_); rotate_left; (intro w hSw; (try dsimp only at hSw); go_simp; (try (with_reducible rfl))); simp only [Act.put, List.setIfInBounds_toArray, List.set_cons_zero, List.set_cons_succ])
  ((refine held_take 26 31 ?_ rfl (by kernel_rfl) (by kernel_rfl) (by kernel_rfl) rfl (fun _ _ _ _ h => h) rfl ?_ (by assumption) ?_); rotate_left; (intro w hSw; (try dsimp only at hSw); go_simp; (try (with_reducible rfl))); simp only [Act.put, List.setIfInBounds_toArray, List.set_cons_zero, List.set_cons_succ])
  ((refine held_take 27 32 ?_ rfl (by kernel_rfl) (by kernel_rfl) (by kernel_rfl) rfl (fun _ _ _ _ h => h) rfl ?_ (by assumption) ?_); rotate_left; (intro w hSw; (try dsimp only at hSw); go_simp; (try (with_reducible rfl))); simp only [Act.put, List.setIfInBounds_toArray, List.set_cons_zero, List.set_cons_succ])
  ((refine wpAnyH_ready (rs := [28]) (by kernel_rfl) (by simp) ?_); (refine AllReadyH.cons rfl (fun K hK => ?_) AllReadyH.nil); go_simp)
  refine (HK.out _ ((HR0.out.drew.below hb2).get 1 rfl)).mono ?_
  rintro e3 w3 ⟨rfl, hb3⟩
  go_simp
  refine hK.out _ _ (((HR0.out.drew.below hb2).below hb3).get 0 rfl).cell (fun hHeld => ?_)
  clear hK K
  (try simp only [Act.put, List.setIfInBounds_toArray, List.set_cons_zero, List.set_cons_succ])
  ((refine held_take 29 34 ?_ rfl (by kernel_rfl) (by kernel_rfl) (by kernel_rfl) rfl (fun _ _ _ _ h => h) rfl ?_ (by assumption) ?_); rotate_left; (intro w hSw; (try dsimp only at hSw); go_simp; (try (with_reducible rfl))); simp only [Act.put, List.setIfInBounds_toArray, List.set_cons_zero, List.set_cons_succ])
  ((refine held_take 30 35 ?_ rfl (by kernel_rfl) (by kernel_rfl) (by kernel_rfl) rfl (fun _ _ _ _ h => h) rfl ?_ (by assumption) ?_); rotate_left; (intro w hSw; (try dsimp only at hSw); go_simp; (try (with_reducible rfl))); simp only [Act.put, List.setIfInBounds_toArray, List.set_cons_zero, List.set_cons_succ])
  refine wpAnyH_done (by kernel_rfl) ?_ _
  have HZ := Lib.hid ((HR0.out.drew.below hb2).below hb3); clear hb2 hb3
  clear HI HO HK HR0 n20 n20' n3 n3'
  have f := (HZ.out.get 0 rfl).cell
  go_wp2_with fail
  go_loopw [39] (fun i wr => ∃ k : Nat, k ≤ files.length ∧ i = .int .i64 k ∧ filsTo files k = true ∧ Below w3.heap.size w3 wr) (fun i _ => files.length - (intOf i).toNat)
  case atStart => exact ⟨0, Nat.zero_le _, rfl, rfl, Below.refl _ _⟩
  case round =>
    clear f
    obtain ⟨k, hkl, rfl, ht, hb⟩ := hrel
    have HT := Lib.hid ht; clear ht
    have HRk := Lib.hid (HZ.out.below hb)
    have hsz := hb.size
    have HBk := Lib.hid hb; clear hb
    by_cases hlt : k < files.length
    case neg =>
      have hkl : k = files.length := by omega
      have HKL := Lib.hid hkl; clear hkl
      go_wp2_with fail
      go_ret
      refine ⟨congrArg (fun b => Ending.returned (.bool b)) ?_, HRk.out.1⟩
      rw [HRES2.out, ← HKL.out, HT.out]
    obtain ⟨b, off, rfl, hb1, hb2, L1, d1, e0, e1, e2, e3, hL⟩ := (HRk.out.get 2 rfl).at_ hlt
    have HX := Lib.hid (HS2.out.2 _ (getD_mem (d := filD) hlt))
    have HS := Lib.hid (filsTo_succ files k)
    have HA := Lib.hid (HAT.out k hlt)
    have HO := Lib.hid (show filOkAt files k = (filB (files.getD k filD) && (decide (k = 0) || Op.bytesLess (files.getD (k - 1) filD).name.toList (files.getD k filD).name.toList)) from rfl)
    have HF := Lib.hid (HRk.out.get 2 rfl)
    generalize files.getD k filD = X at *
    have f := (HRk.out.get 0 rfl).cell
    have HL := Lib.hid hL
    have i0 : (0 : Int) ≤ (k : Int) := by omega
    have i1 : (k : Int) < (files.length : Int) := by omega
    clear hL
    have HN := Lib.hid ((HRk.out.add lo hi _ (loc_strR0 lo hi L1 _ X.lines) (HRk.out.le 2 rfl) HL.out).box 55 #[.string X.name, .slice L1 X.lines.length d1, .string X.part, .int .i64 X.at_])
    have HBN := Lib.hid (HBk.out.alloc hsz (.cells #[.string X.name, .slice L1 X.lines.length d1, .string X.part, .int .i64 X.at_] 55))
    cases hX : filB X <;> rw [hX] at HO <;> (have HXF := Lib.hid hX; clear hX)
    case false =>
      go_wp2_with fail
      generalize wr.alloc (.cells #[.string X.name, .slice L1 X.lines.length d1, .string X.part, .int .i64 X.at_] 55) = wn at *
      refine wp_region_held_drew (S := (fun w' => (∀ i, w'.cell? ⟨w.heap.size, i, none⟩ = (devCs ⟨use, scr, files, keys⟩ A c (some ⟨b, off, none⟩) cf K ck)[i]?) ∧ (∀ i, w'.cell? ⟨wr.heap.size, i, none⟩ = (#[.string X.name, .slice L1 X.lines.length d1, .string X.part, .int .i64 X.at_] : Array Value)[i]?))) (by kernel_rfl) ⟨(HN.out.drew.get 2 rfl).cell, (HN.out.drew.get 0 rfl).cell⟩ (fun hHeld => ?_)
      ((refine held_take 0 44 ?_ rfl (by kernel_rfl) (by kernel_rfl) (by kernel_rfl) rfl (fun _ _ _ _ h => h) rfl ?_ (by assumption) ?_); rotate_left; (intro w hSw; (try dsimp only at hSw); go_simp; (try (with_reducible rfl))); simp only [Act.put, List.setIfInBounds_toArray, List.set_cons_zero, List.set_cons_succ])
      ((refine wpAnyH_ready (rs := [1]) (by kernel_rfl) (by simp) ?_); (refine AllReadyH.cons rfl (fun K hK => ?_) AllReadyH.nil); go_simp)
      refine (fileOk_any X _ lo hi _ ⟨L1, d1, rfl, HN.out.drew.get 1 rfl⟩ (HN.out.drew.le 1 rfl) HX.out).mono ?_
      rintro e5 w5 ⟨rfl, hb5⟩
      rw [HXF.out]
      go_simp
      refine hK.out _ _ ⟨((HN.out.drew.below hb5).get 2 rfl).cell, ((HN.out.drew.below hb5).get 0 rfl).cell⟩ (fun hHeld => ?_)
      clear hK K
      (try simp only [Act.put, List.setIfInBounds_toArray, List.set_cons_zero, List.set_cons_succ])
      ((refine held_take 2 46 ?_ rfl (by kernel_rfl) (by kernel_rfl) (by kernel_rfl) rfl (fun _ _ _ _ h => h) rfl ?_ (by assumption) ?_); rotate_left; (intro w hSw; (try dsimp only at hSw); go_simp; (try (with_reducible rfl))); simp only [Act.put, List.setIfInBounds_toArray, List.set_cons_zero, List.set_cons_succ])
      ((refine held_take 3 47 ?_ rfl (by kernel_rfl) (by kernel_rfl) (by kernel_rfl) rfl (fun _ _ _ _ h => h) rfl ?_ (by assumption) ?_); rotate_left; (intro w hSw; (try dsimp only at hSw); go_simp; (try (with_reducible rfl))); simp only [Act.put, List.setIfInBounds_toArray, List.set_cons_zero, List.set_cons_succ])
      ((refine held_skip 4 48 rfl (by kernel_rfl) (by kernel_rfl) (by kernel_rfl) rfl (fun _ _ _ _ h => h) rfl (by assumption) ?_); simp only [Act.put, List.setIfInBounds_toArray, List.set_cons_zero, List.set_cons_succ])
      ((refine held_skip 5 49 rfl (by kernel_rfl) (by kernel_rfl) (by kernel_rfl) rfl (fun _ _ _ _ h => h) rfl (by assumption) ?_); simp only [Act.put, List.setIfInBounds_toArray, List.set_cons_zero, List.set_cons_succ])
      ((refine held_skip 6 50 rfl (by kernel_rfl) (by kernel_rfl) (by kernel_rfl) rfl (fun _ _ _ _ h => h) rfl (by assumption) ?_); simp only [Act.put, List.setIfInBounds_toArray, List.set_cons_zero, List.set_cons_succ])
      ((refine held_skip 7 51 rfl (by kernel_rfl) (by kernel_rfl) (by kernel_rfl) rfl (fun _ _ _ _ h => h) rfl (by assumption) ?_); simp only [Act.put, List.setIfInBounds_toArray, List.set_cons_zero, List.set_cons_succ])
      ((refine held_skip 8 52 rfl (by kernel_rfl) (by kernel_rfl) (by kernel_rfl) rfl (fun _ _ _ _ h => h) rfl (by assumption) ?_); simp only [Act.put, List.setIfInBounds_toArray, List.set_cons_zero, List.set_cons_succ])
      ((refine held_skip 9 53 rfl (by kernel_rfl) (by kernel_rfl) (by kernel_rfl) rfl (fun _ _ _ _ h => h) rfl (by assumption) ?_); simp only [Act.put, List.setIfInBounds_toArray, List.set_cons_zero, List.set_cons_succ])
      ((refine held_skip 10 54 rfl (by kernel_rfl) (by kernel_rfl) (by kernel_rfl) rfl (fun _ _ _ _ h => h) rfl (by assumption) ?_); simp only [Act.put, List.setIfInBounds_toArray, List.set_cons_zero, List.set_cons_succ])
      ((refine held_skip 11 55 rfl (by kernel_rfl) (by kernel_rfl) (by kernel_rfl) rfl (fun _ _ _ _ h => h) rfl (by assumption) ?_); simp only [Act.put, List.setIfInBounds_toArray, List.set_cons_zero, List.set_cons_succ])
      ((refine held_skip 12 56 rfl (by kernel_rfl) (by kernel_rfl) (by kernel_rfl) rfl (fun _ _ _ _ h => h) rfl (by assumption) ?_); simp only [Act.put, List.setIfInBounds_toArray, List.set_cons_zero, List.set_cons_succ])
      ((refine held_skip 13 57 rfl (by kernel_rfl) (by kernel_rfl) (by kernel_rfl) rfl (fun _ _ _ _ h => h) rfl (by assumption) ?_); simp only [Act.put, List.setIfInBounds_toArray, List.set_cons_zero, List.set_cons_succ])
      ((refine held_skip 14 58 rfl (by kernel_rfl) (by kernel_rfl) (by kernel_rfl) rfl (fun _ _ _ _ h => h) rfl (by assumption) ?_); simp only [Act.put, List.setIfInBounds_toArray, List.set_cons_zero, List.set_cons_succ])
      ((refine held_skip 15 59 rfl (by kernel_rfl) (by kernel_rfl) (by kernel_rfl) rfl (fun _ _ _ _ h => h) rfl (by assumption) ?_); simp only [Act.put, List.setIfInBounds_toArray, List.set_cons_zero, List.set_cons_succ])
      ((refine held_skip 16 60 rfl (by kernel_rfl) (by kernel_rfl) (by kernel_rfl) rfl (fun _ _ _ _ h => h) rfl (by assumption) ?_); simp only [Act.put, List.setIfInBounds_toArray, List.set_cons_zero, List.set_cons_succ])
      ((refine held_skip 17 61 rfl (by kernel_rfl) (by kernel_rfl) (by kernel_rfl) rfl (fun _ _ _ _ h => h) rfl (by assumption) ?_); simp only [Act.put, List.setIfInBounds_toArray, List.set_cons_zero, List.set_cons_succ])
      ((refine held_take 18 62 ?_ rfl (by kernel_rfl) (by kernel_rfl) (by kernel_rfl) rfl (fun _ _ _ _ h => h) rfl ?_ (by assumption) ?_); rotate_left; (intro w hSw; (try dsimp only at hSw); go_simp; (try (with_reducible rfl))); simp only [Act.put, List.setIfInBounds_toArray, List.set_cons_zero, List.set_cons_succ])
      refine wpAnyH_done (by kernel_rfl) ?_ _
      have HB5 := Lib.hid (HBN.out.trans ((below_drewN' wn 1).mono HBN.out.size |>.trans (hb5.mono HBN.out.size))); have HB6 := Lib.hid (HN.out.drew.below hb5); clear hb5
      go_wp2_with fail
      go_ret
      exact ⟨NO.out _ rfl (HA.out (by rw [HO.out]; rfl)), HB6.out.1⟩
    by_cases hk0 : k = 0
    case pos =>
      have HK0 := Lib.hid hk0
      have nk : decide ((0 : Int) < (k : Int)) = false := by rw [decide_eq_false_iff_not]; omega
      have nk' : decide (0 < k) = false := by rw [decide_eq_false_iff_not]; omega
      clear hk0
      go_wp2_with fail
      generalize wr.alloc (.cells #[.string X.name, .slice L1 X.lines.length d1, .string X.part, .int .i64 X.at_] 55) = wn at *
      refine wp_region_held_drew (S := (fun w' => (∀ i, w'.cell? ⟨w.heap.size, i, none⟩ = (devCs ⟨use, scr, files, keys⟩ A c (some ⟨b, off, none⟩) cf K ck)[i]?) ∧ (∀ i, w'.cell? ⟨wr.heap.size, i, none⟩ = (#[.string X.name, .slice L1 X.lines.length d1, .string X.part, .int .i64 X.at_] : Array Value)[i]?))) (by kernel_rfl) ⟨(HN.out.drew.get 2 rfl).cell, (HN.out.drew.get 0 rfl).cell⟩ (fun hHeld => ?_)
      ((refine held_take 0 44 ?_ rfl (by kernel_rfl) (by kernel_rfl) (by kernel_rfl) rfl (fun _ _ _ _ h => h) rfl ?_ (by assumption) ?_); rotate_left; (intro w hSw; (try dsimp only at hSw); go_simp; (try (with_reducible rfl))); simp only [Act.put, List.setIfInBounds_toArray, List.set_cons_zero, List.set_cons_succ])
      ((refine wpAnyH_ready (rs := [1]) (by kernel_rfl) (by simp) ?_); (refine AllReadyH.cons rfl (fun K hK => ?_) AllReadyH.nil); go_simp)
      refine (fileOk_any X _ lo hi _ ⟨L1, d1, rfl, HN.out.drew.get 1 rfl⟩ (HN.out.drew.le 1 rfl) HX.out).mono ?_
      rintro e5 w5 ⟨rfl, hb5⟩
      rw [HXF.out]
      go_simp
      refine hK.out _ _ ⟨((HN.out.drew.below hb5).get 2 rfl).cell, ((HN.out.drew.below hb5).get 0 rfl).cell⟩ (fun hHeld => ?_)
      clear hK K
      (try simp only [Act.put, List.setIfInBounds_toArray, List.set_cons_zero, List.set_cons_succ])
      ((refine held_take 2 46 ?_ rfl (by kernel_rfl) (by kernel_rfl) (by kernel_rfl) rfl (fun _ _ _ _ h => h) rfl ?_ (by assumption) ?_); rotate_left; (intro w hSw; (try dsimp only at hSw); go_simp; (try (with_reducible rfl))); simp only [Act.put, List.setIfInBounds_toArray, List.set_cons_zero, List.set_cons_succ])
      ((refine held_take 3 47 ?_ rfl (by kernel_rfl) (by kernel_rfl) (by kernel_rfl) rfl (fun _ _ _ _ h => h) rfl ?_ (by assumption) ?_); rotate_left; (intro w hSw; (try dsimp only at hSw); go_simp; (try (with_reducible rfl))); simp only [Act.put, List.setIfInBounds_toArray, List.set_cons_zero, List.set_cons_succ])
      ((refine held_take 4 48 ?_ rfl (by kernel_rfl) (by kernel_rfl) (by kernel_rfl) rfl (fun _ _ _ _ h => h) rfl ?_ (by assumption) ?_); rotate_left; (intro w hSw; (try dsimp only at hSw); go_simp; (try (with_reducible rfl))); simp only [Act.put, List.setIfInBounds_toArray, List.set_cons_zero, List.set_cons_succ])
      ((refine held_take 5 49 ?_ rfl (by kernel_rfl) (by kernel_rfl) (by kernel_rfl) rfl (fun _ _ _ _ h => h) rfl ?_ (by assumption) ?_); rotate_left; (intro w hSw; (try dsimp only at hSw); go_simp; (try (with_reducible rfl))); simp only [Act.put, List.setIfInBounds_toArray, List.set_cons_zero, List.set_cons_succ])
      ((refine held_take 6 50 ?_ rfl (by kernel_rfl) (by kernel_rfl) (by kernel_rfl) rfl (fun _ _ _ _ h => h) rfl ?_ (by assumption) ?_); rotate_left; (intro w hSw; (try dsimp only at hSw); go_simp; (try (with_reducible rfl))); simp only [Act.put, List.setIfInBounds_toArray, List.set_cons_zero, List.set_cons_succ])
      ((refine held_skip 7 51 rfl (by kernel_rfl) (by kernel_rfl) (by kernel_rfl) rfl (fun _ _ _ _ h => h) rfl (by assumption) ?_); simp only [Act.put, List.setIfInBounds_toArray, List.set_cons_zero, List.set_cons_succ])
      ((refine held_skip 8 52 rfl (by kernel_rfl) (by kernel_rfl) (by kernel_rfl) rfl (fun _ _ _ _ h => h) rfl (by assumption) ?_); simp only [Act.put, List.setIfInBounds_toArray, List.set_cons_zero, List.set_cons_succ])
      ((refine held_skip 9 53 rfl (by kernel_rfl) (by kernel_rfl) (by kernel_rfl) rfl (fun _ _ _ _ h => h) rfl (by assumption) ?_); simp only [Act.put, List.setIfInBounds_toArray, List.set_cons_zero, List.set_cons_succ])
      ((refine held_skip 10 54 rfl (by kernel_rfl) (by kernel_rfl) (by kernel_rfl) rfl (fun _ _ _ _ h => h) rfl (by assumption) ?_); simp only [Act.put, List.setIfInBounds_toArray, List.set_cons_zero, List.set_cons_succ])
      ((refine held_skip 11 55 rfl (by kernel_rfl) (by kernel_rfl) (by kernel_rfl) rfl (fun _ _ _ _ h => h) rfl (by assumption) ?_); simp only [Act.put, List.setIfInBounds_toArray, List.set_cons_zero, List.set_cons_succ])
      ((refine held_skip 12 56 rfl (by kernel_rfl) (by kernel_rfl) (by kernel_rfl) rfl (fun _ _ _ _ h => h) rfl (by assumption) ?_); simp only [Act.put, List.setIfInBounds_toArray, List.set_cons_zero, List.set_cons_succ])
      ((refine held_skip 13 57 rfl (by kernel_rfl) (by kernel_rfl) (by kernel_rfl) rfl (fun _ _ _ _ h => h) rfl (by assumption) ?_); simp only [Act.put, List.setIfInBounds_toArray, List.set_cons_zero, List.set_cons_succ])
      ((refine held_skip 14 58 rfl (by kernel_rfl) (by kernel_rfl) (by kernel_rfl) rfl (fun _ _ _ _ h => h) rfl (by assumption) ?_); simp only [Act.put, List.setIfInBounds_toArray, List.set_cons_zero, List.set_cons_succ])
      ((refine held_skip 15 59 rfl (by kernel_rfl) (by kernel_rfl) (by kernel_rfl) rfl (fun _ _ _ _ h => h) rfl (by assumption) ?_); simp only [Act.put, List.setIfInBounds_toArray, List.set_cons_zero, List.set_cons_succ])
      ((refine held_skip 16 60 rfl (by kernel_rfl) (by kernel_rfl) (by kernel_rfl) rfl (fun _ _ _ _ h => h) rfl (by assumption) ?_); simp only [Act.put, List.setIfInBounds_toArray, List.set_cons_zero, List.set_cons_succ])
      ((refine held_take 17 61 ?_ rfl (by kernel_rfl) (by kernel_rfl) (by kernel_rfl) rfl (fun _ _ _ _ h => h) rfl ?_ (by assumption) ?_); rotate_left; (intro w hSw; (try dsimp only at hSw); go_simp; (try (with_reducible rfl))); simp only [Act.put, List.setIfInBounds_toArray, List.set_cons_zero, List.set_cons_succ])
      ((refine held_take 18 62 ?_ rfl (by kernel_rfl) (by kernel_rfl) (by kernel_rfl) rfl (fun _ _ _ _ h => h) rfl ?_ (by assumption) ?_); rotate_left; (intro w hSw; (try dsimp only at hSw); go_simp; (try (with_reducible rfl))); simp only [Act.put, List.setIfInBounds_toArray, List.set_cons_zero, List.set_cons_succ])
      refine wpAnyH_done (by kernel_rfl) ?_ _
      have HB5 := Lib.hid (HBN.out.trans ((below_drewN' wn 1).mono HBN.out.size |>.trans (hb5.mono HBN.out.size))); have HB6 := Lib.hid (HN.out.drew.below hb5); clear hb5
      go_wp2_with fail
      go_roundw
      case rel => exact ⟨k + 1, by omega, by go_num, by rw [HS.out, HT.out, HO.out, decide_eq_true HK0.out]; rfl, HB5.out⟩
      case measure => simp [intOf]; omega
    rw [decide_eq_false hk0, Bool.true_and, Bool.false_or] at HO
    have HY := Lib.hid (fun W (h : Stand w [(wr.heap.size, wr.heap.size + 1, fun W => Blk W wr.heap.size 55 #[.string X.name, .slice L1 X.lines.length d1, .string X.part, .int .i64 X.at_]), (lo, hi, fun w => StrR w lo hi L1 X.lines.length X.lines), (w.heap.size, w.heap.size + 1, fun W => Blk W w.heap.size 32 (devCs ⟨use, scr, files, keys⟩ A c (some ⟨b, off, none⟩) cf K ck)), (lo, hi, fun w => StrR w lo hi K keys.length keys), (lo, hi, fun w => FilesR w lo hi (some ⟨b, off, none⟩) files.length files), (lo, hi, fun w => StrR w lo hi A scr.rows.length scr.rows)] W) => (filesR_name (h.get 4 rfl) (show k - 1 < files.length by omega)))
    generalize files.getD (k - 1) filD = Y at *
    have nk : decide ((0 : Int) < (k : Int)) = true := by rw [decide_eq_true_iff]; omega
    have nk' : decide (0 < k) = true := by rw [decide_eq_true_iff]; omega
    have j2 : (0 : Int) ≤ (k : Int) - 1 := by omega
    have j2' : 1 ≤ k := by omega
    have j5 : (1 : Int) ≤ (k : Int) := by omega
    have j3 : (k : Int) - 1 < (files.length : Int) := by omega
    have j1 : IntKind.i64.wrap ((k : Int) - 1) = (k : Int) - 1 := IntWalk.i64_in _ (by omega)
    have j4 : ((k : Int) - 1).toNat = k - 1 := by omega
    clear hk0
    cases hL : Op.bytesLess Y.name.toList X.name.toList <;> rw [hL] at HO
    case false =>
      go_wp2_with fail
      generalize wr.alloc (.cells #[.string X.name, .slice L1 X.lines.length d1, .string X.part, .int .i64 X.at_] 55) = wn at *
      refine wp_region_held_drew (S := (fun w' => (∀ i, w'.cell? ⟨w.heap.size, i, none⟩ = (devCs ⟨use, scr, files, keys⟩ A c (some ⟨b, off, none⟩) cf K ck)[i]?) ∧ (∀ i, w'.cell? ⟨wr.heap.size, i, none⟩ = (#[.string X.name, .slice L1 X.lines.length d1, .string X.part, .int .i64 X.at_] : Array Value)[i]?) ∧ w'.cell? ⟨b, off + (k - 1) * 4, none⟩ = some (.string Y.name))) (by kernel_rfl) ⟨(HN.out.drew.get 2 rfl).cell, (HN.out.drew.get 0 rfl).cell, HY.out _ HN.out.drew⟩ (fun hHeld => ?_)
      ((refine held_take 0 44 ?_ rfl (by kernel_rfl) (by kernel_rfl) (by kernel_rfl) rfl (fun _ _ _ _ h => h) rfl ?_ (by assumption) ?_); rotate_left; (intro w hSw; (try dsimp only at hSw); go_simp; (try (with_reducible rfl))); simp only [Act.put, List.setIfInBounds_toArray, List.set_cons_zero, List.set_cons_succ])
      ((refine wpAnyH_ready (rs := [1]) (by kernel_rfl) (by simp) ?_); (refine AllReadyH.cons rfl (fun K hK => ?_) AllReadyH.nil); go_simp)
      refine (fileOk_any X _ lo hi _ ⟨L1, d1, rfl, HN.out.drew.get 1 rfl⟩ (HN.out.drew.le 1 rfl) HX.out).mono ?_
      rintro e5 w5 ⟨rfl, hb5⟩
      rw [HXF.out]
      go_simp
      refine hK.out _ _ ⟨((HN.out.drew.below hb5).get 2 rfl).cell, ((HN.out.drew.below hb5).get 0 rfl).cell, HY.out _ (HN.out.drew.below hb5)⟩ (fun hHeld => ?_)
      clear hK K
      (try simp only [Act.put, List.setIfInBounds_toArray, List.set_cons_zero, List.set_cons_succ])
      ((refine held_take 2 46 ?_ rfl (by kernel_rfl) (by kernel_rfl) (by kernel_rfl) rfl (fun _ _ _ _ h => h) rfl ?_ (by assumption) ?_); rotate_left; (intro w hSw; (try dsimp only at hSw); go_simp; (try (with_reducible rfl))); simp only [Act.put, List.setIfInBounds_toArray, List.set_cons_zero, List.set_cons_succ])
      ((refine held_take 3 47 ?_ rfl (by kernel_rfl) (by kernel_rfl) (by kernel_rfl) rfl (fun _ _ _ _ h => h) rfl ?_ (by assumption) ?_); rotate_left; (intro w hSw; (try dsimp only at hSw); go_simp; (try (with_reducible rfl))); simp only [Act.put, List.setIfInBounds_toArray, List.set_cons_zero, List.set_cons_succ])
      ((refine held_take 4 48 ?_ rfl (by kernel_rfl) (by kernel_rfl) (by kernel_rfl) rfl (fun _ _ _ _ h => h) rfl ?_ (by assumption) ?_); rotate_left; (intro w hSw; (try dsimp only at hSw); go_simp; (try (with_reducible rfl))); simp only [Act.put, List.setIfInBounds_toArray, List.set_cons_zero, List.set_cons_succ])
      ((refine held_take 5 49 ?_ rfl (by kernel_rfl) (by kernel_rfl) (by kernel_rfl) rfl (fun _ _ _ _ h => h) rfl ?_ (by assumption) ?_); rotate_left; (intro w hSw; (try dsimp only at hSw); go_simp; (try (with_reducible rfl))); simp only [Act.put, List.setIfInBounds_toArray, List.set_cons_zero, List.set_cons_succ])
      ((refine held_take 6 50 ?_ rfl (by kernel_rfl) (by kernel_rfl) (by kernel_rfl) rfl (fun _ _ _ _ h => h) rfl ?_ (by assumption) ?_); rotate_left; (intro w hSw; (try dsimp only at hSw); go_simp; (try (with_reducible rfl))); simp only [Act.put, List.setIfInBounds_toArray, List.set_cons_zero, List.set_cons_succ])
      ((refine held_take 7 51 ?_ rfl (by kernel_rfl) (by kernel_rfl) (by kernel_rfl) rfl (fun _ _ _ _ h => h) rfl ?_ (by assumption) ?_); rotate_left; (intro w hSw; (try dsimp only at hSw); go_simp; (try (with_reducible rfl))); simp only [Act.put, List.setIfInBounds_toArray, List.set_cons_zero, List.set_cons_succ])
      ((refine held_take 8 52 ?_ rfl (by kernel_rfl) (by kernel_rfl) (by kernel_rfl) rfl (fun _ _ _ _ h => h) rfl ?_ (by assumption) ?_); rotate_left; (intro w hSw; (try dsimp only at hSw); go_simp; (try (with_reducible rfl))); simp only [Act.put, List.setIfInBounds_toArray, List.set_cons_zero, List.set_cons_succ])
      ((refine held_take 9 53 ?_ rfl (by kernel_rfl) (by kernel_rfl) (by kernel_rfl) rfl (fun _ _ _ _ h => h) rfl ?_ (by assumption) ?_); rotate_left; (intro w hSw; (try dsimp only at hSw); go_simp; (try (with_reducible rfl))); simp only [Act.put, List.setIfInBounds_toArray, List.set_cons_zero, List.set_cons_succ])
      ((refine held_take 10 54 ?_ rfl (by kernel_rfl) (by kernel_rfl) (by kernel_rfl) rfl (fun _ _ _ _ h => h) rfl ?_ (by assumption) ?_); rotate_left; (intro w hSw; (try dsimp only at hSw); go_simp; (try (with_reducible rfl))); simp only [Act.put, List.setIfInBounds_toArray, List.set_cons_zero, List.set_cons_succ])
      ((refine held_take 11 55 ?_ rfl (by kernel_rfl) (by kernel_rfl) (by kernel_rfl) rfl (fun _ _ _ _ h => h) rfl ?_ (by assumption) ?_); rotate_left; (intro w hSw; (try dsimp only at hSw); go_simp; (try (with_reducible rfl))); simp only [Act.put, List.setIfInBounds_toArray, List.set_cons_zero, List.set_cons_succ])
      ((refine held_take 12 56 ?_ rfl (by kernel_rfl) (by kernel_rfl) (by kernel_rfl) rfl (fun _ _ _ _ h => h) rfl ?_ (by assumption) ?_); rotate_left; (intro w hSw; (try dsimp only at hSw); go_simp; (try (with_reducible rfl))); simp only [Act.put, List.setIfInBounds_toArray, List.set_cons_zero, List.set_cons_succ])
      ((refine held_take 13 57 ?_ rfl (by kernel_rfl) (by kernel_rfl) (by kernel_rfl) rfl (fun _ _ _ _ h => h) rfl ?_ (by assumption) ?_); rotate_left; (intro w hSw; (try dsimp only at hSw); go_simp; (try (with_reducible rfl))); simp only [Act.put, List.setIfInBounds_toArray, List.set_cons_zero, List.set_cons_succ])
      ((refine held_take 14 58 ?_ rfl (by kernel_rfl) (by kernel_rfl) (by kernel_rfl) rfl (fun _ _ _ _ h => h) rfl ?_ (by assumption) ?_); rotate_left; (intro w hSw; (try dsimp only at hSw); go_simp; (try (with_reducible rfl))); simp only [Act.put, List.setIfInBounds_toArray, List.set_cons_zero, List.set_cons_succ])
      ((refine held_take 15 59 ?_ rfl (by kernel_rfl) (by kernel_rfl) (by kernel_rfl) rfl (fun _ _ _ _ h => h) rfl ?_ (by assumption) ?_); rotate_left; (intro w hSw; (try dsimp only at hSw); go_simp; (try (with_reducible rfl))); simp only [Act.put, List.setIfInBounds_toArray, List.set_cons_zero, List.set_cons_succ])
      ((refine held_take 16 60 ?_ rfl (by kernel_rfl) (by kernel_rfl) (by kernel_rfl) rfl (fun _ _ _ _ h => h) rfl ?_ (by assumption) ?_); rotate_left; (intro w hSw; (try dsimp only at hSw); go_simp; (try (with_reducible rfl))); simp only [Act.put, List.setIfInBounds_toArray, List.set_cons_zero, List.set_cons_succ])
      ((refine held_take 17 61 ?_ rfl (by kernel_rfl) (by kernel_rfl) (by kernel_rfl) rfl (fun _ _ _ _ h => h) rfl ?_ (by assumption) ?_); rotate_left; (intro w hSw; (try dsimp only at hSw); go_simp; (try (with_reducible rfl))); simp only [Act.put, List.setIfInBounds_toArray, List.set_cons_zero, List.set_cons_succ])
      ((refine held_take 18 62 ?_ rfl (by kernel_rfl) (by kernel_rfl) (by kernel_rfl) rfl (fun _ _ _ _ h => h) rfl ?_ (by assumption) ?_); rotate_left; (intro w hSw; (try dsimp only at hSw); go_simp; (try (with_reducible rfl))); simp only [Act.put, List.setIfInBounds_toArray, List.set_cons_zero, List.set_cons_succ])
      refine wpAnyH_done (by kernel_rfl) ?_ _
      have HB5 := Lib.hid (HBN.out.trans ((below_drewN' wn 1).mono HBN.out.size |>.trans (hb5.mono HBN.out.size))); have HB6 := Lib.hid (HN.out.drew.below hb5); clear hb5
      clear j1 j4
      go_wp2_with fail
      go_ret
      exact ⟨NO.out _ rfl (HA.out HO.out), HB6.out.1⟩
    go_wp2_with fail
    generalize wr.alloc (.cells #[.string X.name, .slice L1 X.lines.length d1, .string X.part, .int .i64 X.at_] 55) = wn at *
    refine wp_region_held_drew (S := (fun w' => (∀ i, w'.cell? ⟨w.heap.size, i, none⟩ = (devCs ⟨use, scr, files, keys⟩ A c (some ⟨b, off, none⟩) cf K ck)[i]?) ∧ (∀ i, w'.cell? ⟨wr.heap.size, i, none⟩ = (#[.string X.name, .slice L1 X.lines.length d1, .string X.part, .int .i64 X.at_] : Array Value)[i]?) ∧ w'.cell? ⟨b, off + (k - 1) * 4, none⟩ = some (.string Y.name))) (by kernel_rfl) ⟨(HN.out.drew.get 2 rfl).cell, (HN.out.drew.get 0 rfl).cell, HY.out _ HN.out.drew⟩ (fun hHeld => ?_)
    ((refine held_take 0 44 ?_ rfl (by kernel_rfl) (by kernel_rfl) (by kernel_rfl) rfl (fun _ _ _ _ h => h) rfl ?_ (by assumption) ?_); rotate_left; (intro w hSw; (try dsimp only at hSw); go_simp; (try (with_reducible rfl))); simp only [Act.put, List.setIfInBounds_toArray, List.set_cons_zero, List.set_cons_succ])
    ((refine wpAnyH_ready (rs := [1]) (by kernel_rfl) (by simp) ?_); (refine AllReadyH.cons rfl (fun K hK => ?_) AllReadyH.nil); go_simp)
    refine (fileOk_any X _ lo hi _ ⟨L1, d1, rfl, HN.out.drew.get 1 rfl⟩ (HN.out.drew.le 1 rfl) HX.out).mono ?_
    rintro e5 w5 ⟨rfl, hb5⟩
    rw [HXF.out]
    go_simp
    refine hK.out _ _ ⟨((HN.out.drew.below hb5).get 2 rfl).cell, ((HN.out.drew.below hb5).get 0 rfl).cell, HY.out _ (HN.out.drew.below hb5)⟩ (fun hHeld => ?_)
    clear hK K
    (try simp only [Act.put, List.setIfInBounds_toArray, List.set_cons_zero, List.set_cons_succ])
    ((refine held_take 2 46 ?_ rfl (by kernel_rfl) (by kernel_rfl) (by kernel_rfl) rfl (fun _ _ _ _ h => h) rfl ?_ (by assumption) ?_); rotate_left; (intro w hSw; (try dsimp only at hSw); go_simp; (try (with_reducible rfl))); simp only [Act.put, List.setIfInBounds_toArray, List.set_cons_zero, List.set_cons_succ])
    ((refine held_take 3 47 ?_ rfl (by kernel_rfl) (by kernel_rfl) (by kernel_rfl) rfl (fun _ _ _ _ h => h) rfl ?_ (by assumption) ?_); rotate_left; (intro w hSw; (try dsimp only at hSw); go_simp; (try (with_reducible rfl))); simp only [Act.put, List.setIfInBounds_toArray, List.set_cons_zero, List.set_cons_succ])
    ((refine held_take 4 48 ?_ rfl (by kernel_rfl) (by kernel_rfl) (by kernel_rfl) rfl (fun _ _ _ _ h => h) rfl ?_ (by assumption) ?_); rotate_left; (intro w hSw; (try dsimp only at hSw); go_simp; (try (with_reducible rfl))); simp only [Act.put, List.setIfInBounds_toArray, List.set_cons_zero, List.set_cons_succ])
    ((refine held_take 5 49 ?_ rfl (by kernel_rfl) (by kernel_rfl) (by kernel_rfl) rfl (fun _ _ _ _ h => h) rfl ?_ (by assumption) ?_); rotate_left; (intro w hSw; (try dsimp only at hSw); go_simp; (try (with_reducible rfl))); simp only [Act.put, List.setIfInBounds_toArray, List.set_cons_zero, List.set_cons_succ])
    ((refine held_take 6 50 ?_ rfl (by kernel_rfl) (by kernel_rfl) (by kernel_rfl) rfl (fun _ _ _ _ h => h) rfl ?_ (by assumption) ?_); rotate_left; (intro w hSw; (try dsimp only at hSw); go_simp; (try (with_reducible rfl))); simp only [Act.put, List.setIfInBounds_toArray, List.set_cons_zero, List.set_cons_succ])
    ((refine held_take 7 51 ?_ rfl (by kernel_rfl) (by kernel_rfl) (by kernel_rfl) rfl (fun _ _ _ _ h => h) rfl ?_ (by assumption) ?_); rotate_left; (intro w hSw; (try dsimp only at hSw); go_simp; (try (with_reducible rfl))); simp only [Act.put, List.setIfInBounds_toArray, List.set_cons_zero, List.set_cons_succ])
    ((refine held_take 8 52 ?_ rfl (by kernel_rfl) (by kernel_rfl) (by kernel_rfl) rfl (fun _ _ _ _ h => h) rfl ?_ (by assumption) ?_); rotate_left; (intro w hSw; (try dsimp only at hSw); go_simp; (try (with_reducible rfl))); simp only [Act.put, List.setIfInBounds_toArray, List.set_cons_zero, List.set_cons_succ])
    ((refine held_take 9 53 ?_ rfl (by kernel_rfl) (by kernel_rfl) (by kernel_rfl) rfl (fun _ _ _ _ h => h) rfl ?_ (by assumption) ?_); rotate_left; (intro w hSw; (try dsimp only at hSw); go_simp; (try (with_reducible rfl))); simp only [Act.put, List.setIfInBounds_toArray, List.set_cons_zero, List.set_cons_succ])
    ((refine held_take 10 54 ?_ rfl (by kernel_rfl) (by kernel_rfl) (by kernel_rfl) rfl (fun _ _ _ _ h => h) rfl ?_ (by assumption) ?_); rotate_left; (intro w hSw; (try dsimp only at hSw); go_simp; (try (with_reducible rfl))); simp only [Act.put, List.setIfInBounds_toArray, List.set_cons_zero, List.set_cons_succ])
    ((refine held_take 11 55 ?_ rfl (by kernel_rfl) (by kernel_rfl) (by kernel_rfl) rfl (fun _ _ _ _ h => h) rfl ?_ (by assumption) ?_); rotate_left; (intro w hSw; (try dsimp only at hSw); go_simp; (try (with_reducible rfl))); simp only [Act.put, List.setIfInBounds_toArray, List.set_cons_zero, List.set_cons_succ])
    ((refine held_take 12 56 ?_ rfl (by kernel_rfl) (by kernel_rfl) (by kernel_rfl) rfl (fun _ _ _ _ h => h) rfl ?_ (by assumption) ?_); rotate_left; (intro w hSw; (try dsimp only at hSw); go_simp; (try (with_reducible rfl))); simp only [Act.put, List.setIfInBounds_toArray, List.set_cons_zero, List.set_cons_succ])
    ((refine held_take 13 57 ?_ rfl (by kernel_rfl) (by kernel_rfl) (by kernel_rfl) rfl (fun _ _ _ _ h => h) rfl ?_ (by assumption) ?_); rotate_left; (intro w hSw; (try dsimp only at hSw); go_simp; (try (with_reducible rfl))); simp only [Act.put, List.setIfInBounds_toArray, List.set_cons_zero, List.set_cons_succ])
    ((refine held_take 14 58 ?_ rfl (by kernel_rfl) (by kernel_rfl) (by kernel_rfl) rfl (fun _ _ _ _ h => h) rfl ?_ (by assumption) ?_); rotate_left; (intro w hSw; (try dsimp only at hSw); go_simp; (try (with_reducible rfl))); simp only [Act.put, List.setIfInBounds_toArray, List.set_cons_zero, List.set_cons_succ])
    ((refine held_take 15 59 ?_ rfl (by kernel_rfl) (by kernel_rfl) (by kernel_rfl) rfl (fun _ _ _ _ h => h) rfl ?_ (by assumption) ?_); rotate_left; (intro w hSw; (try dsimp only at hSw); go_simp; (try (with_reducible rfl))); simp only [Act.put, List.setIfInBounds_toArray, List.set_cons_zero, List.set_cons_succ])
    ((refine held_take 16 60 ?_ rfl (by kernel_rfl) (by kernel_rfl) (by kernel_rfl) rfl (fun _ _ _ _ h => h) rfl ?_ (by assumption) ?_); rotate_left; (intro w hSw; (try dsimp only at hSw); go_simp; (try (with_reducible rfl))); simp only [Act.put, List.setIfInBounds_toArray, List.set_cons_zero, List.set_cons_succ])
    ((refine held_take 17 61 ?_ rfl (by kernel_rfl) (by kernel_rfl) (by kernel_rfl) rfl (fun _ _ _ _ h => h) rfl ?_ (by assumption) ?_); rotate_left; (intro w hSw; (try dsimp only at hSw); go_simp; (try (with_reducible rfl))); simp only [Act.put, List.setIfInBounds_toArray, List.set_cons_zero, List.set_cons_succ])
    ((refine held_take 18 62 ?_ rfl (by kernel_rfl) (by kernel_rfl) (by kernel_rfl) rfl (fun _ _ _ _ h => h) rfl ?_ (by assumption) ?_); rotate_left; (intro w hSw; (try dsimp only at hSw); go_simp; (try (with_reducible rfl))); simp only [Act.put, List.setIfInBounds_toArray, List.set_cons_zero, List.set_cons_succ])
    refine wpAnyH_done (by kernel_rfl) ?_ _
    have HB5 := Lib.hid (HBN.out.trans ((below_drewN' wn 1).mono HBN.out.size |>.trans (hb5.mono HBN.out.size))); have HB6 := Lib.hid (HN.out.drew.below hb5); clear hb5
    clear j1 j4
    go_wp2_with fail
    go_roundw
    case rel => exact ⟨k + 1, by omega, by go_num, by rw [HS.out, HT.out, HO.out]; rfl, HB5.out⟩
    case measure => simp [intOf]; omega

end Go.Proofs.YtmeholhmadeehaaGreatDoor

/- The program's CloseFile walked. -/
namespace Go.Proofs.YtmeholhmadeehaaGreatDoor
open Go.RowKit

def noDev : Dev := ⟨0, noScr, [], []⟩
def closeUse (use : Int) (k : Nat) : Int := if use = (k : Int) + 1 then 0 else if (k : Int) + 1 < use then use - 1 else use
def closeDev (d : Dev) (k : Nat) : Dev := ⟨closeUse d.use k, d.scr, d.files.eraseIdx k, d.keys⟩
def closeP (d : Dev) (nm : ByteArray) : Dev × Int := if devB d then (if thereB d.files nm then (closeDev d (place d.files nm), 0) else (noDev, 3)) else (noDev, 1)

structure DevGood (d : Dev) : Prop where
  use0 : 0 ≤ d.use
  usen : d.use ≤ d.files.length
  fine : Fine d.scr
  n3 : d.files.length ≤ 3
  k20 : d.keys.length ≤ 20
  sorted : Sorted d.files
  files : ∀ f ∈ d.files, filB f = true
  keys : keysB d.keys = true
theorem DevGood.of {d : Dev} (h : devB d = true) : DevGood d := by
  unfold devB at h
  simp only [Bool.and_eq_true, decide_eq_true_eq] at h
  obtain ⟨⟨⟨⟨⟨h1, h2⟩, h3⟩, h4⟩, h5⟩, h6⟩ := h
  have hall : ∀ k, k < d.files.length → filOkAt d.files k = true := fun k hk => by
    unfold filsTo at h6
    exact List.all_eq_true.1 h6 k (List.mem_range.2 hk)
  have h1' : 0 ≤ d.use ∧ d.use ≤ d.files.length := by
    unfold inB at h1; simpa using h1
  refine ⟨h1'.1, h1'.2, Fine.of_scrB h2, h3, h4, sorted_of fun k hk hkn => ?_, fun f hf => ?_, h5⟩
  · have := hall k hkn
    unfold filOkAt at this
    simp only [Bool.and_eq_true, Bool.or_eq_true, decide_eq_true_eq] at this
    rcases this.2 with h | h
    · omega
    · exact h
  · obtain ⟨k, hk, rfl⟩ := List.getElem_of_mem hf
    have := hall k hk
    unfold filOkAt at this
    simp only [Bool.and_eq_true] at this
    have h7 := this.1
    rwa [List.getD_eq_getElem?_getD, List.getElem?_eq_getElem hk] at h7

theorem thereB_lt {fs : List Fil} {nm : ByteArray} (h : thereB fs nm = true) : place fs nm < fs.length := by
  unfold thereB at h
  simp only [Bool.and_eq_true, decide_eq_true_eq] at h
  exact h.1

theorem ownDev_none (w : World) (lo hi : Nat) (h : lo ≤ hi) : OwnDev w lo hi (.agg #[.int .i64 0, .int .i64 0, .int .i64 0, .slice none 0 0, .slice none 0 0, .slice none 0 0]) noDev :=
  ⟨none, 0, none, 0, none, 0, lo, lo, lo, lo, lo, lo, rfl, ⟨Nat.le_refl _, h, Nat.le_refl _, h, Nat.le_refl _, h⟩, ⟨.inl (Nat.le_refl _), .inl (Nat.le_refl _), .inl (Nat.le_refl _)⟩, ⟨World.ownsRow_nil _ _ _ _, fun g hg => by cases hg⟩, .inl ⟨rfl, rfl⟩, World.ownsRow_nil _ _ _ _, fun g hg => by cases hg⟩

theorem flat_one (xs : List Fx) : ∀ u ∈ flat xs, u.oneCell' = true := by
  intro u hu
  obtain ⟨x, _, hx⟩ := List.mem_flatMap.1 hu
  simp only [Fx.cells, Fx.sl, List.mem_cons, List.not_mem_nil, or_false] at hx
  rcases hx with rfl | rfl | rfl | rfl <;> rfl

/-- A file is taken out of the row. -/
theorem OwnFx.erase {w w' : World} {lo hi g cap k : Nat} {xs : List Fx} {cur cs' : Array Value} (h : OwnFx w lo hi (.slice (some ⟨g, 0, none⟩) xs.length cap) xs) (hB : Blk w g 55 cur) (hk : k < xs.length) (hO : Only g w w') (hB' : Blk w' g 55 cs') (hs : cs'.size = cur.size)
    (hc : ∀ q, q < (xs.length - 1) * 4 → cs'[q]? = if q < k * 4 then cur[q]? else cur[q + 4]?) : OwnFx w' lo hi (.slice (some ⟨g, 0, none⟩) (xs.length - 1) cap) (xs.eraseIdx k) := by
  obtain ⟨hos, htp, hou, hsz, hbl⟩ := hO
  have hlen : (xs.eraseIdx k).length = xs.length - 1 := by rw [List.length_eraseIdx, if_pos hk]
  have hgw : (Value.slice (some ⟨g, 0, none⟩) xs.length cap).ownBlock = some g := rfl
  have hsub : ∀ x ∈ xs.eraseIdx k, x ∈ xs := fun x hx => (List.eraseIdx_sublist xs k).subset hx
  rcases h.row.2 with ⟨h1, h2⟩ | ⟨g', cap', cur', hv, hg, hh, hnc, hm, hcs, htk⟩
  · omega
  · injection hv with hA _ hcc
    injection hA with hA; injection hA with hA
    subst hA hcc
    have ecur : cur' = cur := by
      have e := hh.symm.trans hB
      injection e with e; injection e with e
    subst ecur
    have hcell : ∀ j (hj : j < xs.length), ∀ i, i < 4 → cur'[j * 4 + i]? = (xs[j]).cells[i]? := fun j hj i hi => by
      rw [← flat_at xs j hj i hi, ← htk, List.getElem?_take, if_pos (by omega), Array.getElem?_toList]
    refine ⟨⟨_, _, by rw [hlen]⟩, ?_, fun b hb => h.top b hb, fun x hx => ?_, fun x hx b hb => h.far x (hsub x hx) b hb, h.apart.sublist (List.eraseIdx_sublist xs k)⟩
    · rw [hlen]
      refine ⟨by rw [flat_len, hlen], .inr ⟨g, cap, cs', rfl, hg, hB', by omega, hm, by omega, ?_⟩⟩
      apply List.ext_getElem?
      intro q
      by_cases hq : q < (xs.length - 1) * 4
      · rw [List.getElem?_take, if_pos hq, Array.getElem?_toList, hc q hq]
        have e : q = q / 4 * 4 + q % 4 := by omega
        have hj : q / 4 < (xs.eraseIdx k).length := by rw [hlen]; omega
        have hr : (flat (xs.eraseIdx k))[q]? = ((xs.eraseIdx k)[q / 4]).cells[q % 4]? := by
          have := flat_at (xs.eraseIdx k) (q / 4) hj (q % 4) (by omega)
          rwa [← e] at this
        rw [hr, List.getElem_eraseIdx]
        by_cases hqk : q < k * 4
        · rw [if_pos hqk, dif_pos (by omega)]
          have := hcell (q / 4) (by omega) (q % 4) (by omega)
          rwa [← e] at this
        · rw [if_neg hqk, dif_neg (by omega)]
          have := hcell (q / 4 + 1) (by omega) (q % 4) (by omega)
          rwa [show (q / 4 + 1) * 4 + q % 4 = q + 4 by omega] at this
      · rw [List.getElem?_take, if_neg hq, List.getElem?_eq_none (by rw [flat_len, hlen]; omega)]
    · obtain ⟨r1, r2⟩ := h.own x (hsub x hx)
      refine ⟨?_, r2⟩
      refine ⟨r1.1, ?_⟩
      rcases r1.2 with r3 | ⟨b, cap2, cur2, e, hb, hcc, r⟩
      · exact .inl r3
      · refine .inr ⟨b, cap2, cur2, e, hb, ?_, r⟩
        rw [hbl b (fun e' => h.far x (hsub x hx) b (by rw [e]; rfl) (by rw [hgw, e']))]
        exact hcc

end Go.Proofs.YtmeholhmadeehaaGreatDoor
