/- The reference's l18Seats walked. -/
import Derived.Test.YtnnabkldceklmaaGreatDoorJoinBTAo
namespace Go.Proofs.YtnnabkldceklmaaGreatDoor
open Go.RowKit
theorem seatB_eq (l : List TySeat) (k : Nat) : seatB l k = (inB (l.getD k (0, 0)).1 1 64 && inB (l.getD k (0, 0)).2 2 399 && ((l.take k).all fun s => decide (s.2 ≠ (l.getD k (0, 0)).2)) && (decide (k = 0) || decide ((l.getD (k - 1) (0, 0)).1 < (l.getD k (0, 0)).1))) := rfl
set_option maxHeartbeats 16000000 in
set_option maxRecDepth 100000 in
theorem l18Seats_any (A : Option Addr) (c : Nat) (xs : List TySeat) (lo hi : Nat) (w : World) (h : (Sh.row 88 shSeat).R w lo hi [.slice A xs.length c] xs) (hhi : hi ≤ w.heap.size) (hn : xs.length ≤ 1048576) :
  Calls Tryz.prog 91 #[.slice A xs.length c] w fun e w' => e = .returned (.bool (seatsP xs)) ∧ Below w.heap.size w w' := by
 have HA := hd_ h
 rw [← seatsP_cut]
 have HIN := hd_ (fun a lo hi W => l00InP_any a lo hi W)
 clear h
 go_enter Tryz.func91, Tryz.ntmps91
 go_wp2_with fail
 go_loopw [3] (fun i wr => ∃ k : Nat, k ≤ xs.length ∧ k ≤ 65 ∧ i = .int .i64 k ∧ Hid (seatsTo xs k = true) ∧ Below w.heap.size w wr) (fun i _ => 65 - (intOf i).toNat)
 case atStart => exact ⟨0, Nat.zero_le _, by omega, rfl, hd_ rfl, Below.refl _ _⟩
 case round =>
  obtain ⟨k, hk, hk5, rfl, hkt, hb⟩ := hrel
  have hsz := hb.size
  have HB := hd_ hb
  by_cases hmore : k < xs.length ∧ k ≤ 64
  ·obtain ⟨hlt, h6⟩ := hmore
   have hr := (Sh.row 88 shSeat).R_below HA.out hb hhi
   obtain ⟨-, b, off, rfl, hb1, hb2, e0, e1, -⟩ := shSeat_at hr hlt
   have i1 : (k : Int) < (xs.length : Int) := by omega
   have i6 : (k : Int) ≤ 64 := by omega
   have HAT := hd_ (seatB_eq xs k)
   have HNX := hd_ (seatsTo_next xs k)
   have HM := hd_ (fun (h : seatB xs k = false) => show (seatsTo xs (min xs.length 65) && decide (xs.length ≤ 64)) = false from by
    have : seatsTo xs (min xs.length 65) = false := by
     rw [Bool.eq_false_iff]; intro h2; rw [seatsTo_at h2 (show k < min xs.length 65 by omega)] at h; cases h
    rw [this]; rfl)
   have hpc : ∀ j, j < xs.length → ∀ W, Below wr.heap.size wr W → W.cell? ⟨b, off + j * 2, none⟩ = some (.int .i64 (xs.getD j shSeat.d).1) ∧ W.cell? ⟨b, off + j * 2 + 1, none⟩ = some (.int .i64 (xs.getD j shSeat.d).2) := fun j hj W hW => by
    obtain ⟨-, b', off', e, _, _, d0, d1, -⟩ := shSeat_at ((Sh.row 88 shSeat).R_below hr hW (by omega)) hj
    injection e with e; injection e with e1 e2 e3; subst e1 e2
    exact ⟨d0, d1⟩
   have HPC := hd_ hpc
   have HD := hd_ (show (shSeat.d : TySeat) = (0, 0) from rfl)
   have hzp := fun h0 : 0 < k => (HPC.out (k - 1) (by omega) wr.drew (below_drewN' wr 1)).1
   rw [HD.out] at hzp
   have HZP := hd_ hzp
   obtain ⟨d0, d1⟩ := HPC.out k hlt wr.drew (below_drewN' wr 1)
   rw [HD.out] at d0 d1
   obtain ⟨z0, hz0⟩ : ∃ z, z = (xs.getD (k - 1) (0, 0)).1 := ⟨_, rfl⟩
   rw [← hz0] at HZP HAT
   have HALL := hd_ (show ∀ j, j < k → ((xs.take k).all fun s => decide (s.2 ≠ (xs.getD k (0, 0)).2)) = true → (xs.getD j (0, 0)).2 ≠ (xs.getD k (0, 0)).2 from fun j hj h => by
    have := List.all_eq_true.1 h (xs.getD j (0, 0)) (by rw [List.getD_eq_getElem?_getD, List.getElem?_eq_getElem (by omega)]; exact List.mem_take_iff_getElem.2 ⟨j, by omega, rfl⟩)
    simpa using this)
   have HALT := hd_ (show (∀ j, j < k → (xs.getD j (0, 0)).2 ≠ (xs.getD k (0, 0)).2) → ((xs.take k).all fun s => decide (s.2 ≠ (xs.getD k (0, 0)).2)) = true from fun h => by
    rw [List.all_eq_true]; intro s hs
    obtain ⟨j, hj, rfl⟩ := List.mem_take_iff_getElem.1 hs
    have := h j (by omega)
    rw [List.getD_eq_getElem?_getD, List.getElem?_eq_getElem (by omega)] at this
    simpa using this)
   generalize hX : xs.getD k (0, 0) = X at *
   have HX := hd_ hX
   clear hX hz0 hpc hr hzp e0 e1
   obtain ⟨y0, y1⟩ := X
   dsimp only at d0 d1 HAT HALL HALT
   have HBD := hd_ (show Below w.heap.size w wr.drew from HB.out.drew)
   clear hb
   have hszd : wr.drew.heap.size = wr.heap.size := rfl
   by_cases hq1 : inB y0 1 64 = true
   rotate_left
   ·have hq1 := Bool.eq_false_iff.2 hq1
    have HF := hd_ (HM.out (by rw [HAT.out, hq1]; rfl))
    go_upto_region 4 with fail
    refine AnyT.region (fun _ => false) (fun W => W.cell? ⟨b, off + k * 2, none⟩ = some (.int .i64 y0) ∧ W.cell? ⟨b, off + k * 2 + 1, none⟩ = some (.int .i64 y1)) (by kernel_rfl) ⟨d0, d1⟩ (fun hHeld => ?_)
    clear d0 d1
    generalize wr.drew = w3 at *
    (refine tA 0 15 ?_; simp only [pz])
    (refine tA 1 16 ?_; simp only [pz])
    (refine tA 2 17 ?_; simp only [pz])
    (refine tA 3 18 ?_; simp only [pz])
    (refine tK 4 19 ?_; simp only [pz])
    refine oNe 5 fun K hK => ?_
    go_simp
    refine (HIN.out _ _ _ _).mono ?_; rintro e1 w1 ⟨rfl, rfl⟩
    go_simp
    (try rw [hq1])
    refine hK.out _ _ (by assumption) (fun hHeld => ?_)
    clear hK K
    (try simp only [pz])
    (refine tA 6 21 ?_; simp only [pz])
    (refine tA 7 22 ?_; simp only [pz])
    (refine sK 8 23 ?_; simp only [pz])
    (refine sK 9 24 ?_; simp only [pz])
    (refine sK 10 25 ?_; simp only [pz])
    (refine sK 11 26 ?_; simp only [pz])
    (refine sK 12 27 ?_; simp only [pz])
    (refine sK 13 28 ?_; simp only [pz])
    (refine sK 14 29 ?_; simp only [pz])
    (refine sK 15 30 ?_; simp only [pz])
    (refine sK 16 31 ?_; simp only [pz])
    (refine sK 17 32 ?_; simp only [pz])
    (refine sK 18 33 ?_; simp only [pz])
    (refine sK 19 34 ?_; simp only [pz])
    (refine sK 20 35 ?_; simp only [pz])
    (refine sK 21 36 ?_; simp only [pz])
    (refine sK 22 37 ?_; simp only [pz])
    (refine sK 23 38 ?_; simp only [pz])
    (refine tA 24 39 ?_; simp only [pz])
    (refine tA 25 40 ?_; simp only [pz])
    (refine sK 26 41 ?_; simp only [pz])
    (refine sK 27 42 ?_; simp only [pz])
    (refine sK 28 43 ?_; simp only [pz])
    (refine sK 29 44 ?_; simp only [pz])
    (refine sK 30 45 ?_; simp only [pz])
    (refine sK 31 46 ?_; simp only [pz])
    (refine sK 32 47 ?_; simp only [pz])
    (refine tA 33 48 ?_; simp only [pz])
    refine AnyT.done (by kernel_rfl) ?_ _
    clear hHeld
    go_wp2_with fail
    go_ret
    exact ⟨by rw [HF.out]; rfl, HBD.out⟩
   have htail : k = 0 ∨ (0 < k ∧ ¬ z0 < y0) ∨ (0 < k ∧ z0 < y0) := by omega
   rcases htail with h00 | ⟨hk0, hlt0⟩ | ⟨hk0, hlt0⟩
   ·have i0 : ¬ (0 : Int) < (k : Int) := by omega
    have k8 : decide ((0 : Int) < (k : Int)) = false := by rw [decide_eq_false_iff_not]; omega
    have k9 : decide (0 < k) = false := by rw [decide_eq_false_iff_not]; omega
    have H00 := hd_ h00; clear h00
    by_cases hq2 : inB y1 2 399 = true
    ·have HOK := hd_ (show seatsTo xs (k + 1) = true by rw [HNX.out, hkt.out, HAT.out, hq1, hq2, HALT.out (fun j hj => by have := H00.out; omega), decide_eq_true H00.out]; rfl)
     go_upto_region 4 with fail
     refine AnyT.region (fun _ => false) (fun W => W.cell? ⟨b, off + k * 2, none⟩ = some (.int .i64 y0) ∧ W.cell? ⟨b, off + k * 2 + 1, none⟩ = some (.int .i64 y1)) (by kernel_rfl) ⟨d0, d1⟩ (fun hHeld => ?_)
     clear d0 d1 HZP HPC
     generalize wr.drew = w3 at *
     (refine tA 0 15 ?_; simp only [pz])
     (refine tA 1 16 ?_; simp only [pz])
     (refine tA 2 17 ?_; simp only [pz])
     (refine tA 3 18 ?_; simp only [pz])
     (refine tK 4 19 ?_; simp only [pz])
     refine oNe 5 fun K hK => ?_
     go_simp
     refine (HIN.out _ _ _ _).mono ?_; rintro e1 w1 ⟨rfl, rfl⟩
     go_simp
     (try rw [hq1])
     refine hK.out _ _ (by assumption) (fun hHeld => ?_)
     clear hK K
     (try simp only [pz])
     (refine tA 6 21 ?_; simp only [pz])
     (refine tA 7 22 ?_; simp only [pz])
     (refine tA 8 23 ?_; simp only [pz])
     (refine tA 9 24 ?_; simp only [pz])
     (refine tA 10 25 ?_; simp only [pz])
     (refine sK 11 26 ?_; simp only [pz])
     (refine sK 12 27 ?_; simp only [pz])
     (refine sK 13 28 ?_; simp only [pz])
     (refine sK 14 29 ?_; simp only [pz])
     (refine sK 15 30 ?_; simp only [pz])
     (refine sK 16 31 ?_; simp only [pz])
     (refine sK 17 32 ?_; simp only [pz])
     (refine sK 18 33 ?_; simp only [pz])
     (refine sK 19 34 ?_; simp only [pz])
     (refine sK 20 35 ?_; simp only [pz])
     (refine sK 21 36 ?_; simp only [pz])
     (refine sK 22 37 ?_; simp only [pz])
     (refine tA 23 38 ?_; simp only [pz])
     (refine tA 24 39 ?_; simp only [pz])
     (refine tA 25 40 ?_; simp only [pz])
     (refine tA 26 41 ?_; simp only [pz])
     (refine tA 27 42 ?_; simp only [pz])
     (refine tA 28 43 ?_; simp only [pz])
     (refine tA 29 44 ?_; simp only [pz])
     (refine tK 30 45 ?_; simp only [pz])
     refine oNe 31 fun K hK => ?_
     go_simp
     refine (HIN.out _ _ _ _).mono ?_; rintro e1 w1 ⟨rfl, rfl⟩
     go_simp
     (try rw [hq2])
     refine hK.out _ _ (by assumption) (fun hHeld => ?_)
     clear hK K
     (try simp only [pz])
     (refine tA 32 47 ?_; simp only [pz])
     (refine tA 33 48 ?_; simp only [pz])
     refine AnyT.done (by kernel_rfl) ?_ _
     clear hHeld
     go_wp2_with fail
     go_loopw [4] (fun i wr => i = .int .i64 0 ∧ Below w.heap.size w wr) (fun i _ => 0)
     case atStart => exact ⟨rfl, HBD.out⟩
     case round =>
      obtain ⟨rfl, hb⟩ := hrel
      have HB4 := hd_ hb; clear hb
      go_wp2_with fail
      go_roundw
      case rel => exact ⟨k + 1, by omega, by omega, by go_num, hd_ HOK.out, HB4.out⟩
      case measure => simp [intOf]; omega
    ·have hq2 := Bool.eq_false_iff.2 hq2
     have HF := hd_ (HM.out (by rw [HAT.out, hq1, hq2]; rfl))
     go_upto_region 4 with fail
     refine AnyT.region (fun _ => false) (fun W => W.cell? ⟨b, off + k * 2, none⟩ = some (.int .i64 y0) ∧ W.cell? ⟨b, off + k * 2 + 1, none⟩ = some (.int .i64 y1)) (by kernel_rfl) ⟨d0, d1⟩ (fun hHeld => ?_)
     clear d0 d1 HZP HPC
     generalize wr.drew = w3 at *
     (refine tA 0 15 ?_; simp only [pz])
     (refine tA 1 16 ?_; simp only [pz])
     (refine tA 2 17 ?_; simp only [pz])
     (refine tA 3 18 ?_; simp only [pz])
     (refine tK 4 19 ?_; simp only [pz])
     refine oNe 5 fun K hK => ?_
     go_simp
     refine (HIN.out _ _ _ _).mono ?_; rintro e1 w1 ⟨rfl, rfl⟩
     go_simp
     (try rw [hq1])
     refine hK.out _ _ (by assumption) (fun hHeld => ?_)
     clear hK K
     (try simp only [pz])
     (refine tA 6 21 ?_; simp only [pz])
     (refine tA 7 22 ?_; simp only [pz])
     (refine tA 8 23 ?_; simp only [pz])
     (refine tA 9 24 ?_; simp only [pz])
     (refine tA 10 25 ?_; simp only [pz])
     (refine sK 11 26 ?_; simp only [pz])
     (refine sK 12 27 ?_; simp only [pz])
     (refine sK 13 28 ?_; simp only [pz])
     (refine sK 14 29 ?_; simp only [pz])
     (refine sK 15 30 ?_; simp only [pz])
     (refine sK 16 31 ?_; simp only [pz])
     (refine sK 17 32 ?_; simp only [pz])
     (refine sK 18 33 ?_; simp only [pz])
     (refine sK 19 34 ?_; simp only [pz])
     (refine sK 20 35 ?_; simp only [pz])
     (refine sK 21 36 ?_; simp only [pz])
     (refine sK 22 37 ?_; simp only [pz])
     (refine tA 23 38 ?_; simp only [pz])
     (refine tA 24 39 ?_; simp only [pz])
     (refine tA 25 40 ?_; simp only [pz])
     (refine tA 26 41 ?_; simp only [pz])
     (refine tA 27 42 ?_; simp only [pz])
     (refine tA 28 43 ?_; simp only [pz])
     (refine tA 29 44 ?_; simp only [pz])
     (refine tK 30 45 ?_; simp only [pz])
     refine oNe 31 fun K hK => ?_
     go_simp
     refine (HIN.out _ _ _ _).mono ?_; rintro e1 w1 ⟨rfl, rfl⟩
     go_simp
     (try rw [hq2])
     refine hK.out _ _ (by assumption) (fun hHeld => ?_)
     clear hK K
     (try simp only [pz])
     (refine tA 32 47 ?_; simp only [pz])
     (refine tA 33 48 ?_; simp only [pz])
     refine AnyT.done (by kernel_rfl) ?_ _
     clear hHeld
     go_wp2_with fail
     go_ret
     exact ⟨by rw [HF.out]; rfl, HBD.out⟩
   ·have HF := hd_ (HM.out (by rw [HAT.out, decide_eq_false hlt0, decide_eq_false (by omega : ¬ k = 0)]; simp))
    have i0 : (0 : Int) < (k : Int) := by omega
    have k1 : IntKind.i64.wrap ((k : Int) - 1) = (k : Int) - 1 := IntWalk.i64_in _ (by omega)
    have k2 : ((k : Int) - 1).toNat = k - 1 := by omega
    have k3 : (0 : Int) ≤ (k : Int) - 1 := by omega
    have k6 : 1 ≤ k := by omega
    have k7 : (1 : Int) ≤ (k : Int) := by omega
    have k8 : decide ((0 : Int) < (k : Int)) = true := by rw [decide_eq_true_iff]; omega
    have k9 : decide (0 < k) = true := by rw [decide_eq_true_iff]; omega
    have k4 : (k : Int) - 1 < (xs.length : Int) := by omega
    have k5 : y0 ≤ z0 := by omega
    have dp := HZP.out hk0
    go_upto_region 4 with fail
    refine AnyT.region (fun _ => false) (fun W => W.cell? ⟨b, off + (k - 1) * 2, none⟩ = some (.int .i64 z0) ∧ W.cell? ⟨b, off + k * 2, none⟩ = some (.int .i64 y0) ∧ W.cell? ⟨b, off + k * 2 + 1, none⟩ = some (.int .i64 y1)) (by kernel_rfl) ⟨dp, d0, d1⟩ (fun hHeld => ?_)
    clear d0 d1 dp HZP HPC
    generalize wr.drew = w3 at *
    (refine tA 0 15 ?_; simp only [pz])
    (refine tA 1 16 ?_; simp only [pz])
    (refine tA 2 17 ?_; simp only [pz])
    (refine tA 3 18 ?_; simp only [pz])
    (refine tK 4 19 ?_; simp only [pz])
    refine oNe 5 fun K hK => ?_
    go_simp
    refine (HIN.out _ _ _ _).mono ?_; rintro e1 w1 ⟨rfl, rfl⟩
    go_simp
    (try rw [hq1])
    refine hK.out _ _ (by assumption) (fun hHeld => ?_)
    clear hK K
    (try simp only [pz])
    (refine tA 6 21 ?_; simp only [pz])
    (refine tA 7 22 ?_; simp only [pz])
    (refine tA 8 23 ?_; simp only [pz])
    (refine tA 9 24 ?_; simp only [pz])
    (refine tA 10 25 ?_; simp only [pz])
    (refine tA 11 26 ?_; simp only [pz])
    (refine tA 12 27 ?_; simp only [pz])
    (refine tA 13 28 ?_; simp only [pz])
    (refine tA 14 29 ?_; simp only [pz])
    (refine tA 15 30 ?_; simp only [pz])
    (refine tK 16 31 ?_; simp only [pz])
    (refine tA 17 32 ?_; simp only [pz])
    (refine tA 18 33 ?_; simp only [pz])
    (refine tA 19 34 ?_; simp only [pz])
    (refine tA 20 35 ?_; simp only [pz])
    (refine tK 21 36 ?_; simp only [pz])
    (refine tA 22 37 ?_; simp only [pz])
    (refine tA 23 38 ?_; simp only [pz])
    (refine tA 24 39 ?_; simp only [pz])
    (refine tA 25 40 ?_; simp only [pz])
    (refine sK 26 41 ?_; simp only [pz])
    (refine sK 27 42 ?_; simp only [pz])
    (refine sK 28 43 ?_; simp only [pz])
    (refine sK 29 44 ?_; simp only [pz])
    (refine sK 30 45 ?_; simp only [pz])
    (refine sK 31 46 ?_; simp only [pz])
    (refine sK 32 47 ?_; simp only [pz])
    (refine tA 33 48 ?_; simp only [pz])
    refine AnyT.done (by kernel_rfl) ?_ _
    clear hHeld
    go_wp2_with fail
    go_ret
    exact ⟨by rw [HF.out]; rfl, HBD.out⟩
   ·have i0 : (0 : Int) < (k : Int) := by omega
    have k1 : IntKind.i64.wrap ((k : Int) - 1) = (k : Int) - 1 := IntWalk.i64_in _ (by omega)
    have k2 : ((k : Int) - 1).toNat = k - 1 := by omega
    have k3 : (0 : Int) ≤ (k : Int) - 1 := by omega
    have k6 : 1 ≤ k := by omega
    have k7 : (1 : Int) ≤ (k : Int) := by omega
    have k8 : decide ((0 : Int) < (k : Int)) = true := by rw [decide_eq_true_iff]; omega
    have k9 : decide (0 < k) = true := by rw [decide_eq_true_iff]; omega
    have k4 : (k : Int) - 1 < (xs.length : Int) := by omega
    have k5 : ¬ y0 ≤ z0 := by omega
    have dp := HZP.out hk0
    by_cases hq2 : inB y1 2 399 = true
    rotate_left
    ·have hq2 := Bool.eq_false_iff.2 hq2
     have HF := hd_ (HM.out (by rw [HAT.out, hq1, hq2]; rfl))
     go_upto_region 4 with fail
     refine AnyT.region (fun _ => false) (fun W => W.cell? ⟨b, off + (k - 1) * 2, none⟩ = some (.int .i64 z0) ∧ W.cell? ⟨b, off + k * 2, none⟩ = some (.int .i64 y0) ∧ W.cell? ⟨b, off + k * 2 + 1, none⟩ = some (.int .i64 y1)) (by kernel_rfl) ⟨dp, d0, d1⟩ (fun hHeld => ?_)
     clear d0 d1 dp HZP HPC
     generalize wr.drew = w3 at *
     (refine tA 0 15 ?_; simp only [pz])
     (refine tA 1 16 ?_; simp only [pz])
     (refine tA 2 17 ?_; simp only [pz])
     (refine tA 3 18 ?_; simp only [pz])
     (refine tK 4 19 ?_; simp only [pz])
     refine oNe 5 fun K hK => ?_
     go_simp
     refine (HIN.out _ _ _ _).mono ?_; rintro e1 w1 ⟨rfl, rfl⟩
     go_simp
     (try rw [hq1])
     refine hK.out _ _ (by assumption) (fun hHeld => ?_)
     clear hK K
     (try simp only [pz])
     (refine tA 6 21 ?_; simp only [pz])
     (refine tA 7 22 ?_; simp only [pz])
     (refine tA 8 23 ?_; simp only [pz])
     (refine tA 9 24 ?_; simp only [pz])
     (refine tA 10 25 ?_; simp only [pz])
     (refine tA 11 26 ?_; simp only [pz])
     (refine tA 12 27 ?_; simp only [pz])
     (refine tA 13 28 ?_; simp only [pz])
     (refine tA 14 29 ?_; simp only [pz])
     (refine tA 15 30 ?_; simp only [pz])
     (refine tK 16 31 ?_; simp only [pz])
     (refine tA 17 32 ?_; simp only [pz])
     (refine tA 18 33 ?_; simp only [pz])
     (refine tA 19 34 ?_; simp only [pz])
     (refine tA 20 35 ?_; simp only [pz])
     (refine tK 21 36 ?_; simp only [pz])
     (refine tA 22 37 ?_; simp only [pz])
     (refine tA 23 38 ?_; simp only [pz])
     (refine tA 24 39 ?_; simp only [pz])
     (refine tA 25 40 ?_; simp only [pz])
     (refine tA 26 41 ?_; simp only [pz])
     (refine tA 27 42 ?_; simp only [pz])
     (refine tA 28 43 ?_; simp only [pz])
     (refine tA 29 44 ?_; simp only [pz])
     (refine tK 30 45 ?_; simp only [pz])
     refine oNe 31 fun K hK => ?_
     go_simp
     refine (HIN.out _ _ _ _).mono ?_; rintro e1 w1 ⟨rfl, rfl⟩
     go_simp
     (try rw [hq2])
     refine hK.out _ _ (by assumption) (fun hHeld => ?_)
     clear hK K
     (try simp only [pz])
     (refine tA 32 47 ?_; simp only [pz])
     (refine tA 33 48 ?_; simp only [pz])
     refine AnyT.done (by kernel_rfl) ?_ _
     clear hHeld
     go_wp2_with fail
     go_ret
     exact ⟨by rw [HF.out]; rfl, HBD.out⟩
    have HOK := hd_ (show (∀ j, j < k → (xs.getD j (0, 0)).2 ≠ y1) → seatsTo xs (k + 1) = true from fun h => by
     rw [HNX.out, hkt.out, HAT.out, hq1, hq2, HALT.out h, decide_eq_true hlt0]; simp)
    have HNO := hd_ (fun (j : Nat) (hj : j < k) (h : (xs.getD j (0, 0)).2 = y1) => HM.out (by
     rw [HAT.out]
     cases ha : ((xs.take k).all fun s => decide (s.2 ≠ y1)) with
     | false => simp
     | true => exact absurd h (HALL.out j hj ha)))
    have HPC2 := hd_ (show ∀ j, j < xs.length → ∀ W, Below wr.drew.heap.size wr.drew W → W.cell? ⟨b, off + j * 2, none⟩ = some (.int .i64 (xs.getD j (0, 0)).1) ∧ W.cell? ⟨b, off + j * 2 + 1, none⟩ = some (.int .i64 (xs.getD j (0, 0)).2) from fun j hj W hW => by
     rw [← HD.out]; exact HPC.out j hj W ((below_drewN' wr 1).trans hW))
    go_upto_region 4 with fail
    refine AnyT.region (fun _ => false) (fun W => W.cell? ⟨b, off + (k - 1) * 2, none⟩ = some (.int .i64 z0) ∧ W.cell? ⟨b, off + k * 2, none⟩ = some (.int .i64 y0) ∧ W.cell? ⟨b, off + k * 2 + 1, none⟩ = some (.int .i64 y1)) (by kernel_rfl) ⟨dp, d0, d1⟩ (fun hHeld => ?_)
    clear d0 d1 dp HZP HPC
    generalize wr.drew = w3 at *
    (refine tA 0 15 ?_; simp only [pz])
    (refine tA 1 16 ?_; simp only [pz])
    (refine tA 2 17 ?_; simp only [pz])
    (refine tA 3 18 ?_; simp only [pz])
    (refine tK 4 19 ?_; simp only [pz])
    refine oNe 5 fun K hK => ?_
    go_simp
    refine (HIN.out _ _ _ _).mono ?_; rintro e1 w1 ⟨rfl, rfl⟩
    go_simp
    (try rw [hq1])
    refine hK.out _ _ (by assumption) (fun hHeld => ?_)
    clear hK K
    (try simp only [pz])
    (refine tA 6 21 ?_; simp only [pz])
    (refine tA 7 22 ?_; simp only [pz])
    (refine tA 8 23 ?_; simp only [pz])
    (refine tA 9 24 ?_; simp only [pz])
    (refine tA 10 25 ?_; simp only [pz])
    (refine tA 11 26 ?_; simp only [pz])
    (refine tA 12 27 ?_; simp only [pz])
    (refine tA 13 28 ?_; simp only [pz])
    (refine tA 14 29 ?_; simp only [pz])
    (refine tA 15 30 ?_; simp only [pz])
    (refine tK 16 31 ?_; simp only [pz])
    (refine tA 17 32 ?_; simp only [pz])
    (refine tA 18 33 ?_; simp only [pz])
    (refine tA 19 34 ?_; simp only [pz])
    (refine tA 20 35 ?_; simp only [pz])
    (refine tK 21 36 ?_; simp only [pz])
    (refine tA 22 37 ?_; simp only [pz])
    (refine tA 23 38 ?_; simp only [pz])
    (refine tA 24 39 ?_; simp only [pz])
    (refine tA 25 40 ?_; simp only [pz])
    (refine tA 26 41 ?_; simp only [pz])
    (refine tA 27 42 ?_; simp only [pz])
    (refine tA 28 43 ?_; simp only [pz])
    (refine tA 29 44 ?_; simp only [pz])
    (refine tK 30 45 ?_; simp only [pz])
    refine oNe 31 fun K hK => ?_
    go_simp
    refine (HIN.out _ _ _ _).mono ?_; rintro e1 w1 ⟨rfl, rfl⟩
    go_simp
    (try rw [hq2])
    refine hK.out _ _ (by assumption) (fun hHeld => ?_)
    clear hK K
    (try simp only [pz])
    (refine tA 32 47 ?_; simp only [pz])
    (refine tA 33 48 ?_; simp only [pz])
    refine AnyT.done (by kernel_rfl) ?_ _
    clear hHeld hkt HM HALL HALT HNX HAT
    go_wp2_with fail
    go_loopw [4] (fun i wr => ∃ j : Nat, j ≤ k ∧ i = .int .i64 j ∧ Hid (∀ i, i < j → (xs.getD i (0, 0)).2 ≠ y1) ∧ Below w3.heap.size w3 wr) (fun i _ => k - (intOf i).toNat)
    case atStart => exact ⟨0, Nat.zero_le _, rfl, hd_ (fun j hj => absurd hj (Nat.not_lt_zero j)), Below.refl _ _⟩
    case round =>
     obtain ⟨j, hj, rfl, hno, hb⟩ := hrel
     have HB4 := hd_ hb
     by_cases hjk : j < k
     ·obtain ⟨_, d2⟩ := HPC2.out j (by omega) wr.drew (hb.drew)
      obtain ⟨_, d3⟩ := HPC2.out k hlt wr.drew (hb.drew)
      rw [HX.out] at d3
      dsimp only at d3
      have j1 : (j : Int) < (k : Int) := by omega
      have j2 : (j : Int) < (xs.length : Int) := by omega
      have hnj := HNO.out j hjk
      have hst := fun (h : (xs.getD j (0, 0)).2 ≠ y1) => show ∀ i, i < j + 1 → (xs.getD i (0, 0)).2 ≠ y1 from fun i hi => by
       rcases Nat.lt_or_ge i j with h1 | h1
       ·exact hno.out i h1
       ·obtain rfl : i = j := by omega
        exact h
      generalize (xs.getD j (0, 0)).2 = v at *
      have HBD4 := hd_ (show Below w3.heap.size w3 wr.drew from hb.drew)
      clear hb hno
      by_cases he : v = y1
      ·have HF := hd_ (hnj he)
       have q1 : (v == y1) = true := by simp [he]
       clear hnj hst he
       go_upto_region 9 with fail
       refine AnyT.region (fun _ => false) (fun W => W.cell? ⟨b, off + j * 2 + 1, none⟩ = some (.int .i64 v) ∧ W.cell? ⟨b, off + k * 2 + 1, none⟩ = some (.int .i64 y1)) (by kernel_rfl) ⟨d2, d3⟩ (fun hHeld => ?_)
       clear d2 d3
       generalize wr.drew = w4 at *
       (refine tA 0 54 ?_; simp only [pz])
       (refine tA 1 55 ?_; simp only [pz])
       (refine tA 2 56 ?_; simp only [pz])
       (refine tA 3 57 ?_; simp only [pz])
       (refine tK 4 58 ?_; simp only [pz])
       (refine tA 5 59 ?_; simp only [pz])
       (refine tA 6 60 ?_; simp only [pz])
       (refine tA 7 61 ?_; simp only [pz])
       (refine tA 8 62 ?_; simp only [pz])
       (refine tK 9 63 ?_; simp only [pz])
       (refine tA 10 64 ?_; simp only [pz])
       refine AnyT.done (by kernel_rfl) ?_ _
       clear hHeld
       go_wp2_with fail
       go_ret
       exact ⟨by rw [HF.out]; rfl, HBD.out.trans (HBD4.out.mono HBD.out.size)⟩
      ·have HST := hd_ (hst he)
       have q1 : (v == y1) = false := by simp [he]
       clear hnj hst he
       go_upto_region 9 with fail
       refine AnyT.region (fun _ => false) (fun W => W.cell? ⟨b, off + j * 2 + 1, none⟩ = some (.int .i64 v) ∧ W.cell? ⟨b, off + k * 2 + 1, none⟩ = some (.int .i64 y1)) (by kernel_rfl) ⟨d2, d3⟩ (fun hHeld => ?_)
       clear d2 d3
       generalize wr.drew = w4 at *
       (refine tA 0 54 ?_; simp only [pz])
       (refine tA 1 55 ?_; simp only [pz])
       (refine tA 2 56 ?_; simp only [pz])
       (refine tA 3 57 ?_; simp only [pz])
       (refine tK 4 58 ?_; simp only [pz])
       (refine tA 5 59 ?_; simp only [pz])
       (refine tA 6 60 ?_; simp only [pz])
       (refine tA 7 61 ?_; simp only [pz])
       (refine tA 8 62 ?_; simp only [pz])
       (refine tK 9 63 ?_; simp only [pz])
       (refine tA 10 64 ?_; simp only [pz])
       refine AnyT.done (by kernel_rfl) ?_ _
       clear hHeld
       go_wp2_with fail
       go_roundw
       case rel => exact ⟨j + 1, by omega, by go_num, hd_ HST.out, HBD4.out⟩
       case measure => simp [intOf]; omega
     ·obtain rfl : j = k := by omega
      have j1 : ¬ (j : Int) < (j : Int) := by omega
      have HOK2 := hd_ (HOK.out hno.out)
      clear hno hb
      go_wp2_with fail
      go_roundw
      case rel => exact ⟨j + 1, by omega, by omega, by go_num, hd_ HOK2.out, HBD.out.trans (HB4.out.mono HBD.out.size)⟩
      case measure => simp [intOf]; omega
  ·have HKN := hd_ (show seatsTo xs (min xs.length 65) = true by rw [show min xs.length 65 = k by omega]; exact hkt.out)
   clear hb hkt
   by_cases hlt : k < xs.length
   ·have i1 : (k : Int) < (xs.length : Int) := by omega
    have i6 : ¬ (k : Int) ≤ 64 := by omega
    have i7 : ¬ (xs.length : Int) ≤ 64 := by omega
    have HD := hd_ (show decide (xs.length ≤ 64) = false from decide_eq_false (by omega))
    clear hmore
    go_wp2_with fail
    go_ret
    exact ⟨by rw [HKN.out, HD.out]; rfl, HB.out⟩
   ·have i1 : ¬ (k : Int) < (xs.length : Int) := by omega
    by_cases h6 : xs.length ≤ 64
    ·have i7 : (xs.length : Int) ≤ 64 := by omega
     have HD := hd_ (show decide (xs.length ≤ 64) = true from decide_eq_true h6)
     clear hmore h6
     go_wp2_with fail
     go_ret
     exact ⟨by rw [HKN.out, HD.out]; rfl, HB.out⟩
    ·have i7 : ¬ (xs.length : Int) ≤ 64 := by omega
     have HD := hd_ (show decide (xs.length ≤ 64) = false from decide_eq_false h6)
     clear hmore h6
     go_wp2_with fail
     go_ret
     exact ⟨by rw [HKN.out, HD.out]; rfl, HB.out⟩
end Go.Proofs.YtnnabkldceklmaaGreatDoor
