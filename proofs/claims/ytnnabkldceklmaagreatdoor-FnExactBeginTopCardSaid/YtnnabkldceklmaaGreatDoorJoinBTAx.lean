/- The reference's TopOk, l18Below, l18Uses, l00Rises walked. -/
import Derived.Test.YtnnabkldceklmaaGreatDoorJoinBTAq
set_option maxHeartbeats 16000000
set_option maxRecDepth 100000
namespace Go.Proofs.YtnnabkldceklmaaGreatDoor
open Go.RowKit
theorem specTopOk_any (t : TyTop) (vs : List Value) (lo hi : Nat) (w : World) (h : shTop.R w lo hi vs t) (hhi : hi ≤ w.heap.size) (hn : t.2.2.2.length ≤ 1048576) :
  Calls Tryz.prog 90 #[.agg vs.toArray] w fun e w' => e = .returned (.bool (topP t)) ∧ Below w.heap.size w w' := by
 obtain ⟨x0, x1, x2, x3⟩ := t
 obtain ⟨A3, c3, rfl, _⟩ := shTop_R.1 h
 have HIN := hd_ (fun a lo hi W => l00InP_any a lo hi W)
 obtain ⟨ANS, hANS⟩ : ∃ b, b = topP (x0, x1, x2, x3) := ⟨_, rfl⟩
 rw [← hANS]
 unfold topP at hANS
 dsimp only at hANS hn
 have hb0 := (Below.refl w.heap.size w).alloc (Nat.le_refl _) (.cells #[.int .i64 x0, .int .i64 x1, .int .i64 x2, .slice A3 x3.length c3] 42)
 have HR := hd_ ((Sh.row 88 shSeat).R_below (shTop_f3 h) hb0 hhi)
 have HB0 := hd_ hb0
 have HBK := hd_ (Blk.new w 42 #[.int .i64 x0, .int .i64 x1, .int .i64 x2, .slice A3 x3.length c3])
 have hz0 : (w.alloc (.cells #[.int .i64 x0, .int .i64 x1, .int .i64 x2, .slice A3 x3.length c3] 42)).heap.size = w.heap.size + 1 := by simp
 clear h hb0
 go_enter Tryz.func90, Tryz.ntmps90
 go_upto_region 1 with fail
 generalize (w.alloc (.cells #[.int .i64 x0, .int .i64 x1, .int .i64 x2, .slice A3 x3.length c3] 42)) = w1 at *
 have f0 := HBK.out.cell 0; have f1 := HBK.out.cell 1; have f2 := HBK.out.cell 2; have f3 := HBK.out.cell 3
 simp only [List.getElem?_toArray, List.getElem?_cons_zero, List.getElem?_cons_succ] at f0 f1 f2 f3
 clear HBK
 by_cases q0 : inB x0 1 2000000000 = true
 rotate_left
 ·have q0 := Bool.eq_false_iff.2 q0
  have HA := hd_ (show ANS = false by rw [hANS, q0]; rfl)
  clear hANS
  go_wp2_with (first | fail | (refine (HIN.out _ _ _ _).mono ?_; rintro e1 w2 ⟨rfl, rfl⟩; first | rw [q0]))
  go_ret
  exact ⟨by rw [HA.out]; rfl, HB0.out⟩
 by_cases q1 : inB x1 1 64 = true
 rotate_left
 ·have q1 := Bool.eq_false_iff.2 q1
  have HA := hd_ (show ANS = false by rw [hANS, q1, Bool.and_false]; rfl)
  clear hANS
  go_wp2_with (first | fail | (refine (HIN.out _ _ _ _).mono ?_; rintro e1 w2 ⟨rfl, rfl⟩; first | rw [q0] | rw [q1]))
  go_ret
  exact ⟨by rw [HA.out]; rfl, HB0.out⟩
 by_cases q2 : inB x2 0 2000000000 = true
 rotate_left
 ·have q2 := Bool.eq_false_iff.2 q2
  have HA := hd_ (show ANS = false by rw [hANS, q2, Bool.and_false]; rfl)
  clear hANS
  go_wp2_with (first | fail | (refine (HIN.out _ _ _ _).mono ?_; rintro e1 w2 ⟨rfl, rfl⟩; first | rw [q0] | rw [q1] | rw [q2]))
  go_ret
  exact ⟨by rw [HA.out]; rfl, HB0.out⟩
 have HA := hd_ (show ANS = seatsP x3 by rw [hANS, q0, q1, q2]; rfl)
 have HS := hd_ (l18Seats_any A3 c3 x3 lo hi w1 HR.out (by omega) hn)
 clear hANS
 go_wp2_with (first | fail | (refine (HIN.out _ _ _ _).mono ?_; rintro e1 w2 ⟨rfl, rfl⟩; first | rw [q0] | rw [q1] | rw [q2]) | (refine HS.out.mono ?_; rintro e1 w2 ⟨rfl, hb2⟩))
 have HB2 := hd_ (HB0.out.trans (hb2.mono (by omega)))
 go_ret
 exact ⟨by rw [HA.out]; rfl, HB2.out⟩
theorem l18Below_any (A : Option Addr) (c : Nat) (xs : List TySeat) (n : Int) (lo hi : Nat) (w : World) (h : (Sh.row 88 shSeat).R w lo hi [.slice A xs.length c] xs) (hn : xs.length ≤ 1048576) :
  Calls Tryz.prog 94 #[.slice A xs.length c, .int .i64 n] w fun e w' => e = .returned (.bool (xs.all fun s => decide (s.2 < n))) ∧ w = w' := by
 have HA := hd_ h
 clear h
 go_enter Tryz.func94, Tryz.ntmps94
 go_wp2_with fail
 go_loopw [5] (fun i wr => ∃ k : Nat, k ≤ xs.length ∧ i = .int .i64 k ∧ Hid ((xs.take k).all (fun s => decide (s.2 < n)) = true) ∧ w = wr) (fun i _ => xs.length - (intOf i).toNat)
 case atStart => exact ⟨0, Nat.zero_le _, rfl, hd_ rfl, rfl⟩
 case round =>
  obtain ⟨k, hk, rfl, hkt, rfl⟩ := hrel
  by_cases hlt : k < xs.length
  ·obtain ⟨-, b, off, rfl, hb1, hb2, e0, e1, -⟩ := shSeat_at HA.out hlt
   have hN := all_next (fun s : TySeat => decide (s.2 < n)) shSeat.d xs k hlt
   have hM := all_not (fun s : TySeat => decide (s.2 < n)) shSeat.d xs k hlt
   generalize (xs.getD k shSeat.d) = X at *
   obtain ⟨y0, y1⟩ := X
   dsimp only at e0 e1 hN hM
   by_cases he : y1 < n
   ·have HKN := hd_ (show (xs.take (k + 1)).all (fun s => decide (s.2 < n)) = true by rw [hN, hkt.out, decide_eq_true he]; rfl)
    have q1 : ¬ n ≤ y1 := by omega
    clear hN hM hkt
    go_wp2_with fail
    go_roundw
    case rel => exact ⟨k + 1, by omega, by go_num, hd_ HKN.out, by trivial⟩
    case measure => simp [intOf]; omega
   ·have HF := hd_ (hM (decide_eq_false he))
    have q1 : n ≤ y1 := by omega
    clear hN hM hkt
    go_wp2_with fail
    go_ret
    exact ⟨by rw [HF.out]; rfl, rfl⟩
  ·obtain rfl : k = xs.length := by omega
   rw [List.take_length] at hkt
   go_wp2_with fail
   go_ret
   exact ⟨by rw [hkt.out]; rfl, rfl⟩
theorem l18Uses_any (A : Option Addr) (c : Nat) (xs : List TySeat) (n : Int) (lo hi : Nat) (w : World) (h : (Sh.row 88 shSeat).R w lo hi [.slice A xs.length c] xs) (hn : xs.length ≤ 1048576) :
  Calls Tryz.prog 93 #[.slice A xs.length c, .int .i64 n] w fun e w' => e = .returned (.bool (slotIn xs n)) ∧ w = w' := by
 have HA := hd_ h
 have HSL := hd_ (show slotIn xs n = !(xs.all fun s => !decide (s.2 = n)) by
  unfold slotIn; rw [Bool.eq_iff_iff]; simp)
 clear h
 go_enter Tryz.func93, Tryz.ntmps93
 go_wp2_with fail
 go_loopw [5] (fun i wr => ∃ k : Nat, k ≤ xs.length ∧ i = .int .i64 k ∧ Hid ((xs.take k).all (fun s => !decide (s.2 = n)) = true) ∧ w = wr) (fun i _ => xs.length - (intOf i).toNat)
 case atStart => exact ⟨0, Nat.zero_le _, rfl, hd_ rfl, rfl⟩
 case round =>
  obtain ⟨k, hk, rfl, hkt, rfl⟩ := hrel
  by_cases hlt : k < xs.length
  ·obtain ⟨-, b, off, rfl, hb1, hb2, e0, e1, -⟩ := shSeat_at HA.out hlt
   have hN := all_next (fun s : TySeat => !decide (s.2 = n)) shSeat.d xs k hlt
   have hM := all_not (fun s : TySeat => !decide (s.2 = n)) shSeat.d xs k hlt
   generalize (xs.getD k shSeat.d) = X at *
   obtain ⟨y0, y1⟩ := X
   dsimp only at e0 e1 hN hM
   by_cases he : y1 = n
   ·have HF := hd_ (hM (by rw [decide_eq_true he]; rfl))
    have q1 : (y1 == n) = true := by simp [he]
    clear hN hM hkt he
    go_wp2_with fail
    go_ret
    exact ⟨by rw [HSL.out, HF.out]; rfl, rfl⟩
   ·have HKN := hd_ (show (xs.take (k + 1)).all (fun s => !decide (s.2 = n)) = true by rw [hN, hkt.out, decide_eq_false he]; rfl)
    have q1 : (y1 == n) = false := by simp [he]
    clear hN hM hkt he
    go_wp2_with fail
    go_roundw
    case rel => exact ⟨k + 1, by omega, by go_num, hd_ HKN.out, by trivial⟩
    case measure => simp [intOf]; omega
  ·obtain rfl : k = xs.length := by omega
   rw [List.take_length] at hkt
   go_wp2_with fail
   go_ret
   exact ⟨by rw [HSL.out, hkt.out]; rfl, rfl⟩
def risesTo (l : List Int) (k : Nat) : Bool := (List.range k).all fun i => inB (l.getD i 0) 1 64 && (decide (i = 0) || decide (l.getD (i - 1) 0 < l.getD i 0))
theorem risesTo_next (l : List Int) (k : Nat) : risesTo l (k + 1) = (risesTo l k && (inB (l.getD k 0) 1 64 && (decide (k = 0) || decide (l.getD (k - 1) 0 < l.getD k 0)))) := by
 unfold risesTo; rw [List.range_succ, List.all_append]; simp
theorem risesTo_at {l : List Int} {n k : Nat} (h : risesTo l n = true) (hk : k < n) : (inB (l.getD k 0) 1 64 && (decide (k = 0) || decide (l.getD (k - 1) 0 < l.getD k 0))) = true := (List.all_eq_true.1 h) k (List.mem_range.2 hk)
theorem risesTo_all (l : List Int) : risesTo l l.length = (risesI l && l.all fun n => inB n 1 64) := by
 rw [Bool.eq_iff_iff, Bool.and_eq_true]
 unfold risesTo risesI
 simp only [List.all_eq_true, List.mem_range, Bool.and_eq_true, Bool.or_eq_true, decide_eq_true_eq]
 constructor
 ·intro h
  refine ⟨fun k hk => ?_, fun x hx => ?_⟩
  ·have := (h (k + 1) (by omega)).2
   rcases this with h1 | h1
   ·omega
   ·simpa using h1
  ·obtain ⟨i, hi, rfl⟩ := List.getElem_of_mem hx
   have := (h i hi).1
   rw [List.getD_eq_getElem?_getD, List.getElem?_eq_getElem hi] at this
   exact this
 ·intro ⟨h1, h2⟩ k hk
  refine ⟨?_, ?_⟩
  ·rw [List.getD_eq_getElem?_getD, List.getElem?_eq_getElem hk]
   exact h2 _ (List.getElem_mem hk)
  ·rcases Nat.eq_zero_or_pos k with h0 | h0
   ·exact .inl h0
   ·right
    have := h1 (k - 1) (by omega)
    rwa [show k - 1 + 1 = k by omega] at this
theorem l00Rises_any (A : Option Addr) (c : Nat) (xs : List Int) (lo hi : Nat) (w : World) (h : (Sh.row 2 shI).R w lo hi [.slice A xs.length c] xs) (hhi : hi ≤ w.heap.size) (hn : xs.length ≤ 1048576) :
  Calls Tryz.prog 92 #[.slice A xs.length c, .int .i64 1, .int .i64 64] w fun e w' => e = .returned (.bool (risesI xs && xs.all fun n => inB n 1 64)) ∧ Below w.heap.size w w' := by
 have HA := hd_ h
 rw [← risesTo_all]
 have HIN := hd_ (fun a lo hi W => l00InP_any a lo hi W)
 clear h
 go_enter Tryz.func92, Tryz.ntmps92
 go_wp2_with fail
 go_loopw [7] (fun i wr => ∃ k : Nat, k ≤ xs.length ∧ i = .int .i64 k ∧ Hid (risesTo xs k = true) ∧ Below w.heap.size w wr) (fun i _ => xs.length - (intOf i).toNat)
 case atStart => exact ⟨0, Nat.zero_le _, rfl, hd_ rfl, Below.refl _ _⟩
 case round =>
  obtain ⟨k, hk, rfl, hkt, hb⟩ := hrel
  have HB := hd_ hb
  by_cases hlt : k < xs.length
  ·have hr := rowR_of ((Sh.row 2 shI).R_below HA.out hb hhi)
   have hrd : ∀ j, j < xs.length → ∃ b off, A = some ⟨b, off, none⟩ ∧ wr.drew.cell? ⟨b, off + j, none⟩ = some (.int .i64 (xs.getD j 0)) := fun j hj => by
    obtain ⟨b, off, e, _, _, hc⟩ := hr.at_ hj
    exact ⟨b, off, e, hc⟩
   obtain ⟨b, off, rfl, d0⟩ := hrd k hlt
   have hdp : 0 < k → wr.drew.cell? ⟨b, off + (k - 1), none⟩ = some (.int .i64 (xs.getD (k - 1) 0)) := fun h0 => by
    obtain ⟨b', off', e, hc⟩ := hrd (k - 1) (by omega)
    injection e with e; injection e with e1 e2 e3; subst e1 e2
    exact hc
   have i1 : (k : Int) < (xs.length : Int) := by omega
   have HAT := hd_ (risesTo_next xs k)
   have HM := hd_ (fun (h : (inB (xs.getD k 0) 1 64 && (decide (k = 0) || decide (xs.getD (k - 1) 0 < xs.getD k 0))) = false) => show risesTo xs xs.length = false from by
    rw [Bool.eq_false_iff]; intro h2; rw [risesTo_at h2 hlt] at h; cases h)
   have HDP := hd_ hdp
   generalize xs.getD (k - 1) 0 = z0 at *
   generalize xs.getD k 0 = y0 at *
   have HBD := hd_ (show Below w.heap.size w wr.drew from HB.out.drew)
   clear hb hr hrd hdp
   by_cases hq1 : inB y0 1 64 = true
   rotate_left
   ·have hq1 := Bool.eq_false_iff.2 hq1
    have HF := hd_ (HM.out (by rw [hq1]; rfl))
    go_upto_region 4 with fail
    refine AnyT.region (fun _ => false) (fun W => W.cell? ⟨b, off + k, none⟩ = some (.int .i64 y0)) (by kernel_rfl) d0 (fun hHeld => ?_)
    clear d0
    generalize wr.drew = w3 at *
    (refine tA 0 14 ?_; simp only [pz])
    (refine tA 1 15 ?_; simp only [pz])
    (refine tA 2 16 ?_; simp only [pz])
    (refine tK 3 17 ?_; simp only [pz])
    (refine tA 4 18 ?_; simp only [pz])
    (refine tA 5 19 ?_; simp only [pz])
    refine oNe 6 fun K hK => ?_
    go_simp
    refine (HIN.out _ _ _ _).mono ?_; rintro e1 w1 ⟨rfl, rfl⟩
    go_simp
    (try rw [hq1])
    refine hK.out _ _ (by assumption) (fun hHeld => ?_)
    clear hK K
    (try simp only [pz])
    (refine tA 7 21 ?_; simp only [pz])
    (refine tA 8 22 ?_; simp only [pz])
    (refine sK 9 23 ?_; simp only [pz])
    (refine sK 10 24 ?_; simp only [pz])
    (refine sK 11 25 ?_; simp only [pz])
    (refine sK 12 26 ?_; simp only [pz])
    (refine sK 13 27 ?_; simp only [pz])
    (refine sK 14 28 ?_; simp only [pz])
    (refine sK 15 29 ?_; simp only [pz])
    (refine sK 16 30 ?_; simp only [pz])
    (refine sK 17 31 ?_; simp only [pz])
    (refine sK 18 32 ?_; simp only [pz])
    (refine sK 19 33 ?_; simp only [pz])
    (refine sK 20 34 ?_; simp only [pz])
    (refine sK 21 35 ?_; simp only [pz])
    (refine sK 22 36 ?_; simp only [pz])
    (refine tA 23 37 ?_; simp only [pz])
    refine AnyT.done (by kernel_rfl) ?_ _
    clear hHeld
    go_wp2_with fail
    go_ret
    exact ⟨by rw [HF.out]; rfl, HBD.out⟩
   by_cases h00 : k = 0
   ·have i0 : ¬ (0 : Int) < (k : Int) := by omega
    have k8 : decide ((0 : Int) < (k : Int)) = false := by rw [decide_eq_false_iff_not]; omega
    have k9 : decide (0 < k) = false := by rw [decide_eq_false_iff_not]; omega
    have HOK := hd_ (show risesTo xs (k + 1) = true by rw [HAT.out, hkt.out, hq1, decide_eq_true h00]; rfl)
    clear h00
    go_upto_region 4 with fail
    refine AnyT.region (fun _ => false) (fun W => W.cell? ⟨b, off + k, none⟩ = some (.int .i64 y0)) (by kernel_rfl) d0 (fun hHeld => ?_)
    clear d0
    generalize wr.drew = w3 at *
    (refine tA 0 14 ?_; simp only [pz])
    (refine tA 1 15 ?_; simp only [pz])
    (refine tA 2 16 ?_; simp only [pz])
    (refine tK 3 17 ?_; simp only [pz])
    (refine tA 4 18 ?_; simp only [pz])
    (refine tA 5 19 ?_; simp only [pz])
    refine oNe 6 fun K hK => ?_
    go_simp
    refine (HIN.out _ _ _ _).mono ?_; rintro e1 w1 ⟨rfl, rfl⟩
    go_simp
    (try rw [hq1])
    refine hK.out _ _ (by assumption) (fun hHeld => ?_)
    clear hK K
    (try simp only [pz])
    (refine tA 7 21 ?_; simp only [pz])
    (refine tA 8 22 ?_; simp only [pz])
    (refine tA 9 23 ?_; simp only [pz])
    (refine tA 10 24 ?_; simp only [pz])
    (refine tA 11 25 ?_; simp only [pz])
    (refine sK 12 26 ?_; simp only [pz])
    (refine sK 13 27 ?_; simp only [pz])
    (refine sK 14 28 ?_; simp only [pz])
    (refine sK 15 29 ?_; simp only [pz])
    (refine sK 16 30 ?_; simp only [pz])
    (refine sK 17 31 ?_; simp only [pz])
    (refine sK 18 32 ?_; simp only [pz])
    (refine sK 19 33 ?_; simp only [pz])
    (refine sK 20 34 ?_; simp only [pz])
    (refine sK 21 35 ?_; simp only [pz])
    (refine tA 22 36 ?_; simp only [pz])
    (refine tA 23 37 ?_; simp only [pz])
    refine AnyT.done (by kernel_rfl) ?_ _
    clear hHeld
    go_wp2_with fail
    go_roundw
    case rel => exact ⟨k + 1, by omega, by go_num, hd_ HOK.out, HBD.out⟩
    case measure => simp [intOf]; omega
   ·have i0 : (0 : Int) < (k : Int) := by omega
    have k1 : IntKind.i64.wrap ((k : Int) - 1) = (k : Int) - 1 := IntWalk.i64_in _ (by omega)
    have k2 : ((k : Int) - 1).toNat = k - 1 := by omega
    have k3 : (0 : Int) ≤ (k : Int) - 1 := by omega
    have k6 : 1 ≤ k := by omega
    have k7 : (1 : Int) ≤ (k : Int) := by omega
    have k8 : decide ((0 : Int) < (k : Int)) = true := by rw [decide_eq_true_iff]; omega
    have k9 : decide (0 < k) = true := by rw [decide_eq_true_iff]; omega
    have k4 : (k : Int) - 1 < (xs.length : Int) := by omega
    have dp := HDP.out (by omega)
    by_cases hlt0 : z0 < y0
    ·have k5 : ¬ y0 ≤ z0 := by omega
     have HOK := hd_ (show risesTo xs (k + 1) = true by rw [HAT.out, hkt.out, hq1, decide_eq_true hlt0]; simp)
     clear h00 HDP
     go_upto_region 4 with fail
     refine AnyT.region (fun _ => false) (fun W => W.cell? ⟨b, off + (k - 1), none⟩ = some (.int .i64 z0) ∧ W.cell? ⟨b, off + k, none⟩ = some (.int .i64 y0)) (by kernel_rfl) ⟨dp, d0⟩ (fun hHeld => ?_)
     clear d0 dp
     generalize wr.drew = w3 at *
     (refine tA 0 14 ?_; simp only [pz])
     (refine tA 1 15 ?_; simp only [pz])
     (refine tA 2 16 ?_; simp only [pz])
     (refine tK 3 17 ?_; simp only [pz])
     (refine tA 4 18 ?_; simp only [pz])
     (refine tA 5 19 ?_; simp only [pz])
     refine oNe 6 fun K hK => ?_
     go_simp
     refine (HIN.out _ _ _ _).mono ?_; rintro e1 w1 ⟨rfl, rfl⟩
     go_simp
     (try rw [hq1])
     refine hK.out _ _ (by assumption) (fun hHeld => ?_)
     clear hK K
     (try simp only [pz])
     (refine tA 7 21 ?_; simp only [pz])
     (refine tA 8 22 ?_; simp only [pz])
     (refine tA 9 23 ?_; simp only [pz])
     (refine tA 10 24 ?_; simp only [pz])
     (refine tA 11 25 ?_; simp only [pz])
     (refine tA 12 26 ?_; simp only [pz])
     (refine tA 13 27 ?_; simp only [pz])
     (refine tA 14 28 ?_; simp only [pz])
     (refine tA 15 29 ?_; simp only [pz])
     (refine tK 16 30 ?_; simp only [pz])
     (refine tA 17 31 ?_; simp only [pz])
     (refine tA 18 32 ?_; simp only [pz])
     (refine tA 19 33 ?_; simp only [pz])
     (refine tK 20 34 ?_; simp only [pz])
     (refine tA 21 35 ?_; simp only [pz])
     (refine tA 22 36 ?_; simp only [pz])
     (refine tA 23 37 ?_; simp only [pz])
     refine AnyT.done (by kernel_rfl) ?_ _
     clear hHeld
     go_wp2_with fail
     go_roundw
     case rel => exact ⟨k + 1, by omega, by go_num, hd_ HOK.out, HBD.out⟩
     case measure => simp [intOf]; omega
    ·have k5 : y0 ≤ z0 := by omega
     have HF := hd_ (HM.out (by rw [decide_eq_false hlt0, decide_eq_false h00]; simp))
     clear h00 HDP
     go_upto_region 4 with fail
     refine AnyT.region (fun _ => false) (fun W => W.cell? ⟨b, off + (k - 1), none⟩ = some (.int .i64 z0) ∧ W.cell? ⟨b, off + k, none⟩ = some (.int .i64 y0)) (by kernel_rfl) ⟨dp, d0⟩ (fun hHeld => ?_)
     clear d0 dp
     generalize wr.drew = w3 at *
     (refine tA 0 14 ?_; simp only [pz])
     (refine tA 1 15 ?_; simp only [pz])
     (refine tA 2 16 ?_; simp only [pz])
     (refine tK 3 17 ?_; simp only [pz])
     (refine tA 4 18 ?_; simp only [pz])
     (refine tA 5 19 ?_; simp only [pz])
     refine oNe 6 fun K hK => ?_
     go_simp
     refine (HIN.out _ _ _ _).mono ?_; rintro e1 w1 ⟨rfl, rfl⟩
     go_simp
     (try rw [hq1])
     refine hK.out _ _ (by assumption) (fun hHeld => ?_)
     clear hK K
     (try simp only [pz])
     (refine tA 7 21 ?_; simp only [pz])
     (refine tA 8 22 ?_; simp only [pz])
     (refine tA 9 23 ?_; simp only [pz])
     (refine tA 10 24 ?_; simp only [pz])
     (refine tA 11 25 ?_; simp only [pz])
     (refine tA 12 26 ?_; simp only [pz])
     (refine tA 13 27 ?_; simp only [pz])
     (refine tA 14 28 ?_; simp only [pz])
     (refine tA 15 29 ?_; simp only [pz])
     (refine tK 16 30 ?_; simp only [pz])
     (refine tA 17 31 ?_; simp only [pz])
     (refine tA 18 32 ?_; simp only [pz])
     (refine tA 19 33 ?_; simp only [pz])
     (refine tK 20 34 ?_; simp only [pz])
     (refine tA 21 35 ?_; simp only [pz])
     (refine tA 22 36 ?_; simp only [pz])
     (refine tA 23 37 ?_; simp only [pz])
     refine AnyT.done (by kernel_rfl) ?_ _
     clear hHeld
     go_wp2_with fail
     go_ret
     exact ⟨by rw [HF.out]; rfl, HBD.out⟩
  ·obtain rfl : k = xs.length := by omega
   have i1 : ¬ ((xs.length : Nat) : Int) < (xs.length : Int) := by omega
   go_wp2_with fail
   go_ret
   exact ⟨by rw [hkt.out]; rfl, HB.out⟩
end Go.Proofs.YtnnabkldceklmaaGreatDoor
