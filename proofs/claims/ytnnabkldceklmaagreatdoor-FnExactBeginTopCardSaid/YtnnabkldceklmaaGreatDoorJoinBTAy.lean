/- The program's seatsOk and TopOk walked. -/
import Derived.Test.YtnnabkldceklmaaGreatDoorJoinBTAr
namespace Go.Proofs.YtnnabkldceklmaaGreatDoor
open Go.RowKit
theorem seenK (l : List TySeat) (y : Int) : ((l.map fun s => (s.2, Value.bool true)).find? fun p => p.1 == y) = if l.all (fun s => decide (s.2 ≠ y)) then none else some (y, .bool true) := by
 induction l with
 | nil => rfl
 | cons s l ih =>
  rw [List.map_cons, List.find?_cons, List.all_cons]
  by_cases h : s.2 = y
  ·rw [show ((s.2, Value.bool true).1 == y) = true from beq_iff_eq.2 h, show decide (s.2 ≠ y) = false by simp [h], Bool.false_and, if_neg (by simp)]
   simp [h]
  ·rw [show ((s.2, Value.bool true).1 == y) = false from beq_eq_false_iff_ne.2 h, show decide (s.2 ≠ y) = true by simp [h], Bool.true_and]
   exact ih
set_option maxHeartbeats 8000000 in
set_option maxRecDepth 100000 in
theorem seatsOk_any (A : Option Addr) (c : Nat) (xs : List TySeat) (lo hi : Nat) (w : World) (h : (Sh.row 88 shSeat).R w lo hi [.slice A xs.length c] xs) (hhi : hi ≤ w.heap.size) (hn : xs.length ≤ 1048576) :
  Calls Tryz.prog 110 #[.slice A xs.length c] w fun e w' => e = .returned (.bool (seatsP xs)) ∧ Below w.heap.size w w' := by
 have HA := hd_ h
 clear h
 have HIN := hd_ (fun a lo hi W => withinP_any a lo hi W)
 have HM := hd_ (fun k (hk : k < xs.length) (h : seatB xs k = false) => show seatsP xs = false from by
  unfold seatsP
  have : seatsTo xs xs.length = false := by
   rw [Bool.eq_false_iff]; intro h2; rw [seatsTo_at h2 hk] at h; cases h
  rw [this]; rfl)
 obtain ⟨ANS, hANS⟩ : ∃ b, b = seatsP xs := ⟨_, rfl⟩
 rw [← hANS] at HM ⊢
 have HANS := hd_ hANS; clear hANS
 have HM0 := hd_ (MapB.new w)
 have HB0 := hd_ ((Below.refl w.heap.size w).alloc (Nat.le_refl _) (.map #[] 0))
 have hmm := @run_makeMap Tryz.prog
 go_enter Tryz.func110, Tryz.ntmps110
 go_wp2_with fail
 go_loopw [4, 9] (fun _ i wr => ∃ k : Nat, k ≤ xs.length ∧ i = .int .i64 k ∧ Hid (seatsTo xs k = true) ∧ Hid (MapB wr w.heap.size ((xs.take k).map fun s => (s.2, Value.bool true))) ∧ Below w.heap.size w wr) (fun _ i _ => xs.length - (intOf i).toNat)
 case atStart => exact ⟨0, Nat.zero_le _, rfl, hd_ rfl, HM0, HB0.out⟩
 case round =>
  clear HM0 HB0
  obtain ⟨k, hk, rfl, hkt, HMB, hb⟩ := hrel
  have hgw := HMB.out.lt
  have HB := hd_ hb
  have hsz := hb.size
  by_cases hlt : k < xs.length
  ·have i4 : (k : Int) < (xs.length : Int) := by omega
   have HAT := hd_ (show seatB xs k = (inB (xs.getD k (0, 0)).1 1 64 && inB (xs.getD k (0, 0)).2 2 399 && ((xs.take k).all fun s => decide (s.2 ≠ (xs.getD k (0, 0)).2)) && (decide (k = 0) || decide ((xs.getD (k - 1) (0, 0)).1 < (xs.getD k (0, 0)).1))) from rfl)
   have HNX := hd_ (seatsTo_next xs k)
   have HMk := hd_ (HM.out k hlt)
   have HTK := hd_ (List.take_succ_eq_append_getElem hlt)
   have HGE := hd_ (show xs[k] = xs.getD k (0, 0) by rw [List.getD_eq_getElem?_getD, List.getElem?_eq_getElem hlt]; rfl)
   have hr := (Sh.row 88 shSeat).R_below HA.out hb hhi
   obtain ⟨-, b, off, rfl, hb1, hb2, e0, e1, -⟩ := shSeat_at hr hlt
   have hpv : 0 < k → wr.cell? ⟨b, off + (k - 1) * 2, none⟩ = some (.int .i64 (xs.getD (k - 1) (0, 0)).1) := fun h0 => by
    obtain ⟨-, b', off', e, _, _, d0, _⟩ := shSeat_at hr (show k - 1 < xs.length by omega)
    injection e with e; injection e with e1 e2; subst e1; subst e2
    exact d0
   rw [show (shSeat.d : TySeat) = (0, 0) from rfl] at e0 e1
   clear hr HM
   generalize xs.getD (k - 1) (0, 0) = Z at *
   obtain ⟨z0, z1⟩ := Z
   generalize xs.getD k (0, 0) = X at *
   obtain ⟨y0, y1⟩ := X
   dsimp only at e0 e1 hpv HAT
   have hbb : b < wr.heap.size := by omega
   have hba := (Below.refl wr.heap.size wr).alloc (Nat.le_refl _) (.cells #[.int .i64 y0, .int .i64 y1] 88)
   have BA := hd_ (Blk.new wr 88 #[.int .i64 y0, .int .i64 y1])
   have HBA := hd_ hba
   have hza : (wr.alloc (.cells #[.int .i64 y0, .int .i64 y1] 88)).heap.size = wr.heap.size + 1 := by simp
   clear hb hba
   go_upto_region 5 with fail
   generalize (wr.alloc (.cells #[.int .i64 y0, .int .i64 y1] 88)) = wa at *
   have HBB := hd_ (show Below wr.heap.size wr wa.drew from HBA.out.drew)
   have HMD := hd_ (show MapB wa.drew w.heap.size ((xs.take k).map fun s => (s.2, Value.bool true)) from HMB.out.below HBB.out hgw)
   have f0 := (BA.out.drewN 1).cell 0; have f1 := (BA.out.drewN 1).cell 1
   simp only [List.getElem?_toArray, List.getElem?_cons_zero, List.getElem?_cons_succ] at f0 f1
   have HZ := hd_ (show 0 < k → wa.drew.cell? ⟨b, off + (k - 1) * 2, none⟩ = some (.int .i64 z0) from fun h0 => (HBB.out.cell (p := ⟨b, off + (k - 1) * 2, none⟩) hbb).trans (hpv h0))
   have hlk := map_look (T := 154) Tryz.underlying154 Tryz.underlying2 HMD.out y1 false (.bool false) (Tryz.zeroValue4 _)
   rw [seenK] at hlk
   obtain ⟨sn, hsn⟩ : ∃ sn, sn = (xs.take k).all (fun s => decide (s.2 ≠ y1)) := ⟨_, rfl⟩
   rw [← hsn] at hlk HAT
   have hsz2 : wa.drew.heap.size = wa.heap.size := rfl
   clear hpv e0 e1 HMB HBA BA
   have HSN := hd_ hsn; clear hsn
   have f0 : wa.drew.cell? ⟨wr.heap.size, 0, none⟩ = some (.int .i64 y0) := f0
   have f1 : wa.drew.cell? ⟨wr.heap.size, 1, none⟩ = some (.int .i64 y1) := f1
   by_cases hq1 : inB y0 1 64 = true
   rotate_left
   ·have hq1 := Bool.eq_false_iff.2 hq1
    have HF := hd_ (HMk.out (by rw [HAT.out, hq1]; rfl))
    refine AnyT.region (fun _ => false) (fun W => W.cell? ⟨wr.heap.size, 0, none⟩ = some (.int .i64 y0) ∧ W.cell? ⟨wr.heap.size, 1, none⟩ = some (.int .i64 y1)) (by kernel_rfl) ⟨f0, f1⟩ (fun hHeld => ?_)
    clear f0 f1 hlk
    generalize wa.drew = w3 at *
    (refine tA 0 14 ?_; simp only [pz])
    (refine tK 1 15 ?_; simp only [pz])
    refine oNe 2 fun K hK => ?_
    go_simp
    refine (HIN.out _ _ _ _).mono ?_; rintro e1 w1 ⟨rfl, rfl⟩
    go_simp
    (try rw [hq1])
    refine hK.out _ _ (by assumption) (fun hHeld => ?_)
    clear hK K
    (try simp only [pz])
    (refine tA 3 17 ?_; simp only [pz])
    (refine tA 4 18 ?_; simp only [pz])
    (refine sK 5 19 ?_; simp only [pz])
    (refine sK 6 20 ?_; simp only [pz])
    (refine sK 7 21 ?_; simp only [pz])
    (refine sK 8 22 ?_; simp only [pz])
    (refine tA 9 23 ?_; simp only [pz])
    (refine tA 10 24 ?_; simp only [pz])
    (refine sK 11 25 ?_; simp only [pz])
    (refine sK 12 26 ?_; simp only [pz])
    (refine sK 13 27 ?_; simp only [pz])
    (refine sK 14 28 ?_; simp only [pz])
    (refine tA 15 29 ?_; simp only [pz])
    (refine tA 16 30 ?_; simp only [pz])
    (refine sK 17 31 ?_; simp only [pz])
    (refine sK 18 32 ?_; simp only [pz])
    (refine sK 19 33 ?_; simp only [pz])
    (refine sK 20 34 ?_; simp only [pz])
    (refine sK 21 35 ?_; simp only [pz])
    (refine sK 22 36 ?_; simp only [pz])
    (refine sK 23 37 ?_; simp only [pz])
    (refine sK 24 38 ?_; simp only [pz])
    (refine sK 25 39 ?_; simp only [pz])
    (refine sK 26 40 ?_; simp only [pz])
    (refine sK 27 41 ?_; simp only [pz])
    (refine sK 28 42 ?_; simp only [pz])
    (refine sK 29 43 ?_; simp only [pz])
    (refine tA 30 44 ?_; simp only [pz])
    refine AnyT.done (by kernel_rfl) ?_ _
    clear hHeld
    go_wp2_with fail
    go_ret
    exact ⟨by rw [HF.out]; rfl, HB.out.trans (HBB.out.mono hsz)⟩
   by_cases hq2 : inB y1 2 399 = true
   rotate_left
   ·have hq2 := Bool.eq_false_iff.2 hq2
    have HF := hd_ (HMk.out (by rw [HAT.out, hq1, hq2]; rfl))
    refine AnyT.region (fun _ => false) (fun W => W.cell? ⟨wr.heap.size, 0, none⟩ = some (.int .i64 y0) ∧ W.cell? ⟨wr.heap.size, 1, none⟩ = some (.int .i64 y1)) (by kernel_rfl) ⟨f0, f1⟩ (fun hHeld => ?_)
    clear f0 f1 hlk
    generalize wa.drew = w3 at *
    (refine tA 0 14 ?_; simp only [pz])
    (refine tK 1 15 ?_; simp only [pz])
    refine oNe 2 fun K hK => ?_
    go_simp
    refine (HIN.out _ _ _ _).mono ?_; rintro e1 w1 ⟨rfl, rfl⟩
    go_simp
    (try rw [hq1])
    refine hK.out _ _ (by assumption) (fun hHeld => ?_)
    clear hK K
    (try simp only [pz])
    (refine tA 3 17 ?_; simp only [pz])
    (refine tA 4 18 ?_; simp only [pz])
    (refine tA 5 19 ?_; simp only [pz])
    (refine tK 6 20 ?_; simp only [pz])
    refine oNe 7 fun K hK => ?_
    go_simp
    refine (HIN.out _ _ _ _).mono ?_; rintro e1 w1 ⟨rfl, rfl⟩
    go_simp
    (try rw [hq2])
    refine hK.out _ _ (by assumption) (fun hHeld => ?_)
    clear hK K
    (try simp only [pz])
    (refine tA 8 22 ?_; simp only [pz])
    (refine tA 9 23 ?_; simp only [pz])
    (refine tA 10 24 ?_; simp only [pz])
    (refine sK 11 25 ?_; simp only [pz])
    (refine sK 12 26 ?_; simp only [pz])
    (refine sK 13 27 ?_; simp only [pz])
    (refine sK 14 28 ?_; simp only [pz])
    (refine tA 15 29 ?_; simp only [pz])
    (refine tA 16 30 ?_; simp only [pz])
    (refine sK 17 31 ?_; simp only [pz])
    (refine sK 18 32 ?_; simp only [pz])
    (refine sK 19 33 ?_; simp only [pz])
    (refine sK 20 34 ?_; simp only [pz])
    (refine sK 21 35 ?_; simp only [pz])
    (refine sK 22 36 ?_; simp only [pz])
    (refine sK 23 37 ?_; simp only [pz])
    (refine sK 24 38 ?_; simp only [pz])
    (refine sK 25 39 ?_; simp only [pz])
    (refine sK 26 40 ?_; simp only [pz])
    (refine sK 27 41 ?_; simp only [pz])
    (refine sK 28 42 ?_; simp only [pz])
    (refine sK 29 43 ?_; simp only [pz])
    (refine tA 30 44 ?_; simp only [pz])
    refine AnyT.done (by kernel_rfl) ?_ _
    clear hHeld
    go_wp2_with fail
    go_ret
    exact ⟨by rw [HF.out]; rfl, HB.out.trans (HBB.out.mono hsz)⟩
   cases sn with
   | false =>
    have hlk : (Instr.lookup 154 (.map (some w.heap.size)) (.int .i64 y1) false).run Tryz.prog wa.drew = .ok (.bool true) wa.drew := hlk
    have HF := hd_ (HMk.out (by rw [HAT.out, hq1, hq2]; rfl))
    refine AnyT.region (fun _ => false) (fun W => (W.cell? ⟨wr.heap.size, 0, none⟩ = some (.int .i64 y0) ∧ W.cell? ⟨wr.heap.size, 1, none⟩ = some (.int .i64 y1)) ∧ (Instr.lookup 154 (.map (some w.heap.size)) (.int .i64 y1) false).run Tryz.prog W = .ok (.bool true) W) (by kernel_rfl) ⟨⟨f0, f1⟩, hlk⟩ (fun hHeld => ?_)
    clear f0 f1 hlk
    generalize wa.drew = w3 at *
    (refine tA 0 14 ?_; simp only [pz])
    (refine tK 1 15 ?_; simp only [pz])
    refine oNe 2 fun K hK => ?_
    go_simp
    refine (HIN.out _ _ _ _).mono ?_; rintro e1 w1 ⟨rfl, rfl⟩
    go_simp
    (try rw [hq1])
    refine hK.out _ _ (by assumption) (fun hHeld => ?_)
    clear hK K
    (try simp only [pz])
    (refine tA 3 17 ?_; simp only [pz])
    (refine tA 4 18 ?_; simp only [pz])
    (refine tA 5 19 ?_; simp only [pz])
    (refine tK 6 20 ?_; simp only [pz])
    refine oNe 7 fun K hK => ?_
    go_simp
    refine (HIN.out _ _ _ _).mono ?_; rintro e1 w1 ⟨rfl, rfl⟩
    go_simp
    (try rw [hq2])
    refine hK.out _ _ (by assumption) (fun hHeld => ?_)
    clear hK K
    (try simp only [pz])
    (refine tA 8 22 ?_; simp only [pz])
    (refine tA 9 23 ?_; simp only [pz])
    (refine tA 10 24 ?_; simp only [pz])
    (refine tA 11 25 ?_; simp only [pz])
    (refine tA 12 26 ?_; simp only [pz])
    (refine tK 13 27 ?_; simp only [pz])
    (refine tK 14 28 ?_; simp only [pz])
    (refine tA 15 29 ?_; simp only [pz])
    (refine tA 16 30 ?_; simp only [pz])
    (refine sK 17 31 ?_; simp only [pz])
    (refine sK 18 32 ?_; simp only [pz])
    (refine sK 19 33 ?_; simp only [pz])
    (refine sK 20 34 ?_; simp only [pz])
    (refine sK 21 35 ?_; simp only [pz])
    (refine sK 22 36 ?_; simp only [pz])
    (refine sK 23 37 ?_; simp only [pz])
    (refine sK 24 38 ?_; simp only [pz])
    (refine sK 25 39 ?_; simp only [pz])
    (refine sK 26 40 ?_; simp only [pz])
    (refine sK 27 41 ?_; simp only [pz])
    (refine sK 28 42 ?_; simp only [pz])
    (refine sK 29 43 ?_; simp only [pz])
    (refine tA 30 44 ?_; simp only [pz])
    refine AnyT.done (by kernel_rfl) ?_ _
    clear hHeld
    go_wp2_with fail
    go_ret
    exact ⟨by rw [HF.out]; rfl, HB.out.trans (HBB.out.mono hsz)⟩
   | true =>
    have hlk : (Instr.lookup 154 (.map (some w.heap.size)) (.int .i64 y1) false).run Tryz.prog wa.drew = .ok (.bool false) wa.drew := hlk
    obtain ⟨w4, hup, hm4, ho4, hs4⟩ := map_put (T := 154) Tryz.underlying154 Tryz.underlying2 HMD.out y1 (.bool true) (fun p hp => by
     obtain ⟨s, hs, rfl⟩ := List.mem_map.1 hp
     have := List.all_eq_true.1 HSN.out.symm s hs
     simpa using this)
    have HM4 := hd_ (show MapB w4 w.heap.size ((xs.take (k + 1)).map fun s => (s.2, Value.bool true)) by rw [HTK.out, List.map_append, HGE.out]; exact hm4)
    have HB4 := hd_ (show Below w.heap.size w w4 from (HB.out.trans (HBB.out.mono hsz)).trans (ho4.below1 (Nat.le_refl _) (by omega)))
    clear hm4 ho4
    by_cases h00 : k = 0
    ·have i0 : ¬ (0 : Int) < (k : Int) := by omega
     have HOK := hd_ (show seatsTo xs (k + 1) = true by rw [HNX.out, hkt.out, HAT.out, hq1, hq2, decide_eq_true h00]; rfl)
     have k8 : decide ((0 : Int) < (k : Int)) = false := by rw [decide_eq_false_iff_not]; omega
     have k9 : decide (0 < k) = false := by rw [decide_eq_false_iff_not]; omega
     have H00 := hd_ h00; clear h00
     refine AnyT.region (fun _ => false) (fun W => (W.cell? ⟨wr.heap.size, 0, none⟩ = some (.int .i64 y0) ∧ W.cell? ⟨wr.heap.size, 1, none⟩ = some (.int .i64 y1)) ∧ (Instr.lookup 154 (.map (some w.heap.size)) (.int .i64 y1) false).run Tryz.prog W = .ok (.bool false) W) (by kernel_rfl) ⟨⟨f0, f1⟩, hlk⟩ (fun hHeld => ?_)
     clear f0 f1 hlk
     generalize wa.drew = w3 at *
     (refine tA 0 14 ?_; simp only [pz])
     (refine tK 1 15 ?_; simp only [pz])
     refine oNe 2 fun K hK => ?_
     go_simp
     refine (HIN.out _ _ _ _).mono ?_; rintro e1 w1 ⟨rfl, rfl⟩
     go_simp
     (try rw [hq1])
     refine hK.out _ _ (by assumption) (fun hHeld => ?_)
     clear hK K
     (try simp only [pz])
     (refine tA 3 17 ?_; simp only [pz])
     (refine tA 4 18 ?_; simp only [pz])
     (refine tA 5 19 ?_; simp only [pz])
     (refine tK 6 20 ?_; simp only [pz])
     refine oNe 7 fun K hK => ?_
     go_simp
     refine (HIN.out _ _ _ _).mono ?_; rintro e1 w1 ⟨rfl, rfl⟩
     go_simp
     (try rw [hq2])
     refine hK.out _ _ (by assumption) (fun hHeld => ?_)
     clear hK K
     (try simp only [pz])
     (refine tA 8 22 ?_; simp only [pz])
     (refine tA 9 23 ?_; simp only [pz])
     (refine tA 10 24 ?_; simp only [pz])
     (refine tA 11 25 ?_; simp only [pz])
     (refine tA 12 26 ?_; simp only [pz])
     (refine tK 13 27 ?_; simp only [pz])
     (refine tK 14 28 ?_; simp only [pz])
     (refine tA 15 29 ?_; simp only [pz])
     (refine tA 16 30 ?_; simp only [pz])
     (refine tA 17 31 ?_; simp only [pz])
     (refine tA 18 32 ?_; simp only [pz])
     (refine tA 19 33 ?_; simp only [pz])
     (refine sK 20 34 ?_; simp only [pz])
     (refine sK 21 35 ?_; simp only [pz])
     (refine sK 22 36 ?_; simp only [pz])
     (refine sK 23 37 ?_; simp only [pz])
     (refine sK 24 38 ?_; simp only [pz])
     (refine sK 25 39 ?_; simp only [pz])
     (refine sK 26 40 ?_; simp only [pz])
     (refine sK 27 41 ?_; simp only [pz])
     (refine sK 28 42 ?_; simp only [pz])
     (refine tA 29 43 ?_; simp only [pz])
     (refine tA 30 44 ?_; simp only [pz])
     refine AnyT.done (by kernel_rfl) ?_ _
     clear hHeld
     go_wp2_with fail
     go_roundw
     case rel => exact ⟨k + 1, by omega, by go_num, HOK, HM4, HB4.out⟩
     all_goals (first | omega | (simp only [intOf, Int.toNat_natCast]; omega) | (simp [intOf]; omega))
    have hk0 : 0 < k := by omega
    have i0 : (0 : Int) < (k : Int) := by omega
    have i8 : IntKind.i64.wrap ((k : Int) - 1) = ((k - 1 : Nat) : Int) := by rw [IntWalk.i64_in _ (by omega)]; omega
    have i9 : (((k - 1 : Nat) : Int)).toNat = k - 1 := by omega
    have i10 : (0 : Int) ≤ ((k - 1 : Nat) : Int) := by omega
    have i11 : ((k - 1 : Nat) : Int) < (xs.length : Int) := by omega
    have i12 : k - 1 < xs.length := by omega
    have i13 : (k : Int) - 1 < (xs.length : Int) := by omega
    have i14 : (1 : Int) ≤ (k : Int) := by omega
    have i15 : ((k : Int) - 1).toNat = k - 1 := by omega
    have i16 : (0 : Int) ≤ (k : Int) - 1 := by omega
    have k8 : decide ((0 : Int) < (k : Int)) = true := decide_eq_true i0
    have k9 : decide (0 < k) = true := decide_eq_true hk0
    have g0 := HZ.out hk0
    by_cases hz : z0 < y0
    ·have HOK := hd_ (show seatsTo xs (k + 1) = true by rw [HNX.out, hkt.out, HAT.out, hq1, hq2, decide_eq_true hz, Bool.or_true]; rfl)
     have j0 : decide (y0 ≤ z0) = false := by rw [decide_eq_false_iff_not]; omega
     refine AnyT.region (fun _ => false) (fun W => (W.cell? ⟨wr.heap.size, 0, none⟩ = some (.int .i64 y0) ∧ W.cell? ⟨wr.heap.size, 1, none⟩ = some (.int .i64 y1)) ∧ ((Instr.lookup 154 (.map (some w.heap.size)) (.int .i64 y1) false).run Tryz.prog W = .ok (.bool false) W) ∧ W.cell? ⟨b, off + (k - 1) * 2, none⟩ = some (.int .i64 z0)) (by kernel_rfl) ⟨⟨f0, f1⟩, hlk, g0⟩ (fun hHeld => ?_)
     clear f0 f1 hlk g0
     generalize wa.drew = w3 at *
     (refine tA 0 14 ?_; simp only [pz])
     (refine tK 1 15 ?_; simp only [pz])
     refine oNe 2 fun K hK => ?_
     go_simp
     refine (HIN.out _ _ _ _).mono ?_; rintro e1 w1 ⟨rfl, rfl⟩
     go_simp
     (try rw [hq1])
     refine hK.out _ _ (by assumption) (fun hHeld => ?_)
     clear hK K
     (try simp only [pz])
     (refine tA 3 17 ?_; simp only [pz])
     (refine tA 4 18 ?_; simp only [pz])
     (refine tA 5 19 ?_; simp only [pz])
     (refine tK 6 20 ?_; simp only [pz])
     refine oNe 7 fun K hK => ?_
     go_simp
     refine (HIN.out _ _ _ _).mono ?_; rintro e1 w1 ⟨rfl, rfl⟩
     go_simp
     (try rw [hq2])
     refine hK.out _ _ (by assumption) (fun hHeld => ?_)
     clear hK K
     (try simp only [pz])
     (refine tA 8 22 ?_; simp only [pz])
     (refine tA 9 23 ?_; simp only [pz])
     (refine tA 10 24 ?_; simp only [pz])
     (refine tA 11 25 ?_; simp only [pz])
     (refine tA 12 26 ?_; simp only [pz])
     (refine tK 13 27 ?_; simp only [pz])
     (refine tK 14 28 ?_; simp only [pz])
     (refine tA 15 29 ?_; simp only [pz])
     (refine tA 16 30 ?_; simp only [pz])
     (refine tA 17 31 ?_; simp only [pz])
     (refine tA 18 32 ?_; simp only [pz])
     (refine tA 19 33 ?_; simp only [pz])
     (refine tA 20 34 ?_; simp only [pz])
     (refine tA 21 35 ?_; simp only [pz])
     (refine tA 22 36 ?_; simp only [pz])
     (refine tA 23 37 ?_; simp only [pz])
     (refine tA 24 38 ?_; simp only [pz])
     (refine tK 25 39 ?_; simp only [pz])
     (refine tA 26 40 ?_; simp only [pz])
     (refine tK 27 41 ?_; simp only [pz])
     (refine tA 28 42 ?_; simp only [pz])
     (refine tA 29 43 ?_; simp only [pz])
     (refine tA 30 44 ?_; simp only [pz])
     refine AnyT.done (by kernel_rfl) ?_ _
     clear hHeld
     go_wp2_with fail
     go_roundw
     case rel => exact ⟨k + 1, by omega, by go_num, HOK, HM4, HB4.out⟩
     all_goals (first | omega | (simp only [intOf, Int.toNat_natCast]; omega) | (simp [intOf]; omega))
    ·have HF := hd_ (HMk.out (by rw [HAT.out, hq1, hq2, decide_eq_false hz, decide_eq_false h00]; rfl))
     have j0 : decide (y0 ≤ z0) = true := by rw [decide_eq_true_eq]; omega
     have j1 : y0 ≤ z0 := by omega
     refine AnyT.region (fun _ => false) (fun W => (W.cell? ⟨wr.heap.size, 0, none⟩ = some (.int .i64 y0) ∧ W.cell? ⟨wr.heap.size, 1, none⟩ = some (.int .i64 y1)) ∧ ((Instr.lookup 154 (.map (some w.heap.size)) (.int .i64 y1) false).run Tryz.prog W = .ok (.bool false) W) ∧ W.cell? ⟨b, off + (k - 1) * 2, none⟩ = some (.int .i64 z0)) (by kernel_rfl) ⟨⟨f0, f1⟩, hlk, g0⟩ (fun hHeld => ?_)
     clear f0 f1 hlk g0
     generalize wa.drew = w3 at *
     (refine tA 0 14 ?_; simp only [pz])
     (refine tK 1 15 ?_; simp only [pz])
     refine oNe 2 fun K hK => ?_
     go_simp
     refine (HIN.out _ _ _ _).mono ?_; rintro e1 w1 ⟨rfl, rfl⟩
     go_simp
     (try rw [hq1])
     refine hK.out _ _ (by assumption) (fun hHeld => ?_)
     clear hK K
     (try simp only [pz])
     (refine tA 3 17 ?_; simp only [pz])
     (refine tA 4 18 ?_; simp only [pz])
     (refine tA 5 19 ?_; simp only [pz])
     (refine tK 6 20 ?_; simp only [pz])
     refine oNe 7 fun K hK => ?_
     go_simp
     refine (HIN.out _ _ _ _).mono ?_; rintro e1 w1 ⟨rfl, rfl⟩
     go_simp
     (try rw [hq2])
     refine hK.out _ _ (by assumption) (fun hHeld => ?_)
     clear hK K
     (try simp only [pz])
     (refine tA 8 22 ?_; simp only [pz])
     (refine tA 9 23 ?_; simp only [pz])
     (refine tA 10 24 ?_; simp only [pz])
     (refine tA 11 25 ?_; simp only [pz])
     (refine tA 12 26 ?_; simp only [pz])
     (refine tK 13 27 ?_; simp only [pz])
     (refine tK 14 28 ?_; simp only [pz])
     (refine tA 15 29 ?_; simp only [pz])
     (refine tA 16 30 ?_; simp only [pz])
     (refine tA 17 31 ?_; simp only [pz])
     (refine tA 18 32 ?_; simp only [pz])
     (refine tA 19 33 ?_; simp only [pz])
     (refine tA 20 34 ?_; simp only [pz])
     (refine tA 21 35 ?_; simp only [pz])
     (refine tA 22 36 ?_; simp only [pz])
     (refine tA 23 37 ?_; simp only [pz])
     (refine tA 24 38 ?_; simp only [pz])
     (refine tK 25 39 ?_; simp only [pz])
     (refine tA 26 40 ?_; simp only [pz])
     (refine tK 27 41 ?_; simp only [pz])
     (refine tA 28 42 ?_; simp only [pz])
     (refine tA 29 43 ?_; simp only [pz])
     (refine tA 30 44 ?_; simp only [pz])
     refine AnyT.done (by kernel_rfl) ?_ _
     clear hHeld
     go_wp2_with fail
     go_ret
     exact ⟨by rw [HF.out]; rfl, HB.out.trans (HBB.out.mono hsz)⟩
  ·obtain rfl : k = xs.length := by omega
   have i4 : ¬ (xs.length : Int) < (xs.length : Int) := by omega
   have HF := hd_ (show ANS = decide (xs.length ≤ 64) by rw [HANS.out]; unfold seatsP; rw [hkt.out]; rfl)
   clear hkt HM HMB
   by_cases h64 : xs.length ≤ 64
   ·have i64 : (xs.length : Int) ≤ 64 := by omega
    have HF2 := hd_ (show ANS = true by rw [HF.out]; exact decide_eq_true h64)
    clear h64
    go_wp2_with fail
    go_ret
    exact ⟨by rw [HF2.out]; first | rfl | simp [i64], HB.out⟩
   ·have i64 : ¬ (xs.length : Int) ≤ 64 := by omega
    have HF2 := hd_ (show ANS = false by rw [HF.out]; exact decide_eq_false h64)
    clear h64
    go_wp2_with fail
    go_ret
    exact ⟨by rw [HF2.out]; first | rfl | simp [i64], HB.out⟩
end Go.Proofs.YtnnabkldceklmaaGreatDoor
