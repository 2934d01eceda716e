/- The reference's DiskOk walked. -/
import Derived.Test.YtnnabkldceklmaaGreatDoorJoinBTAj
import Derived.Test.YtnnabkldceklmaaGreatDoorJoinBTAn
namespace Go.Proofs.YtnnabkldceklmaaGreatDoor
open Go.RowKit
theorem all_next {α : Type} (p : α → Bool) (d : α) (l : List α) (k : Nat) (h : k < l.length) : (l.take (k + 1)).all p = ((l.take k).all p && p (l.getD k d)) := by
 rw [List.take_succ_eq_append_getElem h, List.all_append, List.getD_eq_getElem?_getD, List.getElem?_eq_getElem h]
 simp
theorem all_not {α : Type} (p : α → Bool) (d : α) (l : List α) (k : Nat) (h : k < l.length) (hp : p (l.getD k d) = false) : l.all p = false := by
 rw [List.all_eq_false]
 refine ⟨l.getD k d, ?_, by rw [hp]; simp⟩
 rw [List.getD_eq_getElem?_getD, List.getElem?_eq_getElem h]
 exact List.getElem_mem _
set_option maxHeartbeats 8000000 in
set_option maxRecDepth 100000 in
theorem specDiskOk_any (x0 : Int) (x1 : List ByteArray) (x2 : List TyPut) (A1 : Option Addr) (c1 : Nat) (A2 : Option Addr) (c2 lo hi : Nat) (w : World) (h : shDisk.R w lo hi [.int .i64 x0, .slice A1 x1.length c1, .slice A2 x2.length c2] (x0, x1, x2)) (hhi : hi ≤ w.heap.size) (hn1 : x1.length ≤ 1048576) (hn2 : x2.length ≤ 1048576) (hs1 : ∀ x ∈ x1, x.size ≤ 1048576) (hs2 : ∀ x ∈ x2, x.2.size ≤ 1048576) :
  Calls Tryz.prog 89 #[.agg #[.int .i64 x0, .slice A1 x1.length c1, .slice A2 x2.length c2]] w fun e w' => e = .returned (.bool (diskP (x0, x1, x2))) ∧ Below w.heap.size w w' := by
 have HR1 := hd_ (shDisk_f1 h); have HR2 := hd_ (shDisk_f2 h)
 have HS1 := hd_ hs1; have HS2 := hd_ hs2
 obtain ⟨ANS, hANS⟩ : ∃ b, b = diskP (x0, x1, x2) := ⟨_, rfl⟩
 rw [← hANS]
 unfold diskP at hANS
 dsimp only at hANS
 have HIN := hd_ (fun a lo hi W => l00InP_any a lo hi W)
 have HB0 := hd_ ((Below.refl w.heap.size w).alloc (Nat.le_refl _) (.cells #[.int .i64 x0, .slice A1 x1.length c1, .slice A2 x2.length c2] 39))
 have HBK := hd_ (Blk.new w 39 #[.int .i64 x0, .slice A1 x1.length c1, .slice A2 x2.length c2])
 clear h hs1 hs2
 go_enter Tryz.func89, Tryz.ntmps89
 go_upto_region 1 with fail
 have hz0 : (w.alloc (.cells #[.int .i64 x0, .slice A1 x1.length c1, .slice A2 x2.length c2] 39)).heap.size = w.heap.size + 1 := by simp
 generalize (w.alloc (.cells #[.int .i64 x0, .slice A1 x1.length c1, .slice A2 x2.length c2] 39)) = w1 at *
 have HF := hd_ (show ∀ W, Below w1.heap.size w1 W → W.cell? ⟨w.heap.size, 0, none⟩ = some (.int .i64 x0) ∧ W.cell? ⟨w.heap.size, 1, none⟩ = some (.slice A1 x1.length c1) ∧ W.cell? ⟨w.heap.size, 2, none⟩ = some (.slice A2 x2.length c2) from fun W hW => by
  have hc := (HBK.out.below hW (by omega)).cell
  exact ⟨hc 0, hc 1, hc 2⟩)
 obtain ⟨f0, f1, f2⟩ := HF.out w1 (Below.refl _ _)
 by_cases hq : inB x0 1 2000 = true
 rotate_left
 ·have hq := Bool.eq_false_iff.2 hq
  have HA := hd_ (show ANS = false by rw [hANS, hq]; rfl)
  clear hANS HBK
  go_wp2_with (first | fail | (refine (HIN.out _ _ _ _).mono ?_; rintro e1 w2 ⟨rfl, rfl⟩; rw [hq]))
  go_ret
  exact ⟨by rw [HA.out]; rfl, HB0.out⟩
 rw [hq, Bool.true_and] at hANS
 by_cases h1 : 1 ≤ x1.length
 rotate_left
 ·have i1 : (x1.length : Int) < 1 := by omega
  have HA := hd_ (show ANS = false by rw [hANS, decide_eq_false h1]; rfl)
  clear hANS HBK h1
  go_wp2_with (first | fail | (refine (HIN.out _ _ _ _).mono ?_; rintro e1 w2 ⟨rfl, rfl⟩; rw [hq]))
  go_ret
  exact ⟨by rw [HA.out]; rfl, HB0.out⟩
 have i1 : ¬ (x1.length : Int) < 1 := by omega
 by_cases h4 : x1.length ≤ 400
 rotate_left
 ·have i2 : (400 : Int) < (x1.length : Int) := by omega
  have HA := hd_ (show ANS = false by rw [hANS, decide_eq_false h4, Bool.and_false]; rfl)
  clear hANS HBK h1 h4
  go_wp2_with (first | fail | (refine (HIN.out _ _ _ _).mono ?_; rintro e1 w2 ⟨rfl, rfl⟩; rw [hq]))
  go_ret
  exact ⟨by rw [HA.out]; rfl, HB0.out⟩
 have i2 : ¬ (400 : Int) < (x1.length : Int) := by omega
 by_cases h5 : x2.length ≤ 400
 rotate_left
 ·have i3 : (400 : Int) < (x2.length : Int) := by omega
  have HA := hd_ (show ANS = false by rw [hANS, decide_eq_false h5, Bool.and_false]; rfl)
  clear hANS HBK h1 h4 h5
  go_wp2_with (first | fail | (refine (HIN.out _ _ _ _).mono ?_; rintro e1 w2 ⟨rfl, rfl⟩; rw [hq]))
  go_ret
  exact ⟨by rw [HA.out]; rfl, HB0.out⟩
 have i3 : ¬ (400 : Int) < (x2.length : Int) := by omega
 rw [decide_eq_true h1, decide_eq_true h4, decide_eq_true h5, Bool.true_and, Bool.true_and, Bool.true_and] at hANS
 have HANS := hd_ hANS
 clear hANS
 go_wp2_with (first | fail | (refine (HIN.out _ _ _ _).mono ?_; rintro e1 w2 ⟨rfl, rfl⟩; rw [hq]))
 clear f0 f1 f2 hq
 go_loopw [4] (fun i wr => ∃ k : Nat, k ≤ x1.length ∧ i = .int .i64 k ∧ Hid ((x1.take k).all (fun s => decide ((s.size : Int) = x0)) = true) ∧ Below w1.heap.size w1 wr) (fun i _ => x1.length - (intOf i).toNat)
 case atStart => exact ⟨0, Nat.zero_le _, rfl, hd_ rfl, Below.refl _ _⟩
 case round =>
  obtain ⟨k, hk, rfl, hkt, hb⟩ := hrel
  obtain ⟨f0, f1, f2⟩ := HF.out wr hb
  have HB := hd_ hb
  by_cases hlt : k < x1.length
  ·have hbw := HB0.out.trans (hb.mono (by omega))
   obtain ⟨b, off, rfl, hb1, hb2, hcell⟩ := (rowR_of ((Sh.row 9 shS).R_below HR1.out hbw hhi)).at_ hlt
   have i4 : (k : Int) < (x1.length : Int) := by omega
   have hN := all_next (fun s => decide (((s : ByteArray).size : Int) = x0)) ByteArray.empty x1 k hlt
   have hM := all_not (fun s => decide (((s : ByteArray).size : Int) = x0)) ByteArray.empty x1 k hlt
   have hXs := HS1.out _ (getD_in (d := ByteArray.empty) hlt)
   generalize x1.getD k ByteArray.empty = X at *
   have HBD := hd_ (show Below w1.heap.size w1 wr.drew from HB.out.drew)
   clear hb hbw
   by_cases he : (X.size : Int) = x0
   ·have HKN := hd_ (show (x1.take (k + 1)).all (fun s => decide ((s.size : Int) = x0)) = true by rw [hN, hkt.out]; simpa using he)
    have q0 : ((X.size : Int) != x0) = false := by simp [he]
    clear hN hM hkt he
    go_upto_region 7 with fail
    refine AnyT.region (fun _ => false) (fun W => (W.cell? ⟨w.heap.size, 0, none⟩ = some (.int .i64 x0) ∧ W.cell? ⟨w.heap.size, 1, none⟩ = some (.slice (some ⟨b, off, none⟩) x1.length c1)) ∧ W.cell? ⟨b, off + k, none⟩ = some (.string X)) (by kernel_rfl) ⟨⟨f0, f1⟩, hcell⟩ (fun hHeld => ?_)
    clear f0 f1 f2 hcell
    generalize wr.drew = w2 at *
    (refine tA 0 34 ?_; simp only [pz])
    (refine tK 1 35 ?_; simp only [pz])
    (refine tA 2 36 ?_; simp only [pz])
    (refine tA 3 37 ?_; simp only [pz])
    (refine tK 4 38 ?_; simp only [pz])
    (refine tA 5 39 ?_; simp only [pz])
    (refine tA 6 40 ?_; simp only [pz])
    (refine tK 7 41 ?_; simp only [pz])
    (refine tA 8 42 ?_; simp only [pz])
    refine AnyT.done (by kernel_rfl) ?_ _
    clear hHeld
    go_wp2_with fail
    go_roundw
    case rel => exact ⟨k + 1, by omega, by go_num, hd_ HKN.out, HBD.out⟩
    case measure => simp [intOf]; omega
   ·have HA := hd_ (show ANS = false by rw [HANS.out, hM (decide_eq_false he)]; rfl)
    have q0 : ((X.size : Int) != x0) = true := by simp [he]
    clear hN hM hkt he
    go_upto_region 7 with fail
    refine AnyT.region (fun _ => false) (fun W => (W.cell? ⟨w.heap.size, 0, none⟩ = some (.int .i64 x0) ∧ W.cell? ⟨w.heap.size, 1, none⟩ = some (.slice (some ⟨b, off, none⟩) x1.length c1)) ∧ W.cell? ⟨b, off + k, none⟩ = some (.string X)) (by kernel_rfl) ⟨⟨f0, f1⟩, hcell⟩ (fun hHeld => ?_)
    clear f0 f1 f2 hcell
    generalize wr.drew = w2 at *
    (refine tA 0 34 ?_; simp only [pz])
    (refine tK 1 35 ?_; simp only [pz])
    (refine tA 2 36 ?_; simp only [pz])
    (refine tA 3 37 ?_; simp only [pz])
    (refine tK 4 38 ?_; simp only [pz])
    (refine tA 5 39 ?_; simp only [pz])
    (refine tA 6 40 ?_; simp only [pz])
    (refine tK 7 41 ?_; simp only [pz])
    (refine tA 8 42 ?_; simp only [pz])
    refine AnyT.done (by kernel_rfl) ?_ _
    clear hHeld
    go_wp2_with fail
    go_ret
    exact ⟨by rw [HA.out]; rfl, HB0.out.trans (HBD.out.mono (by omega))⟩
  ·obtain rfl : k = x1.length := by omega
   have i4 : ¬ ((x1.length : Nat) : Int) < (x1.length : Int) := by omega
   rw [List.take_length] at hkt
   have HANS2 := hd_ (show ANS = x2.all (fun p => inB p.1 0 ((x1.length : Int) - 1) && decide ((p.2.size : Int) = x0)) by rw [HANS.out, hkt.out]; rfl)
   clear hkt hb HANS
   go_wp2_with fail
   clear f0 f1 f2
   go_loopw [5] (fun i wr => ∃ k : Nat, k ≤ x2.length ∧ i = .int .i64 k ∧ Hid ((x2.take k).all (fun p => inB p.1 0 ((x1.length : Int) - 1) && decide ((p.2.size : Int) = x0)) = true) ∧ Below w1.heap.size w1 wr) (fun i _ => x2.length - (intOf i).toNat)
   case atStart => exact ⟨0, Nat.zero_le _, rfl, hd_ rfl, HB.out⟩
   case round =>
    obtain ⟨k, hk, rfl, hkt, hb⟩ := hrel
    obtain ⟨f0, f1, f2⟩ := HF.out _ hb
    have HB2 := hd_ hb
    by_cases hlt : k < x2.length
    ·have hbw := HB0.out.trans (hb.mono (by omega))
     obtain ⟨-, b, off, rfl, hb1, hb2, e0, e1, -⟩ := shPut_at ((Sh.row 138 shPut).R_below HR2.out hbw hhi) hlt
     have i5 : (k : Int) < (x2.length : Int) := by omega
     have hN := all_next (fun p : TyPut => inB p.1 0 ((x1.length : Int) - 1) && decide ((p.2.size : Int) = x0)) shPut.d x2 k hlt
     have hM := all_not (fun p : TyPut => inB p.1 0 ((x1.length : Int) - 1) && decide ((p.2.size : Int) = x0)) shPut.d x2 k hlt
     have hXs := HS2.out _ (getD_in (d := shPut.d) hlt)
     generalize x2.getD k shPut.d = X at *
     obtain ⟨y0, y1⟩ := X
     dsimp only at e0 e1 hN hM hXs
     have i6 : IntKind.i64.wrap ((x1.length : Int) - 1) = (x1.length : Int) - 1 := IntWalk.i64_in _ (by omega)
     have HBD := hd_ (show Below w1.heap.size w1 wr.drew from HB2.out.drew)
     clear hb hbw
     by_cases hq : inB y0 0 ((x1.length : Int) - 1) = true
     ·by_cases he : (y1.size : Int) = x0
      ·have HKN := hd_ (show (x2.take (k + 1)).all (fun p => inB p.1 0 ((x1.length : Int) - 1) && decide ((p.2.size : Int) = x0)) = true by rw [hN, hkt.out, hq]; simpa using he)
       have q0 : ((y1.size : Int) != x0) = false := by simp [he]
       clear hN hM hkt he
       go_upto_region 12 with fail
       refine AnyT.region (fun _ => false) (fun W => (W.cell? ⟨w.heap.size, 0, none⟩ = some (.int .i64 x0) ∧ W.cell? ⟨w.heap.size, 2, none⟩ = some (.slice (some ⟨b, off, none⟩) x2.length c2)) ∧ W.cell? ⟨b, off + k * 2, none⟩ = some (.int .i64 y0) ∧ W.cell? ⟨b, off + k * 2 + 1, none⟩ = some (.string y1)) (by kernel_rfl) ⟨⟨f0, f2⟩, e0, e1⟩ (fun hHeld => ?_)
       clear f0 f1 f2 e0 e1
       generalize wr.drew = w2 at *
       (refine tA 0 50 ?_; simp only [pz])
       (refine tK 1 51 ?_; simp only [pz])
       (refine tA 2 52 ?_; simp only [pz])
       (refine tA 3 53 ?_; simp only [pz])
       (refine tA 4 54 ?_; simp only [pz])
       (refine tK 5 55 ?_; simp only [pz])
       (refine tA 6 56 ?_; simp only [pz])
       (refine tA 7 57 ?_; simp only [pz])
       refine oNe 8 fun K hK => ?_
       go_simp
       refine (HIN.out _ _ _ _).mono ?_; rintro e1 w1 ⟨rfl, rfl⟩
       go_simp
       (try rw [hq])
       refine hK.out _ _ (by assumption) (fun hHeld => ?_)
       clear hK K
       (try simp only [pz])
       (refine tA 9 59 ?_; simp only [pz])
       (refine tA 10 60 ?_; simp only [pz])
       (refine tA 11 61 ?_; simp only [pz])
       (refine tK 12 62 ?_; simp only [pz])
       (refine tA 13 63 ?_; simp only [pz])
       (refine tA 14 64 ?_; simp only [pz])
       (refine tA 15 65 ?_; simp only [pz])
       (refine tK 16 66 ?_; simp only [pz])
       (refine tA 17 67 ?_; simp only [pz])
       (refine tA 18 68 ?_; simp only [pz])
       (refine tK 19 69 ?_; simp only [pz])
       (refine tA 20 70 ?_; simp only [pz])
       (refine tA 21 71 ?_; simp only [pz])
       refine AnyT.done (by kernel_rfl) ?_ _
       clear hHeld
       go_wp2_with fail
       go_roundw
       case rel => exact ⟨k + 1, by omega, by go_num, hd_ HKN.out, HBD.out⟩
       case measure => simp [intOf]; omega
      ·have HA := hd_ (show ANS = false by rw [HANS2.out, hM (by rw [hq, decide_eq_false he]; rfl)])
       have q0 : ((y1.size : Int) != x0) = true := by simp [he]
       clear hN hM hkt he
       go_upto_region 12 with fail
       refine AnyT.region (fun _ => false) (fun W => (W.cell? ⟨w.heap.size, 0, none⟩ = some (.int .i64 x0) ∧ W.cell? ⟨w.heap.size, 2, none⟩ = some (.slice (some ⟨b, off, none⟩) x2.length c2)) ∧ W.cell? ⟨b, off + k * 2, none⟩ = some (.int .i64 y0) ∧ W.cell? ⟨b, off + k * 2 + 1, none⟩ = some (.string y1)) (by kernel_rfl) ⟨⟨f0, f2⟩, e0, e1⟩ (fun hHeld => ?_)
       clear f0 f1 f2 e0 e1
       generalize wr.drew = w2 at *
       (refine tA 0 50 ?_; simp only [pz])
       (refine tK 1 51 ?_; simp only [pz])
       (refine tA 2 52 ?_; simp only [pz])
       (refine tA 3 53 ?_; simp only [pz])
       (refine tA 4 54 ?_; simp only [pz])
       (refine tK 5 55 ?_; simp only [pz])
       (refine tA 6 56 ?_; simp only [pz])
       (refine tA 7 57 ?_; simp only [pz])
       refine oNe 8 fun K hK => ?_
       go_simp
       refine (HIN.out _ _ _ _).mono ?_; rintro e1 w1 ⟨rfl, rfl⟩
       go_simp
       (try rw [hq])
       refine hK.out _ _ (by assumption) (fun hHeld => ?_)
       clear hK K
       (try simp only [pz])
       (refine tA 9 59 ?_; simp only [pz])
       (refine tA 10 60 ?_; simp only [pz])
       (refine tA 11 61 ?_; simp only [pz])
       (refine tK 12 62 ?_; simp only [pz])
       (refine tA 13 63 ?_; simp only [pz])
       (refine tA 14 64 ?_; simp only [pz])
       (refine tA 15 65 ?_; simp only [pz])
       (refine tK 16 66 ?_; simp only [pz])
       (refine tA 17 67 ?_; simp only [pz])
       (refine tA 18 68 ?_; simp only [pz])
       (refine tK 19 69 ?_; simp only [pz])
       (refine tA 20 70 ?_; simp only [pz])
       (refine tA 21 71 ?_; simp only [pz])
       refine AnyT.done (by kernel_rfl) ?_ _
       clear hHeld
       go_wp2_with fail
       go_ret
       exact ⟨by rw [HA.out]; rfl, HB0.out.trans (HBD.out.mono (by omega))⟩
     ·have hq := Bool.eq_false_iff.2 hq
      have HA := hd_ (show ANS = false by rw [HANS2.out, hM (by rw [hq]; rfl)])
      clear hN hM hkt
      go_upto_region 12 with fail
      refine AnyT.region (fun _ => false) (fun W => (W.cell? ⟨w.heap.size, 0, none⟩ = some (.int .i64 x0) ∧ W.cell? ⟨w.heap.size, 2, none⟩ = some (.slice (some ⟨b, off, none⟩) x2.length c2)) ∧ W.cell? ⟨b, off + k * 2, none⟩ = some (.int .i64 y0) ∧ W.cell? ⟨b, off + k * 2 + 1, none⟩ = some (.string y1)) (by kernel_rfl) ⟨⟨f0, f2⟩, e0, e1⟩ (fun hHeld => ?_)
      clear f0 f1 f2 e0 e1
      generalize wr.drew = w2 at *
      (refine tA 0 50 ?_; simp only [pz])
      (refine tK 1 51 ?_; simp only [pz])
      (refine tA 2 52 ?_; simp only [pz])
      (refine tA 3 53 ?_; simp only [pz])
      (refine tA 4 54 ?_; simp only [pz])
      (refine tK 5 55 ?_; simp only [pz])
      (refine tA 6 56 ?_; simp only [pz])
      (refine tA 7 57 ?_; simp only [pz])
      refine oNe 8 fun K hK => ?_
      go_simp
      refine (HIN.out _ _ _ _).mono ?_; rintro e1 w1 ⟨rfl, rfl⟩
      go_simp
      (try rw [hq])
      refine hK.out _ _ (by assumption) (fun hHeld => ?_)
      clear hK K
      (try simp only [pz])
      (refine tA 9 59 ?_; simp only [pz])
      (refine tA 10 60 ?_; simp only [pz])
      (refine sK 11 61 ?_; simp only [pz])
      (refine sK 12 62 ?_; simp only [pz])
      (refine sK 13 63 ?_; simp only [pz])
      (refine sK 14 64 ?_; simp only [pz])
      (refine sK 15 65 ?_; simp only [pz])
      (refine sK 16 66 ?_; simp only [pz])
      (refine sK 17 67 ?_; simp only [pz])
      (refine sK 18 68 ?_; simp only [pz])
      (refine sK 19 69 ?_; simp only [pz])
      (refine sK 20 70 ?_; simp only [pz])
      (refine tA 21 71 ?_; simp only [pz])
      refine AnyT.done (by kernel_rfl) ?_ _
      clear hHeld
      go_wp2_with fail
      go_ret
      exact ⟨by rw [HA.out]; rfl, HB0.out.trans (HBD.out.mono (by omega))⟩
    ·obtain rfl : k = x2.length := by omega
     have i5 : ¬ ((x2.length : Nat) : Int) < (x2.length : Int) := by omega
     rw [List.take_length] at hkt
     have HA := hd_ (show ANS = true by rw [HANS2.out, hkt.out])
     go_wp2_with fail
     go_ret
     exact ⟨by rw [HA.out]; rfl, HB0.out.trans (HB2.out.mono (by omega))⟩
end Go.Proofs.YtnnabkldceklmaaGreatDoor
