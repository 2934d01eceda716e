/- The reference's PutTop walked: a superblock's bytes. -/
import Derived.Test.YtnnabkldceklmaaGreatDoorJoinBTBo
import Derived.Test.YtnnabkldceklmaaGreatDoorShelfR
set_option maxHeartbeats 16000000
set_option maxRecDepth 100000
namespace Go.Proofs.YtnnabkldceklmaaGreatDoor
open Go.RowKit
theorem fix1 (n : Nat) (hn : n ≤ 9223372036854775807) (W : World) : Calls Tryz.prog 101 #[.int .i64 n, .int .i64 1] W fun e w' => e = .returned (.string (mkB (leB n 1))) ∧ Below W.heap.size W w' := l18Fix_any n 1 hn (by omega) W
theorem fix2 (n : Nat) (hn : n ≤ 9223372036854775807) (W : World) : Calls Tryz.prog 101 #[.int .i64 n, .int .i64 2] W fun e w' => e = .returned (.string (mkB (leB n 2))) ∧ Below W.heap.size W w' := l18Fix_any n 2 hn (by omega) W
theorem fix4 (n : Nat) (hn : n ≤ 9223372036854775807) (W : World) : Calls Tryz.prog 101 #[.int .i64 n, .int .i64 4] W fun e w' => e = .returned (.string (mkB (leB n 4))) ∧ Below W.heap.size W w' := l18Fix_any n 4 hn (by omega) W
theorem mkB_len (l : List UInt8) : (mkB l).size = l.length := List.size_toArray
theorem leB_size (n k : Nat) : (mkB (leB n k)).size = k := by rw [mkB_len, leB_len]
theorem mkB_cat (a b : List UInt8) : mkB a ++ mkB b = mkB (a ++ b) := by
 apply ByteArray.ext
 rw [ByteArray.data_append]
 show a.toArray ++ b.toArray = (a ++ b).toArray
 simp
def bodyTo (n1 n2 : Nat) (xs : List TySeat) (k : Nat) : List UInt8 := leB n1 1 ++ leB n2 4 ++ leB xs.length 1 ++ (xs.take k).flatMap seatBytes
theorem bodyTo_len (n1 n2 : Nat) (xs : List TySeat) (k : Nat) : (bodyTo n1 n2 xs k).length ≤ 6 + 3 * k := by
 unfold bodyTo
 rw [List.length_append, List.length_append, List.length_append, leB_len, leB_len, leB_len, flat_len, List.length_take]
 omega
theorem bodyTo_next (n1 n2 : Nat) (xs : List TySeat) (k : Nat) (h : k < xs.length) : bodyTo n1 n2 xs (k + 1) = bodyTo n1 n2 xs k ++ seatBytes (xs.getD k shSeat.d) := by
 unfold bodyTo
 rw [List.take_succ_eq_append_getElem h, List.flatMap_append, List.getD_eq_getElem?_getD, List.getElem?_eq_getElem h, ← List.append_assoc]
 simp
theorem specPutTop_any (t : TyTop) (vs : List Value) (lo hi : Nat) (w : World) (h : shTop.R w lo hi vs t) (hhi : hi ≤ w.heap.size) (hn : t.2.2.2.length ≤ 1048576) :
  Calls Tryz.prog 44 #[.agg vs.toArray] w fun e w' => e = .returned (.string (mkB (topBytes t))) ∧ Below w.heap.size w w' := by
 obtain ⟨x0, x1, x2, x3⟩ := t
 obtain ⟨A3, c3, rfl, _⟩ := shTop_R.1 h
 dsimp only at hn
 have hb0 := (Below.refl w.heap.size w).alloc (Nat.le_refl _) (.cells #[.int .i64 x0, .int .i64 x1, .int .i64 x2, .slice A3 x3.length c3] 42)
 have HRT := hd_ (shTop.R_below h hb0 hhi)
 have HB0 := hd_ hb0
 have HBK := hd_ (Blk.new w 42 #[.int .i64 x0, .int .i64 x1, .int .i64 x2, .slice A3 x3.length c3])
 have hz0 : (w.alloc (.cells #[.int .i64 x0, .int .i64 x1, .int .i64 x2, .slice A3 x3.length c3] 42)).heap.size = w.heap.size + 1 := by simp
 have hg := h
 clear h hb0
 go_enter Tryz.func44, Tryz.ntmps44
 go_upto_region 1 with fail
 generalize (w.alloc (.cells #[.int .i64 x0, .int .i64 x1, .int .i64 x2, .slice A3 x3.length c3] 42)) = w1 at *
 have HF := hd_ (show ∀ W, Below w1.heap.size w1 W → W.cell? ⟨w.heap.size, 0, none⟩ = some (.int .i64 x0) ∧ W.cell? ⟨w.heap.size, 1, none⟩ = some (.int .i64 x1) ∧ W.cell? ⟨w.heap.size, 2, none⟩ = some (.int .i64 x2) ∧ W.cell? ⟨w.heap.size, 3, none⟩ = some (.slice A3 x3.length c3) from fun W hW => by
  have hc := (HBK.out.below hW (by omega)).cell
  exact ⟨hc 0, hc 1, hc 2, hc 3⟩)
 have HOK := hd_ (specTopOk_any (x0, x1, x2, x3) _ lo hi w1 HRT.out (by omega) hn)
 obtain ⟨f0, f1, f2, f3⟩ := HF.out w1 (Below.refl _ _)
 clear HBK
 by_cases hok : topP (x0, x1, x2, x3) = true
 rotate_left
 ·have hok := Bool.eq_false_iff.2 hok
  have HT := hd_ (show topBytes (x0, x1, x2, x3) = [] by unfold topBytes; rw [if_neg (by rw [hok]; simp)])
  rw [hok] at HOK
  clear hok
  go_wp2_with fail
  refine HOK.out.mono ?_; rintro e1 w2 ⟨rfl, hb2⟩
  have HB2 := hd_ (HB0.out.trans (hb2.mono (by omega)))
  clear hb2 f0 f1 f2 f3
  go_wp2_with fail
  go_ret
  exact ⟨by rw [HT.out]; rfl, HB2.out⟩
 have htp := hok
 unfold topP seatsP at htp
 simp only [Bool.and_eq_true, decide_eq_true_eq] at htp
 obtain ⟨⟨⟨hx0, hx1⟩, hx2⟩, hst, hl64⟩ := htp
 unfold inB at hx0 hx1 hx2
 simp only [Bool.and_eq_true, decide_eq_true_eq] at hx0 hx1 hx2
 obtain ⟨n0, rfl⟩ := Int.eq_ofNat_of_zero_le (show 0 ≤ x0 by omega)
 obtain ⟨n1, rfl⟩ := Int.eq_ofNat_of_zero_le (show 0 ≤ x1 by omega)
 obtain ⟨n2, rfl⟩ := Int.eq_ofNat_of_zero_le (show 0 ≤ x2 by omega)
 rw [hok] at HOK
 have HTB := hd_ (show mkB (topBytes ((n0 : Int), (n1 : Int), (n2 : Int), x3)) = mkB (leB n0 4) ++ mkB (bodyTo n1 n2 x3 x3.length) ++ mkB (List.replicate (1692 - (bodyTo n1 n2 x3 x3.length).length) 0) ++ mkB (leB n0 4) by
  unfold topBytes
  rw [if_pos hok, mkB_cat, mkB_cat, mkB_cat]
  unfold bodyTo topBody
  rw [List.take_length]
  rfl)
 have HST := hd_ hst
 clear hok hst
 go_upto_region 3 with (first | fail | (refine HOK.out.mono ?_; rintro e1 w2 ⟨rfl, hb2⟩))
 have HW2 := hd_ hb2
 have hs2 := hb2.size
 obtain ⟨g0, g1, g2, g3⟩ := HF.out w2.drew hb2.drew
 have HSS := hd_ (show ∀ W, Below w2.drew.heap.size w2.drew W → W.cell? ⟨w.heap.size, 1, none⟩ = some (.int .i64 (n1 : Int)) ∧ W.cell? ⟨w.heap.size, 2, none⟩ = some (.int .i64 (n2 : Int)) ∧ W.cell? ⟨w.heap.size, 3, none⟩ = some (.slice A3 x3.length c3) from fun W hW => by
  obtain ⟨_, q1, q2, q3⟩ := HF.out W (hb2.drew.trans (hW.mono (show w1.heap.size ≤ w2.heap.size from hs2)))
  exact ⟨q1, q2, q3⟩)
 have HF1 := hd_ (fun W => fix1 n1 (by omega) W)
 have HF2 := hd_ (fun W => fix4 n2 (by omega) W)
 have HF3 := hd_ (fun W => fix1 x3.length (by omega) W)
 have HBD := hd_ (show Below w1.heap.size w1 w2.drew from hb2.drew)
 have HB00 := HB0
 have a1 := leB_size n1 1
 have a2 := leB_size n2 4
 have a3 := leB_size x3.length 1
 have HBO := hd_ (show mkB (leB n1 1) ++ mkB (leB n2 4) ++ mkB (leB x3.length 1) = mkB (bodyTo n1 n2 x3 0) by
  rw [mkB_cat, mkB_cat]; unfold bodyTo; rw [List.take_zero]; simp)
 refine AnyT.region (fun _ => false) (fun W => W.cell? ⟨w.heap.size, 1, none⟩ = some (.int .i64 (n1 : Int)) ∧ W.cell? ⟨w.heap.size, 2, none⟩ = some (.int .i64 (n2 : Int)) ∧ W.cell? ⟨w.heap.size, 3, none⟩ = some (.slice A3 x3.length c3)) (by kernel_rfl) ⟨g1, g2, g3⟩ (fun hHeld => ?_)
 clear f0 f1 f2 f3 g0 g1 g2 g3 HB0 HOK hb2
 have HB0 := hd_ (Below.refl w2.drew.heap.size w2.drew)
 have hwd : w1.heap.size ≤ w2.drew.heap.size := hs2
 generalize w2.drew = wD at *
 generalize mkB (leB n1 1) = F1 at *
 generalize mkB (leB n2 4) = F2 at *
 generalize mkB (leB x3.length 1) = F3 at *
 (refine tA 0 8 ?_; simp only [pz])
 (refine tK 1 9 ?_; simp only [pz])
 (refine tA 3 11 ?_; simp only [pz])
 (refine tK 4 12 ?_; simp only [pz])
 (refine tA 7 15 ?_; simp only [pz])
 (refine tK 8 16 ?_; simp only [pz])
 (refine tA 9 17 ?_; simp only [pz])
 refine oNe 2 fun K hK => ?_
 go_simp
 refine (HF1.out _).mono ?_; rintro e1 wa ⟨rfl, hb1⟩
 go_simp
 have HBwa := hd_ (HB0.out.trans (hb1.mono HB0.out.size))
 refine hK.out _ _ (HSS.out _ HBwa.out) (fun hHeld => ?_)
 clear hK K hb1
 (try simp only [pz])
 refine oNe 5 fun K hK => ?_
 go_simp
 refine (HF2.out _).mono ?_; rintro e1 wb ⟨rfl, hb1⟩
 go_simp
 have HBwb := hd_ (HBwa.out.trans (hb1.mono HBwa.out.size))
 refine hK.out _ _ (HSS.out _ HBwb.out) (fun hHeld => ?_)
 clear hK K hb1
 (try simp only [pz])
 (refine tA 6 14 ?_; simp only [pz])
 refine oNe 10 fun K hK => ?_
 go_simp
 refine (HF3.out _).mono ?_; rintro e1 wc ⟨rfl, hb1⟩
 go_simp
 have HBwc := hd_ (HBwb.out.trans (hb1.mono HBwb.out.size))
 refine hK.out _ _ (HSS.out _ HBwc.out) (fun hHeld => ?_)
 clear hK K hb1
 (try simp only [pz])
 (refine tA 11 19 ?_; simp only [pz])
 (refine tA 12 3 ?_; simp only [pz])
 refine AnyT.done (by kernel_rfl) ?_ _
 rw [HBO.out]
 have HB3 := hd_ (HBD.out.trans (HBwc.out.mono hwd))
 clear hHeld HSS HF1 HF2 HF3 HBO HBwa HBwb HBwc HB0 a1 a2 a3
 have hwl := HB3.out.size
 go_wp2_with fail
 go_loopw [3, 4] (fun v i wr => ∃ k : Nat, k ≤ x3.length ∧ i = .int .i64 k ∧ v = .string (mkB (bodyTo n1 n2 x3 k)) ∧ Below w1.heap.size w1 wr) (fun _ i _ => x3.length - (intOf i).toNat)
 case atStart => exact ⟨0, Nat.zero_le _, rfl, rfl, HB3.out⟩
 case round =>
  obtain ⟨k, hk, rfl, rfl, hb⟩ := hrel
  have hsz := hb.size
  obtain ⟨f0, f1, f2, f3⟩ := HF.out wr hb
  have HB := hd_ hb
  have hbl := bodyTo_len n1 n2 x3 k
  have hbs := mkB_len (bodyTo n1 n2 x3 k)
  by_cases hlt : k < x3.length
  ·obtain ⟨-, b, off, rfl, hb1, hb2, e0, e1, -⟩ := shSeat_at ((Sh.row 88 shSeat).R_below (shTop_f3 HRT.out) hb (by omega)) hlt
   have hsf := seat_facts HST.out hlt
   have HNX := hd_ (bodyTo_next n1 n2 x3 k hlt)
   have hsd : (shSeat.d : TySeat) = (0, 0) := rfl
   rw [← hsd] at hsf
   generalize x3.getD k shSeat.d = X at *
   obtain ⟨y0, y1⟩ := X
   dsimp only at e0 e1 hsf
   obtain ⟨m0, rfl⟩ := Int.eq_ofNat_of_zero_le (show 0 ≤ y0 by omega)
   obtain ⟨m1, rfl⟩ := Int.eq_ofNat_of_zero_le (show 0 ≤ y1 by omega)
   have HNB := hd_ (show mkB (bodyTo n1 n2 x3 k) ++ mkB (leB m0 1) ++ mkB (leB m1 2) = mkB (bodyTo n1 n2 x3 (k + 1)) by
    rw [HNX.out, mkB_cat, mkB_cat, List.append_assoc]; rfl)
   have HSS := hd_ (show ∀ W, Below wr.drew.heap.size wr.drew W → W.cell? ⟨w.heap.size, 3, none⟩ = some (.slice (some ⟨b, off, none⟩) x3.length c3) ∧ W.cell? ⟨b, off + k * 2, none⟩ = some (.int .i64 (m0 : Int)) ∧ W.cell? ⟨b, off + k * 2 + 1, none⟩ = some (.int .i64 (m1 : Int)) from fun W hW => by
    have hbW := (below_drewN' wr 1).trans hW
    exact ⟨(HF.out W (hb.trans (hbW.mono hsz))).2.2.2, (hbW.cell (p := ⟨b, off + k * 2, none⟩) (by dsimp only; omega)).trans e0, (hbW.cell (p := ⟨b, off + k * 2 + 1, none⟩) (by dsimp only; omega)).trans e1⟩)
   have HG1 := hd_ (fun W => fix1 m0 (by omega) W)
   have HG2 := hd_ (fun W => fix2 m1 (by omega) W)
   have a1 := leB_size m0 1
   have a2 := leB_size m1 2
   have i1 : (k : Int) < (x3.length : Int) := by omega
   have HBD2 := hd_ (show Below w1.heap.size w1 wr.drew from HB.out.drew)
   have hwd2 : w1.heap.size ≤ wr.drew.heap.size := hsz
   have c1 : (mkB (bodyTo n1 n2 x3 k)).size ≤ 300 := by rw [hbs]; omega
   have hcc := c1
   clear hsf hsd hbs hbl
   go_upto_region 7 with fail
   refine AnyT.region (fun _ => false) (fun W => W.cell? ⟨w.heap.size, 3, none⟩ = some (.slice (some ⟨b, off, none⟩) x3.length c3) ∧ W.cell? ⟨b, off + k * 2, none⟩ = some (.int .i64 (m0 : Int)) ∧ W.cell? ⟨b, off + k * 2 + 1, none⟩ = some (.int .i64 (m1 : Int))) (by kernel_rfl) (HSS.out _ (Below.refl _ _)) (fun hHeld => ?_)
   clear f0 f1 f2 f3 e0 e1 hb
   have HB0 := hd_ (Below.refl wr.drew.heap.size wr.drew)
   generalize wr.drew = wD at *
   generalize mkB (leB m0 1) = F1 at *
   generalize mkB (leB m1 2) = F2 at *
   generalize mkB (bodyTo n1 n2 x3 k) = TX at *
   have z1 : TX.size + 1 ≤ 9223372036854775807 := by omega
   have z2 : TX.size ≤ 9223372036854775806 := by omega
   have z3 : ¬ 9223372036854775807 < TX.size + 1 := by omega
   have z4 : ¬ 9223372036854775806 < TX.size := by omega
   have z5 : TX.size + 1 + 2 ≤ 9223372036854775807 := by omega
   have z6 : TX.size + 3 ≤ 9223372036854775807 := by omega
   have z7 : TX.size ≤ 9223372036854775804 := by omega
   have z8 : ¬ 9223372036854775807 < TX.size + 1 + 2 := by omega
   have z9 : ¬ 9223372036854775804 < TX.size := by omega
   (refine tA 0 27 ?_; simp only [pz])
   (refine tA 1 28 ?_; simp only [pz])
   (refine tK 2 29 ?_; simp only [pz])
   (refine tA 3 30 ?_; simp only [pz])
   (refine tA 4 31 ?_; simp only [pz])
   (refine tA 5 32 ?_; simp only [pz])
   (refine tK 6 33 ?_; simp only [pz])
   (refine tA 9 36 ?_; simp only [pz])
   (refine tK 10 37 ?_; simp only [pz])
   (refine tA 11 38 ?_; simp only [pz])
   (refine tA 12 39 ?_; simp only [pz])
   (refine tA 13 40 ?_; simp only [pz])
   (refine tK 14 41 ?_; simp only [pz])
   refine oNe 7 fun K hK => ?_
   go_simp
   refine (HG1.out _).mono ?_; rintro e1 wa ⟨rfl, hb1⟩
   go_simp
   have HBwa := hd_ (HB0.out.trans (hb1.mono HB0.out.size))
   refine hK.out _ _ (HSS.out _ HBwa.out) (fun hHeld => ?_)
   clear hK K hb1
   (try simp only [pz])
   (refine tA 8 35 ?_; simp only [pz])
   refine oNe 15 fun K hK => ?_
   go_simp
   refine (HG2.out _).mono ?_; rintro e1 wb ⟨rfl, hb1⟩
   go_simp
   have HBwb := hd_ (HBwa.out.trans (hb1.mono HBwa.out.size))
   refine hK.out _ _ (HSS.out _ HBwb.out) (fun hHeld => ?_)
   clear hK K hb1
   (try simp only [pz])
   (refine tA 16 43 ?_; simp only [pz])
   (refine tA 17 3 ?_; simp only [pz])
   refine AnyT.done (by kernel_rfl) ?_ _
   rw [HNB.out]
   have HB9 := hd_ (HBD2.out.trans (HBwb.out.mono hwd2))
   clear hHeld HSS HG1 HG2 HBwa HBwb HB0 a1 a2
   go_wp2_with fail
   go_roundw
   case rel => exact ⟨k + 1, by omega, by go_num, rfl, HB9.out⟩
   case measure => simp [intOf]; omega
  ·obtain rfl : k = x3.length := by omega
   have i1 : ¬ ((x3.length : Nat) : Int) < (x3.length : Int) := by omega
   have HG1 := hd_ (fun W => fix4 n0 (by omega) W)
   have a1 := leB_size n0 4
   have HST2 := hd_ (fun W => specStamped_any (mkB (leB n0 4)) (mkB (bodyTo n1 n2 x3 x3.length)) a1 (by rw [hbs]; omega) W)
   rw [hbs] at HST2
   clear hbl hbs hb
   generalize mkB (bodyTo n1 n2 x3 x3.length) = TX at *
   generalize (bodyTo n1 n2 x3 x3.length).length = LL at *
   generalize mkB (leB n0 4) = F1 at *
   go_wp2_with fail
   refine (HG1.out _).mono ?_; rintro e1 w5 ⟨rfl, hb5⟩
   have HB5 := hd_ (HB.out.trans (hb5.mono hsz))
   clear hb5 HG1 f0 f1 f2 f3
   go_wp2_with fail
   refine (HST2.out _).mono ?_; rintro e2 w6 ⟨rfl, hb6⟩
   have HB6 := hd_ (HB5.out.trans (hb6.mono HB5.out.size))
   clear hb6 HST2
   go_wp2_with fail
   go_ret
   exact ⟨by rw [HTB.out]; rfl, HB00.out.trans (HB6.out.mono (by omega))⟩
end Go.Proofs.YtnnabkldceklmaaGreatDoor
/- The program's zeros, Stamped, PutTop walked. Printed by bto/puti.py. -/
namespace Go.Proofs.YtnnabkldceklmaaGreatDoor
open Go.RowKit
theorem littleB (n k : Nat) : littleP n k = leB n k := rfl
theorem repeat_zero (n : Nat) : (⟨(Lib.repeatL (⟨#[0]⟩ : ByteArray).data.toList n).toArray⟩ : ByteArray) = mkB (List.replicate n 0) := by
 have : Lib.repeatL (⟨#[0]⟩ : ByteArray).data.toList n = List.replicate n (0 : UInt8) := by
  induction n with
  | zero => rfl
  | succ n ih =>
   show [0] ++ Lib.repeatL (⟨#[0]⟩ : ByteArray).data.toList n = _
   rw [ih]; rfl
 rw [this]; rfl
theorem zeros_any (n : Nat) (hn : n ≤ 2000) (w : World) : Calls Tryz.prog 204 #[.int .i64 n] w fun e w' => e = .returned (.string (mkB (List.replicate n 0))) ∧ Below w.heap.size w w' := by
 have HR := hd_ (fun W => Tryz.strings_Repeat ⟨#[0]⟩ n W (by omega) (by show 1 * n ≤ _; omega))
 rw [repeat_zero] at HR
 have i1 : max (0 : Int) (n : Int) = (n : Int) := by omega
 go_enter Tryz.func204, Tryz.ntmps204
 go_wp2_with (first | fail | (refine (HR.out _).mono ?_; rintro e1 w1 ⟨rfl, hb1⟩))
 go_ret
 exact ⟨rfl, hb1⟩
theorem stampedP_any (s b : ByteArray) (hs : s.size = 4) (hb : b.size ≤ 1000) (w : World) :
  Calls Tryz.prog 180 #[.string s, .string b, .int .i64 1700] w fun e w' => e = .returned (.string (s ++ b ++ mkB (List.replicate (1692 - b.size) 0) ++ s)) ∧ Below w.heap.size w w' := by
 have HZ := hd_ (fun W => zeros_any (1692 - b.size) (by omega) W)
 have hZ : (mkB (List.replicate (1692 - b.size) 0)).size = 1692 - b.size := by
  show (List.replicate (1692 - b.size) (0 : UInt8)).toArray.size = _
  rw [List.size_toArray, List.length_replicate]
 have hi1 : (1700 : Int) - (8 + (b.size : Int)) = ((1692 - b.size : Nat) : Int) := by omega
 have hi2 : (1700 : Int) - ((2 * 4 : Int) + (b.size : Int)) = ((1692 - b.size : Nat) : Int) := by omega
 have hs4 : (s.size : Int) = 4 := by omega
 have i1 : max (0 : Int) 1700 = 1700 := by decide
 have HIN := hd_ (fun W => withinP_any 4 1 16 W)
 rw [show inB 4 1 16 = true from by decide] at HIN
 have i2 : ¬ ((1692 - b.size : Nat) : Int) < 0 := by omega
 have w1 : IntKind.i64.wrap ((8 : Int) + (b.size : Int)) = 8 + (b.size : Int) := IntWalk.i64_in _ (by omega)
 have w2 : IntKind.i64.wrap (((1692 - b.size : Nat) : Int)) = ((1692 - b.size : Nat) : Int) := IntWalk.i64_in _ (by omega)
 generalize hNN : 1692 - b.size = NN at *
 have HNN := hd_ hNN
 clear hNN
 go_enter Tryz.func180, Tryz.ntmps180
 go_wp2_with fail
 refine (HIN.out _).mono ?_; rintro e1 w2 ⟨rfl, rfl⟩
 go_wp2_with (first | fail | (refine (HZ.out _).mono ?_; rintro e2 w3 ⟨rfl, hb3⟩))
 go_ret
 exact ⟨rfl, hb3⟩
theorem putTopP_any (t : TyTop) (vs : List Value) (lo hi : Nat) (w : World) (h : shTop.R w lo hi vs t) (hhi : hi ≤ w.heap.size) (hn : t.2.2.2.length ≤ 1048576) :
  Calls Tryz.prog 127 #[.agg vs.toArray] w fun e w' => e = .returned (.string (mkB (topBytes t))) ∧ Below w.heap.size w w' := by
 obtain ⟨x0, x1, x2, x3⟩ := t
 obtain ⟨A3, c3, rfl, _⟩ := shTop_R.1 h
 dsimp only at hn
 have hb0 := (Below.refl w.heap.size w).alloc (Nat.le_refl _) (.cells #[.int .i64 x0, .int .i64 x1, .int .i64 x2, .slice A3 x3.length c3] 42)
 have HRT := hd_ (shTop.R_below h hb0 hhi)
 have HB0 := hd_ hb0
 have HBK := hd_ (Blk.new w 42 #[.int .i64 x0, .int .i64 x1, .int .i64 x2, .slice A3 x3.length c3])
 have hz0 : (w.alloc (.cells #[.int .i64 x0, .int .i64 x1, .int .i64 x2, .slice A3 x3.length c3] 42)).heap.size = w.heap.size + 1 := by simp
 clear h hb0
 go_enter Tryz.func127, Tryz.ntmps127
 go_upto_region 1 with fail
 generalize (w.alloc (.cells #[.int .i64 x0, .int .i64 x1, .int .i64 x2, .slice A3 x3.length c3] 42)) = w1 at *
 have HOK := hd_ (topOk_any (x0, x1, x2, x3) _ lo hi w1 HRT.out (by omega) hn)
 have f := HBK.out.cell
 by_cases hok : topP (x0, x1, x2, x3) = true
 rotate_left
 ·have hok := Bool.eq_false_iff.2 hok
  have HT := hd_ (show topBytes (x0, x1, x2, x3) = [] by unfold topBytes; rw [if_neg (by rw [hok]; simp)])
  rw [hok] at HOK
  clear hok
  go_wp2_with fail
  refine HOK.out.mono ?_; rintro e1 w2 ⟨rfl, hb2⟩
  have HB2 := hd_ (HB0.out.trans (hb2.mono (by omega)))
  clear hb2 f
  go_wp2_with fail
  go_ret
  exact ⟨by rw [HT.out]; rfl, HB2.out⟩
 have htp := hok
 unfold topP seatsP at htp
 simp only [Bool.and_eq_true, decide_eq_true_eq] at htp
 obtain ⟨⟨⟨hx0, hx1⟩, hx2⟩, hst, hl64⟩ := htp
 unfold inB at hx0 hx1 hx2
 simp only [Bool.and_eq_true, decide_eq_true_eq] at hx0 hx1 hx2
 obtain ⟨n0, rfl⟩ := Int.eq_ofNat_of_zero_le (show 0 ≤ x0 by omega)
 obtain ⟨n1, rfl⟩ := Int.eq_ofNat_of_zero_le (show 0 ≤ x1 by omega)
 obtain ⟨n2, rfl⟩ := Int.eq_ofNat_of_zero_le (show 0 ≤ x2 by omega)
 rw [hok] at HOK
 have HTB := hd_ (show mkB (topBytes ((n0 : Int), (n1 : Int), (n2 : Int), x3)) = mkB (leB n0 4) ++ mkB (bodyTo n1 n2 x3 x3.length) ++ mkB (List.replicate (1692 - (bodyTo n1 n2 x3 x3.length).length) 0) ++ mkB (leB n0 4) by
  unfold topBytes
  rw [if_pos hok, mkB_cat, mkB_cat, mkB_cat]
  unfold bodyTo topBody
  rw [List.take_length]
  rfl)
 have HST := hd_ hst
 clear hok hst
 go_wp2_with fail
 refine HOK.out.mono ?_; rintro e1 w2 ⟨rfl, hb2⟩
 have hs2 := hb2.size
 have HB2 := hd_ hb2
 have HBK2 := hd_ (HBK.out.below hb2 (by omega))
 clear f HOK hb2
 have f := HBK2.out.cell
 have HBN := hd_ (bld_new w2)
 have hbA := (Below.refl w2.heap.size w2).alloc (Nat.le_refl _) (.cells #[.pointer none, .slice none 0 0] 207)
 have hzA : (w2.alloc (.cells #[.pointer none, .slice none 0 0] 207)).heap.size = w2.heap.size + 1 := by simp
 have HKA := hd_ (HBK2.out.below hbA (by omega))
 have HBA := hd_ (HB2.out.trans (hbA.mono hs2))
 clear hbA
 go_upto_region 4 with fail
 clear f
 generalize hgg : w2.heap.size = g at *
 generalize (w2.alloc (.cells #[.pointer none, .slice none 0 0] 207)) = wA at *
 have f := (show Blk wA.drew _ _ _ from HKA.out.drewN 1).cell
 have HF1 := hd_ (fun W => little_any n1 1 (by omega) (by omega) W)
 have HF2 := hd_ (fun W => little_any n2 4 (by omega) (by omega) W)
 have HF3 := hd_ (fun W => little_any x3.length 1 (by omega) (by omega) W)
 have HCN := hd_ (fun W => cntSeat_any A3 x3.length c3 W)
 rw [littleB] at HF1 HF2 HF3
 have a1 := leB_size n1 1
 have a2 := leB_size n2 4
 have a3 := leB_size x3.length 1
 have HBO := hd_ (show mkB (leB n1 1) ++ mkB (leB n2 4) ++ mkB (leB x3.length 1) = mkB (bodyTo n1 n2 x3 0) by
  rw [mkB_cat, mkB_cat]; unfold bodyTo; rw [List.take_zero]; simp)
 have HSS := hd_ (show ∀ W, Below wA.drew.heap.size wA.drew W → ∀ i, W.cell? ⟨w.heap.size, i, none⟩ = (#[.int .i64 (n0 : Int), .int .i64 (n1 : Int), .int .i64 (n2 : Int), .slice A3 x3.length c3] : Array Value)[i]? from fun W hW => ((show Blk wA.drew _ _ _ from HKA.out.drewN 1).below hW (by show _ < wA.heap.size; omega)).cell)
 refine AnyT.region (fun _ => false) (fun W => ∀ i, W.cell? ⟨w.heap.size, i, none⟩ = (#[.int .i64 (n0 : Int), .int .i64 (n1 : Int), .int .i64 (n2 : Int), .slice A3 x3.length c3] : Array Value)[i]?) (by kernel_rfl) f (fun hHeld => ?_)
 clear f
 have HBN := hd_ (bld_below HBN.out (show Below wA.heap.size wA wA.drew from (Below.refl _ _).drew))
 have HBA := hd_ (show Below w1.heap.size w1 wA.drew from HBA.out.drew)
 have HKA := hd_ (show Blk wA.drew _ _ _ from HKA.out.drewN 1)
 have hzA : wA.drew.heap.size = g + 1 := hzA
 have HB0' := hd_ (Below.refl wA.drew.heap.size wA.drew)
 generalize wA.drew = wD at *
 generalize mkB (leB n1 1) = F1 at *
 generalize mkB (leB n2 4) = F2 at *
 generalize mkB (leB x3.length 1) = F3 at *
 (refine tA 0 9 ?_; simp only [pz])
 (refine tK 1 10 ?_; simp only [pz])
 (refine tA 3 12 ?_; simp only [pz])
 (refine tK 4 13 ?_; simp only [pz])
 (refine tA 7 16 ?_; simp only [pz])
 (refine tK 8 17 ?_; simp only [pz])
 refine oNe 2 fun K hK => ?_
 go_simp
 refine (HF1.out _).mono ?_; rintro e1 wa ⟨rfl, hb1⟩
 go_simp
 have HBwa := hd_ (HB0'.out.trans (hb1.mono HB0'.out.size))
 refine hK.out _ _ (HSS.out _ HBwa.out) (fun hHeld => ?_)
 clear hK K hb1
 (try simp only [pz])
 refine oNe 5 fun K hK => ?_
 go_simp
 refine (HF2.out _).mono ?_; rintro e1 wb ⟨rfl, hb1⟩
 go_simp
 have HBwb := hd_ (HBwa.out.trans (hb1.mono HBwa.out.size))
 refine hK.out _ _ (HSS.out _ HBwb.out) (fun hHeld => ?_)
 clear hK K hb1
 (try simp only [pz])
 (refine tA 6 15 ?_; simp only [pz])
 refine oNe 9 fun K hK => ?_
 go_simp
 refine (HCN.out _).mono ?_; rintro e1 wb' ⟨rfl, rfl⟩
 go_simp
 refine hK.out _ _ (HSS.out _ HBwb.out) (fun hHeld => ?_)
 clear hK K
 (try simp only [pz])
 refine oNe 10 fun K hK => ?_
 go_simp
 refine (HF3.out _).mono ?_; rintro e1 wc ⟨rfl, hb1⟩
 go_simp
 have HBwc := hd_ (HBwb.out.trans (hb1.mono HBwb.out.size))
 refine hK.out _ _ (HSS.out _ HBwc.out) (fun hHeld => ?_)
 clear hK K hb1
 (try simp only [pz])
 (refine tA 11 20 ?_; simp only [pz])
 refine oNe 12 fun K hK => ?_
 rw [HBO.out]
 go_simp
 have hswc := HBwc.out.size
 refine (bldString g [] (mkB (bodyTo n1 n2 x3 0)) wc (bld_below HBN.out HBwc.out) (by have := bodyTo_len n1 n2 x3 0; rw [mkB_len]; simp only [List.length_nil]; omega) (by omega)).mono ?_
 rintro e1 we ⟨rfl, hbd, hbe⟩
 go_simp
 have hse := hbe.size
 have HKE := hd_ ((HKA.out.below HBwc.out (by omega)).below hbe (by omega))
 have HBE := hd_ ((HBA.out.trans (HBwc.out.mono (by omega))).trans (hbe.mono (by omega)))
 have HBD := hd_ (show Bld we g (bodyTo n1 n2 x3 0) by
  rw [show (mkB (bodyTo n1 n2 x3 0)).data.toList = bodyTo n1 n2 x3 0 from rfl, List.nil_append] at hbd
  exact hbd)
 refine hK.out _ _ HKE.out.cell (fun hHeld => ?_)
 clear hK K hbd hbe
 (try simp only [pz])
 refine AnyT.done (by kernel_rfl) ?_ _
 clear hHeld HSS HF1 HF2 HF3 HCN HBO HBwa HBwb HBwc HB0' a1 a2 a3 HBN HBA HKA
 have f := HKE.out.cell
 go_wp2_with fail
 clear f
 go_loopw [25] (fun i wr => ∃ k : Nat, k ≤ x3.length ∧ i = .int .i64 k ∧ g + 1 ≤ wr.heap.size ∧ Hid (Bld wr g (bodyTo n1 n2 x3 k)) ∧ Hid (Blk wr w.heap.size 42 #[.int .i64 (n0 : Int), .int .i64 (n1 : Int), .int .i64 (n2 : Int), .slice A3 x3.length c3]) ∧ Below w1.heap.size w1 wr) (fun i _ => x3.length - (intOf i).toNat)
 case atStart => exact ⟨0, Nat.zero_le _, rfl, by omega, HBD, HKE, HBE.out⟩
 case round =>
  clear HBD HKE HBE
  obtain ⟨k, hk, rfl, hgs, hbd, hkr, hb⟩ := hrel
  have hsz := hb.size
  have HB := hd_ hb
  have hbl := bodyTo_len n1 n2 x3 k
  by_cases hlt : k < x3.length
  ·obtain ⟨-, b, off, rfl, hb1, hb2, e0, e1, -⟩ := shSeat_at ((Sh.row 88 shSeat).R_below (shTop_f3 HRT.out) hb (by omega)) hlt
   have hsf := seat_facts HST.out hlt
   have HNX := hd_ (bodyTo_next n1 n2 x3 k hlt)
   have hsd : (shSeat.d : TySeat) = (0, 0) := rfl
   rw [← hsd] at hsf
   generalize x3.getD k shSeat.d = X at *
   obtain ⟨y0, y1⟩ := X
   dsimp only at e0 e1 hsf
   obtain ⟨m0, rfl⟩ := Int.eq_ofNat_of_zero_le (show 0 ≤ y0 by omega)
   obtain ⟨m1, rfl⟩ := Int.eq_ofNat_of_zero_le (show 0 ≤ y1 by omega)
   have i1 : (k : Int) < (x3.length : Int) := by omega
   have hbw : b < wr.heap.size := by omega
   have HNB := hd_ (show mkB (leB m0 1) ++ mkB (leB m1 2) = mkB (seatBytes ((m0 : Int), (m1 : Int))) by rw [mkB_cat]; rfl)
   have HNB2 := hd_ (show bodyTo n1 n2 x3 k ++ (mkB (seatBytes ((m0 : Int), (m1 : Int)))).data.toList = bodyTo n1 n2 x3 (k + 1) from HNX.out.symm)
   have hsb : (mkB (seatBytes ((m0 : Int), (m1 : Int)))).size = 3 := by rw [← HNB.out, mkB_cat, mkB_len, List.length_append, leB_len, leB_len]
   have HBA := hd_ ((Below.refl wr.heap.size wr).alloc (Nat.le_refl _) (.cells #[.int .i64 (m0 : Int), .int .i64 (m1 : Int)] 88))
   have HKS := hd_ (Blk.new wr 88 #[.int .i64 (m0 : Int), .int .i64 (m1 : Int)])
   have hzA : (wr.alloc (.cells #[.int .i64 (m0 : Int), .int .i64 (m1 : Int)] 88)).heap.size = wr.heap.size + 1 := by simp
   have HG1 := hd_ (fun W => little_any m0 1 (by omega) (by omega) W)
   have HG2 := hd_ (fun W => little_any m1 2 (by omega) (by omega) W)
   rw [littleB] at HG1 HG2
   have a1 := leB_size m0 1
   have a2 := leB_size m1 2
   clear hsf hsd hb HNX
   go_upto_region 8 with fail
   clear e0 e1
   generalize (wr.alloc (.cells #[.int .i64 (m0 : Int), .int .i64 (m1 : Int)] 88)) = wS at *
   have fS := (show Blk wS.drew _ _ _ from HKS.out.drewN 1).cell
   refine AnyT.region (fun _ => false) (fun _ => True) (by kernel_rfl) trivial (fun hHeld => ?_)
   have HBA := hd_ (show Below wr.heap.size wr wS.drew from HBA.out.drew)
   have HKS := hd_ (show Blk wS.drew _ _ _ from HKS.out.drewN 1)
   have hzS : wS.drew.heap.size = wr.heap.size + 1 := hzA
   generalize wS.drew = wD at *
   generalize mkB (leB m0 1) = F1 at *
   generalize mkB (leB m1 2) = F2 at *
   (refine tA 0 29 ?_; simp only [pz])
   (refine tA 3 32 ?_; simp only [pz])
   refine AnyT.either (i := 1) (j := 4) (by kernel_rfl) rfl rfl (fun K hK => ?_) (fun K hK => ?_)
   ·go_simp
    refine hK.out _ _ trivial (fun hHeld => ?_)
    clear hK K
    (try simp only [pz])
    refine AnyT.either (i := 2) (j := 4) (by kernel_rfl) rfl rfl (fun K hK => ?_) (fun K hK => ?_)
    ·go_simp
     refine (HG1.out _).mono ?_; rintro e1 wa ⟨rfl, hba⟩
     go_simp
     have hsa := hba.size
     have HBwa := hd_ (HBA.out.trans (hba.mono (by omega)))
     have HKS := hd_ (HKS.out.below hba (by omega))
     refine hK.out _ _ trivial (fun hHeld => ?_)
     clear hK K hba
     (try simp only [pz])
     clear fS
     have fS := HKS.out.cell
     refine oNe 4 fun K hK => ?_
     go_simp
     refine hK.out _ _ trivial (fun hHeld => ?_)
     clear hK K
     (try simp only [pz])
     refine oNe 5 fun K hK => ?_
     go_simp
     refine (HG2.out _).mono ?_; rintro e1 wb ⟨rfl, hbb⟩
     go_simp
     have hsbb := hbb.size
     have HBwb := hd_ (HBwa.out.trans (hbb.mono (by omega)))
     refine hK.out _ _ trivial (fun hHeld => ?_)
     clear hK K hbb
     (try simp only [pz])
     clear fS
     (refine tA 6 35 ?_; simp only [pz])
     refine oNe 7 fun K hK => ?_
     rw [HNB.out]
     go_simp
     refine (bldString g (bodyTo n1 n2 x3 k) (mkB (seatBytes ((m0 : Int), (m1 : Int)))) wb (bld_below hbd.out HBwb.out) (by omega) (by omega)).mono ?_
     rintro e1 we ⟨rfl, hbd2, hbe⟩
     go_simp
     rw [HNB2.out] at hbd2
     have hse := hbe.size
     have HBD2 := hd_ hbd2
     have HKE := hd_ ((hkr.out.below HBwb.out (by omega)).below hbe (by omega))
     have HBE := hd_ ((HB.out.trans (HBwb.out.mono (by omega))).trans (hbe.mono (by omega)))
     refine hK.out _ _ trivial (fun hHeld => ?_)
     clear hK K hbd2 hbe
     (try simp only [pz])
     refine AnyT.done (by kernel_rfl) ?_ _
     clear hHeld
     go_wp2_with fail
     go_roundw
     case rel => exact ⟨k + 1, by omega, by go_num, by omega, HBD2, HKE, HBE.out⟩
     all_goals (first | omega | (simp only [intOf, Int.toNat_natCast]; omega) | (simp [intOf]; omega))
    ·go_simp
     refine hK.out _ _ trivial (fun hHeld => ?_)
     clear hK K
     (try simp only [pz])
     refine oNe 2 fun K hK => ?_
     go_simp
     refine (HG1.out _).mono ?_; rintro e1 wa ⟨rfl, hba⟩
     go_simp
     have hsa := hba.size
     have HBwa := hd_ (HBA.out.trans (hba.mono (by omega)))
     have HKS := hd_ (HKS.out.below hba (by omega))
     refine hK.out _ _ trivial (fun hHeld => ?_)
     clear hK K hba
     (try simp only [pz])
     clear fS
     have fS := HKS.out.cell
     refine oNe 5 fun K hK => ?_
     go_simp
     refine (HG2.out _).mono ?_; rintro e1 wb ⟨rfl, hbb⟩
     go_simp
     have hsbb := hbb.size
     have HBwb := hd_ (HBwa.out.trans (hbb.mono (by omega)))
     refine hK.out _ _ trivial (fun hHeld => ?_)
     clear hK K hbb
     (try simp only [pz])
     clear fS
     (refine tA 6 35 ?_; simp only [pz])
     refine oNe 7 fun K hK => ?_
     rw [HNB.out]
     go_simp
     refine (bldString g (bodyTo n1 n2 x3 k) (mkB (seatBytes ((m0 : Int), (m1 : Int)))) wb (bld_below hbd.out HBwb.out) (by omega) (by omega)).mono ?_
     rintro e1 we ⟨rfl, hbd2, hbe⟩
     go_simp
     rw [HNB2.out] at hbd2
     have hse := hbe.size
     have HBD2 := hd_ hbd2
     have HKE := hd_ ((hkr.out.below HBwb.out (by omega)).below hbe (by omega))
     have HBE := hd_ ((HB.out.trans (HBwb.out.mono (by omega))).trans (hbe.mono (by omega)))
     refine hK.out _ _ trivial (fun hHeld => ?_)
     clear hK K hbd2 hbe
     (try simp only [pz])
     refine AnyT.done (by kernel_rfl) ?_ _
     clear hHeld
     go_wp2_with fail
     go_roundw
     case rel => exact ⟨k + 1, by omega, by go_num, by omega, HBD2, HKE, HBE.out⟩
     all_goals (first | omega | (simp only [intOf, Int.toNat_natCast]; omega) | (simp [intOf]; omega))
   ·go_simp
    refine hK.out _ _ trivial (fun hHeld => ?_)
    clear hK K
    (try simp only [pz])
    refine oNe 1 fun K hK => ?_
    go_simp
    refine hK.out _ _ trivial (fun hHeld => ?_)
    clear hK K
    (try simp only [pz])
    refine oNe 2 fun K hK => ?_
    go_simp
    refine (HG1.out _).mono ?_; rintro e1 wa ⟨rfl, hba⟩
    go_simp
    have hsa := hba.size
    have HBwa := hd_ (HBA.out.trans (hba.mono (by omega)))
    have HKS := hd_ (HKS.out.below hba (by omega))
    refine hK.out _ _ trivial (fun hHeld => ?_)
    clear hK K hba
    (try simp only [pz])
    clear fS
    have fS := HKS.out.cell
    refine oNe 5 fun K hK => ?_
    go_simp
    refine (HG2.out _).mono ?_; rintro e1 wb ⟨rfl, hbb⟩
    go_simp
    have hsbb := hbb.size
    have HBwb := hd_ (HBwa.out.trans (hbb.mono (by omega)))
    refine hK.out _ _ trivial (fun hHeld => ?_)
    clear hK K hbb
    (try simp only [pz])
    clear fS
    (refine tA 6 35 ?_; simp only [pz])
    refine oNe 7 fun K hK => ?_
    rw [HNB.out]
    go_simp
    refine (bldString g (bodyTo n1 n2 x3 k) (mkB (seatBytes ((m0 : Int), (m1 : Int)))) wb (bld_below hbd.out HBwb.out) (by omega) (by omega)).mono ?_
    rintro e1 we ⟨rfl, hbd2, hbe⟩
    go_simp
    rw [HNB2.out] at hbd2
    have hse := hbe.size
    have HBD2 := hd_ hbd2
    have HKE := hd_ ((hkr.out.below HBwb.out (by omega)).below hbe (by omega))
    have HBE := hd_ ((HB.out.trans (HBwb.out.mono (by omega))).trans (hbe.mono (by omega)))
    refine hK.out _ _ trivial (fun hHeld => ?_)
    clear hK K hbd2 hbe
    (try simp only [pz])
    refine AnyT.done (by kernel_rfl) ?_ _
    clear hHeld
    go_wp2_with fail
    go_roundw
    case rel => exact ⟨k + 1, by omega, by go_num, by omega, HBD2, HKE, HBE.out⟩
    all_goals (first | omega | (simp only [intOf, Int.toNat_natCast]; omega) | (simp [intOf]; omega))
  ·obtain rfl : k = x3.length := by omega
   have i1 : ¬ (x3.length : Int) < (x3.length : Int) := by omega
   have HF0 := hd_ (little_any n0 4 (by omega) (by omega) wr)
   rw [littleB] at HF0
   have f := hkr.out.cell
   go_wp2_with fail
   refine HF0.out.mono ?_; rintro e1 wa ⟨rfl, hba⟩
   have hsa := hba.size
   have HT := hd_ (bldText g (bodyTo n1 n2 x3 x3.length) wa (bld_below hbd.out hba) (by omega))
   have HBa := hd_ (HB.out.trans (hba.mono (by omega)))
   clear f hba HF0
   go_wp2_with fail
   refine HT.out.mono ?_; rintro e1 wb ⟨rfl, hbb⟩
   have hsb := hbb.size
   have HBb := hd_ (HBa.out.trans (hbb.mono (by omega)))
   have HS := hd_ (stampedP_any (mkB (leB n0 4)) (mkB (bodyTo n1 n2 x3 x3.length)) (leB_size n0 4) (by rw [mkB_len]; omega) wb)
   rw [show (mkB (bodyTo n1 n2 x3 x3.length)).size = (bodyTo n1 n2 x3 x3.length).length from mkB_len _, ← HTB.out] at HS
   clear hbb HT
   go_wp2_with (first | fail | (refine HS.out.mono ?_; rintro e2 wc ⟨rfl, hbc⟩))
   go_ret
   exact ⟨rfl, HB0.out.trans ((HBb.out.mono (by omega)).trans (hbc.mono (by omega)))⟩
end Go.Proofs.YtnnabkldceklmaaGreatDoor
