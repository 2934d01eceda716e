/- Ins, Entry, Program, Trigger, Lock, Ask, Locks, Event, Trans, Batch, Put, Disk, Seat, Top, Journal, Page, Slot, Btree: shapes and the laws' walks (to). Printed by gen_fam.py. -/
import Derived.Test.YtnnabkldceklmaaGreatDoorJoinBTAr
set_option maxHeartbeats 16000000
set_option maxRecDepth 100000
namespace Go.Proofs.YtnnabkldceklmaaGreatDoor
open Go.RowKit
theorem toPut_f (x0 : Int) (x1 : ByteArray) (lo hi : Nat) (w : World) (h : shPut.R w lo hi [.int .i64 x0, .string x1] (x0, x1)) (_ : hi ≤ w.heap.size) (hf : shPut.fit 1048576 (x0, x1)) :
  Calls Tryz.prog 156 #[.agg #[.int .i64 x0, .string x1]] w fun e w' => e = .returned (.agg #[.int .i64 x0, .string x1]) ∧ Own shPut w' w.heap.size w'.heap.size [.int .i64 x0, .string x1] (x0, x1) ∧ Below w.heap.size w w' := by
 rw [shPut_fit] at hf
 obtain ⟨ft0, ft1⟩ := hf
 have HA := hd_ h
 clear h
 go_enter Tryz.func156, Tryz.ntmps156
 go_wp2_with fail
 have T0 := Three.start w 177 138 138 #[.int .i64 x0, .string x1] #[.int .i64 x0, .string x1] #[.int .i64 x0, .string x1]
 refine bodyPost_ret (v := .agg #[.int .i64 x0, .string x1]) (by simp [results, Tryz.results156, go_sem]) rfl ⟨rfl, ?_, ?_⟩
 ·refine Own.more (lo := w.heap.size) (hi := w.heap.size) ?_ (Nat.le_refl _) T0.2.2.2.size
  exact (Own.prod (Own.one _ (w.heap.size) (w.heap.size) _) (Own.one _ (w.heap.size) _ _) (by omega) (by omega) (by omega))
 ·exact T0.2.2.2
theorem make_PutS (n : Nat) (hn : n ≤ 1048576) (w : World) :
  (Instr.makeSlice 37 (.int .i64 (n : Int)) (.int .i64 (n : Int))).run Tryz.prog w = .ok (.slice (some ⟨w.heap.size, 0, none⟩) n n) (w.alloc (.cells (madeCells zeroPut (n * 2)) 138)) := by
 obtain ⟨i0, hi0, hz0, hz1, hz2⟩ := info_parts infoPut
 have hb : (i0.bytes : Int) * (n : Int) ≤ 281474976710656 := by
  rw [hz2]; omega
 have hr := run_make (P := Tryz.prog) w 37 138 i0 _ Tryz.underlying37 hi0 hz0 .i64 .i64 n n (by omega) (by omega) hb (by omega)
 simp only [Int.toNat_natCast] at hr
 rw [hr, hz1]
 rfl
theorem toPutS_f (A : Option Addr) (c : Nat) (xs : List TyPut) (lo hi : Nat) (w : World) (h : (Sh.row 138 shPut).R w lo hi [.slice A xs.length c] xs) (hhi : hi ≤ w.heap.size) (hf : (Sh.row 138 shPut).fit 1048576 xs) :
  Calls Tryz.prog 104 #[.slice A xs.length c] w fun e w' => ∃ (B : Option Addr) (d : Nat), e = .returned (.slice B xs.length d) ∧ Own (Sh.row 138 shPut) w' w.heap.size w'.heap.size [.slice B xs.length d] xs ∧ Below w.heap.size w w' := by
 have hn := hf.1
 have hmk := fun W => make_PutS xs.length hn W
 have H0 := hd_ (Blk.new w 138 (madeCells zeroPut (xs.length * 2)))
 have HB0 := hd_ ((Below.refl w.heap.size w).alloc (Nat.le_refl _) (.cells (madeCells zeroPut (xs.length * 2)) 138))
 have HA := hd_ h; have HF := hd_ hf.2
 clear h hf
 go_enter Tryz.func104, Tryz.ntmps104
 go_wp2_with fail
 go_loopw [4] (fun i wr => ∃ (k : Nat) (cs : Array Value) (Fs : Nat → List Nat), k ≤ xs.length ∧ i = .int .i64 k ∧ Fill shPut 138 wr w.heap.size cs Fs xs k ∧ Below w.heap.size w wr) (fun i _ => xs.length - (intOf i).toNat)
 case atStart => exact ⟨0, _, fun _ => [], Nat.zero_le _, rfl, Fill.start H0.out (size_madeCells _ _), HB0.out⟩
 case round =>
  clear hmk
  obtain ⟨k, cs, Fs, hk, rfl, hfl, hb⟩ := hrel
  by_cases hlt : k < xs.length
  ·obtain ⟨-, b, off, rfl, hb1, hb2, e100, e101, hX⟩ := shPut_at ((Sh.row 138 shPut).R_below HA.out hb hhi) hlt
   have HX := hd_ (HF.out _ (getD_in (d := shPut.d) hlt))
   obtain ⟨us, hu⟩ := Upd.begin_ (hfl.room hlt)
   have hul : us.length = 2 := hu.len
   obtain ⟨v0, v1, rfl⟩ : ∃ v0 v1, us = [v0, v1] := by
    match us, hul with
    | [v0, v1], _ => exact ⟨v0, v1, rfl⟩
   have hN := fun W vs lo hi => Fill.addM (W := W) (vs := vs) (lo := lo) (hi := hi) hfl hlt
   have HN := hd_ hN; clear hN
   have hm0 : Mid [w.heap.size] w.heap.size 138 cs (k * 2) 2 wr wr [v0, v1] := Mid.start hfl.blk hu _
   have hgw : w.heap.size < wr.heap.size := hfl.blk.lt
   generalize xs.getD k shPut.d = X at *
   obtain ⟨x0, x1⟩ := X
   try dsimp only at e100 e101
   have HM0 := hd_ hm0; have HB := hd_ hb; have HR := hd_ hX
   have hsz := hb.size
   clear hm0 hb hX hfl hu hul
   go_wp2_with fail
   refine (toPut_f x0 x1 lo hi _ HR.out (by omega) HX.out).mono ?_
   rintro e5 w5 ⟨rfl, ho5, hb5⟩
   have HM5 := hd_ (HM0.out.below hb5)
   have s5 := hb5.size
   have HB5 := hd_ (HB.out.trans (hb5.mono hsz))
   have g0 : _ = some v0 := HM5.out.cell0 (by decide)
   have g1 : _ = some v1 := HM5.out.cell (i := 1) (by decide)
   have z5 := HM5.out.frozen
   have hgl : w.heap.size < wr.heap.size := hgw
   have HO5 := hd_ ((ho5.setCell (p := ⟨w.heap.size, k * 2, none⟩) hgl (.int .i64 x0)).setCell (p := ⟨w.heap.size, k * 2 + 1, none⟩) hgl (.string x1))
   clear hb5 ho5 HM0 e100 e101
   go_wp2_with fail
   go_roundw
   case rel =>
    obtain ⟨cs', Fs', hf'⟩ := HN.out _ _ _ _ ((HM5.out.set0 (List.mem_cons_self ..) (by decide) (.int .i64 x0)).set_ (List.mem_cons_self ..) (i := 1) (by decide) (.string x1)) (Nat.le_refl _) HO5.out
    refine ⟨k + 1, cs', Fs', by omega, by go_num, hf', ?_⟩
    iterate 2 (with_reducible refine Below.setCell ?_ (by simp) _)
    exact HB5.out
   case measure => simp [intOf]; omega
  ·obtain rfl : k = xs.length := by omega
   have HB := hd_ hb; have HFL := hd_ hfl
   clear hb hfl
   go_wp2_with fail
   go_ret
   exact ⟨_, _, rfl, HFL.out.done (by unfold maxLen; omega), HB.out⟩
theorem toDisk_f (x0 : Int) (x1 : List ByteArray) (x2 : List TyPut) (A1 : Option Addr) (c1 : Nat) (A2 : Option Addr) (c2 : Nat) (lo hi : Nat) (w : World) (h : shDisk.R w lo hi [.int .i64 x0, .slice A1 x1.length c1, .slice A2 x2.length c2] (x0, x1, x2)) (hhi : hi ≤ w.heap.size) (hf : shDisk.fit 1048576 (x0, x1, x2)) :
  Calls Tryz.prog 45 #[.agg #[.int .i64 x0, .slice A1 x1.length c1, .slice A2 x2.length c2]] w fun e w' => ∃ (B1 : Option Addr) (d1 : Nat), ∃ (B2 : Option Addr) (d2 : Nat), e = .returned (.agg #[.int .i64 x0, .slice B1 x1.length d1, .slice B2 x2.length d2]) ∧ Own shDisk w' w.heap.size w'.heap.size [.int .i64 x0, .slice B1 x1.length d1, .slice B2 x2.length d2] (x0, x1, x2) ∧ Below w.heap.size w w' := by
 rw [shDisk_fit] at hf
 obtain ⟨ft0, ft1, ft2⟩ := hf
 have HA := hd_ h
 clear h
 go_enter Tryz.func45, Tryz.ntmps45
 go_wp2_with fail
 have T0 := Three.start w 25 39 39 #[.int .i64 x0, .slice A1 x1.length c1, .slice A2 x2.length c2] #[.int .i64 0, .slice none 0 0, .slice none 0 0] #[.int .i64 x0, .slice none 0 0, .slice none 0 0]
 refine (toStringS_f A1 c1 x1 lo hi _ (shDisk_f1 (shDisk.R_below HA.out T0.2.2.2 hhi)) (Nat.le_trans hhi T0.2.2.2.size) ft1).mono ?_
 rintro e1 w1 ⟨B1, d1, rfl, ho1, hb1⟩
 have T1 := T0.call hb1
 have hs1 : w.heap.size + 1 + 1 + 1 ≤ w1.heap.size := by have := hb1.size; simpa using this
 have ho1 := ho1.more (lo' := w.heap.size + 1 + 1 + 1) (by simp) (Nat.le_refl _)
 clear T0 hb1
 have f0 := T1.1.cell
 have f2 := T1.2.2.1.cell
 have z2 := T1.2.2.1.frozen
 have TT := hd_ (T1.store2 1 (.slice B1 x1.length d1)); clear T1
 have O1 := hd_ (ho1.setCell (p := ⟨w.heap.size + 1 + 1, 1, none⟩) (by dsimp only; omega) (.slice B1 x1.length d1)); clear ho1
 go_wp2_with fail
 clear f0 f2 z2
 have hz1 : (w1.setCell ⟨w.heap.size + 1 + 1, 1, none⟩ (.slice B1 x1.length d1)).heap.size = w1.heap.size := by simp [World.setCell]
 generalize (w1.setCell ⟨w.heap.size + 1 + 1, 1, none⟩ (.slice B1 x1.length d1)) = W1 at *
 refine (toPutS_f A2 c2 x2 lo hi _ (shDisk_f2 (shDisk.R_below HA.out TT.out.2.2.2 hhi)) (Nat.le_trans hhi TT.out.2.2.2.size) ft2).mono ?_
 rintro e2 w2 ⟨B2, d2, rfl, ho2, hb2⟩
 have T2 := TT.out.call hb2
 have hs2 := hb2.size
 have ho1 := O1.out.below hb2 (by omega)
 clear TT O1 hb2
 have f0 := T2.1.cell
 have f1 := T2.2.1.cell
 have z1 := T2.2.1.frozen
 have f2 := T2.2.2.1.cell
 have z2 := T2.2.2.1.frozen
 have TT := hd_ T2; clear T2
 have O1 := hd_ ho1; clear ho1
 have O2 := hd_ ho2; clear ho2
 go_wp2_with fail
 refine bodyPost_ret (v := .agg #[.int .i64 x0, .slice B1 x1.length d1, .slice B2 x2.length d2]) (by simp [results, Tryz.results45, go_sem, f1]) rfl ⟨_, _, _, _, rfl, ?_, ?_⟩
 ·refine Own.more (lo := w.heap.size + 1 + 1 + 1) (hi := w2.heap.size) ?_ (by omega) (by simp [World.setCell])
  iterate 4 (with_reducible refine Own.setCell ?_ (by dsimp only; omega) _)
  exact (Own.prod (Own.one w2 (w.heap.size + 1 + 1 + 1) (w.heap.size + 1 + 1 + 1) _) (Own.prod O1.out O2.out (by omega) (by omega) (by omega)) (by omega) (by omega) (by omega))
 ·iterate 4 (with_reducible refine Below.setCell ?_ (by simp; try omega) _)
  exact TT.out.2.2.2
theorem toSeat_f (x0 : Int) (x1 : Int) (lo hi : Nat) (w : World) (h : shSeat.R w lo hi [.int .i64 x0, .int .i64 x1] (x0, x1)) (_ : hi ≤ w.heap.size) (hf : shSeat.fit 1048576 (x0, x1)) :
  Calls Tryz.prog 105 #[.agg #[.int .i64 x0, .int .i64 x1]] w fun e w' => e = .returned (.agg #[.int .i64 x0, .int .i64 x1]) ∧ Own shSeat w' w.heap.size w'.heap.size [.int .i64 x0, .int .i64 x1] (x0, x1) ∧ Below w.heap.size w w' := by
 rw [shSeat_fit] at hf
 obtain ⟨ft0, ft1⟩ := hf
 have HA := hd_ h
 clear h
 go_enter Tryz.func105, Tryz.ntmps105
 go_wp2_with fail
 have T0 := Three.start w 144 88 88 #[.int .i64 x0, .int .i64 x1] #[.int .i64 x0, .int .i64 x1] #[.int .i64 x0, .int .i64 x1]
 refine bodyPost_ret (v := .agg #[.int .i64 x0, .int .i64 x1]) (by simp [results, Tryz.results105, go_sem]) rfl ⟨rfl, ?_, ?_⟩
 ·refine Own.more (lo := w.heap.size) (hi := w.heap.size) ?_ (Nat.le_refl _) T0.2.2.2.size
  exact (Own.prod (Own.one _ (w.heap.size) (w.heap.size) _) (Own.one _ (w.heap.size) _ _) (by omega) (by omega) (by omega))
 ·exact T0.2.2.2
theorem make_SeatS (n : Nat) (hn : n ≤ 1048576) (w : World) :
  (Instr.makeSlice 40 (.int .i64 (n : Int)) (.int .i64 (n : Int))).run Tryz.prog w = .ok (.slice (some ⟨w.heap.size, 0, none⟩) n n) (w.alloc (.cells (madeCells zeroSeat (n * 2)) 88)) := by
 obtain ⟨i0, hi0, hz0, hz1, hz2⟩ := info_parts infoSeat
 have hb : (i0.bytes : Int) * (n : Int) ≤ 281474976710656 := by
  rw [hz2]; omega
 have hr := run_make (P := Tryz.prog) w 40 88 i0 _ Tryz.underlying40 hi0 hz0 .i64 .i64 n n (by omega) (by omega) hb (by omega)
 simp only [Int.toNat_natCast] at hr
 rw [hr, hz1]
 rfl
theorem toSeatS_f (A : Option Addr) (c : Nat) (xs : List TySeat) (lo hi : Nat) (w : World) (h : (Sh.row 88 shSeat).R w lo hi [.slice A xs.length c] xs) (hhi : hi ≤ w.heap.size) (hf : (Sh.row 88 shSeat).fit 1048576 xs) :
  Calls Tryz.prog 47 #[.slice A xs.length c] w fun e w' => ∃ (B : Option Addr) (d : Nat), e = .returned (.slice B xs.length d) ∧ Own (Sh.row 88 shSeat) w' w.heap.size w'.heap.size [.slice B xs.length d] xs ∧ Below w.heap.size w w' := by
 have hn := hf.1
 have hmk := fun W => make_SeatS xs.length hn W
 have H0 := hd_ (Blk.new w 88 (madeCells zeroSeat (xs.length * 2)))
 have HB0 := hd_ ((Below.refl w.heap.size w).alloc (Nat.le_refl _) (.cells (madeCells zeroSeat (xs.length * 2)) 88))
 have HA := hd_ h; have HF := hd_ hf.2
 clear h hf
 go_enter Tryz.func47, Tryz.ntmps47
 go_wp2_with fail
 go_loopw [4] (fun i wr => ∃ (k : Nat) (cs : Array Value) (Fs : Nat → List Nat), k ≤ xs.length ∧ i = .int .i64 k ∧ Fill shSeat 88 wr w.heap.size cs Fs xs k ∧ Below w.heap.size w wr) (fun i _ => xs.length - (intOf i).toNat)
 case atStart => exact ⟨0, _, fun _ => [], Nat.zero_le _, rfl, Fill.start H0.out (size_madeCells _ _), HB0.out⟩
 case round =>
  clear hmk
  obtain ⟨k, cs, Fs, hk, rfl, hfl, hb⟩ := hrel
  by_cases hlt : k < xs.length
  ·obtain ⟨-, b, off, rfl, hb1, hb2, e100, e101, hX⟩ := shSeat_at ((Sh.row 88 shSeat).R_below HA.out hb hhi) hlt
   have HX := hd_ (HF.out _ (getD_in (d := shSeat.d) hlt))
   obtain ⟨us, hu⟩ := Upd.begin_ (hfl.room hlt)
   have hul : us.length = 2 := hu.len
   obtain ⟨v0, v1, rfl⟩ : ∃ v0 v1, us = [v0, v1] := by
    match us, hul with
    | [v0, v1], _ => exact ⟨v0, v1, rfl⟩
   have hN := fun W vs lo hi => Fill.addM (W := W) (vs := vs) (lo := lo) (hi := hi) hfl hlt
   have HN := hd_ hN; clear hN
   have hm0 : Mid [w.heap.size] w.heap.size 88 cs (k * 2) 2 wr wr [v0, v1] := Mid.start hfl.blk hu _
   have hgw : w.heap.size < wr.heap.size := hfl.blk.lt
   generalize xs.getD k shSeat.d = X at *
   obtain ⟨x0, x1⟩ := X
   try dsimp only at e100 e101
   have HM0 := hd_ hm0; have HB := hd_ hb; have HR := hd_ hX
   have hsz := hb.size
   clear hm0 hb hX hfl hu hul
   go_wp2_with fail
   refine (toSeat_f x0 x1 lo hi _ HR.out (by omega) HX.out).mono ?_
   rintro e5 w5 ⟨rfl, ho5, hb5⟩
   have HM5 := hd_ (HM0.out.below hb5)
   have s5 := hb5.size
   have HB5 := hd_ (HB.out.trans (hb5.mono hsz))
   have g0 : _ = some v0 := HM5.out.cell0 (by decide)
   have g1 : _ = some v1 := HM5.out.cell (i := 1) (by decide)
   have z5 := HM5.out.frozen
   have hgl : w.heap.size < wr.heap.size := hgw
   have HO5 := hd_ ((ho5.setCell (p := ⟨w.heap.size, k * 2, none⟩) hgl (.int .i64 x0)).setCell (p := ⟨w.heap.size, k * 2 + 1, none⟩) hgl (.int .i64 x1))
   clear hb5 ho5 HM0 e100 e101
   go_wp2_with fail
   go_roundw
   case rel =>
    obtain ⟨cs', Fs', hf'⟩ := HN.out _ _ _ _ ((HM5.out.set0 (List.mem_cons_self ..) (by decide) (.int .i64 x0)).set_ (List.mem_cons_self ..) (i := 1) (by decide) (.int .i64 x1)) (Nat.le_refl _) HO5.out
    refine ⟨k + 1, cs', Fs', by omega, by go_num, hf', ?_⟩
    iterate 2 (with_reducible refine Below.setCell ?_ (by simp) _)
    exact HB5.out
   case measure => simp [intOf]; omega
  ·obtain rfl : k = xs.length := by omega
   have HB := hd_ hb; have HFL := hd_ hfl
   clear hb hfl
   go_wp2_with fail
   go_ret
   exact ⟨_, _, rfl, HFL.out.done (by unfold maxLen; omega), HB.out⟩
theorem toTop_f (x0 : Int) (x1 : Int) (x2 : Int) (x3 : List TySeat) (A3 : Option Addr) (c3 : Nat) (lo hi : Nat) (w : World) (h : shTop.R w lo hi [.int .i64 x0, .int .i64 x1, .int .i64 x2, .slice A3 x3.length c3] (x0, x1, x2, x3)) (hhi : hi ≤ w.heap.size) (hf : shTop.fit 1048576 (x0, x1, x2, x3)) :
  Calls Tryz.prog 46 #[.agg #[.int .i64 x0, .int .i64 x1, .int .i64 x2, .slice A3 x3.length c3]] w fun e w' => ∃ (B3 : Option Addr) (d3 : Nat), e = .returned (.agg #[.int .i64 x0, .int .i64 x1, .int .i64 x2, .slice B3 x3.length d3]) ∧ Own shTop w' w.heap.size w'.heap.size [.int .i64 x0, .int .i64 x1, .int .i64 x2, .slice B3 x3.length d3] (x0, x1, x2, x3) ∧ Below w.heap.size w w' := by
 rw [shTop_fit] at hf
 obtain ⟨ft0, ft1, ft2, ft3⟩ := hf
 have HA := hd_ h
 clear h
 go_enter Tryz.func46, Tryz.ntmps46
 go_wp2_with fail
 have T0 := Three.start w 28 42 42 #[.int .i64 x0, .int .i64 x1, .int .i64 x2, .slice A3 x3.length c3] zz8 #[.int .i64 x0, .int .i64 x1, .int .i64 x2, .slice none 0 0]
 refine (toSeatS_f A3 c3 x3 lo hi _ (shTop_f3 (shTop.R_below HA.out T0.2.2.2 hhi)) (Nat.le_trans hhi T0.2.2.2.size) ft3).mono ?_
 rintro e1 w1 ⟨B3, d3, rfl, ho3, hb1⟩
 have T1 := T0.call hb1
 have hs1 : w.heap.size + 1 + 1 + 1 ≤ w1.heap.size := by have := hb1.size; simpa using this
 have ho3 := ho3.more (lo' := w.heap.size + 1 + 1 + 1) (by simp) (Nat.le_refl _)
 clear T0 hb1
 have f0 := T1.1.cell
 have f1 := T1.2.1.cell
 have z1 := T1.2.1.frozen
 have f2 := T1.2.2.1.cell
 have z2 := T1.2.2.1.frozen
 have TT := hd_ T1; clear T1
 have O3 := hd_ ho3; clear ho3
 go_wp2_with fail
 refine bodyPost_ret (v := .agg #[.int .i64 x0, .int .i64 x1, .int .i64 x2, .slice B3 x3.length d3]) (by simp [results, Tryz.results46, go_sem, f1]) rfl ⟨_, _, rfl, ?_, ?_⟩
 ·refine Own.more (lo := w.heap.size + 1 + 1 + 1) (hi := w1.heap.size) ?_ (by omega) (by simp [World.setCell])
  iterate 5 (with_reducible refine Own.setCell ?_ (by dsimp only; omega) _)
  exact (Own.prod (Own.one w1 (w.heap.size + 1 + 1 + 1) (w.heap.size + 1 + 1 + 1) _) (Own.prod (Own.one w1 (w.heap.size + 1 + 1 + 1) (w.heap.size + 1 + 1 + 1) _) (Own.prod (Own.one w1 (w.heap.size + 1 + 1 + 1) (w.heap.size + 1 + 1 + 1) _) O3.out (by omega) (by omega) (by omega)) (by omega) (by omega) (by omega)) (by omega) (by omega) (by omega))
 ·iterate 5 (with_reducible refine Below.setCell ?_ (by simp; try omega) _)
  exact TT.out.2.2.2
theorem toPage_f (x0 : Bool) (x1 : List ByteArray) (x2 : List ByteArray) (x3 : List Int) (A1 : Option Addr) (c1 : Nat) (A2 : Option Addr) (c2 : Nat) (A3 : Option Addr) (c3 : Nat) (lo hi : Nat) (w : World) (h : shPage.R w lo hi [.bool x0, .slice A1 x1.length c1, .slice A2 x2.length c2, .slice A3 x3.length c3] (x0, x1, x2, x3)) (hhi : hi ≤ w.heap.size) (hf : shPage.fit 1048576 (x0, x1, x2, x3)) :
  Calls Tryz.prog 157 #[.agg #[.bool x0, .slice A1 x1.length c1, .slice A2 x2.length c2, .slice A3 x3.length c3]] w fun e w' => ∃ (B1 : Option Addr) (d1 : Nat), ∃ (B2 : Option Addr) (d2 : Nat), ∃ (B3 : Option Addr) (d3 : Nat), e = .returned (.agg #[.bool x0, .slice B1 x1.length d1, .slice B2 x2.length d2, .slice B3 x3.length d3]) ∧ Own shPage w' w.heap.size w'.heap.size [.bool x0, .slice B1 x1.length d1, .slice B2 x2.length d2, .slice B3 x3.length d3] (x0, x1, x2, x3) ∧ Below w.heap.size w w' := by
 rw [shPage_fit] at hf
 obtain ⟨ft0, ft1, ft2, ft3⟩ := hf
 have HA := hd_ h
 clear h
 go_enter Tryz.func157, Tryz.ntmps157
 go_wp2_with fail
 have T0 := Three.start w 122 83 83 #[.bool x0, .slice A1 x1.length c1, .slice A2 x2.length c2, .slice A3 x3.length c3] zz11 #[.bool x0, .slice none 0 0, .slice none 0 0, .slice none 0 0]
 refine (toStringS_f A1 c1 x1 lo hi _ (shPage_f1 (shPage.R_below HA.out T0.2.2.2 hhi)) (Nat.le_trans hhi T0.2.2.2.size) ft1).mono ?_
 rintro e1 w1 ⟨B1, d1, rfl, ho1, hb1⟩
 have T1 := T0.call hb1
 have hs1 : w.heap.size + 1 + 1 + 1 ≤ w1.heap.size := by have := hb1.size; simpa using this
 have ho1 := ho1.more (lo' := w.heap.size + 1 + 1 + 1) (by simp) (Nat.le_refl _)
 clear T0 hb1
 have f0 := T1.1.cell
 have f2 := T1.2.2.1.cell
 have z2 := T1.2.2.1.frozen
 have TT := hd_ (T1.store2 1 (.slice B1 x1.length d1)); clear T1
 have O1 := hd_ (ho1.setCell (p := ⟨w.heap.size + 1 + 1, 1, none⟩) (by dsimp only; omega) (.slice B1 x1.length d1)); clear ho1
 go_wp2_with fail
 clear f0 f2 z2
 have hz1 : (w1.setCell ⟨w.heap.size + 1 + 1, 1, none⟩ (.slice B1 x1.length d1)).heap.size = w1.heap.size := by simp [World.setCell]
 generalize (w1.setCell ⟨w.heap.size + 1 + 1, 1, none⟩ (.slice B1 x1.length d1)) = W1 at *
 refine (toStringS_f A2 c2 x2 lo hi _ (shPage_f2 (shPage.R_below HA.out TT.out.2.2.2 hhi)) (Nat.le_trans hhi TT.out.2.2.2.size) ft2).mono ?_
 rintro e2 w2 ⟨B2, d2, rfl, ho2, hb2⟩
 have T2 := TT.out.call hb2
 have hs2 := hb2.size
 have ho1 := O1.out.below hb2 (by omega)
 clear TT O1 hb2
 have f0 := T2.1.cell
 have f2 := T2.2.2.1.cell
 have z2 := T2.2.2.1.frozen
 have TT := hd_ (T2.store2 2 (.slice B2 x2.length d2)); clear T2
 have O1 := hd_ (ho1.setCell (p := ⟨w.heap.size + 1 + 1, 2, none⟩) (by dsimp only; omega) (.slice B2 x2.length d2)); clear ho1
 have O2 := hd_ (ho2.setCell (p := ⟨w.heap.size + 1 + 1, 2, none⟩) (by dsimp only; omega) (.slice B2 x2.length d2)); clear ho2
 go_wp2_with fail
 clear f0 f2 z2
 have hz2 : (w2.setCell ⟨w.heap.size + 1 + 1, 2, none⟩ (.slice B2 x2.length d2)).heap.size = w2.heap.size := by simp [World.setCell]
 generalize (w2.setCell ⟨w.heap.size + 1 + 1, 2, none⟩ (.slice B2 x2.length d2)) = W2 at *
 refine (toInt64S_f A3 c3 x3 lo hi _ (shPage_f3 (shPage.R_below HA.out TT.out.2.2.2 hhi)) (Nat.le_trans hhi TT.out.2.2.2.size) ft3).mono ?_
 rintro e3 w3 ⟨B3, d3, rfl, ho3, hb3⟩
 have T3 := TT.out.call hb3
 have hs3 := hb3.size
 have ho1 := O1.out.below hb3 (by omega)
 have ho2 := O2.out.below hb3 (by omega)
 clear TT O1 O2 hb3
 have f0 := T3.1.cell
 have f1 := T3.2.1.cell
 have z1 := T3.2.1.frozen
 have f2 := T3.2.2.1.cell
 have z2 := T3.2.2.1.frozen
 have TT := hd_ T3; clear T3
 have O1 := hd_ ho1; clear ho1
 have O2 := hd_ ho2; clear ho2
 have O3 := hd_ ho3; clear ho3
 go_wp2_with fail
 refine bodyPost_ret (v := .agg #[.bool x0, .slice B1 x1.length d1, .slice B2 x2.length d2, .slice B3 x3.length d3]) (by simp [results, Tryz.results157, go_sem, f1]) rfl ⟨_, _, _, _, _, _, rfl, ?_, ?_⟩
 ·refine Own.more (lo := w.heap.size + 1 + 1 + 1) (hi := w3.heap.size) ?_ (by omega) (by simp [World.setCell])
  iterate 5 (with_reducible refine Own.setCell ?_ (by dsimp only; omega) _)
  exact (Own.prod (Own.one w3 (w.heap.size + 1 + 1 + 1) (w.heap.size + 1 + 1 + 1) _) (Own.prod O1.out (Own.prod O2.out O3.out (by omega) (by omega) (by omega)) (by omega) (by omega) (by omega)) (by omega) (by omega) (by omega))
 ·iterate 5 (with_reducible refine Below.setCell ?_ (by simp; try omega) _)
  exact TT.out.2.2.2
theorem toSlot_f (x0 : Int) (x1 : Bool) (x2 : List ByteArray) (x3 : List ByteArray) (x4 : List Int) (A2 : Option Addr) (c2 : Nat) (A3 : Option Addr) (c3 : Nat) (A4 : Option Addr) (c4 : Nat) (lo hi : Nat) (w : World) (h : shSlot.R w lo hi [.int .i64 x0, .bool x1, .slice A2 x2.length c2, .slice A3 x3.length c3, .slice A4 x4.length c4] (x0, (x1, x2, x3, x4))) (hhi : hi ≤ w.heap.size) (hf : shSlot.fit 1048576 (x0, (x1, x2, x3, x4))) :
  Calls Tryz.prog 106 #[.agg #[.int .i64 x0, .bool x1, .slice A2 x2.length c2, .slice A3 x3.length c3, .slice A4 x4.length c4]] w fun e w' => ∃ (B2 : Option Addr) (d2 : Nat), ∃ (B3 : Option Addr) (d3 : Nat), ∃ (B4 : Option Addr) (d4 : Nat), e = .returned (.agg #[.int .i64 x0, .bool x1, .slice B2 x2.length d2, .slice B3 x3.length d3, .slice B4 x4.length d4]) ∧ Own shSlot w' w.heap.size w'.heap.size [.int .i64 x0, .bool x1, .slice B2 x2.length d2, .slice B3 x3.length d3, .slice B4 x4.length d4] (x0, (x1, x2, x3, x4)) ∧ Below w.heap.size w w' := by
 rw [shSlot_fit] at hf
 obtain ⟨ft0, ft1⟩ := hf
 have HA := hd_ h
 clear h
 go_enter Tryz.func106, Tryz.ntmps106
 go_wp2_with fail
 have T0 := Three.start w 124 85 85 #[.int .i64 x0, .bool x1, .slice A2 x2.length c2, .slice A3 x3.length c3, .slice A4 x4.length c4] zz12 #[.int .i64 x0, .bool false, .slice none 0 0, .slice none 0 0, .slice none 0 0]
 refine (toPage_f x1 x2 x3 x4 A2 c2 A3 c3 A4 c4 lo hi _ (shSlot_f1 (shSlot.R_below HA.out T0.2.2.2 hhi)) (Nat.le_trans hhi T0.2.2.2.size) ft1).mono ?_
 rintro e1 w1 ⟨B2, d2, B3, d3, B4, d4, rfl, ho1, hb1⟩
 have T1 := T0.call hb1
 have hs1 : w.heap.size + 1 + 1 + 1 ≤ w1.heap.size := by have := hb1.size; simpa using this
 have ho1 := ho1.more (lo' := w.heap.size + 1 + 1 + 1) (by simp) (Nat.le_refl _)
 clear T0 hb1
 have f0 := T1.1.cell
 have f1 := T1.2.1.cell
 have z1 := T1.2.1.frozen
 have f2 := T1.2.2.1.cell
 have z2 := T1.2.2.1.frozen
 have TT := hd_ T1; clear T1
 have O1 := hd_ ho1; clear ho1
 go_wp2_with fail
 refine bodyPost_ret (v := .agg #[.int .i64 x0, .bool x1, .slice B2 x2.length d2, .slice B3 x3.length d3, .slice B4 x4.length d4]) (by simp [results, Tryz.results106, go_sem, f1]) rfl ⟨_, _, _, _, _, _, rfl, ?_, ?_⟩
 ·refine Own.more (lo := w.heap.size + 1 + 1 + 1) (hi := w1.heap.size) ?_ (by omega) (by simp [World.setCell])
  iterate 9 (with_reducible refine Own.setCell ?_ (by dsimp only; omega) _)
  exact (Own.prod (Own.one w1 (w.heap.size + 1 + 1 + 1) (w.heap.size + 1 + 1 + 1) _) O1.out (by omega) (by omega) (by omega))
 ·iterate 9 (with_reducible refine Below.setCell ?_ (by simp; try omega) _)
  exact TT.out.2.2.2
theorem make_SlotS (n : Nat) (hn : n ≤ 1048576) (w : World) :
  (Instr.makeSlice 48 (.int .i64 (n : Int)) (.int .i64 (n : Int))).run Tryz.prog w = .ok (.slice (some ⟨w.heap.size, 0, none⟩) n n) (w.alloc (.cells (madeCells zeroSlot (n * 5)) 85)) := by
 obtain ⟨i0, hi0, hz0, hz1, hz2⟩ := info_parts infoSlot
 have hb : (i0.bytes : Int) * (n : Int) ≤ 281474976710656 := by
  rw [hz2]; omega
 have hr := run_make (P := Tryz.prog) w 48 85 i0 _ Tryz.underlying48 hi0 hz0 .i64 .i64 n n (by omega) (by omega) hb (by omega)
 simp only [Int.toNat_natCast] at hr
 rw [hr, hz1]
 rfl
theorem toSlotS_f (A : Option Addr) (c : Nat) (xs : List TySlot) (lo hi : Nat) (w : World) (h : (Sh.row 85 shSlot).R w lo hi [.slice A xs.length c] xs) (hhi : hi ≤ w.heap.size) (hf : (Sh.row 85 shSlot).fit 1048576 xs) :
  Calls Tryz.prog 49 #[.slice A xs.length c] w fun e w' => ∃ (B : Option Addr) (d : Nat), e = .returned (.slice B xs.length d) ∧ Own (Sh.row 85 shSlot) w' w.heap.size w'.heap.size [.slice B xs.length d] xs ∧ Below w.heap.size w w' := by
 have hn := hf.1
 have hmk := fun W => make_SlotS xs.length hn W
 have H0 := hd_ (Blk.new w 85 (madeCells zeroSlot (xs.length * 5)))
 have HB0 := hd_ ((Below.refl w.heap.size w).alloc (Nat.le_refl _) (.cells (madeCells zeroSlot (xs.length * 5)) 85))
 have HA := hd_ h; have HF := hd_ hf.2
 clear h hf
 go_enter Tryz.func49, Tryz.ntmps49
 go_wp2_with fail
 go_loopw [4] (fun i wr => ∃ (k : Nat) (cs : Array Value) (Fs : Nat → List Nat), k ≤ xs.length ∧ i = .int .i64 k ∧ Fill shSlot 85 wr w.heap.size cs Fs xs k ∧ Below w.heap.size w wr) (fun i _ => xs.length - (intOf i).toNat)
 case atStart => exact ⟨0, _, fun _ => [], Nat.zero_le _, rfl, Fill.start H0.out (size_madeCells _ _), HB0.out⟩
 case round =>
  clear hmk
  obtain ⟨k, cs, Fs, hk, rfl, hfl, hb⟩ := hrel
  by_cases hlt : k < xs.length
  ·obtain ⟨-, b, off, rfl, hb1, hb2, A2, c2, A3, c3, A4, c4, e100, e101, e102, e103, e104, hX⟩ := shSlot_at ((Sh.row 85 shSlot).R_below HA.out hb hhi) hlt
   have HX := hd_ (HF.out _ (getD_in (d := shSlot.d) hlt))
   obtain ⟨us, hu⟩ := Upd.begin_ (hfl.room hlt)
   have hul : us.length = 5 := hu.len
   obtain ⟨v0, v1, v2, v3, v4, rfl⟩ : ∃ v0 v1 v2 v3 v4, us = [v0, v1, v2, v3, v4] := by
    match us, hul with
    | [v0, v1, v2, v3, v4], _ => exact ⟨v0, v1, v2, v3, v4, rfl⟩
   have hN := fun W vs lo hi => Fill.addM (W := W) (vs := vs) (lo := lo) (hi := hi) hfl hlt
   have HN := hd_ hN; clear hN
   have hm0 : Mid [w.heap.size] w.heap.size 85 cs (k * 5) 5 wr wr [v0, v1, v2, v3, v4] := Mid.start hfl.blk hu _
   have hgw : w.heap.size < wr.heap.size := hfl.blk.lt
   generalize xs.getD k shSlot.d = X at *
   obtain ⟨x0, ⟨x1, x2, x3, x4⟩⟩ := X
   try dsimp only at e100 e101 e102 e103 e104
   have HM0 := hd_ hm0; have HB := hd_ hb; have HR := hd_ hX
   have hsz := hb.size
   clear hm0 hb hX hfl hu hul
   go_wp2_with fail
   refine (toSlot_f x0 x1 x2 x3 x4 A2 c2 A3 c3 A4 c4 lo hi _ HR.out (by omega) HX.out).mono ?_
   rintro e5 w5 ⟨B2, d2, B3, d3, B4, d4, rfl, ho5, hb5⟩
   have HM5 := hd_ (HM0.out.below hb5)
   have s5 := hb5.size
   have HB5 := hd_ (HB.out.trans (hb5.mono hsz))
   have g0 : _ = some v0 := HM5.out.cell0 (by decide)
   have g1 : _ = some v1 := HM5.out.cell (i := 1) (by decide)
   have g2 : _ = some v2 := HM5.out.cell (i := 2) (by decide)
   have g3 : _ = some v3 := HM5.out.cell (i := 3) (by decide)
   have g4 : _ = some v4 := HM5.out.cell (i := 4) (by decide)
   have z5 := HM5.out.frozen
   have hgl : w.heap.size < wr.heap.size := hgw
   have HO5 := hd_ (((((ho5.setCell (p := ⟨w.heap.size, k * 5, none⟩) hgl (.int .i64 x0)).setCell (p := ⟨w.heap.size, k * 5 + 1, none⟩) hgl (.bool x1)).setCell (p := ⟨w.heap.size, k * 5 + 2, none⟩) hgl (.slice B2 x2.length d2)).setCell (p := ⟨w.heap.size, k * 5 + 3, none⟩) hgl (.slice B3 x3.length d3)).setCell (p := ⟨w.heap.size, k * 5 + 4, none⟩) hgl (.slice B4 x4.length d4))
   clear hb5 ho5 HM0 e100 e101 e102 e103 e104
   go_wp2_with fail
   go_roundw
   case rel =>
    obtain ⟨cs', Fs', hf'⟩ := HN.out _ _ _ _ (((((HM5.out.set0 (List.mem_cons_self ..) (by decide) (.int .i64 x0)).set_ (List.mem_cons_self ..) (i := 1) (by decide) (.bool x1)).set_ (List.mem_cons_self ..) (i := 2) (by decide) (.slice B2 x2.length d2)).set_ (List.mem_cons_self ..) (i := 3) (by decide) (.slice B3 x3.length d3)).set_ (List.mem_cons_self ..) (i := 4) (by decide) (.slice B4 x4.length d4)) (Nat.le_refl _) HO5.out
    refine ⟨k + 1, cs', Fs', by omega, by go_num, hf', ?_⟩
    iterate 5 (with_reducible refine Below.setCell ?_ (by simp) _)
    exact HB5.out
   case measure => simp [intOf]; omega
  ·obtain rfl : k = xs.length := by omega
   have HB := hd_ hb; have HFL := hd_ hfl
   clear hb hfl
   go_wp2_with fail
   go_ret
   exact ⟨_, _, rfl, HFL.out.done (by unfold maxLen; omega), HB.out⟩
theorem toBtree_f (x0 : Int) (x1 : List TySlot) (A1 : Option Addr) (c1 : Nat) (lo hi : Nat) (w : World) (h : shBtree.R w lo hi [.int .i64 x0, .slice A1 x1.length c1] (x0, x1)) (hhi : hi ≤ w.heap.size) (hf : shBtree.fit 1048576 (x0, x1)) :
  Calls Tryz.prog 12 #[.agg #[.int .i64 x0, .slice A1 x1.length c1]] w fun e w' => ∃ (B1 : Option Addr) (d1 : Nat), e = .returned (.agg #[.int .i64 x0, .slice B1 x1.length d1]) ∧ Own shBtree w' w.heap.size w'.heap.size [.int .i64 x0, .slice B1 x1.length d1] (x0, x1) ∧ Below w.heap.size w w' := by
 rw [shBtree_fit] at hf
 obtain ⟨ft0, ft1⟩ := hf
 have HA := hd_ h
 clear h
 go_enter Tryz.func12, Tryz.ntmps12
 go_wp2_with fail
 have T0 := Three.start w 34 50 50 #[.int .i64 x0, .slice A1 x1.length c1] #[.int .i64 0, .slice none 0 0] #[.int .i64 x0, .slice none 0 0]
 refine (toSlotS_f A1 c1 x1 lo hi _ (shBtree_f1 (shBtree.R_below HA.out T0.2.2.2 hhi)) (Nat.le_trans hhi T0.2.2.2.size) ft1).mono ?_
 rintro e1 w1 ⟨B1, d1, rfl, ho1, hb1⟩
 have T1 := T0.call hb1
 have hs1 : w.heap.size + 1 + 1 + 1 ≤ w1.heap.size := by have := hb1.size; simpa using this
 have ho1 := ho1.more (lo' := w.heap.size + 1 + 1 + 1) (by simp) (Nat.le_refl _)
 clear T0 hb1
 have f0 := T1.1.cell
 have f1 := T1.2.1.cell
 have z1 := T1.2.1.frozen
 have f2 := T1.2.2.1.cell
 have z2 := T1.2.2.1.frozen
 have TT := hd_ T1; clear T1
 have O1 := hd_ ho1; clear ho1
 go_wp2_with fail
 refine bodyPost_ret (v := .agg #[.int .i64 x0, .slice B1 x1.length d1]) (by simp [results, Tryz.results12, go_sem, f1]) rfl ⟨_, _, rfl, ?_, ?_⟩
 ·refine Own.more (lo := w.heap.size + 1 + 1 + 1) (hi := w1.heap.size) ?_ (by omega) (by simp [World.setCell])
  iterate 3 (with_reducible refine Own.setCell ?_ (by dsimp only; omega) _)
  exact (Own.prod (Own.one w1 (w.heap.size + 1 + 1 + 1) (w.heap.size + 1 + 1 + 1) _) O1.out (by omega) (by omega) (by omega))
 ·iterate 3 (with_reducible refine Below.setCell ?_ (by simp; try omega) _)
  exact TT.out.2.2.2
end Go.Proofs.YtnnabkldceklmaaGreatDoor
