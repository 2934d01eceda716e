/- Image, Parcel, Replica: shapes and the laws' walks (to). Printed by gen_fam.py. -/
import Derived.Test.YtgnmollbnopigaaGreatJoinSTAf
import Derived.Test.YtgnmollbnopigaaGreatJoinSTAr
import Derived.Test.YtgnmollbnopigaaGreatJoinSTAo
set_option maxHeartbeats 16000000
set_option maxRecDepth 100000
namespace Go.Proofs.YtgnmollbnopigaaGreat
open Go.RowKit
theorem toImage_f (x0 : ByteArray) (x1 : List ByteArray) (x2 : Bool) (x3 : ByteArray) (x4 : Bool) (x5 : ByteArray) (A1 : Option Addr) (c1 : Nat) (lo hi : Nat) (w : World) (h : shImage.R w lo hi [.string x0, .slice A1 x1.length c1, .bool x2, .string x3, .bool x4, .string x5] (x0, x1, x2, x3, x4, x5)) (hhi : hi ≤ w.heap.size) (hf : shImage.fit 1048576 (x0, x1, x2, x3, x4, x5)) :
  Calls Tryz.prog 247 #[.agg #[.string x0, .slice A1 x1.length c1, .bool x2, .string x3, .bool x4, .string x5]] w fun e w' => ∃ (B1 : Option Addr) (d1 : Nat), e = .returned (.agg #[.string x0, .slice B1 x1.length d1, .bool x2, .string x3, .bool x4, .string x5]) ∧ Own shImage w' w.heap.size w'.heap.size [.string x0, .slice B1 x1.length d1, .bool x2, .string x3, .bool x4, .string x5] (x0, x1, x2, x3, x4, x5) ∧ Below w.heap.size w w' := by
 rw [shImage_fit] at hf
 obtain ⟨ft0, ft1, ft2, ft3, ft4, ft5⟩ := hf
 have HA := Lib.hid h
 clear h
 go_enter Tryz.func247, Tryz.ntmps247
 go_wp2_with fail
 have T0 := Three.start w 366 284 284 #[.string x0, .slice A1 x1.length c1, .bool x2, .string x3, .bool x4, .string x5] zz14 #[.string x0, .slice none 0 0, .bool false, .string ⟨#[]⟩, .bool false, .string ⟨#[]⟩]
 refine (toStringS_f A1 c1 x1 lo hi _ (shImage_f1 (shImage.R_below HA.out T0.2.2.2 hhi)) (Nat.le_trans hhi T0.2.2.2.size) ft1).mono ?_
 rintro e1 w1 ⟨B1, d1, rfl, ho1, hb1⟩
 have T1 := T0.call hb1
 have hs1 : w.heap.size + 1 + 1 + 1 ≤ w1.heap.size := by have := hb1.size; simpa using this
 have ho1 := ho1.more (lo' := w.heap.size + 1 + 1 + 1) (by simp) (Nat.le_refl _)
 clear T0 hb1
 have f0 := T1.1.cell
 have f1 := T1.2.1.cell
 have z1 := T1.2.1.frozen
 have f2 := T1.2.2.1.cell
 have z2 := T1.2.2.1.frozen
 have TT := Lib.hid T1; clear T1
 have O1 := Lib.hid ho1; clear ho1
 go_wp2_with fail
 refine bodyPost_ret (v := .agg #[.string x0, .slice B1 x1.length d1, .bool x2, .string x3, .bool x4, .string x5]) (by simp [results, Tryz.results247, go_sem, f1]) rfl ⟨_, _, rfl, ?_, ?_⟩
 ·refine Own.more (lo := w.heap.size + 1 + 1 + 1) (hi := w1.heap.size) ?_ (by omega) (by simp [World.setCell])
  iterate 11 (with_reducible refine Own.setCell ?_ (by dsimp only; omega) _)
  exact (Own.prod (Own.one w1 (w.heap.size + 1 + 1 + 1) (w.heap.size + 1 + 1 + 1) _) (Own.prod O1.out (Own.prod (Own.one w1 (w1.heap.size) (w1.heap.size) _) (Own.prod (Own.one w1 (w1.heap.size) (w1.heap.size) _) (Own.prod (Own.one w1 (w1.heap.size) (w1.heap.size) _) (Own.one w1 (w1.heap.size) _ _) (by omega) (by omega) (by omega)) (by omega) (by omega) (by omega)) (by omega) (by omega) (by omega)) (by omega) (by omega) (by omega)) (by omega) (by omega) (by omega))
 ·iterate 11 (with_reducible refine Below.setCell ?_ (by simp; try omega) _)
  exact TT.out.2.2.2
theorem make_ImageS (n : Nat) (hn : n ≤ 1048576) (w : World) :
  (Instr.makeSlice 185 (.int .i64 (n : Int)) (.int .i64 (n : Int))).run Tryz.prog w = .ok (.slice (some ⟨w.heap.size, 0, none⟩) n n) (w.alloc (.cells (madeCells zeroImage (n * 6)) 284)) := by
 obtain ⟨i0, hi0, hz0, hz1, hz2⟩ := info_parts infoImage
 have hb : (i0.bytes : Int) * (n : Int) ≤ 281474976710656 := by
  rw [hz2]; omega
 have hr := run_make (P := Tryz.prog) w 185 284 i0 _ Tryz.underlying185 hi0 hz0 .i64 .i64 n n (by omega) (by omega) hb (by omega)
 simp only [Int.toNat_natCast] at hr
 rw [hr, hz1]
 rfl
theorem toImageS_f (A : Option Addr) (c : Nat) (xs : List TyImage) (lo hi : Nat) (w : World) (h : (Sh.row 284 shImage).R w lo hi [.slice A xs.length c] xs) (hhi : hi ≤ w.heap.size) (hf : (Sh.row 284 shImage).fit 1048576 xs) :
  Calls Tryz.prog 213 #[.slice A xs.length c] w fun e w' => ∃ (B : Option Addr) (d : Nat), e = .returned (.slice B xs.length d) ∧ Own (Sh.row 284 shImage) w' w.heap.size w'.heap.size [.slice B xs.length d] xs ∧ Below w.heap.size w w' := by
 have hn := hf.1
 have hmk := fun W => make_ImageS xs.length hn W
 have H0 := Lib.hid (Blk.new w 284 (madeCells zeroImage (xs.length * 6)))
 have HB0 := Lib.hid ((Below.refl w.heap.size w).alloc (Nat.le_refl _) (.cells (madeCells zeroImage (xs.length * 6)) 284))
 have HA := Lib.hid h; have HF := Lib.hid hf.2
 clear h hf
 go_enter Tryz.func213, Tryz.ntmps213
 go_wp2_with fail
 go_loopw [4] (fun i wr => ∃ (k : Nat) (cs : Array Value) (Fs : Nat → List Nat), k ≤ xs.length ∧ i = .int .i64 k ∧ Fill shImage 284 wr w.heap.size cs Fs xs k ∧ Below w.heap.size w wr) (fun i _ => xs.length - (intOf i).toNat)
 case atStart => exact ⟨0, _, fun _ => [], Nat.zero_le _, rfl, Fill.start H0.out (size_madeCells _ _), HB0.out⟩
 case round =>
  clear hmk
  obtain ⟨k, cs, Fs, hk, rfl, hfl, hb⟩ := hrel
  by_cases hlt : k < xs.length
  ·obtain ⟨-, b, off, rfl, hb1, hb2, A1, c1, e100, e101, e102, e103, e104, e105, hX⟩ := shImage_at ((Sh.row 284 shImage).R_below HA.out hb hhi) hlt
   have HX := Lib.hid (HF.out _ (getD_in (d := shImage.d) hlt))
   obtain ⟨us, hu⟩ := Upd.begin_ (hfl.room hlt)
   have hul : us.length = 6 := hu.len
   obtain ⟨v0, v1, v2, v3, v4, v5, rfl⟩ : ∃ v0 v1 v2 v3 v4 v5, us = [v0, v1, v2, v3, v4, v5] := by
    match us, hul with
    | [v0, v1, v2, v3, v4, v5], _ => exact ⟨v0, v1, v2, v3, v4, v5, rfl⟩
   have hN := fun W vs lo hi => Fill.addM (W := W) (vs := vs) (lo := lo) (hi := hi) hfl hlt
   have HN := Lib.hid hN; clear hN
   have hm0 : Mid [w.heap.size] w.heap.size 284 cs (k * 6) 6 wr wr [v0, v1, v2, v3, v4, v5] := Mid.start hfl.blk hu _
   have hgw : w.heap.size < wr.heap.size := hfl.blk.lt
   generalize xs.getD k shImage.d = X at *
   obtain ⟨x0, x1, x2, x3, x4, x5⟩ := X
   try dsimp only at e100 e101 e102 e103 e104 e105
   have HM0 := Lib.hid hm0; have HB := Lib.hid hb; have HR := Lib.hid hX
   have hsz := hb.size
   clear hm0 hb hX hfl hu hul
   go_wp2_with fail
   refine (toImage_f x0 x1 x2 x3 x4 x5 A1 c1 lo hi _ HR.out (by omega) HX.out).mono ?_
   rintro e5 w5 ⟨B1, d1, rfl, ho5, hb5⟩
   have HM5 := Lib.hid (HM0.out.below hb5)
   have s5 := hb5.size
   have HB5 := Lib.hid (HB.out.trans (hb5.mono hsz))
   have g0 : _ = some v0 := HM5.out.cell0 (by decide)
   have g1 : _ = some v1 := HM5.out.cell (i := 1) (by decide)
   have g2 : _ = some v2 := HM5.out.cell (i := 2) (by decide)
   have g3 : _ = some v3 := HM5.out.cell (i := 3) (by decide)
   have g4 : _ = some v4 := HM5.out.cell (i := 4) (by decide)
   have g5 : _ = some v5 := HM5.out.cell (i := 5) (by decide)
   have z5 := HM5.out.frozen
   have hgl : w.heap.size < wr.heap.size := hgw
   have HO5 := Lib.hid ((((((ho5.setCell (p := ⟨w.heap.size, k * 6, none⟩) hgl (.string x0)).setCell (p := ⟨w.heap.size, k * 6 + 1, none⟩) hgl (.slice B1 x1.length d1)).setCell (p := ⟨w.heap.size, k * 6 + 2, none⟩) hgl (.bool x2)).setCell (p := ⟨w.heap.size, k * 6 + 3, none⟩) hgl (.string x3)).setCell (p := ⟨w.heap.size, k * 6 + 4, none⟩) hgl (.bool x4)).setCell (p := ⟨w.heap.size, k * 6 + 5, none⟩) hgl (.string x5))
   clear hb5 ho5 HM0 e100 e101 e102 e103 e104 e105
   go_wp2_with fail
   go_roundw
   case rel =>
    obtain ⟨cs', Fs', hf'⟩ := HN.out _ _ _ _ ((((((HM5.out.set0 (List.mem_cons_self ..) (by decide) (.string x0)).set_ (List.mem_cons_self ..) (i := 1) (by decide) (.slice B1 x1.length d1)).set_ (List.mem_cons_self ..) (i := 2) (by decide) (.bool x2)).set_ (List.mem_cons_self ..) (i := 3) (by decide) (.string x3)).set_ (List.mem_cons_self ..) (i := 4) (by decide) (.bool x4)).set_ (List.mem_cons_self ..) (i := 5) (by decide) (.string x5)) (Nat.le_refl _) HO5.out
    refine ⟨k + 1, cs', Fs', by omega, by go_num, hf', ?_⟩
    iterate 6 (with_reducible refine Below.setCell ?_ (by simp) _)
    exact HB5.out
   case measure => simp [intOf]; omega
  ·obtain rfl : k = xs.length := by omega
   have HB := Lib.hid hb; have HFL := Lib.hid hfl
   clear hb hfl
   go_wp2_with fail
   go_ret
   exact ⟨_, _, rfl, HFL.out.done (by unfold maxLen; omega), HB.out⟩
theorem toParcel_f (x0 : Int) (x1 : List TyImage) (A1 : Option Addr) (c1 : Nat) (lo hi : Nat) (w : World) (h : shParcel.R w lo hi [.int .i64 x0, .slice A1 x1.length c1] (x0, x1)) (hhi : hi ≤ w.heap.size) (hf : shParcel.fit 1048576 (x0, x1)) :
  Calls Tryz.prog 170 #[.agg #[.int .i64 x0, .slice A1 x1.length c1]] w fun e w' => ∃ (B1 : Option Addr) (d1 : Nat), e = .returned (.agg #[.int .i64 x0, .slice B1 x1.length d1]) ∧ Own shParcel w' w.heap.size w'.heap.size [.int .i64 x0, .slice B1 x1.length d1] (x0, x1) ∧ Below w.heap.size w w' := by
 rw [shParcel_fit] at hf
 obtain ⟨ft0, ft1⟩ := hf
 have HA := Lib.hid h
 clear h
 go_enter Tryz.func170, Tryz.ntmps170
 go_wp2_with fail
 have T0 := Three.start w 282 187 187 #[.int .i64 x0, .slice A1 x1.length c1] #[.int .i64 0, .slice none 0 0] #[.int .i64 x0, .slice none 0 0]
 refine (toImageS_f A1 c1 x1 lo hi _ (shParcel_f1 (shParcel.R_below HA.out T0.2.2.2 hhi)) (Nat.le_trans hhi T0.2.2.2.size) ft1).mono ?_
 rintro e1 w1 ⟨B1, d1, rfl, ho1, hb1⟩
 have T1 := T0.call hb1
 have hs1 : w.heap.size + 1 + 1 + 1 ≤ w1.heap.size := by have := hb1.size; simpa using this
 have ho1 := ho1.more (lo' := w.heap.size + 1 + 1 + 1) (by simp) (Nat.le_refl _)
 clear T0 hb1
 have f0 := T1.1.cell
 have f1 := T1.2.1.cell
 have z1 := T1.2.1.frozen
 have f2 := T1.2.2.1.cell
 have z2 := T1.2.2.1.frozen
 have TT := Lib.hid T1; clear T1
 have O1 := Lib.hid ho1; clear ho1
 go_wp2_with fail
 refine bodyPost_ret (v := .agg #[.int .i64 x0, .slice B1 x1.length d1]) (by simp [results, Tryz.results170, go_sem, f1]) rfl ⟨_, _, rfl, ?_, ?_⟩
 ·refine Own.more (lo := w.heap.size + 1 + 1 + 1) (hi := w1.heap.size) ?_ (by omega) (by simp [World.setCell])
  iterate 3 (with_reducible refine Own.setCell ?_ (by dsimp only; omega) _)
  exact (Own.prod (Own.one w1 (w.heap.size + 1 + 1 + 1) (w.heap.size + 1 + 1 + 1) _) O1.out (by omega) (by omega) (by omega))
 ·iterate 3 (with_reducible refine Below.setCell ?_ (by simp; try omega) _)
  exact TT.out.2.2.2
theorem make_ParcelS (n : Nat) (hn : n ≤ 1048576) (w : World) :
  (Instr.makeSlice 101 (.int .i64 (n : Int)) (.int .i64 (n : Int))).run Tryz.prog w = .ok (.slice (some ⟨w.heap.size, 0, none⟩) n n) (w.alloc (.cells (madeCells zeroParcel (n * 2)) 187)) := by
 obtain ⟨i0, hi0, hz0, hz1, hz2⟩ := info_parts infoParcel
 have hb : (i0.bytes : Int) * (n : Int) ≤ 281474976710656 := by
  rw [hz2]; omega
 have hr := run_make (P := Tryz.prog) w 101 187 i0 _ Tryz.underlying101 hi0 hz0 .i64 .i64 n n (by omega) (by omega) hb (by omega)
 simp only [Int.toNat_natCast] at hr
 rw [hr, hz1]
 rfl
theorem toParcelS_f (A : Option Addr) (c : Nat) (xs : List TyParcel) (lo hi : Nat) (w : World) (h : (Sh.row 187 shParcel).R w lo hi [.slice A xs.length c] xs) (hhi : hi ≤ w.heap.size) (hf : (Sh.row 187 shParcel).fit 1048576 xs) :
  Calls Tryz.prog 97 #[.slice A xs.length c] w fun e w' => ∃ (B : Option Addr) (d : Nat), e = .returned (.slice B xs.length d) ∧ Own (Sh.row 187 shParcel) w' w.heap.size w'.heap.size [.slice B xs.length d] xs ∧ Below w.heap.size w w' := by
 have hn := hf.1
 have hmk := fun W => make_ParcelS xs.length hn W
 have H0 := Lib.hid (Blk.new w 187 (madeCells zeroParcel (xs.length * 2)))
 have HB0 := Lib.hid ((Below.refl w.heap.size w).alloc (Nat.le_refl _) (.cells (madeCells zeroParcel (xs.length * 2)) 187))
 have HA := Lib.hid h; have HF := Lib.hid hf.2
 clear h hf
 go_enter Tryz.func97, Tryz.ntmps97
 go_wp2_with fail
 go_loopw [4] (fun i wr => ∃ (k : Nat) (cs : Array Value) (Fs : Nat → List Nat), k ≤ xs.length ∧ i = .int .i64 k ∧ Fill shParcel 187 wr w.heap.size cs Fs xs k ∧ Below w.heap.size w wr) (fun i _ => xs.length - (intOf i).toNat)
 case atStart => exact ⟨0, _, fun _ => [], Nat.zero_le _, rfl, Fill.start H0.out (size_madeCells _ _), HB0.out⟩
 case round =>
  clear hmk
  obtain ⟨k, cs, Fs, hk, rfl, hfl, hb⟩ := hrel
  by_cases hlt : k < xs.length
  ·obtain ⟨-, b, off, rfl, hb1, hb2, A1, c1, e100, e101, hX⟩ := shParcel_at ((Sh.row 187 shParcel).R_below HA.out hb hhi) hlt
   have HX := Lib.hid (HF.out _ (getD_in (d := shParcel.d) hlt))
   obtain ⟨us, hu⟩ := Upd.begin_ (hfl.room hlt)
   have hul : us.length = 2 := hu.len
   obtain ⟨v0, v1, rfl⟩ : ∃ v0 v1, us = [v0, v1] := by
    match us, hul with
    | [v0, v1], _ => exact ⟨v0, v1, rfl⟩
   have hN := fun W vs lo hi => Fill.addM (W := W) (vs := vs) (lo := lo) (hi := hi) hfl hlt
   have HN := Lib.hid hN; clear hN
   have hm0 : Mid [w.heap.size] w.heap.size 187 cs (k * 2) 2 wr wr [v0, v1] := Mid.start hfl.blk hu _
   have hgw : w.heap.size < wr.heap.size := hfl.blk.lt
   generalize xs.getD k shParcel.d = X at *
   obtain ⟨x0, x1⟩ := X
   try dsimp only at e100 e101
   have HM0 := Lib.hid hm0; have HB := Lib.hid hb; have HR := Lib.hid hX
   have hsz := hb.size
   clear hm0 hb hX hfl hu hul
   go_wp2_with fail
   refine (toParcel_f x0 x1 A1 c1 lo hi _ HR.out (by omega) HX.out).mono ?_
   rintro e5 w5 ⟨B1, d1, rfl, ho5, hb5⟩
   have HM5 := Lib.hid (HM0.out.below hb5)
   have s5 := hb5.size
   have HB5 := Lib.hid (HB.out.trans (hb5.mono hsz))
   have g0 : _ = some v0 := HM5.out.cell0 (by decide)
   have g1 : _ = some v1 := HM5.out.cell (i := 1) (by decide)
   have z5 := HM5.out.frozen
   have hgl : w.heap.size < wr.heap.size := hgw
   have HO5 := Lib.hid ((ho5.setCell (p := ⟨w.heap.size, k * 2, none⟩) hgl (.int .i64 x0)).setCell (p := ⟨w.heap.size, k * 2 + 1, none⟩) hgl (.slice B1 x1.length d1))
   clear hb5 ho5 HM0 e100 e101
   go_wp2_with fail
   go_roundw
   case rel =>
    obtain ⟨cs', Fs', hf'⟩ := HN.out _ _ _ _ ((HM5.out.set0 (List.mem_cons_self ..) (by decide) (.int .i64 x0)).set_ (List.mem_cons_self ..) (i := 1) (by decide) (.slice B1 x1.length d1)) (Nat.le_refl _) HO5.out
    refine ⟨k + 1, cs', Fs', by omega, by go_num, hf', ?_⟩
    iterate 2 (with_reducible refine Below.setCell ?_ (by simp) _)
    exact HB5.out
   case measure => simp [intOf]; omega
  ·obtain rfl : k = xs.length := by omega
   have HB := Lib.hid hb; have HFL := Lib.hid hfl
   clear hb hfl
   go_wp2_with fail
   go_ret
   exact ⟨_, _, rfl, HFL.out.done (by unfold maxLen; omega), HB.out⟩
theorem toReplica_f (x0 : List TyNode) (x1 : Int) (x2 : List TyParcel) (A0 : Option Addr) (c0 : Nat) (A2 : Option Addr) (c2 : Nat) (lo hi : Nat) (w : World) (h : shReplica.R w lo hi [.slice A0 x0.length c0, .int .i64 x1, .slice A2 x2.length c2] (x0, x1, x2)) (hhi : hi ≤ w.heap.size) (hf : shReplica.fit 1048576 (x0, x1, x2)) :
  Calls Tryz.prog 39 #[.agg #[.slice A0 x0.length c0, .int .i64 x1, .slice A2 x2.length c2]] w fun e w' => ∃ (B0 : Option Addr) (d0 : Nat), ∃ (B2 : Option Addr) (d2 : Nat), e = .returned (.agg #[.slice B0 x0.length d0, .int .i64 x1, .slice B2 x2.length d2]) ∧ Own shReplica w' w.heap.size w'.heap.size [.slice B0 x0.length d0, .int .i64 x1, .slice B2 x2.length d2] (x0, x1, x2) ∧ Below w.heap.size w w' := by
 rw [shReplica_fit] at hf
 obtain ⟨ft0, ft1, ft2⟩ := hf
 have HA := Lib.hid h
 clear h
 go_enter Tryz.func39, Tryz.ntmps39
 go_wp2_with fail
 have T0 := Three.start w 96 103 103 #[.slice A0 x0.length c0, .int .i64 x1, .slice A2 x2.length c2] #[.slice none 0 0, .int .i64 0, .slice none 0 0] #[.slice none 0 0, .int .i64 0, .slice none 0 0]
 refine (toTree_f x0 A0 c0 lo hi _ (shReplica_f0 (shReplica.R_below HA.out T0.2.2.2 hhi)) (Nat.le_trans hhi T0.2.2.2.size) ft0).mono ?_
 rintro e1 w1 ⟨B0, d0, rfl, ho0, hb1⟩
 have T1 := T0.call hb1
 have hs1 : w.heap.size + 1 + 1 + 1 ≤ w1.heap.size := by have := hb1.size; simpa using this
 have ho0 := ho0.more (lo' := w.heap.size + 1 + 1 + 1) (by simp) (Nat.le_refl _)
 clear T0 hb1
 have f0 := T1.1.cell
 have f2 := T1.2.2.1.cell
 have z2 := T1.2.2.1.frozen
 have TT := Lib.hid ((T1.store2 0 (.slice B0 x0.length d0)).store2 1 (.int .i64 x1)); clear T1
 have O0 := Lib.hid ((ho0.setCell (p := ⟨w.heap.size + 1 + 1, 0, none⟩) (by dsimp only; omega) (.slice B0 x0.length d0)).setCell (p := ⟨w.heap.size + 1 + 1, 1, none⟩) (by dsimp only; omega) (.int .i64 x1)); clear ho0
 go_wp2_with fail
 clear f0 f2 z2
 have hz1 : ((w1.setCell ⟨w.heap.size + 1 + 1, 0, none⟩ (.slice B0 x0.length d0)).setCell ⟨w.heap.size + 1 + 1, 1, none⟩ (.int .i64 x1)).heap.size = w1.heap.size := by simp [World.setCell]
 generalize ((w1.setCell ⟨w.heap.size + 1 + 1, 0, none⟩ (.slice B0 x0.length d0)).setCell ⟨w.heap.size + 1 + 1, 1, none⟩ (.int .i64 x1)) = W1 at *
 refine (toParcelS_f A2 c2 x2 lo hi _ (shReplica_f2 (shReplica.R_below HA.out TT.out.2.2.2 hhi)) (Nat.le_trans hhi TT.out.2.2.2.size) ft2).mono ?_
 rintro e2 w2 ⟨B2, d2, rfl, ho2, hb2⟩
 have T2 := TT.out.call hb2
 have hs2 := hb2.size
 have ho0 := O0.out.below hb2 (by omega)
 clear TT O0 hb2
 have f0 := T2.1.cell
 have f1 := T2.2.1.cell
 have z1 := T2.2.1.frozen
 have f2 := T2.2.2.1.cell
 have z2 := T2.2.2.1.frozen
 have TT := Lib.hid T2; clear T2
 have O0 := Lib.hid ho0; clear ho0
 have O2 := Lib.hid ho2; clear ho2
 go_wp2_with fail
 refine bodyPost_ret (v := .agg #[.slice B0 x0.length d0, .int .i64 x1, .slice B2 x2.length d2]) (by simp [results, Tryz.results39, go_sem, f1]) rfl ⟨_, _, _, _, rfl, ?_, ?_⟩
 ·refine Own.more (lo := w.heap.size + 1 + 1 + 1) (hi := w2.heap.size) ?_ (by omega) (by simp [World.setCell])
  iterate 4 (with_reducible refine Own.setCell ?_ (by dsimp only; omega) _)
  exact (Own.prod O0.out (Own.prod (Own.one w2 (w1.heap.size) (w1.heap.size) _) O2.out (by omega) (by omega) (by omega)) (by omega) (by omega) (by omega))
 ·iterate 4 (with_reducible refine Below.setCell ?_ (by simp; try omega) _)
  exact TT.out.2.2.2
end Go.Proofs.YtgnmollbnopigaaGreat
