/- Ins, Entry, Program, Trigger, Lock, Ask, Locks, Event, Trans, Batch, Put, Disk, Seat, Top, Journal, Page, Slot, Btree: shapes and the laws' walks (to). Printed by gen_fam.py. -/
import Derived.Test.YtgnmollbnopigaaGreatJoinSSAh
import Derived.Test.YtgnmollbnopigaaGreatJoinSSAk
import Derived.Test.YtgnmollbnopigaaGreatJoinSSAn
set_option maxHeartbeats 16000000
set_option maxRecDepth 100000
namespace Go.Proofs.YtgnmollbnopigaaGreat
open Go.RowKit
theorem toIns_f (x0 : Int) (x1 : Int) (x2 : Int) (x3 : ByteArray) (lo hi : Nat) (w : World) (h : shIns.R w lo hi [.int .i64 x0, .int .i64 x1, .int .i64 x2, .string x3] (x0, x1, x2, x3)) (_ : hi ≤ w.heap.size) (hf : shIns.fit 1048576 (x0, x1, x2, x3)) :
  Calls Tryz.prog 185 #[.agg #[.int .i64 x0, .int .i64 x1, .int .i64 x2, .string x3]] w fun e w' => e = .returned (.agg #[.int .i64 x0, .int .i64 x1, .int .i64 x2, .string x3]) ∧ Own shIns w' w.heap.size w'.heap.size [.int .i64 x0, .int .i64 x1, .int .i64 x2, .string x3] (x0, x1, x2, x3) ∧ Below w.heap.size w w' := by
 rw [shIns_fit] at hf
 obtain ⟨ft0, ft1, ft2, ft3⟩ := hf
 have HA := Lib.hid h
 clear h
 go_enter Tryz.func185, Tryz.ntmps185
 go_wp2_with fail
 have T0 := Three.start w 289 226 226 #[.int .i64 x0, .int .i64 x1, .int .i64 x2, .string x3] #[.int .i64 x0, .int .i64 x1, .int .i64 x2, .string x3] #[.int .i64 x0, .int .i64 x1, .int .i64 x2, .string x3]
 refine bodyPost_ret (v := .agg #[.int .i64 x0, .int .i64 x1, .int .i64 x2, .string x3]) (by simp [results, Tryz.results185, go_sem]) rfl ⟨rfl, ?_, ?_⟩
 ·refine Own.more (lo := w.heap.size) (hi := w.heap.size) ?_ (Nat.le_refl _) T0.2.2.2.size
  exact (Own.prod (Own.one _ (w.heap.size) (w.heap.size) _) (Own.prod (Own.one _ (w.heap.size) (w.heap.size) _) (Own.prod (Own.one _ (w.heap.size) (w.heap.size) _) (Own.one _ (w.heap.size) _ _) (by omega) (by omega) (by omega)) (by omega) (by omega) (by omega)) (by omega) (by omega) (by omega))
 ·exact T0.2.2.2
theorem make_InsS (n : Nat) (hn : n ≤ 1048576) (w : World) :
  (Instr.makeSlice 59 (.int .i64 (n : Int)) (.int .i64 (n : Int))).run Tryz.prog w = .ok (.slice (some ⟨w.heap.size, 0, none⟩) n n) (w.alloc (.cells (madeCells zeroIns (n * 4)) 226)) := by
 obtain ⟨i0, hi0, hz0, hz1, hz2⟩ := info_parts infoIns
 have hb : (i0.bytes : Int) * (n : Int) ≤ 281474976710656 := by
  rw [hz2]; omega
 have hr := run_make (P := Tryz.prog) w 59 226 i0 _ Tryz.underlying59 hi0 hz0 .i64 .i64 n n (by omega) (by omega) hb (by omega)
 simp only [Int.toNat_natCast] at hr
 rw [hr, hz1]
 rfl
theorem toInsS_f (A : Option Addr) (c : Nat) (xs : List TyIns) (lo hi : Nat) (w : World) (h : (Sh.row 226 shIns).R w lo hi [.slice A xs.length c] xs) (hhi : hi ≤ w.heap.size) (hf : (Sh.row 226 shIns).fit 1048576 xs) :
  Calls Tryz.prog 123 #[.slice A xs.length c] w fun e w' => ∃ (B : Option Addr) (d : Nat), e = .returned (.slice B xs.length d) ∧ Own (Sh.row 226 shIns) w' w.heap.size w'.heap.size [.slice B xs.length d] xs ∧ Below w.heap.size w w' := by
 have hn := hf.1
 have hmk := fun W => make_InsS xs.length hn W
 have H0 := Lib.hid (Blk.new w 226 (madeCells zeroIns (xs.length * 4)))
 have HB0 := Lib.hid ((Below.refl w.heap.size w).alloc (Nat.le_refl _) (.cells (madeCells zeroIns (xs.length * 4)) 226))
 have HA := Lib.hid h; have HF := Lib.hid hf.2
 clear h hf
 go_enter Tryz.func123, Tryz.ntmps123
 go_wp2_with fail
 go_loopw [4] (fun i wr => ∃ (k : Nat) (cs : Array Value) (Fs : Nat → List Nat), k ≤ xs.length ∧ i = .int .i64 k ∧ Fill shIns 226 wr w.heap.size cs Fs xs k ∧ Below w.heap.size w wr) (fun i _ => xs.length - (intOf i).toNat)
 case atStart => exact ⟨0, _, fun _ => [], Nat.zero_le _, rfl, Fill.start H0.out (size_madeCells _ _), HB0.out⟩
 case round =>
  clear hmk
  obtain ⟨k, cs, Fs, hk, rfl, hfl, hb⟩ := hrel
  by_cases hlt : k < xs.length
  ·obtain ⟨-, b, off, rfl, hb1, hb2, e100, e101, e102, e103, hX⟩ := shIns_at ((Sh.row 226 shIns).R_below HA.out hb hhi) hlt
   have HX := Lib.hid (HF.out _ (getD_in (d := shIns.d) hlt))
   obtain ⟨us, hu⟩ := Upd.begin_ (hfl.room hlt)
   have hul : us.length = 4 := hu.len
   obtain ⟨v0, v1, v2, v3, rfl⟩ : ∃ v0 v1 v2 v3, us = [v0, v1, v2, v3] := by
    match us, hul with
    | [v0, v1, v2, v3], _ => exact ⟨v0, v1, v2, v3, rfl⟩
   have hN := fun W vs lo hi => Fill.addM (W := W) (vs := vs) (lo := lo) (hi := hi) hfl hlt
   have HN := Lib.hid hN; clear hN
   have hm0 : Mid [w.heap.size] w.heap.size 226 cs (k * 4) 4 wr wr [v0, v1, v2, v3] := Mid.start hfl.blk hu _
   have hgw : w.heap.size < wr.heap.size := hfl.blk.lt
   generalize xs.getD k shIns.d = X at *
   obtain ⟨x0, x1, x2, x3⟩ := X
   try dsimp only at e100 e101 e102 e103
   have HM0 := Lib.hid hm0; have HB := Lib.hid hb; have HR := Lib.hid hX
   have hsz := hb.size
   clear hm0 hb hX hfl hu hul
   go_wp2_with fail
   refine (toIns_f x0 x1 x2 x3 lo hi _ HR.out (by omega) HX.out).mono ?_
   rintro e5 w5 ⟨rfl, ho5, hb5⟩
   have HM5 := Lib.hid (HM0.out.below hb5)
   have s5 := hb5.size
   have HB5 := Lib.hid (HB.out.trans (hb5.mono hsz))
   have g0 : _ = some v0 := HM5.out.cell0 (by decide)
   have g1 : _ = some v1 := HM5.out.cell (i := 1) (by decide)
   have g2 : _ = some v2 := HM5.out.cell (i := 2) (by decide)
   have g3 : _ = some v3 := HM5.out.cell (i := 3) (by decide)
   have z5 := HM5.out.frozen
   have hgl : w.heap.size < wr.heap.size := hgw
   have HO5 := Lib.hid ((((ho5.setCell (p := ⟨w.heap.size, k * 4, none⟩) hgl (.int .i64 x0)).setCell (p := ⟨w.heap.size, k * 4 + 1, none⟩) hgl (.int .i64 x1)).setCell (p := ⟨w.heap.size, k * 4 + 2, none⟩) hgl (.int .i64 x2)).setCell (p := ⟨w.heap.size, k * 4 + 3, none⟩) hgl (.string x3))
   clear hb5 ho5 HM0 e100 e101 e102 e103
   go_wp2_with fail
   go_roundw
   case rel =>
    obtain ⟨cs', Fs', hf'⟩ := HN.out _ _ _ _ ((((HM5.out.set0 (List.mem_cons_self ..) (by decide) (.int .i64 x0)).set_ (List.mem_cons_self ..) (i := 1) (by decide) (.int .i64 x1)).set_ (List.mem_cons_self ..) (i := 2) (by decide) (.int .i64 x2)).set_ (List.mem_cons_self ..) (i := 3) (by decide) (.string x3)) (Nat.le_refl _) HO5.out
    refine ⟨k + 1, cs', Fs', by omega, by go_num, hf', ?_⟩
    iterate 4 (with_reducible refine Below.setCell ?_ (by simp) _)
    exact HB5.out
   case measure => simp [intOf]; omega
  ·obtain rfl : k = xs.length := by omega
   have HB := Lib.hid hb; have HFL := Lib.hid hfl
   clear hb hfl
   go_wp2_with fail
   go_ret
   exact ⟨_, _, rfl, HFL.out.done (by unfold maxLen; omega), HB.out⟩
theorem toEntry_f (x0 : ByteArray) (x1 : ByteArray) (x2 : Int) (x3 : List ByteArray) (A3 : Option Addr) (c3 : Nat) (lo hi : Nat) (w : World) (h : shEntry.R w lo hi [.string x0, .string x1, .int .i64 x2, .slice A3 x3.length c3] (x0, x1, x2, x3)) (hhi : hi ≤ w.heap.size) (hf : shEntry.fit 1048576 (x0, x1, x2, x3)) :
  Calls Tryz.prog 186 #[.agg #[.string x0, .string x1, .int .i64 x2, .slice A3 x3.length c3]] w fun e w' => ∃ (B3 : Option Addr) (d3 : Nat), e = .returned (.agg #[.string x0, .string x1, .int .i64 x2, .slice B3 x3.length d3]) ∧ Own shEntry w' w.heap.size w'.heap.size [.string x0, .string x1, .int .i64 x2, .slice B3 x3.length d3] (x0, x1, x2, x3) ∧ Below w.heap.size w w' := by
 rw [shEntry_fit] at hf
 obtain ⟨ft0, ft1, ft2, ft3⟩ := hf
 have HA := Lib.hid h
 clear h
 go_enter Tryz.func186, Tryz.ntmps186
 go_wp2_with fail
 have T0 := Three.start w 291 228 228 #[.string x0, .string x1, .int .i64 x2, .slice A3 x3.length c3] zz4 #[.string x0, .string x1, .int .i64 x2, .slice none 0 0]
 refine (toStringS_f A3 c3 x3 lo hi _ (shEntry_f3 (shEntry.R_below HA.out T0.2.2.2 hhi)) (Nat.le_trans hhi T0.2.2.2.size) ft3).mono ?_
 rintro e1 w1 ⟨B3, d3, rfl, ho3, hb1⟩
 have T1 := T0.call hb1
 have hs1 : w.heap.size + 1 + 1 + 1 ≤ w1.heap.size := by have := hb1.size; simpa using this
 have ho3 := ho3.more (lo' := w.heap.size + 1 + 1 + 1) (by simp) (Nat.le_refl _)
 clear T0 hb1
 have f0 := T1.1.cell
 have f1 := T1.2.1.cell
 have z1 := T1.2.1.frozen
 have f2 := T1.2.2.1.cell
 have z2 := T1.2.2.1.frozen
 have TT := Lib.hid T1; clear T1
 have O3 := Lib.hid ho3; clear ho3
 go_wp2_with fail
 refine bodyPost_ret (v := .agg #[.string x0, .string x1, .int .i64 x2, .slice B3 x3.length d3]) (by simp [results, Tryz.results186, go_sem, f1]) rfl ⟨_, _, rfl, ?_, ?_⟩
 ·refine Own.more (lo := w.heap.size + 1 + 1 + 1) (hi := w1.heap.size) ?_ (by omega) (by simp [World.setCell])
  iterate 5 (with_reducible refine Own.setCell ?_ (by dsimp only; omega) _)
  exact (Own.prod (Own.one w1 (w.heap.size + 1 + 1 + 1) (w.heap.size + 1 + 1 + 1) _) (Own.prod (Own.one w1 (w.heap.size + 1 + 1 + 1) (w.heap.size + 1 + 1 + 1) _) (Own.prod (Own.one w1 (w.heap.size + 1 + 1 + 1) (w.heap.size + 1 + 1 + 1) _) O3.out (by omega) (by omega) (by omega)) (by omega) (by omega) (by omega)) (by omega) (by omega) (by omega))
 ·iterate 5 (with_reducible refine Below.setCell ?_ (by simp; try omega) _)
  exact TT.out.2.2.2
theorem make_EntryS (n : Nat) (hn : n ≤ 1048576) (w : World) :
  (Instr.makeSlice 60 (.int .i64 (n : Int)) (.int .i64 (n : Int))).run Tryz.prog w = .ok (.slice (some ⟨w.heap.size, 0, none⟩) n n) (w.alloc (.cells (madeCells zeroEntry (n * 4)) 228)) := by
 obtain ⟨i0, hi0, hz0, hz1, hz2⟩ := info_parts infoEntry
 have hb : (i0.bytes : Int) * (n : Int) ≤ 281474976710656 := by
  rw [hz2]; omega
 have hr := run_make (P := Tryz.prog) w 60 228 i0 _ Tryz.underlying60 hi0 hz0 .i64 .i64 n n (by omega) (by omega) hb (by omega)
 simp only [Int.toNat_natCast] at hr
 rw [hr, hz1]
 rfl
theorem toEntryS_f (A : Option Addr) (c : Nat) (xs : List TyEntry) (lo hi : Nat) (w : World) (h : (Sh.row 228 shEntry).R w lo hi [.slice A xs.length c] xs) (hhi : hi ≤ w.heap.size) (hf : (Sh.row 228 shEntry).fit 1048576 xs) :
  Calls Tryz.prog 124 #[.slice A xs.length c] w fun e w' => ∃ (B : Option Addr) (d : Nat), e = .returned (.slice B xs.length d) ∧ Own (Sh.row 228 shEntry) w' w.heap.size w'.heap.size [.slice B xs.length d] xs ∧ Below w.heap.size w w' := by
 have hn := hf.1
 have hmk := fun W => make_EntryS xs.length hn W
 have H0 := Lib.hid (Blk.new w 228 (madeCells zeroEntry (xs.length * 4)))
 have HB0 := Lib.hid ((Below.refl w.heap.size w).alloc (Nat.le_refl _) (.cells (madeCells zeroEntry (xs.length * 4)) 228))
 have HA := Lib.hid h; have HF := Lib.hid hf.2
 clear h hf
 go_enter Tryz.func124, Tryz.ntmps124
 go_wp2_with fail
 go_loopw [4] (fun i wr => ∃ (k : Nat) (cs : Array Value) (Fs : Nat → List Nat), k ≤ xs.length ∧ i = .int .i64 k ∧ Fill shEntry 228 wr w.heap.size cs Fs xs k ∧ Below w.heap.size w wr) (fun i _ => xs.length - (intOf i).toNat)
 case atStart => exact ⟨0, _, fun _ => [], Nat.zero_le _, rfl, Fill.start H0.out (size_madeCells _ _), HB0.out⟩
 case round =>
  clear hmk
  obtain ⟨k, cs, Fs, hk, rfl, hfl, hb⟩ := hrel
  by_cases hlt : k < xs.length
  ·obtain ⟨-, b, off, rfl, hb1, hb2, A3, c3, e100, e101, e102, e103, hX⟩ := shEntry_at ((Sh.row 228 shEntry).R_below HA.out hb hhi) hlt
   have HX := Lib.hid (HF.out _ (getD_in (d := shEntry.d) hlt))
   obtain ⟨us, hu⟩ := Upd.begin_ (hfl.room hlt)
   have hul : us.length = 4 := hu.len
   obtain ⟨v0, v1, v2, v3, rfl⟩ : ∃ v0 v1 v2 v3, us = [v0, v1, v2, v3] := by
    match us, hul with
    | [v0, v1, v2, v3], _ => exact ⟨v0, v1, v2, v3, rfl⟩
   have hN := fun W vs lo hi => Fill.addM (W := W) (vs := vs) (lo := lo) (hi := hi) hfl hlt
   have HN := Lib.hid hN; clear hN
   have hm0 : Mid [w.heap.size] w.heap.size 228 cs (k * 4) 4 wr wr [v0, v1, v2, v3] := Mid.start hfl.blk hu _
   have hgw : w.heap.size < wr.heap.size := hfl.blk.lt
   generalize xs.getD k shEntry.d = X at *
   obtain ⟨x0, x1, x2, x3⟩ := X
   try dsimp only at e100 e101 e102 e103
   have HM0 := Lib.hid hm0; have HB := Lib.hid hb; have HR := Lib.hid hX
   have hsz := hb.size
   clear hm0 hb hX hfl hu hul
   go_wp2_with fail
   refine (toEntry_f x0 x1 x2 x3 A3 c3 lo hi _ HR.out (by omega) HX.out).mono ?_
   rintro e5 w5 ⟨B3, d3, rfl, ho5, hb5⟩
   have HM5 := Lib.hid (HM0.out.below hb5)
   have s5 := hb5.size
   have HB5 := Lib.hid (HB.out.trans (hb5.mono hsz))
   have g0 : _ = some v0 := HM5.out.cell0 (by decide)
   have g1 : _ = some v1 := HM5.out.cell (i := 1) (by decide)
   have g2 : _ = some v2 := HM5.out.cell (i := 2) (by decide)
   have g3 : _ = some v3 := HM5.out.cell (i := 3) (by decide)
   have z5 := HM5.out.frozen
   have hgl : w.heap.size < wr.heap.size := hgw
   have HO5 := Lib.hid ((((ho5.setCell (p := ⟨w.heap.size, k * 4, none⟩) hgl (.string x0)).setCell (p := ⟨w.heap.size, k * 4 + 1, none⟩) hgl (.string x1)).setCell (p := ⟨w.heap.size, k * 4 + 2, none⟩) hgl (.int .i64 x2)).setCell (p := ⟨w.heap.size, k * 4 + 3, none⟩) hgl (.slice B3 x3.length d3))
   clear hb5 ho5 HM0 e100 e101 e102 e103
   go_wp2_with fail
   go_roundw
   case rel =>
    obtain ⟨cs', Fs', hf'⟩ := HN.out _ _ _ _ ((((HM5.out.set0 (List.mem_cons_self ..) (by decide) (.string x0)).set_ (List.mem_cons_self ..) (i := 1) (by decide) (.string x1)).set_ (List.mem_cons_self ..) (i := 2) (by decide) (.int .i64 x2)).set_ (List.mem_cons_self ..) (i := 3) (by decide) (.slice B3 x3.length d3)) (Nat.le_refl _) HO5.out
    refine ⟨k + 1, cs', Fs', by omega, by go_num, hf', ?_⟩
    iterate 4 (with_reducible refine Below.setCell ?_ (by simp) _)
    exact HB5.out
   case measure => simp [intOf]; omega
  ·obtain rfl : k = xs.length := by omega
   have HB := Lib.hid hb; have HFL := Lib.hid hfl
   clear hb hfl
   go_wp2_with fail
   go_ret
   exact ⟨_, _, rfl, HFL.out.done (by unfold maxLen; omega), HB.out⟩
theorem toProgram_f (x0 : List TyIns) (x1 : List TyEntry) (A0 : Option Addr) (c0 : Nat) (A1 : Option Addr) (c1 : Nat) (lo hi : Nat) (w : World) (h : shProgram.R w lo hi [.slice A0 x0.length c0, .slice A1 x1.length c1] (x0, x1)) (hhi : hi ≤ w.heap.size) (hf : shProgram.fit 1048576 (x0, x1)) :
  Calls Tryz.prog 63 #[.agg #[.slice A0 x0.length c0, .slice A1 x1.length c1]] w fun e w' => ∃ (B0 : Option Addr) (d0 : Nat), ∃ (B1 : Option Addr) (d1 : Nat), e = .returned (.agg #[.slice B0 x0.length d0, .slice B1 x1.length d1]) ∧ Own shProgram w' w.heap.size w'.heap.size [.slice B0 x0.length d0, .slice B1 x1.length d1] (x0, x1) ∧ Below w.heap.size w w' := by
 rw [shProgram_fit] at hf
 obtain ⟨ft0, ft1⟩ := hf
 have HA := Lib.hid h
 clear h
 go_enter Tryz.func63, Tryz.ntmps63
 go_wp2_with fail
 have T0 := Three.start w 25 62 62 #[.slice A0 x0.length c0, .slice A1 x1.length c1] #[.slice none 0 0, .slice none 0 0] #[.slice none 0 0, .slice none 0 0]
 refine (toInsS_f A0 c0 x0 lo hi _ (shProgram_f0 (shProgram.R_below HA.out T0.2.2.2 hhi)) (Nat.le_trans hhi T0.2.2.2.size) ft0).mono ?_
 rintro e1 w1 ⟨B0, d0, rfl, ho0, hb1⟩
 have T1 := T0.call hb1
 have hs1 : w.heap.size + 1 + 1 + 1 ≤ w1.heap.size := by have := hb1.size; simpa using this
 have ho0 := ho0.more (lo' := w.heap.size + 1 + 1 + 1) (by simp) (Nat.le_refl _)
 clear T0 hb1
 have f0 := T1.1.cell
 have f2 := T1.2.2.1.cell
 have z2 := T1.2.2.1.frozen
 have TT := Lib.hid (T1.store2 0 (.slice B0 x0.length d0)); clear T1
 have O0 := Lib.hid (ho0.setCell (p := ⟨w.heap.size + 1 + 1, 0, none⟩) (by dsimp only; omega) (.slice B0 x0.length d0)); clear ho0
 go_wp2_with fail
 clear f0 f2 z2
 have hz1 : (w1.setCell ⟨w.heap.size + 1 + 1, 0, none⟩ (.slice B0 x0.length d0)).heap.size = w1.heap.size := by simp [World.setCell]
 generalize (w1.setCell ⟨w.heap.size + 1 + 1, 0, none⟩ (.slice B0 x0.length d0)) = W1 at *
 refine (toEntryS_f A1 c1 x1 lo hi _ (shProgram_f1 (shProgram.R_below HA.out TT.out.2.2.2 hhi)) (Nat.le_trans hhi TT.out.2.2.2.size) ft1).mono ?_
 rintro e2 w2 ⟨B1, d1, rfl, ho1, hb2⟩
 have T2 := TT.out.call hb2
 have hs2 := hb2.size
 have ho0 := O0.out.below hb2 (by omega)
 clear TT O0 hb2
 have f0 := T2.1.cell
 have f1 := T2.2.1.cell
 have z1 := T2.2.1.frozen
 have f2 := T2.2.2.1.cell
 have z2 := T2.2.2.1.frozen
 have TT := Lib.hid T2; clear T2
 have O0 := Lib.hid ho0; clear ho0
 have O1 := Lib.hid ho1; clear ho1
 go_wp2_with fail
 refine bodyPost_ret (v := .agg #[.slice B0 x0.length d0, .slice B1 x1.length d1]) (by simp [results, Tryz.results63, go_sem, f1]) rfl ⟨_, _, _, _, rfl, ?_, ?_⟩
 ·refine Own.more (lo := w.heap.size + 1 + 1 + 1) (hi := w2.heap.size) ?_ (by omega) (by simp [World.setCell])
  iterate 3 (with_reducible refine Own.setCell ?_ (by dsimp only; omega) _)
  exact (Own.prod O0.out O1.out (by omega) (by omega) (by omega))
 ·iterate 3 (with_reducible refine Below.setCell ?_ (by simp; try omega) _)
  exact TT.out.2.2.2
theorem toTrigger_f (x0 : Int) (x1 : ByteArray) (x2 : List ByteArray) (x3 : Bool) (x4 : Bool) (x5 : ByteArray) (x6 : ByteArray) (A2 : Option Addr) (c2 : Nat) (lo hi : Nat) (w : World) (h : shTrigger.R w lo hi [.int .i64 x0, .string x1, .slice A2 x2.length c2, .bool x3, .bool x4, .string x5, .string x6] (x0, x1, x2, x3, x4, x5, x6)) (hhi : hi ≤ w.heap.size) (hf : shTrigger.fit 1048576 (x0, x1, x2, x3, x4, x5, x6)) :
  Calls Tryz.prog 125 #[.agg #[.int .i64 x0, .string x1, .slice A2 x2.length c2, .bool x3, .bool x4, .string x5, .string x6]] w fun e w' => ∃ (B2 : Option Addr) (d2 : Nat), e = .returned (.agg #[.int .i64 x0, .string x1, .slice B2 x2.length d2, .bool x3, .bool x4, .string x5, .string x6]) ∧ Own shTrigger w' w.heap.size w'.heap.size [.int .i64 x0, .string x1, .slice B2 x2.length d2, .bool x3, .bool x4, .string x5, .string x6] (x0, x1, x2, x3, x4, x5, x6) ∧ Below w.heap.size w w' := by
 rw [shTrigger_fit] at hf
 obtain ⟨ft0, ft1, ft2, ft3, ft4, ft5, ft6⟩ := hf
 have HA := Lib.hid h
 clear h
 go_enter Tryz.func125, Tryz.ntmps125
 go_wp2_with fail
 have T0 := Three.start w 197 229 229 #[.int .i64 x0, .string x1, .slice A2 x2.length c2, .bool x3, .bool x4, .string x5, .string x6] zz5 #[.int .i64 x0, .string x1, .slice none 0 0, .bool false, .bool false, .string ⟨#[]⟩, .string ⟨#[]⟩]
 refine (toStringS_f A2 c2 x2 lo hi _ (shTrigger_f2 (shTrigger.R_below HA.out T0.2.2.2 hhi)) (Nat.le_trans hhi T0.2.2.2.size) ft2).mono ?_
 rintro e1 w1 ⟨B2, d2, rfl, ho2, hb1⟩
 have T1 := T0.call hb1
 have hs1 : w.heap.size + 1 + 1 + 1 ≤ w1.heap.size := by have := hb1.size; simpa using this
 have ho2 := ho2.more (lo' := w.heap.size + 1 + 1 + 1) (by simp) (Nat.le_refl _)
 clear T0 hb1
 have f0 := T1.1.cell
 have f1 := T1.2.1.cell
 have z1 := T1.2.1.frozen
 have f2 := T1.2.2.1.cell
 have z2 := T1.2.2.1.frozen
 have TT := Lib.hid T1; clear T1
 have O2 := Lib.hid ho2; clear ho2
 go_wp2_with fail
 refine bodyPost_ret (v := .agg #[.int .i64 x0, .string x1, .slice B2 x2.length d2, .bool x3, .bool x4, .string x5, .string x6]) (by simp [results, Tryz.results125, go_sem, f1]) rfl ⟨_, _, rfl, ?_, ?_⟩
 ·refine Own.more (lo := w.heap.size + 1 + 1 + 1) (hi := w1.heap.size) ?_ (by omega) (by simp [World.setCell])
  iterate 12 (with_reducible refine Own.setCell ?_ (by dsimp only; omega) _)
  exact (Own.prod (Own.one w1 (w.heap.size + 1 + 1 + 1) (w.heap.size + 1 + 1 + 1) _) (Own.prod (Own.one w1 (w.heap.size + 1 + 1 + 1) (w.heap.size + 1 + 1 + 1) _) (Own.prod O2.out (Own.prod (Own.one w1 (w1.heap.size) (w1.heap.size) _) (Own.prod (Own.one w1 (w1.heap.size) (w1.heap.size) _) (Own.prod (Own.one w1 (w1.heap.size) (w1.heap.size) _) (Own.one w1 (w1.heap.size) _ _) (by omega) (by omega) (by omega)) (by omega) (by omega) (by omega)) (by omega) (by omega) (by omega)) (by omega) (by omega) (by omega)) (by omega) (by omega) (by omega)) (by omega) (by omega) (by omega))
 ·iterate 12 (with_reducible refine Below.setCell ?_ (by simp; try omega) _)
  exact TT.out.2.2.2
theorem make_TriggerS (n : Nat) (hn : n ≤ 1048576) (w : World) :
  (Instr.makeSlice 63 (.int .i64 (n : Int)) (.int .i64 (n : Int))).run Tryz.prog w = .ok (.slice (some ⟨w.heap.size, 0, none⟩) n n) (w.alloc (.cells (madeCells zeroTrigger (n * 7)) 229)) := by
 obtain ⟨i0, hi0, hz0, hz1, hz2⟩ := info_parts infoTrigger
 have hb : (i0.bytes : Int) * (n : Int) ≤ 281474976710656 := by
  rw [hz2]; omega
 have hr := run_make (P := Tryz.prog) w 63 229 i0 _ Tryz.underlying63 hi0 hz0 .i64 .i64 n n (by omega) (by omega) hb (by omega)
 simp only [Int.toNat_natCast] at hr
 rw [hr, hz1]
 rfl
theorem toTriggerS_f (A : Option Addr) (c : Nat) (xs : List TyTrigger) (lo hi : Nat) (w : World) (h : (Sh.row 229 shTrigger).R w lo hi [.slice A xs.length c] xs) (hhi : hi ≤ w.heap.size) (hf : (Sh.row 229 shTrigger).fit 1048576 xs) :
  Calls Tryz.prog 64 #[.slice A xs.length c] w fun e w' => ∃ (B : Option Addr) (d : Nat), e = .returned (.slice B xs.length d) ∧ Own (Sh.row 229 shTrigger) w' w.heap.size w'.heap.size [.slice B xs.length d] xs ∧ Below w.heap.size w w' := by
 have hn := hf.1
 have hmk := fun W => make_TriggerS xs.length hn W
 have H0 := Lib.hid (Blk.new w 229 (madeCells zeroTrigger (xs.length * 7)))
 have HB0 := Lib.hid ((Below.refl w.heap.size w).alloc (Nat.le_refl _) (.cells (madeCells zeroTrigger (xs.length * 7)) 229))
 have HA := Lib.hid h; have HF := Lib.hid hf.2
 clear h hf
 go_enter Tryz.func64, Tryz.ntmps64
 go_wp2_with fail
 go_loopw [4] (fun i wr => ∃ (k : Nat) (cs : Array Value) (Fs : Nat → List Nat), k ≤ xs.length ∧ i = .int .i64 k ∧ Fill shTrigger 229 wr w.heap.size cs Fs xs k ∧ Below w.heap.size w wr) (fun i _ => xs.length - (intOf i).toNat)
 case atStart => exact ⟨0, _, fun _ => [], Nat.zero_le _, rfl, Fill.start H0.out (size_madeCells _ _), HB0.out⟩
 case round =>
  clear hmk
  obtain ⟨k, cs, Fs, hk, rfl, hfl, hb⟩ := hrel
  by_cases hlt : k < xs.length
  ·obtain ⟨-, b, off, rfl, hb1, hb2, A2, c2, e100, e101, e102, e103, e104, e105, e106, hX⟩ := shTrigger_at ((Sh.row 229 shTrigger).R_below HA.out hb hhi) hlt
   have HX := Lib.hid (HF.out _ (getD_in (d := shTrigger.d) hlt))
   obtain ⟨us, hu⟩ := Upd.begin_ (hfl.room hlt)
   have hul : us.length = 7 := hu.len
   obtain ⟨v0, v1, v2, v3, v4, v5, v6, rfl⟩ : ∃ v0 v1 v2 v3 v4 v5 v6, us = [v0, v1, v2, v3, v4, v5, v6] := by
    match us, hul with
    | [v0, v1, v2, v3, v4, v5, v6], _ => exact ⟨v0, v1, v2, v3, v4, v5, v6, rfl⟩
   have hN := fun W vs lo hi => Fill.addM (W := W) (vs := vs) (lo := lo) (hi := hi) hfl hlt
   have HN := Lib.hid hN; clear hN
   have hm0 : Mid [w.heap.size] w.heap.size 229 cs (k * 7) 7 wr wr [v0, v1, v2, v3, v4, v5, v6] := Mid.start hfl.blk hu _
   have hgw : w.heap.size < wr.heap.size := hfl.blk.lt
   generalize xs.getD k shTrigger.d = X at *
   obtain ⟨x0, x1, x2, x3, x4, x5, x6⟩ := X
   try dsimp only at e100 e101 e102 e103 e104 e105 e106
   have HM0 := Lib.hid hm0; have HB := Lib.hid hb; have HR := Lib.hid hX
   have hsz := hb.size
   clear hm0 hb hX hfl hu hul
   go_wp2_with fail
   refine (toTrigger_f x0 x1 x2 x3 x4 x5 x6 A2 c2 lo hi _ HR.out (by omega) HX.out).mono ?_
   rintro e5 w5 ⟨B2, d2, rfl, ho5, hb5⟩
   have HM5 := Lib.hid (HM0.out.below hb5)
   have s5 := hb5.size
   have HB5 := Lib.hid (HB.out.trans (hb5.mono hsz))
   have g0 : _ = some v0 := HM5.out.cell0 (by decide)
   have g1 : _ = some v1 := HM5.out.cell (i := 1) (by decide)
   have g2 : _ = some v2 := HM5.out.cell (i := 2) (by decide)
   have g3 : _ = some v3 := HM5.out.cell (i := 3) (by decide)
   have g4 : _ = some v4 := HM5.out.cell (i := 4) (by decide)
   have g5 : _ = some v5 := HM5.out.cell (i := 5) (by decide)
   have g6 : _ = some v6 := HM5.out.cell (i := 6) (by decide)
   have z5 := HM5.out.frozen
   have hgl : w.heap.size < wr.heap.size := hgw
   have HO5 := Lib.hid (((((((ho5.setCell (p := ⟨w.heap.size, k * 7, none⟩) hgl (.int .i64 x0)).setCell (p := ⟨w.heap.size, k * 7 + 1, none⟩) hgl (.string x1)).setCell (p := ⟨w.heap.size, k * 7 + 2, none⟩) hgl (.slice B2 x2.length d2)).setCell (p := ⟨w.heap.size, k * 7 + 3, none⟩) hgl (.bool x3)).setCell (p := ⟨w.heap.size, k * 7 + 4, none⟩) hgl (.bool x4)).setCell (p := ⟨w.heap.size, k * 7 + 5, none⟩) hgl (.string x5)).setCell (p := ⟨w.heap.size, k * 7 + 6, none⟩) hgl (.string x6))
   clear hb5 ho5 HM0 e100 e101 e102 e103 e104 e105 e106
   go_wp2_with fail
   go_roundw
   case rel =>
    obtain ⟨cs', Fs', hf'⟩ := HN.out _ _ _ _ (((((((HM5.out.set0 (List.mem_cons_self ..) (by decide) (.int .i64 x0)).set_ (List.mem_cons_self ..) (i := 1) (by decide) (.string x1)).set_ (List.mem_cons_self ..) (i := 2) (by decide) (.slice B2 x2.length d2)).set_ (List.mem_cons_self ..) (i := 3) (by decide) (.bool x3)).set_ (List.mem_cons_self ..) (i := 4) (by decide) (.bool x4)).set_ (List.mem_cons_self ..) (i := 5) (by decide) (.string x5)).set_ (List.mem_cons_self ..) (i := 6) (by decide) (.string x6)) (Nat.le_refl _) HO5.out
    refine ⟨k + 1, cs', Fs', by omega, by go_num, hf', ?_⟩
    iterate 7 (with_reducible refine Below.setCell ?_ (by simp) _)
    exact HB5.out
   case measure => simp [intOf]; omega
  ·obtain rfl : k = xs.length := by omega
   have HB := Lib.hid hb; have HFL := Lib.hid hfl
   clear hb hfl
   go_wp2_with fail
   go_ret
   exact ⟨_, _, rfl, HFL.out.done (by unfold maxLen; omega), HB.out⟩
theorem toLock_f (x0 : Int) (x1 : Int) (x2 : ByteArray) (x3 : List ByteArray) (A3 : Option Addr) (c3 : Nat) (lo hi : Nat) (w : World) (h : shLock.R w lo hi [.int .i64 x0, .int .i64 x1, .string x2, .slice A3 x3.length c3] (x0, x1, x2, x3)) (hhi : hi ≤ w.heap.size) (hf : shLock.fit 1048576 (x0, x1, x2, x3)) :
  Calls Tryz.prog 187 #[.agg #[.int .i64 x0, .int .i64 x1, .string x2, .slice A3 x3.length c3]] w fun e w' => ∃ (B3 : Option Addr) (d3 : Nat), e = .returned (.agg #[.int .i64 x0, .int .i64 x1, .string x2, .slice B3 x3.length d3]) ∧ Own shLock w' w.heap.size w'.heap.size [.int .i64 x0, .int .i64 x1, .string x2, .slice B3 x3.length d3] (x0, x1, x2, x3) ∧ Below w.heap.size w w' := by
 rw [shLock_fit] at hf
 obtain ⟨ft0, ft1, ft2, ft3⟩ := hf
 have HA := Lib.hid h
 clear h
 go_enter Tryz.func187, Tryz.ntmps187
 go_wp2_with fail
 have T0 := Three.start w 293 231 231 #[.int .i64 x0, .int .i64 x1, .string x2, .slice A3 x3.length c3] zz6 #[.int .i64 x0, .int .i64 x1, .string x2, .slice none 0 0]
 refine (toStringS_f A3 c3 x3 lo hi _ (shLock_f3 (shLock.R_below HA.out T0.2.2.2 hhi)) (Nat.le_trans hhi T0.2.2.2.size) ft3).mono ?_
 rintro e1 w1 ⟨B3, d3, rfl, ho3, hb1⟩
 have T1 := T0.call hb1
 have hs1 : w.heap.size + 1 + 1 + 1 ≤ w1.heap.size := by have := hb1.size; simpa using this
 have ho3 := ho3.more (lo' := w.heap.size + 1 + 1 + 1) (by simp) (Nat.le_refl _)
 clear T0 hb1
 have f0 := T1.1.cell
 have f1 := T1.2.1.cell
 have z1 := T1.2.1.frozen
 have f2 := T1.2.2.1.cell
 have z2 := T1.2.2.1.frozen
 have TT := Lib.hid T1; clear T1
 have O3 := Lib.hid ho3; clear ho3
 go_wp2_with fail
 refine bodyPost_ret (v := .agg #[.int .i64 x0, .int .i64 x1, .string x2, .slice B3 x3.length d3]) (by simp [results, Tryz.results187, go_sem, f1]) rfl ⟨_, _, rfl, ?_, ?_⟩
 ·refine Own.more (lo := w.heap.size + 1 + 1 + 1) (hi := w1.heap.size) ?_ (by omega) (by simp [World.setCell])
  iterate 5 (with_reducible refine Own.setCell ?_ (by dsimp only; omega) _)
  exact (Own.prod (Own.one w1 (w.heap.size + 1 + 1 + 1) (w.heap.size + 1 + 1 + 1) _) (Own.prod (Own.one w1 (w.heap.size + 1 + 1 + 1) (w.heap.size + 1 + 1 + 1) _) (Own.prod (Own.one w1 (w.heap.size + 1 + 1 + 1) (w.heap.size + 1 + 1 + 1) _) O3.out (by omega) (by omega) (by omega)) (by omega) (by omega) (by omega)) (by omega) (by omega) (by omega))
 ·iterate 5 (with_reducible refine Below.setCell ?_ (by simp; try omega) _)
  exact TT.out.2.2.2
theorem make_LockS (n : Nat) (hn : n ≤ 1048576) (w : World) :
  (Instr.makeSlice 67 (.int .i64 (n : Int)) (.int .i64 (n : Int))).run Tryz.prog w = .ok (.slice (some ⟨w.heap.size, 0, none⟩) n n) (w.alloc (.cells (madeCells zeroLock (n * 4)) 231)) := by
 obtain ⟨i0, hi0, hz0, hz1, hz2⟩ := info_parts infoLock
 have hb : (i0.bytes : Int) * (n : Int) ≤ 281474976710656 := by
  rw [hz2]; omega
 have hr := run_make (P := Tryz.prog) w 67 231 i0 _ Tryz.underlying67 hi0 hz0 .i64 .i64 n n (by omega) (by omega) hb (by omega)
 simp only [Int.toNat_natCast] at hr
 rw [hr, hz1]
 rfl
theorem toLockS_f (A : Option Addr) (c : Nat) (xs : List TyLock) (lo hi : Nat) (w : World) (h : (Sh.row 231 shLock).R w lo hi [.slice A xs.length c] xs) (hhi : hi ≤ w.heap.size) (hf : (Sh.row 231 shLock).fit 1048576 xs) :
  Calls Tryz.prog 126 #[.slice A xs.length c] w fun e w' => ∃ (B : Option Addr) (d : Nat), e = .returned (.slice B xs.length d) ∧ Own (Sh.row 231 shLock) w' w.heap.size w'.heap.size [.slice B xs.length d] xs ∧ Below w.heap.size w w' := by
 have hn := hf.1
 have hmk := fun W => make_LockS xs.length hn W
 have H0 := Lib.hid (Blk.new w 231 (madeCells zeroLock (xs.length * 4)))
 have HB0 := Lib.hid ((Below.refl w.heap.size w).alloc (Nat.le_refl _) (.cells (madeCells zeroLock (xs.length * 4)) 231))
 have HA := Lib.hid h; have HF := Lib.hid hf.2
 clear h hf
 go_enter Tryz.func126, Tryz.ntmps126
 go_wp2_with fail
 go_loopw [4] (fun i wr => ∃ (k : Nat) (cs : Array Value) (Fs : Nat → List Nat), k ≤ xs.length ∧ i = .int .i64 k ∧ Fill shLock 231 wr w.heap.size cs Fs xs k ∧ Below w.heap.size w wr) (fun i _ => xs.length - (intOf i).toNat)
 case atStart => exact ⟨0, _, fun _ => [], Nat.zero_le _, rfl, Fill.start H0.out (size_madeCells _ _), HB0.out⟩
 case round =>
  clear hmk
  obtain ⟨k, cs, Fs, hk, rfl, hfl, hb⟩ := hrel
  by_cases hlt : k < xs.length
  ·obtain ⟨-, b, off, rfl, hb1, hb2, A3, c3, e100, e101, e102, e103, hX⟩ := shLock_at ((Sh.row 231 shLock).R_below HA.out hb hhi) hlt
   have HX := Lib.hid (HF.out _ (getD_in (d := shLock.d) hlt))
   obtain ⟨us, hu⟩ := Upd.begin_ (hfl.room hlt)
   have hul : us.length = 4 := hu.len
   obtain ⟨v0, v1, v2, v3, rfl⟩ : ∃ v0 v1 v2 v3, us = [v0, v1, v2, v3] := by
    match us, hul with
    | [v0, v1, v2, v3], _ => exact ⟨v0, v1, v2, v3, rfl⟩
   have hN := fun W vs lo hi => Fill.addM (W := W) (vs := vs) (lo := lo) (hi := hi) hfl hlt
   have HN := Lib.hid hN; clear hN
   have hm0 : Mid [w.heap.size] w.heap.size 231 cs (k * 4) 4 wr wr [v0, v1, v2, v3] := Mid.start hfl.blk hu _
   have hgw : w.heap.size < wr.heap.size := hfl.blk.lt
   generalize xs.getD k shLock.d = X at *
   obtain ⟨x0, x1, x2, x3⟩ := X
   try dsimp only at e100 e101 e102 e103
   have HM0 := Lib.hid hm0; have HB := Lib.hid hb; have HR := Lib.hid hX
   have hsz := hb.size
   clear hm0 hb hX hfl hu hul
   go_wp2_with fail
   refine (toLock_f x0 x1 x2 x3 A3 c3 lo hi _ HR.out (by omega) HX.out).mono ?_
   rintro e5 w5 ⟨B3, d3, rfl, ho5, hb5⟩
   have HM5 := Lib.hid (HM0.out.below hb5)
   have s5 := hb5.size
   have HB5 := Lib.hid (HB.out.trans (hb5.mono hsz))
   have g0 : _ = some v0 := HM5.out.cell0 (by decide)
   have g1 : _ = some v1 := HM5.out.cell (i := 1) (by decide)
   have g2 : _ = some v2 := HM5.out.cell (i := 2) (by decide)
   have g3 : _ = some v3 := HM5.out.cell (i := 3) (by decide)
   have z5 := HM5.out.frozen
   have hgl : w.heap.size < wr.heap.size := hgw
   have HO5 := Lib.hid ((((ho5.setCell (p := ⟨w.heap.size, k * 4, none⟩) hgl (.int .i64 x0)).setCell (p := ⟨w.heap.size, k * 4 + 1, none⟩) hgl (.int .i64 x1)).setCell (p := ⟨w.heap.size, k * 4 + 2, none⟩) hgl (.string x2)).setCell (p := ⟨w.heap.size, k * 4 + 3, none⟩) hgl (.slice B3 x3.length d3))
   clear hb5 ho5 HM0 e100 e101 e102 e103
   go_wp2_with fail
   go_roundw
   case rel =>
    obtain ⟨cs', Fs', hf'⟩ := HN.out _ _ _ _ ((((HM5.out.set0 (List.mem_cons_self ..) (by decide) (.int .i64 x0)).set_ (List.mem_cons_self ..) (i := 1) (by decide) (.int .i64 x1)).set_ (List.mem_cons_self ..) (i := 2) (by decide) (.string x2)).set_ (List.mem_cons_self ..) (i := 3) (by decide) (.slice B3 x3.length d3)) (Nat.le_refl _) HO5.out
    refine ⟨k + 1, cs', Fs', by omega, by go_num, hf', ?_⟩
    iterate 4 (with_reducible refine Below.setCell ?_ (by simp) _)
    exact HB5.out
   case measure => simp [intOf]; omega
  ·obtain rfl : k = xs.length := by omega
   have HB := Lib.hid hb; have HFL := Lib.hid hfl
   clear hb hfl
   go_wp2_with fail
   go_ret
   exact ⟨_, _, rfl, HFL.out.done (by unfold maxLen; omega), HB.out⟩
theorem toAsk_f (x0 : Int) (x1 : Int) (x2 : ByteArray) (x3 : List ByteArray) (A3 : Option Addr) (c3 : Nat) (lo hi : Nat) (w : World) (h : shAsk.R w lo hi [.int .i64 x0, .int .i64 x1, .string x2, .slice A3 x3.length c3] (x0, x1, x2, x3)) (hhi : hi ≤ w.heap.size) (hf : shAsk.fit 1048576 (x0, x1, x2, x3)) :
  Calls Tryz.prog 188 #[.agg #[.int .i64 x0, .int .i64 x1, .string x2, .slice A3 x3.length c3]] w fun e w' => ∃ (B3 : Option Addr) (d3 : Nat), e = .returned (.agg #[.int .i64 x0, .int .i64 x1, .string x2, .slice B3 x3.length d3]) ∧ Own shAsk w' w.heap.size w'.heap.size [.int .i64 x0, .int .i64 x1, .string x2, .slice B3 x3.length d3] (x0, x1, x2, x3) ∧ Below w.heap.size w w' := by
 rw [shAsk_fit] at hf
 obtain ⟨ft0, ft1, ft2, ft3⟩ := hf
 have HA := Lib.hid h
 clear h
 go_enter Tryz.func188, Tryz.ntmps188
 go_wp2_with fail
 have T0 := Three.start w 295 233 233 #[.int .i64 x0, .int .i64 x1, .string x2, .slice A3 x3.length c3] zz6 #[.int .i64 x0, .int .i64 x1, .string x2, .slice none 0 0]
 refine (toStringS_f A3 c3 x3 lo hi _ (shAsk_f3 (shAsk.R_below HA.out T0.2.2.2 hhi)) (Nat.le_trans hhi T0.2.2.2.size) ft3).mono ?_
 rintro e1 w1 ⟨B3, d3, rfl, ho3, hb1⟩
 have T1 := T0.call hb1
 have hs1 : w.heap.size + 1 + 1 + 1 ≤ w1.heap.size := by have := hb1.size; simpa using this
 have ho3 := ho3.more (lo' := w.heap.size + 1 + 1 + 1) (by simp) (Nat.le_refl _)
 clear T0 hb1
 have f0 := T1.1.cell
 have f1 := T1.2.1.cell
 have z1 := T1.2.1.frozen
 have f2 := T1.2.2.1.cell
 have z2 := T1.2.2.1.frozen
 have TT := Lib.hid T1; clear T1
 have O3 := Lib.hid ho3; clear ho3
 go_wp2_with fail
 refine bodyPost_ret (v := .agg #[.int .i64 x0, .int .i64 x1, .string x2, .slice B3 x3.length d3]) (by simp [results, Tryz.results188, go_sem, f1]) rfl ⟨_, _, rfl, ?_, ?_⟩
 ·refine Own.more (lo := w.heap.size + 1 + 1 + 1) (hi := w1.heap.size) ?_ (by omega) (by simp [World.setCell])
  iterate 5 (with_reducible refine Own.setCell ?_ (by dsimp only; omega) _)
  exact (Own.prod (Own.one w1 (w.heap.size + 1 + 1 + 1) (w.heap.size + 1 + 1 + 1) _) (Own.prod (Own.one w1 (w.heap.size + 1 + 1 + 1) (w.heap.size + 1 + 1 + 1) _) (Own.prod (Own.one w1 (w.heap.size + 1 + 1 + 1) (w.heap.size + 1 + 1 + 1) _) O3.out (by omega) (by omega) (by omega)) (by omega) (by omega) (by omega)) (by omega) (by omega) (by omega))
 ·iterate 5 (with_reducible refine Below.setCell ?_ (by simp; try omega) _)
  exact TT.out.2.2.2
theorem make_AskS (n : Nat) (hn : n ≤ 1048576) (w : World) :
  (Instr.makeSlice 68 (.int .i64 (n : Int)) (.int .i64 (n : Int))).run Tryz.prog w = .ok (.slice (some ⟨w.heap.size, 0, none⟩) n n) (w.alloc (.cells (madeCells zeroAsk (n * 4)) 233)) := by
 obtain ⟨i0, hi0, hz0, hz1, hz2⟩ := info_parts infoAsk
 have hb : (i0.bytes : Int) * (n : Int) ≤ 281474976710656 := by
  rw [hz2]; omega
 have hr := run_make (P := Tryz.prog) w 68 233 i0 _ Tryz.underlying68 hi0 hz0 .i64 .i64 n n (by omega) (by omega) hb (by omega)
 simp only [Int.toNat_natCast] at hr
 rw [hr, hz1]
 rfl
theorem toAskS_f (A : Option Addr) (c : Nat) (xs : List TyAsk) (lo hi : Nat) (w : World) (h : (Sh.row 233 shAsk).R w lo hi [.slice A xs.length c] xs) (hhi : hi ≤ w.heap.size) (hf : (Sh.row 233 shAsk).fit 1048576 xs) :
  Calls Tryz.prog 127 #[.slice A xs.length c] w fun e w' => ∃ (B : Option Addr) (d : Nat), e = .returned (.slice B xs.length d) ∧ Own (Sh.row 233 shAsk) w' w.heap.size w'.heap.size [.slice B xs.length d] xs ∧ Below w.heap.size w w' := by
 have hn := hf.1
 have hmk := fun W => make_AskS xs.length hn W
 have H0 := Lib.hid (Blk.new w 233 (madeCells zeroAsk (xs.length * 4)))
 have HB0 := Lib.hid ((Below.refl w.heap.size w).alloc (Nat.le_refl _) (.cells (madeCells zeroAsk (xs.length * 4)) 233))
 have HA := Lib.hid h; have HF := Lib.hid hf.2
 clear h hf
 go_enter Tryz.func127, Tryz.ntmps127
 go_wp2_with fail
 go_loopw [4] (fun i wr => ∃ (k : Nat) (cs : Array Value) (Fs : Nat → List Nat), k ≤ xs.length ∧ i = .int .i64 k ∧ Fill shAsk 233 wr w.heap.size cs Fs xs k ∧ Below w.heap.size w wr) (fun i _ => xs.length - (intOf i).toNat)
 case atStart => exact ⟨0, _, fun _ => [], Nat.zero_le _, rfl, Fill.start H0.out (size_madeCells _ _), HB0.out⟩
 case round =>
  clear hmk
  obtain ⟨k, cs, Fs, hk, rfl, hfl, hb⟩ := hrel
  by_cases hlt : k < xs.length
  ·obtain ⟨-, b, off, rfl, hb1, hb2, A3, c3, e100, e101, e102, e103, hX⟩ := shAsk_at ((Sh.row 233 shAsk).R_below HA.out hb hhi) hlt
   have HX := Lib.hid (HF.out _ (getD_in (d := shAsk.d) hlt))
   obtain ⟨us, hu⟩ := Upd.begin_ (hfl.room hlt)
   have hul : us.length = 4 := hu.len
   obtain ⟨v0, v1, v2, v3, rfl⟩ : ∃ v0 v1 v2 v3, us = [v0, v1, v2, v3] := by
    match us, hul with
    | [v0, v1, v2, v3], _ => exact ⟨v0, v1, v2, v3, rfl⟩
   have hN := fun W vs lo hi => Fill.addM (W := W) (vs := vs) (lo := lo) (hi := hi) hfl hlt
   have HN := Lib.hid hN; clear hN
   have hm0 : Mid [w.heap.size] w.heap.size 233 cs (k * 4) 4 wr wr [v0, v1, v2, v3] := Mid.start hfl.blk hu _
   have hgw : w.heap.size < wr.heap.size := hfl.blk.lt
   generalize xs.getD k shAsk.d = X at *
   obtain ⟨x0, x1, x2, x3⟩ := X
   try dsimp only at e100 e101 e102 e103
   have HM0 := Lib.hid hm0; have HB := Lib.hid hb; have HR := Lib.hid hX
   have hsz := hb.size
   clear hm0 hb hX hfl hu hul
   go_wp2_with fail
   refine (toAsk_f x0 x1 x2 x3 A3 c3 lo hi _ HR.out (by omega) HX.out).mono ?_
   rintro e5 w5 ⟨B3, d3, rfl, ho5, hb5⟩
   have HM5 := Lib.hid (HM0.out.below hb5)
   have s5 := hb5.size
   have HB5 := Lib.hid (HB.out.trans (hb5.mono hsz))
   have g0 : _ = some v0 := HM5.out.cell0 (by decide)
   have g1 : _ = some v1 := HM5.out.cell (i := 1) (by decide)
   have g2 : _ = some v2 := HM5.out.cell (i := 2) (by decide)
   have g3 : _ = some v3 := HM5.out.cell (i := 3) (by decide)
   have z5 := HM5.out.frozen
   have hgl : w.heap.size < wr.heap.size := hgw
   have HO5 := Lib.hid ((((ho5.setCell (p := ⟨w.heap.size, k * 4, none⟩) hgl (.int .i64 x0)).setCell (p := ⟨w.heap.size, k * 4 + 1, none⟩) hgl (.int .i64 x1)).setCell (p := ⟨w.heap.size, k * 4 + 2, none⟩) hgl (.string x2)).setCell (p := ⟨w.heap.size, k * 4 + 3, none⟩) hgl (.slice B3 x3.length d3))
   clear hb5 ho5 HM0 e100 e101 e102 e103
   go_wp2_with fail
   go_roundw
   case rel =>
    obtain ⟨cs', Fs', hf'⟩ := HN.out _ _ _ _ ((((HM5.out.set0 (List.mem_cons_self ..) (by decide) (.int .i64 x0)).set_ (List.mem_cons_self ..) (i := 1) (by decide) (.int .i64 x1)).set_ (List.mem_cons_self ..) (i := 2) (by decide) (.string x2)).set_ (List.mem_cons_self ..) (i := 3) (by decide) (.slice B3 x3.length d3)) (Nat.le_refl _) HO5.out
    refine ⟨k + 1, cs', Fs', by omega, by go_num, hf', ?_⟩
    iterate 4 (with_reducible refine Below.setCell ?_ (by simp) _)
    exact HB5.out
   case measure => simp [intOf]; omega
  ·obtain rfl : k = xs.length := by omega
   have HB := Lib.hid hb; have HFL := Lib.hid hfl
   clear hb hfl
   go_wp2_with fail
   go_ret
   exact ⟨_, _, rfl, HFL.out.done (by unfold maxLen; omega), HB.out⟩
theorem toLocks_f (x0 : List TyLock) (x1 : List TyAsk) (A0 : Option Addr) (c0 : Nat) (A1 : Option Addr) (c1 : Nat) (lo hi : Nat) (w : World) (h : shLocks.R w lo hi [.slice A0 x0.length c0, .slice A1 x1.length c1] (x0, x1)) (hhi : hi ≤ w.heap.size) (hf : shLocks.fit 1048576 (x0, x1)) :
  Calls Tryz.prog 65 #[.agg #[.slice A0 x0.length c0, .slice A1 x1.length c1]] w fun e w' => ∃ (B0 : Option Addr) (d0 : Nat), ∃ (B1 : Option Addr) (d1 : Nat), e = .returned (.agg #[.slice B0 x0.length d0, .slice B1 x1.length d1]) ∧ Own shLocks w' w.heap.size w'.heap.size [.slice B0 x0.length d0, .slice B1 x1.length d1] (x0, x1) ∧ Below w.heap.size w w' := by
 rw [shLocks_fit] at hf
 obtain ⟨ft0, ft1⟩ := hf
 have HA := Lib.hid h
 clear h
 go_enter Tryz.func65, Tryz.ntmps65
 go_wp2_with fail
 have T0 := Three.start w 33 70 70 #[.slice A0 x0.length c0, .slice A1 x1.length c1] #[.slice none 0 0, .slice none 0 0] #[.slice none 0 0, .slice none 0 0]
 refine (toLockS_f A0 c0 x0 lo hi _ (shLocks_f0 (shLocks.R_below HA.out T0.2.2.2 hhi)) (Nat.le_trans hhi T0.2.2.2.size) ft0).mono ?_
 rintro e1 w1 ⟨B0, d0, rfl, ho0, hb1⟩
 have T1 := T0.call hb1
 have hs1 : w.heap.size + 1 + 1 + 1 ≤ w1.heap.size := by have := hb1.size; simpa using this
 have ho0 := ho0.more (lo' := w.heap.size + 1 + 1 + 1) (by simp) (Nat.le_refl _)
 clear T0 hb1
 have f0 := T1.1.cell
 have f2 := T1.2.2.1.cell
 have z2 := T1.2.2.1.frozen
 have TT := Lib.hid (T1.store2 0 (.slice B0 x0.length d0)); clear T1
 have O0 := Lib.hid (ho0.setCell (p := ⟨w.heap.size + 1 + 1, 0, none⟩) (by dsimp only; omega) (.slice B0 x0.length d0)); clear ho0
 go_wp2_with fail
 clear f0 f2 z2
 have hz1 : (w1.setCell ⟨w.heap.size + 1 + 1, 0, none⟩ (.slice B0 x0.length d0)).heap.size = w1.heap.size := by simp [World.setCell]
 generalize (w1.setCell ⟨w.heap.size + 1 + 1, 0, none⟩ (.slice B0 x0.length d0)) = W1 at *
 refine (toAskS_f A1 c1 x1 lo hi _ (shLocks_f1 (shLocks.R_below HA.out TT.out.2.2.2 hhi)) (Nat.le_trans hhi TT.out.2.2.2.size) ft1).mono ?_
 rintro e2 w2 ⟨B1, d1, rfl, ho1, hb2⟩
 have T2 := TT.out.call hb2
 have hs2 := hb2.size
 have ho0 := O0.out.below hb2 (by omega)
 clear TT O0 hb2
 have f0 := T2.1.cell
 have f1 := T2.2.1.cell
 have z1 := T2.2.1.frozen
 have f2 := T2.2.2.1.cell
 have z2 := T2.2.2.1.frozen
 have TT := Lib.hid T2; clear T2
 have O0 := Lib.hid ho0; clear ho0
 have O1 := Lib.hid ho1; clear ho1
 go_wp2_with fail
 refine bodyPost_ret (v := .agg #[.slice B0 x0.length d0, .slice B1 x1.length d1]) (by simp [results, Tryz.results65, go_sem, f1]) rfl ⟨_, _, _, _, rfl, ?_, ?_⟩
 ·refine Own.more (lo := w.heap.size + 1 + 1 + 1) (hi := w2.heap.size) ?_ (by omega) (by simp [World.setCell])
  iterate 3 (with_reducible refine Own.setCell ?_ (by dsimp only; omega) _)
  exact (Own.prod O0.out O1.out (by omega) (by omega) (by omega))
 ·iterate 3 (with_reducible refine Below.setCell ?_ (by simp; try omega) _)
  exact TT.out.2.2.2
theorem toEvent_f (x0 : Int) (x1 : ByteArray) (x2 : List ByteArray) (x3 : ByteArray) (x4 : Int) (A2 : Option Addr) (c2 : Nat) (lo hi : Nat) (w : World) (h : shEvent.R w lo hi [.int .i64 x0, .string x1, .slice A2 x2.length c2, .string x3, .int .i64 x4] (x0, x1, x2, x3, x4)) (hhi : hi ≤ w.heap.size) (hf : shEvent.fit 1048576 (x0, x1, x2, x3, x4)) :
  Calls Tryz.prog 194 #[.agg #[.int .i64 x0, .string x1, .slice A2 x2.length c2, .string x3, .int .i64 x4]] w fun e w' => ∃ (B2 : Option Addr) (d2 : Nat), e = .returned (.agg #[.int .i64 x0, .string x1, .slice B2 x2.length d2, .string x3, .int .i64 x4]) ∧ Own shEvent w' w.heap.size w'.heap.size [.int .i64 x0, .string x1, .slice B2 x2.length d2, .string x3, .int .i64 x4] (x0, x1, x2, x3, x4) ∧ Below w.heap.size w w' := by
 rw [shEvent_fit] at hf
 obtain ⟨ft0, ft1, ft2, ft3, ft4⟩ := hf
 have HA := Lib.hid h
 clear h
 go_enter Tryz.func194, Tryz.ntmps194
 go_wp2_with fail
 have T0 := Three.start w 304 247 247 #[.int .i64 x0, .string x1, .slice A2 x2.length c2, .string x3, .int .i64 x4] zz7 #[.int .i64 x0, .string x1, .slice none 0 0, .string ⟨#[]⟩, .int .i64 0]
 refine (toStringS_f A2 c2 x2 lo hi _ (shEvent_f2 (shEvent.R_below HA.out T0.2.2.2 hhi)) (Nat.le_trans hhi T0.2.2.2.size) ft2).mono ?_
 rintro e1 w1 ⟨B2, d2, rfl, ho2, hb1⟩
 have T1 := T0.call hb1
 have hs1 : w.heap.size + 1 + 1 + 1 ≤ w1.heap.size := by have := hb1.size; simpa using this
 have ho2 := ho2.more (lo' := w.heap.size + 1 + 1 + 1) (by simp) (Nat.le_refl _)
 clear T0 hb1
 have f0 := T1.1.cell
 have f1 := T1.2.1.cell
 have z1 := T1.2.1.frozen
 have f2 := T1.2.2.1.cell
 have z2 := T1.2.2.1.frozen
 have TT := Lib.hid T1; clear T1
 have O2 := Lib.hid ho2; clear ho2
 go_wp2_with fail
 refine bodyPost_ret (v := .agg #[.int .i64 x0, .string x1, .slice B2 x2.length d2, .string x3, .int .i64 x4]) (by simp [results, Tryz.results194, go_sem, f1]) rfl ⟨_, _, rfl, ?_, ?_⟩
 ·refine Own.more (lo := w.heap.size + 1 + 1 + 1) (hi := w1.heap.size) ?_ (by omega) (by simp [World.setCell])
  iterate 8 (with_reducible refine Own.setCell ?_ (by dsimp only; omega) _)
  exact (Own.prod (Own.one w1 (w.heap.size + 1 + 1 + 1) (w.heap.size + 1 + 1 + 1) _) (Own.prod (Own.one w1 (w.heap.size + 1 + 1 + 1) (w.heap.size + 1 + 1 + 1) _) (Own.prod O2.out (Own.prod (Own.one w1 (w1.heap.size) (w1.heap.size) _) (Own.one w1 (w1.heap.size) _ _) (by omega) (by omega) (by omega)) (by omega) (by omega) (by omega)) (by omega) (by omega) (by omega)) (by omega) (by omega) (by omega))
 ·iterate 8 (with_reducible refine Below.setCell ?_ (by simp; try omega) _)
  exact TT.out.2.2.2
theorem make_EventS (n : Nat) (hn : n ≤ 1048576) (w : World) :
  (Instr.makeSlice 155 (.int .i64 (n : Int)) (.int .i64 (n : Int))).run Tryz.prog w = .ok (.slice (some ⟨w.heap.size, 0, none⟩) n n) (w.alloc (.cells (madeCells zeroEvent (n * 5)) 247)) := by
 obtain ⟨i0, hi0, hz0, hz1, hz2⟩ := info_parts infoEvent
 have hb : (i0.bytes : Int) * (n : Int) ≤ 281474976710656 := by
  rw [hz2]; omega
 have hr := run_make (P := Tryz.prog) w 155 247 i0 _ Tryz.underlying155 hi0 hz0 .i64 .i64 n n (by omega) (by omega) hb (by omega)
 simp only [Int.toNat_natCast] at hr
 rw [hr, hz1]
 rfl
theorem toEventS_f (A : Option Addr) (c : Nat) (xs : List TyEvent) (lo hi : Nat) (w : World) (h : (Sh.row 247 shEvent).R w lo hi [.slice A xs.length c] xs) (hhi : hi ≤ w.heap.size) (hf : (Sh.row 247 shEvent).fit 1048576 xs) :
  Calls Tryz.prog 135 #[.slice A xs.length c] w fun e w' => ∃ (B : Option Addr) (d : Nat), e = .returned (.slice B xs.length d) ∧ Own (Sh.row 247 shEvent) w' w.heap.size w'.heap.size [.slice B xs.length d] xs ∧ Below w.heap.size w w' := by
 have hn := hf.1
 have hmk := fun W => make_EventS xs.length hn W
 have H0 := Lib.hid (Blk.new w 247 (madeCells zeroEvent (xs.length * 5)))
 have HB0 := Lib.hid ((Below.refl w.heap.size w).alloc (Nat.le_refl _) (.cells (madeCells zeroEvent (xs.length * 5)) 247))
 have HA := Lib.hid h; have HF := Lib.hid hf.2
 clear h hf
 go_enter Tryz.func135, Tryz.ntmps135
 go_wp2_with fail
 go_loopw [4] (fun i wr => ∃ (k : Nat) (cs : Array Value) (Fs : Nat → List Nat), k ≤ xs.length ∧ i = .int .i64 k ∧ Fill shEvent 247 wr w.heap.size cs Fs xs k ∧ Below w.heap.size w wr) (fun i _ => xs.length - (intOf i).toNat)
 case atStart => exact ⟨0, _, fun _ => [], Nat.zero_le _, rfl, Fill.start H0.out (size_madeCells _ _), HB0.out⟩
 case round =>
  clear hmk
  obtain ⟨k, cs, Fs, hk, rfl, hfl, hb⟩ := hrel
  by_cases hlt : k < xs.length
  ·obtain ⟨-, b, off, rfl, hb1, hb2, A2, c2, e100, e101, e102, e103, e104, hX⟩ := shEvent_at ((Sh.row 247 shEvent).R_below HA.out hb hhi) hlt
   have HX := Lib.hid (HF.out _ (getD_in (d := shEvent.d) hlt))
   obtain ⟨us, hu⟩ := Upd.begin_ (hfl.room hlt)
   have hul : us.length = 5 := hu.len
   obtain ⟨v0, v1, v2, v3, v4, rfl⟩ : ∃ v0 v1 v2 v3 v4, us = [v0, v1, v2, v3, v4] := by
    match us, hul with
    | [v0, v1, v2, v3, v4], _ => exact ⟨v0, v1, v2, v3, v4, rfl⟩
   have hN := fun W vs lo hi => Fill.addM (W := W) (vs := vs) (lo := lo) (hi := hi) hfl hlt
   have HN := Lib.hid hN; clear hN
   have hm0 : Mid [w.heap.size] w.heap.size 247 cs (k * 5) 5 wr wr [v0, v1, v2, v3, v4] := Mid.start hfl.blk hu _
   have hgw : w.heap.size < wr.heap.size := hfl.blk.lt
   generalize xs.getD k shEvent.d = X at *
   obtain ⟨x0, x1, x2, x3, x4⟩ := X
   try dsimp only at e100 e101 e102 e103 e104
   have HM0 := Lib.hid hm0; have HB := Lib.hid hb; have HR := Lib.hid hX
   have hsz := hb.size
   clear hm0 hb hX hfl hu hul
   go_wp2_with fail
   refine (toEvent_f x0 x1 x2 x3 x4 A2 c2 lo hi _ HR.out (by omega) HX.out).mono ?_
   rintro e5 w5 ⟨B2, d2, rfl, ho5, hb5⟩
   have HM5 := Lib.hid (HM0.out.below hb5)
   have s5 := hb5.size
   have HB5 := Lib.hid (HB.out.trans (hb5.mono hsz))
   have g0 : _ = some v0 := HM5.out.cell0 (by decide)
   have g1 : _ = some v1 := HM5.out.cell (i := 1) (by decide)
   have g2 : _ = some v2 := HM5.out.cell (i := 2) (by decide)
   have g3 : _ = some v3 := HM5.out.cell (i := 3) (by decide)
   have g4 : _ = some v4 := HM5.out.cell (i := 4) (by decide)
   have z5 := HM5.out.frozen
   have hgl : w.heap.size < wr.heap.size := hgw
   have HO5 := Lib.hid (((((ho5.setCell (p := ⟨w.heap.size, k * 5, none⟩) hgl (.int .i64 x0)).setCell (p := ⟨w.heap.size, k * 5 + 1, none⟩) hgl (.string x1)).setCell (p := ⟨w.heap.size, k * 5 + 2, none⟩) hgl (.slice B2 x2.length d2)).setCell (p := ⟨w.heap.size, k * 5 + 3, none⟩) hgl (.string x3)).setCell (p := ⟨w.heap.size, k * 5 + 4, none⟩) hgl (.int .i64 x4))
   clear hb5 ho5 HM0 e100 e101 e102 e103 e104
   go_wp2_with fail
   go_roundw
   case rel =>
    obtain ⟨cs', Fs', hf'⟩ := HN.out _ _ _ _ (((((HM5.out.set0 (List.mem_cons_self ..) (by decide) (.int .i64 x0)).set_ (List.mem_cons_self ..) (i := 1) (by decide) (.string x1)).set_ (List.mem_cons_self ..) (i := 2) (by decide) (.slice B2 x2.length d2)).set_ (List.mem_cons_self ..) (i := 3) (by decide) (.string x3)).set_ (List.mem_cons_self ..) (i := 4) (by decide) (.int .i64 x4)) (Nat.le_refl _) HO5.out
    refine ⟨k + 1, cs', Fs', by omega, by go_num, hf', ?_⟩
    iterate 5 (with_reducible refine Below.setCell ?_ (by simp) _)
    exact HB5.out
   case measure => simp [intOf]; omega
  ·obtain rfl : k = xs.length := by omega
   have HB := Lib.hid hb; have HFL := Lib.hid hfl
   clear hb hfl
   go_wp2_with fail
   go_ret
   exact ⟨_, _, rfl, HFL.out.done (by unfold maxLen; omega), HB.out⟩
theorem toTrans_f (x0 : Int) (x1 : Int) (x2 : List TyEvent) (A2 : Option Addr) (c2 : Nat) (lo hi : Nat) (w : World) (h : shTrans.R w lo hi [.int .i64 x0, .int .i64 x1, .slice A2 x2.length c2] (x0, x1, x2)) (hhi : hi ≤ w.heap.size) (hf : shTrans.fit 1048576 (x0, x1, x2)) :
  Calls Tryz.prog 190 #[.agg #[.int .i64 x0, .int .i64 x1, .slice A2 x2.length c2]] w fun e w' => ∃ (B2 : Option Addr) (d2 : Nat), e = .returned (.agg #[.int .i64 x0, .int .i64 x1, .slice B2 x2.length d2]) ∧ Own shTrans w' w.heap.size w'.heap.size [.int .i64 x0, .int .i64 x1, .slice B2 x2.length d2] (x0, x1, x2) ∧ Below w.heap.size w w' := by
 rw [shTrans_fit] at hf
 obtain ⟨ft0, ft1, ft2⟩ := hf
 have HA := Lib.hid h
 clear h
 go_enter Tryz.func190, Tryz.ntmps190
 go_wp2_with fail
 have T0 := Three.start w 214 157 157 #[.int .i64 x0, .int .i64 x1, .slice A2 x2.length c2] #[.int .i64 0, .int .i64 0, .slice none 0 0] #[.int .i64 x0, .int .i64 x1, .slice none 0 0]
 refine (toEventS_f A2 c2 x2 lo hi _ (shTrans_f2 (shTrans.R_below HA.out T0.2.2.2 hhi)) (Nat.le_trans hhi T0.2.2.2.size) ft2).mono ?_
 rintro e1 w1 ⟨B2, d2, rfl, ho2, hb1⟩
 have T1 := T0.call hb1
 have hs1 : w.heap.size + 1 + 1 + 1 ≤ w1.heap.size := by have := hb1.size; simpa using this
 have ho2 := ho2.more (lo' := w.heap.size + 1 + 1 + 1) (by simp) (Nat.le_refl _)
 clear T0 hb1
 have f0 := T1.1.cell
 have f1 := T1.2.1.cell
 have z1 := T1.2.1.frozen
 have f2 := T1.2.2.1.cell
 have z2 := T1.2.2.1.frozen
 have TT := Lib.hid T1; clear T1
 have O2 := Lib.hid ho2; clear ho2
 go_wp2_with fail
 refine bodyPost_ret (v := .agg #[.int .i64 x0, .int .i64 x1, .slice B2 x2.length d2]) (by simp [results, Tryz.results190, go_sem, f1]) rfl ⟨_, _, rfl, ?_, ?_⟩
 ·refine Own.more (lo := w.heap.size + 1 + 1 + 1) (hi := w1.heap.size) ?_ (by omega) (by simp [World.setCell])
  iterate 4 (with_reducible refine Own.setCell ?_ (by dsimp only; omega) _)
  exact (Own.prod (Own.one w1 (w.heap.size + 1 + 1 + 1) (w.heap.size + 1 + 1 + 1) _) (Own.prod (Own.one w1 (w.heap.size + 1 + 1 + 1) (w.heap.size + 1 + 1 + 1) _) O2.out (by omega) (by omega) (by omega)) (by omega) (by omega) (by omega))
 ·iterate 4 (with_reducible refine Below.setCell ?_ (by simp; try omega) _)
  exact TT.out.2.2.2
theorem toBatch_f (x0 : Int) (x1 : List TyEvent) (A1 : Option Addr) (c1 : Nat) (lo hi : Nat) (w : World) (h : shBatch.R w lo hi [.int .i64 x0, .slice A1 x1.length c1] (x0, x1)) (hhi : hi ≤ w.heap.size) (hf : shBatch.fit 1048576 (x0, x1)) :
  Calls Tryz.prog 71 #[.agg #[.int .i64 x0, .slice A1 x1.length c1]] w fun e w' => ∃ (B1 : Option Addr) (d1 : Nat), e = .returned (.agg #[.int .i64 x0, .slice B1 x1.length d1]) ∧ Own shBatch w' w.heap.size w'.heap.size [.int .i64 x0, .slice B1 x1.length d1] (x0, x1) ∧ Below w.heap.size w w' := by
 rw [shBatch_fit] at hf
 obtain ⟨ft0, ft1⟩ := hf
 have HA := Lib.hid h
 clear h
 go_enter Tryz.func71, Tryz.ntmps71
 go_wp2_with fail
 have T0 := Three.start w 137 167 167 #[.int .i64 x0, .slice A1 x1.length c1] #[.int .i64 0, .slice none 0 0] #[.int .i64 x0, .slice none 0 0]
 refine (toEventS_f A1 c1 x1 lo hi _ (shBatch_f1 (shBatch.R_below HA.out T0.2.2.2 hhi)) (Nat.le_trans hhi T0.2.2.2.size) ft1).mono ?_
 rintro e1 w1 ⟨B1, d1, rfl, ho1, hb1⟩
 have T1 := T0.call hb1
 have hs1 : w.heap.size + 1 + 1 + 1 ≤ w1.heap.size := by have := hb1.size; simpa using this
 have ho1 := ho1.more (lo' := w.heap.size + 1 + 1 + 1) (by simp) (Nat.le_refl _)
 clear T0 hb1
 have f0 := T1.1.cell
 have f1 := T1.2.1.cell
 have z1 := T1.2.1.frozen
 have f2 := T1.2.2.1.cell
 have z2 := T1.2.2.1.frozen
 have TT := Lib.hid T1; clear T1
 have O1 := Lib.hid ho1; clear ho1
 go_wp2_with fail
 refine bodyPost_ret (v := .agg #[.int .i64 x0, .slice B1 x1.length d1]) (by simp [results, Tryz.results71, go_sem, f1]) rfl ⟨_, _, rfl, ?_, ?_⟩
 ·refine Own.more (lo := w.heap.size + 1 + 1 + 1) (hi := w1.heap.size) ?_ (by omega) (by simp [World.setCell])
  iterate 3 (with_reducible refine Own.setCell ?_ (by dsimp only; omega) _)
  exact (Own.prod (Own.one w1 (w.heap.size + 1 + 1 + 1) (w.heap.size + 1 + 1 + 1) _) O1.out (by omega) (by omega) (by omega))
 ·iterate 3 (with_reducible refine Below.setCell ?_ (by simp; try omega) _)
  exact TT.out.2.2.2
theorem make_BatchS (n : Nat) (hn : n ≤ 1048576) (w : World) :
  (Instr.makeSlice 72 (.int .i64 (n : Int)) (.int .i64 (n : Int))).run Tryz.prog w = .ok (.slice (some ⟨w.heap.size, 0, none⟩) n n) (w.alloc (.cells (madeCells zeroBatch (n * 2)) 167)) := by
 obtain ⟨i0, hi0, hz0, hz1, hz2⟩ := info_parts infoBatch
 have hb : (i0.bytes : Int) * (n : Int) ≤ 281474976710656 := by
  rw [hz2]; omega
 have hr := run_make (P := Tryz.prog) w 72 167 i0 _ Tryz.underlying72 hi0 hz0 .i64 .i64 n n (by omega) (by omega) hb (by omega)
 simp only [Int.toNat_natCast] at hr
 rw [hr, hz1]
 rfl
theorem toBatchS_f (A : Option Addr) (c : Nat) (xs : List TyBatch) (lo hi : Nat) (w : World) (h : (Sh.row 167 shBatch).R w lo hi [.slice A xs.length c] xs) (hhi : hi ≤ w.heap.size) (hf : (Sh.row 167 shBatch).fit 1048576 xs) :
  Calls Tryz.prog 26 #[.slice A xs.length c] w fun e w' => ∃ (B : Option Addr) (d : Nat), e = .returned (.slice B xs.length d) ∧ Own (Sh.row 167 shBatch) w' w.heap.size w'.heap.size [.slice B xs.length d] xs ∧ Below w.heap.size w w' := by
 have hn := hf.1
 have hmk := fun W => make_BatchS xs.length hn W
 have H0 := Lib.hid (Blk.new w 167 (madeCells zeroBatch (xs.length * 2)))
 have HB0 := Lib.hid ((Below.refl w.heap.size w).alloc (Nat.le_refl _) (.cells (madeCells zeroBatch (xs.length * 2)) 167))
 have HA := Lib.hid h; have HF := Lib.hid hf.2
 clear h hf
 go_enter Tryz.func26, Tryz.ntmps26
 go_wp2_with fail
 go_loopw [4] (fun i wr => ∃ (k : Nat) (cs : Array Value) (Fs : Nat → List Nat), k ≤ xs.length ∧ i = .int .i64 k ∧ Fill shBatch 167 wr w.heap.size cs Fs xs k ∧ Below w.heap.size w wr) (fun i _ => xs.length - (intOf i).toNat)
 case atStart => exact ⟨0, _, fun _ => [], Nat.zero_le _, rfl, Fill.start H0.out (size_madeCells _ _), HB0.out⟩
 case round =>
  clear hmk
  obtain ⟨k, cs, Fs, hk, rfl, hfl, hb⟩ := hrel
  by_cases hlt : k < xs.length
  ·obtain ⟨-, b, off, rfl, hb1, hb2, A1, c1, e100, e101, hX⟩ := shBatch_at ((Sh.row 167 shBatch).R_below HA.out hb hhi) hlt
   have HX := Lib.hid (HF.out _ (getD_in (d := shBatch.d) hlt))
   obtain ⟨us, hu⟩ := Upd.begin_ (hfl.room hlt)
   have hul : us.length = 2 := hu.len
   obtain ⟨v0, v1, rfl⟩ : ∃ v0 v1, us = [v0, v1] := by
    match us, hul with
    | [v0, v1], _ => exact ⟨v0, v1, rfl⟩
   have hN := fun W vs lo hi => Fill.addM (W := W) (vs := vs) (lo := lo) (hi := hi) hfl hlt
   have HN := Lib.hid hN; clear hN
   have hm0 : Mid [w.heap.size] w.heap.size 167 cs (k * 2) 2 wr wr [v0, v1] := Mid.start hfl.blk hu _
   have hgw : w.heap.size < wr.heap.size := hfl.blk.lt
   generalize xs.getD k shBatch.d = X at *
   obtain ⟨x0, x1⟩ := X
   try dsimp only at e100 e101
   have HM0 := Lib.hid hm0; have HB := Lib.hid hb; have HR := Lib.hid hX
   have hsz := hb.size
   clear hm0 hb hX hfl hu hul
   go_wp2_with fail
   refine (toBatch_f x0 x1 A1 c1 lo hi _ HR.out (by omega) HX.out).mono ?_
   rintro e5 w5 ⟨B1, d1, rfl, ho5, hb5⟩
   have HM5 := Lib.hid (HM0.out.below hb5)
   have s5 := hb5.size
   have HB5 := Lib.hid (HB.out.trans (hb5.mono hsz))
   have g0 : _ = some v0 := HM5.out.cell0 (by decide)
   have g1 : _ = some v1 := HM5.out.cell (i := 1) (by decide)
   have z5 := HM5.out.frozen
   have hgl : w.heap.size < wr.heap.size := hgw
   have HO5 := Lib.hid ((ho5.setCell (p := ⟨w.heap.size, k * 2, none⟩) hgl (.int .i64 x0)).setCell (p := ⟨w.heap.size, k * 2 + 1, none⟩) hgl (.slice B1 x1.length d1))
   clear hb5 ho5 HM0 e100 e101
   go_wp2_with fail
   go_roundw
   case rel =>
    obtain ⟨cs', Fs', hf'⟩ := HN.out _ _ _ _ ((HM5.out.set0 (List.mem_cons_self ..) (by decide) (.int .i64 x0)).set_ (List.mem_cons_self ..) (i := 1) (by decide) (.slice B1 x1.length d1)) (Nat.le_refl _) HO5.out
    refine ⟨k + 1, cs', Fs', by omega, by go_num, hf', ?_⟩
    iterate 2 (with_reducible refine Below.setCell ?_ (by simp) _)
    exact HB5.out
   case measure => simp [intOf]; omega
  ·obtain rfl : k = xs.length := by omega
   have HB := Lib.hid hb; have HFL := Lib.hid hfl
   clear hb hfl
   go_wp2_with fail
   go_ret
   exact ⟨_, _, rfl, HFL.out.done (by unfold maxLen; omega), HB.out⟩
theorem toPut_f (x0 : Int) (x1 : ByteArray) (lo hi : Nat) (w : World) (h : shPut.R w lo hi [.int .i64 x0, .string x1] (x0, x1)) (_ : hi ≤ w.heap.size) (hf : shPut.fit 1048576 (x0, x1)) :
  Calls Tryz.prog 232 #[.agg #[.int .i64 x0, .string x1]] w fun e w' => e = .returned (.agg #[.int .i64 x0, .string x1]) ∧ Own shPut w' w.heap.size w'.heap.size [.int .i64 x0, .string x1] (x0, x1) ∧ Below w.heap.size w w' := by
 rw [shPut_fit] at hf
 obtain ⟨ft0, ft1⟩ := hf
 have HA := Lib.hid h
 clear h
 go_enter Tryz.func232, Tryz.ntmps232
 go_wp2_with fail
 have T0 := Three.start w 343 306 306 #[.int .i64 x0, .string x1] #[.int .i64 x0, .string x1] #[.int .i64 x0, .string x1]
 refine bodyPost_ret (v := .agg #[.int .i64 x0, .string x1]) (by simp [results, Tryz.results232, go_sem]) rfl ⟨rfl, ?_, ?_⟩
 ·refine Own.more (lo := w.heap.size) (hi := w.heap.size) ?_ (Nat.le_refl _) T0.2.2.2.size
  exact (Own.prod (Own.one _ (w.heap.size) (w.heap.size) _) (Own.one _ (w.heap.size) _ _) (by omega) (by omega) (by omega))
 ·exact T0.2.2.2
theorem make_PutS (n : Nat) (hn : n ≤ 1048576) (w : World) :
  (Instr.makeSlice 78 (.int .i64 (n : Int)) (.int .i64 (n : Int))).run Tryz.prog w = .ok (.slice (some ⟨w.heap.size, 0, none⟩) n n) (w.alloc (.cells (madeCells zeroPut (n * 2)) 306)) := by
 obtain ⟨i0, hi0, hz0, hz1, hz2⟩ := info_parts infoPut
 have hb : (i0.bytes : Int) * (n : Int) ≤ 281474976710656 := by
  rw [hz2]; omega
 have hr := run_make (P := Tryz.prog) w 78 306 i0 _ Tryz.underlying78 hi0 hz0 .i64 .i64 n n (by omega) (by omega) hb (by omega)
 simp only [Int.toNat_natCast] at hr
 rw [hr, hz1]
 rfl
theorem toPutS_f (A : Option Addr) (c : Nat) (xs : List TyPut) (lo hi : Nat) (w : World) (h : (Sh.row 306 shPut).R w lo hi [.slice A xs.length c] xs) (hhi : hi ≤ w.heap.size) (hf : (Sh.row 306 shPut).fit 1048576 xs) :
  Calls Tryz.prog 192 #[.slice A xs.length c] w fun e w' => ∃ (B : Option Addr) (d : Nat), e = .returned (.slice B xs.length d) ∧ Own (Sh.row 306 shPut) w' w.heap.size w'.heap.size [.slice B xs.length d] xs ∧ Below w.heap.size w w' := by
 have hn := hf.1
 have hmk := fun W => make_PutS xs.length hn W
 have H0 := Lib.hid (Blk.new w 306 (madeCells zeroPut (xs.length * 2)))
 have HB0 := Lib.hid ((Below.refl w.heap.size w).alloc (Nat.le_refl _) (.cells (madeCells zeroPut (xs.length * 2)) 306))
 have HA := Lib.hid h; have HF := Lib.hid hf.2
 clear h hf
 go_enter Tryz.func192, Tryz.ntmps192
 go_wp2_with fail
 go_loopw [4] (fun i wr => ∃ (k : Nat) (cs : Array Value) (Fs : Nat → List Nat), k ≤ xs.length ∧ i = .int .i64 k ∧ Fill shPut 306 wr w.heap.size cs Fs xs k ∧ Below w.heap.size w wr) (fun i _ => xs.length - (intOf i).toNat)
 case atStart => exact ⟨0, _, fun _ => [], Nat.zero_le _, rfl, Fill.start H0.out (size_madeCells _ _), HB0.out⟩
 case round =>
  clear hmk
  obtain ⟨k, cs, Fs, hk, rfl, hfl, hb⟩ := hrel
  by_cases hlt : k < xs.length
  ·obtain ⟨-, b, off, rfl, hb1, hb2, e100, e101, hX⟩ := shPut_at ((Sh.row 306 shPut).R_below HA.out hb hhi) hlt
   have HX := Lib.hid (HF.out _ (getD_in (d := shPut.d) hlt))
   obtain ⟨us, hu⟩ := Upd.begin_ (hfl.room hlt)
   have hul : us.length = 2 := hu.len
   obtain ⟨v0, v1, rfl⟩ : ∃ v0 v1, us = [v0, v1] := by
    match us, hul with
    | [v0, v1], _ => exact ⟨v0, v1, rfl⟩
   have hN := fun W vs lo hi => Fill.addM (W := W) (vs := vs) (lo := lo) (hi := hi) hfl hlt
   have HN := Lib.hid hN; clear hN
   have hm0 : Mid [w.heap.size] w.heap.size 306 cs (k * 2) 2 wr wr [v0, v1] := Mid.start hfl.blk hu _
   have hgw : w.heap.size < wr.heap.size := hfl.blk.lt
   generalize xs.getD k shPut.d = X at *
   obtain ⟨x0, x1⟩ := X
   try dsimp only at e100 e101
   have HM0 := Lib.hid hm0; have HB := Lib.hid hb; have HR := Lib.hid hX
   have hsz := hb.size
   clear hm0 hb hX hfl hu hul
   go_wp2_with fail
   refine (toPut_f x0 x1 lo hi _ HR.out (by omega) HX.out).mono ?_
   rintro e5 w5 ⟨rfl, ho5, hb5⟩
   have HM5 := Lib.hid (HM0.out.below hb5)
   have s5 := hb5.size
   have HB5 := Lib.hid (HB.out.trans (hb5.mono hsz))
   have g0 : _ = some v0 := HM5.out.cell0 (by decide)
   have g1 : _ = some v1 := HM5.out.cell (i := 1) (by decide)
   have z5 := HM5.out.frozen
   have hgl : w.heap.size < wr.heap.size := hgw
   have HO5 := Lib.hid ((ho5.setCell (p := ⟨w.heap.size, k * 2, none⟩) hgl (.int .i64 x0)).setCell (p := ⟨w.heap.size, k * 2 + 1, none⟩) hgl (.string x1))
   clear hb5 ho5 HM0 e100 e101
   go_wp2_with fail
   go_roundw
   case rel =>
    obtain ⟨cs', Fs', hf'⟩ := HN.out _ _ _ _ ((HM5.out.set0 (List.mem_cons_self ..) (by decide) (.int .i64 x0)).set_ (List.mem_cons_self ..) (i := 1) (by decide) (.string x1)) (Nat.le_refl _) HO5.out
    refine ⟨k + 1, cs', Fs', by omega, by go_num, hf', ?_⟩
    iterate 2 (with_reducible refine Below.setCell ?_ (by simp) _)
    exact HB5.out
   case measure => simp [intOf]; omega
  ·obtain rfl : k = xs.length := by omega
   have HB := Lib.hid hb; have HFL := Lib.hid hfl
   clear hb hfl
   go_wp2_with fail
   go_ret
   exact ⟨_, _, rfl, HFL.out.done (by unfold maxLen; omega), HB.out⟩
theorem toDisk_f (x0 : Int) (x1 : List ByteArray) (x2 : List TyPut) (A1 : Option Addr) (c1 : Nat) (A2 : Option Addr) (c2 : Nat) (lo hi : Nat) (w : World) (h : shDisk.R w lo hi [.int .i64 x0, .slice A1 x1.length c1, .slice A2 x2.length c2] (x0, x1, x2)) (hhi : hi ≤ w.heap.size) (hf : shDisk.fit 1048576 (x0, x1, x2)) :
  Calls Tryz.prog 130 #[.agg #[.int .i64 x0, .slice A1 x1.length c1, .slice A2 x2.length c2]] w fun e w' => ∃ (B1 : Option Addr) (d1 : Nat), ∃ (B2 : Option Addr) (d2 : Nat), e = .returned (.agg #[.int .i64 x0, .slice B1 x1.length d1, .slice B2 x2.length d2]) ∧ Own shDisk w' w.heap.size w'.heap.size [.int .i64 x0, .slice B1 x1.length d1, .slice B2 x2.length d2] (x0, x1, x2) ∧ Below w.heap.size w w' := by
 rw [shDisk_fit] at hf
 obtain ⟨ft0, ft1, ft2⟩ := hf
 have HA := Lib.hid h
 clear h
 go_enter Tryz.func130, Tryz.ntmps130
 go_wp2_with fail
 have T0 := Three.start w 44 80 80 #[.int .i64 x0, .slice A1 x1.length c1, .slice A2 x2.length c2] #[.int .i64 0, .slice none 0 0, .slice none 0 0] #[.int .i64 x0, .slice none 0 0, .slice none 0 0]
 refine (toStringS_f A1 c1 x1 lo hi _ (shDisk_f1 (shDisk.R_below HA.out T0.2.2.2 hhi)) (Nat.le_trans hhi T0.2.2.2.size) ft1).mono ?_
 rintro e1 w1 ⟨B1, d1, rfl, ho1, hb1⟩
 have T1 := T0.call hb1
 have hs1 : w.heap.size + 1 + 1 + 1 ≤ w1.heap.size := by have := hb1.size; simpa using this
 have ho1 := ho1.more (lo' := w.heap.size + 1 + 1 + 1) (by simp) (Nat.le_refl _)
 clear T0 hb1
 have f0 := T1.1.cell
 have f2 := T1.2.2.1.cell
 have z2 := T1.2.2.1.frozen
 have TT := Lib.hid (T1.store2 1 (.slice B1 x1.length d1)); clear T1
 have O1 := Lib.hid (ho1.setCell (p := ⟨w.heap.size + 1 + 1, 1, none⟩) (by dsimp only; omega) (.slice B1 x1.length d1)); clear ho1
 go_wp2_with fail
 clear f0 f2 z2
 have hz1 : (w1.setCell ⟨w.heap.size + 1 + 1, 1, none⟩ (.slice B1 x1.length d1)).heap.size = w1.heap.size := by simp [World.setCell]
 generalize (w1.setCell ⟨w.heap.size + 1 + 1, 1, none⟩ (.slice B1 x1.length d1)) = W1 at *
 refine (toPutS_f A2 c2 x2 lo hi _ (shDisk_f2 (shDisk.R_below HA.out TT.out.2.2.2 hhi)) (Nat.le_trans hhi TT.out.2.2.2.size) ft2).mono ?_
 rintro e2 w2 ⟨B2, d2, rfl, ho2, hb2⟩
 have T2 := TT.out.call hb2
 have hs2 := hb2.size
 have ho1 := O1.out.below hb2 (by omega)
 clear TT O1 hb2
 have f0 := T2.1.cell
 have f1 := T2.2.1.cell
 have z1 := T2.2.1.frozen
 have f2 := T2.2.2.1.cell
 have z2 := T2.2.2.1.frozen
 have TT := Lib.hid T2; clear T2
 have O1 := Lib.hid ho1; clear ho1
 have O2 := Lib.hid ho2; clear ho2
 go_wp2_with fail
 refine bodyPost_ret (v := .agg #[.int .i64 x0, .slice B1 x1.length d1, .slice B2 x2.length d2]) (by simp [results, Tryz.results130, go_sem, f1]) rfl ⟨_, _, _, _, rfl, ?_, ?_⟩
 ·refine Own.more (lo := w.heap.size + 1 + 1 + 1) (hi := w2.heap.size) ?_ (by omega) (by simp [World.setCell])
  iterate 4 (with_reducible refine Own.setCell ?_ (by dsimp only; omega) _)
  exact (Own.prod (Own.one w2 (w.heap.size + 1 + 1 + 1) (w.heap.size + 1 + 1 + 1) _) (Own.prod O1.out O2.out (by omega) (by omega) (by omega)) (by omega) (by omega) (by omega))
 ·iterate 4 (with_reducible refine Below.setCell ?_ (by simp; try omega) _)
  exact TT.out.2.2.2
theorem toSeat_f (x0 : Int) (x1 : Int) (lo hi : Nat) (w : World) (h : shSeat.R w lo hi [.int .i64 x0, .int .i64 x1] (x0, x1)) (_ : hi ≤ w.heap.size) (hf : shSeat.fit 1048576 (x0, x1)) :
  Calls Tryz.prog 193 #[.agg #[.int .i64 x0, .int .i64 x1]] w fun e w' => e = .returned (.agg #[.int .i64 x0, .int .i64 x1]) ∧ Own shSeat w' w.heap.size w'.heap.size [.int .i64 x0, .int .i64 x1] (x0, x1) ∧ Below w.heap.size w w' := by
 rw [shSeat_fit] at hf
 obtain ⟨ft0, ft1⟩ := hf
 have HA := Lib.hid h
 clear h
 go_enter Tryz.func193, Tryz.ntmps193
 go_wp2_with fail
 have T0 := Three.start w 316 273 273 #[.int .i64 x0, .int .i64 x1] #[.int .i64 x0, .int .i64 x1] #[.int .i64 x0, .int .i64 x1]
 refine bodyPost_ret (v := .agg #[.int .i64 x0, .int .i64 x1]) (by simp [results, Tryz.results193, go_sem]) rfl ⟨rfl, ?_, ?_⟩
 ·refine Own.more (lo := w.heap.size) (hi := w.heap.size) ?_ (Nat.le_refl _) T0.2.2.2.size
  exact (Own.prod (Own.one _ (w.heap.size) (w.heap.size) _) (Own.one _ (w.heap.size) _ _) (by omega) (by omega) (by omega))
 ·exact T0.2.2.2
theorem make_SeatS (n : Nat) (hn : n ≤ 1048576) (w : World) :
  (Instr.makeSlice 81 (.int .i64 (n : Int)) (.int .i64 (n : Int))).run Tryz.prog w = .ok (.slice (some ⟨w.heap.size, 0, none⟩) n n) (w.alloc (.cells (madeCells zeroSeat (n * 2)) 273)) := by
 obtain ⟨i0, hi0, hz0, hz1, hz2⟩ := info_parts infoSeat
 have hb : (i0.bytes : Int) * (n : Int) ≤ 281474976710656 := by
  rw [hz2]; omega
 have hr := run_make (P := Tryz.prog) w 81 273 i0 _ Tryz.underlying81 hi0 hz0 .i64 .i64 n n (by omega) (by omega) hb (by omega)
 simp only [Int.toNat_natCast] at hr
 rw [hr, hz1]
 rfl
theorem toSeatS_f (A : Option Addr) (c : Nat) (xs : List TySeat) (lo hi : Nat) (w : World) (h : (Sh.row 273 shSeat).R w lo hi [.slice A xs.length c] xs) (hhi : hi ≤ w.heap.size) (hf : (Sh.row 273 shSeat).fit 1048576 xs) :
  Calls Tryz.prog 132 #[.slice A xs.length c] w fun e w' => ∃ (B : Option Addr) (d : Nat), e = .returned (.slice B xs.length d) ∧ Own (Sh.row 273 shSeat) w' w.heap.size w'.heap.size [.slice B xs.length d] xs ∧ Below w.heap.size w w' := by
 have hn := hf.1
 have hmk := fun W => make_SeatS xs.length hn W
 have H0 := Lib.hid (Blk.new w 273 (madeCells zeroSeat (xs.length * 2)))
 have HB0 := Lib.hid ((Below.refl w.heap.size w).alloc (Nat.le_refl _) (.cells (madeCells zeroSeat (xs.length * 2)) 273))
 have HA := Lib.hid h; have HF := Lib.hid hf.2
 clear h hf
 go_enter Tryz.func132, Tryz.ntmps132
 go_wp2_with fail
 go_loopw [4] (fun i wr => ∃ (k : Nat) (cs : Array Value) (Fs : Nat → List Nat), k ≤ xs.length ∧ i = .int .i64 k ∧ Fill shSeat 273 wr w.heap.size cs Fs xs k ∧ Below w.heap.size w wr) (fun i _ => xs.length - (intOf i).toNat)
 case atStart => exact ⟨0, _, fun _ => [], Nat.zero_le _, rfl, Fill.start H0.out (size_madeCells _ _), HB0.out⟩
 case round =>
  clear hmk
  obtain ⟨k, cs, Fs, hk, rfl, hfl, hb⟩ := hrel
  by_cases hlt : k < xs.length
  ·obtain ⟨-, b, off, rfl, hb1, hb2, e100, e101, hX⟩ := shSeat_at ((Sh.row 273 shSeat).R_below HA.out hb hhi) hlt
   have HX := Lib.hid (HF.out _ (getD_in (d := shSeat.d) hlt))
   obtain ⟨us, hu⟩ := Upd.begin_ (hfl.room hlt)
   have hul : us.length = 2 := hu.len
   obtain ⟨v0, v1, rfl⟩ : ∃ v0 v1, us = [v0, v1] := by
    match us, hul with
    | [v0, v1], _ => exact ⟨v0, v1, rfl⟩
   have hN := fun W vs lo hi => Fill.addM (W := W) (vs := vs) (lo := lo) (hi := hi) hfl hlt
   have HN := Lib.hid hN; clear hN
   have hm0 : Mid [w.heap.size] w.heap.size 273 cs (k * 2) 2 wr wr [v0, v1] := Mid.start hfl.blk hu _
   have hgw : w.heap.size < wr.heap.size := hfl.blk.lt
   generalize xs.getD k shSeat.d = X at *
   obtain ⟨x0, x1⟩ := X
   try dsimp only at e100 e101
   have HM0 := Lib.hid hm0; have HB := Lib.hid hb; have HR := Lib.hid hX
   have hsz := hb.size
   clear hm0 hb hX hfl hu hul
   go_wp2_with fail
   refine (toSeat_f x0 x1 lo hi _ HR.out (by omega) HX.out).mono ?_
   rintro e5 w5 ⟨rfl, ho5, hb5⟩
   have HM5 := Lib.hid (HM0.out.below hb5)
   have s5 := hb5.size
   have HB5 := Lib.hid (HB.out.trans (hb5.mono hsz))
   have g0 : _ = some v0 := HM5.out.cell0 (by decide)
   have g1 : _ = some v1 := HM5.out.cell (i := 1) (by decide)
   have z5 := HM5.out.frozen
   have hgl : w.heap.size < wr.heap.size := hgw
   have HO5 := Lib.hid ((ho5.setCell (p := ⟨w.heap.size, k * 2, none⟩) hgl (.int .i64 x0)).setCell (p := ⟨w.heap.size, k * 2 + 1, none⟩) hgl (.int .i64 x1))
   clear hb5 ho5 HM0 e100 e101
   go_wp2_with fail
   go_roundw
   case rel =>
    obtain ⟨cs', Fs', hf'⟩ := HN.out _ _ _ _ ((HM5.out.set0 (List.mem_cons_self ..) (by decide) (.int .i64 x0)).set_ (List.mem_cons_self ..) (i := 1) (by decide) (.int .i64 x1)) (Nat.le_refl _) HO5.out
    refine ⟨k + 1, cs', Fs', by omega, by go_num, hf', ?_⟩
    iterate 2 (with_reducible refine Below.setCell ?_ (by simp) _)
    exact HB5.out
   case measure => simp [intOf]; omega
  ·obtain rfl : k = xs.length := by omega
   have HB := Lib.hid hb; have HFL := Lib.hid hfl
   clear hb hfl
   go_wp2_with fail
   go_ret
   exact ⟨_, _, rfl, HFL.out.done (by unfold maxLen; omega), HB.out⟩
theorem toTop_f (x0 : Int) (x1 : Int) (x2 : Int) (x3 : List TySeat) (A3 : Option Addr) (c3 : Nat) (lo hi : Nat) (w : World) (h : shTop.R w lo hi [.int .i64 x0, .int .i64 x1, .int .i64 x2, .slice A3 x3.length c3] (x0, x1, x2, x3)) (hhi : hi ≤ w.heap.size) (hf : shTop.fit 1048576 (x0, x1, x2, x3)) :
  Calls Tryz.prog 131 #[.agg #[.int .i64 x0, .int .i64 x1, .int .i64 x2, .slice A3 x3.length c3]] w fun e w' => ∃ (B3 : Option Addr) (d3 : Nat), e = .returned (.agg #[.int .i64 x0, .int .i64 x1, .int .i64 x2, .slice B3 x3.length d3]) ∧ Own shTop w' w.heap.size w'.heap.size [.int .i64 x0, .int .i64 x1, .int .i64 x2, .slice B3 x3.length d3] (x0, x1, x2, x3) ∧ Below w.heap.size w w' := by
 rw [shTop_fit] at hf
 obtain ⟨ft0, ft1, ft2, ft3⟩ := hf
 have HA := Lib.hid h
 clear h
 go_enter Tryz.func131, Tryz.ntmps131
 go_wp2_with fail
 have T0 := Three.start w 47 83 83 #[.int .i64 x0, .int .i64 x1, .int .i64 x2, .slice A3 x3.length c3] zz8 #[.int .i64 x0, .int .i64 x1, .int .i64 x2, .slice none 0 0]
 refine (toSeatS_f A3 c3 x3 lo hi _ (shTop_f3 (shTop.R_below HA.out T0.2.2.2 hhi)) (Nat.le_trans hhi T0.2.2.2.size) ft3).mono ?_
 rintro e1 w1 ⟨B3, d3, rfl, ho3, hb1⟩
 have T1 := T0.call hb1
 have hs1 : w.heap.size + 1 + 1 + 1 ≤ w1.heap.size := by have := hb1.size; simpa using this
 have ho3 := ho3.more (lo' := w.heap.size + 1 + 1 + 1) (by simp) (Nat.le_refl _)
 clear T0 hb1
 have f0 := T1.1.cell
 have f1 := T1.2.1.cell
 have z1 := T1.2.1.frozen
 have f2 := T1.2.2.1.cell
 have z2 := T1.2.2.1.frozen
 have TT := Lib.hid T1; clear T1
 have O3 := Lib.hid ho3; clear ho3
 go_wp2_with fail
 refine bodyPost_ret (v := .agg #[.int .i64 x0, .int .i64 x1, .int .i64 x2, .slice B3 x3.length d3]) (by simp [results, Tryz.results131, go_sem, f1]) rfl ⟨_, _, rfl, ?_, ?_⟩
 ·refine Own.more (lo := w.heap.size + 1 + 1 + 1) (hi := w1.heap.size) ?_ (by omega) (by simp [World.setCell])
  iterate 5 (with_reducible refine Own.setCell ?_ (by dsimp only; omega) _)
  exact (Own.prod (Own.one w1 (w.heap.size + 1 + 1 + 1) (w.heap.size + 1 + 1 + 1) _) (Own.prod (Own.one w1 (w.heap.size + 1 + 1 + 1) (w.heap.size + 1 + 1 + 1) _) (Own.prod (Own.one w1 (w.heap.size + 1 + 1 + 1) (w.heap.size + 1 + 1 + 1) _) O3.out (by omega) (by omega) (by omega)) (by omega) (by omega) (by omega)) (by omega) (by omega) (by omega))
 ·iterate 5 (with_reducible refine Below.setCell ?_ (by simp; try omega) _)
  exact TT.out.2.2.2
theorem toJournal_f (x0 : Int) (x1 : List ByteArray) (x2 : List TyPut) (x3 : Int) (x4 : Int) (x5 : Int) (x6 : Int) (A1 : Option Addr) (c1 : Nat) (A2 : Option Addr) (c2 : Nat) (lo hi : Nat) (w : World) (h : shJournal.R w lo hi [.int .i64 x0, .slice A1 x1.length c1, .slice A2 x2.length c2, .int .i64 x3, .int .i64 x4, .int .i64 x5, .int .i64 x6] ((x0, x1, x2), x3, x4, x5, x6)) (hhi : hi ≤ w.heap.size) (hf : shJournal.fit 1048576 ((x0, x1, x2), x3, x4, x5, x6)) :
  Calls Tryz.prog 69 #[.agg #[.int .i64 x0, .slice A1 x1.length c1, .slice A2 x2.length c2, .int .i64 x3, .int .i64 x4, .int .i64 x5, .int .i64 x6]] w fun e w' => ∃ (B1 : Option Addr) (d1 : Nat), ∃ (B2 : Option Addr) (d2 : Nat), e = .returned (.agg #[.int .i64 x0, .slice B1 x1.length d1, .slice B2 x2.length d2, .int .i64 x3, .int .i64 x4, .int .i64 x5, .int .i64 x6]) ∧ Own shJournal w' w.heap.size w'.heap.size [.int .i64 x0, .slice B1 x1.length d1, .slice B2 x2.length d2, .int .i64 x3, .int .i64 x4, .int .i64 x5, .int .i64 x6] ((x0, x1, x2), x3, x4, x5, x6) ∧ Below w.heap.size w w' := by
 rw [shJournal_fit] at hf
 obtain ⟨ft0, ft3, ft4, ft5, ft6⟩ := hf
 have HA := Lib.hid h
 clear h
 go_enter Tryz.func69, Tryz.ntmps69
 go_wp2_with fail
 have T0 := Three.start w 52 87 87 #[.int .i64 x0, .slice A1 x1.length c1, .slice A2 x2.length c2, .int .i64 x3, .int .i64 x4, .int .i64 x5, .int .i64 x6] zz10 zz10
 refine (toDisk_f x0 x1 x2 A1 c1 A2 c2 lo hi _ (shJournal_f0 (shJournal.R_below HA.out T0.2.2.2 hhi)) (Nat.le_trans hhi T0.2.2.2.size) ft0).mono ?_
 rintro e1 w1 ⟨B1, d1, B2, d2, rfl, ho0, hb1⟩
 have T1 := T0.call hb1
 have hs1 : w.heap.size + 1 + 1 + 1 ≤ w1.heap.size := by have := hb1.size; simpa using this
 have ho0 := ho0.more (lo' := w.heap.size + 1 + 1 + 1) (by simp) (Nat.le_refl _)
 clear T0 hb1
 have f0 := T1.1.cell
 have f1 := T1.2.1.cell
 have z1 := T1.2.1.frozen
 have f2 := T1.2.2.1.cell
 have z2 := T1.2.2.1.frozen
 have TT := Lib.hid T1; clear T1
 have O0 := Lib.hid ho0; clear ho0
 go_wp2_with fail
 refine bodyPost_ret (v := .agg #[.int .i64 x0, .slice B1 x1.length d1, .slice B2 x2.length d2, .int .i64 x3, .int .i64 x4, .int .i64 x5, .int .i64 x6]) (by simp [results, Tryz.results69, go_sem, f1]) rfl ⟨_, _, _, _, rfl, ?_, ?_⟩
 ·refine Own.more (lo := w.heap.size + 1 + 1 + 1) (hi := w1.heap.size) ?_ (by omega) (by simp [World.setCell])
  iterate 14 (with_reducible refine Own.setCell ?_ (by dsimp only; omega) _)
  exact (Own.prod O0.out (Own.prod (Own.one w1 (w1.heap.size) (w1.heap.size) _) (Own.prod (Own.one w1 (w1.heap.size) (w1.heap.size) _) (Own.prod (Own.one w1 (w1.heap.size) (w1.heap.size) _) (Own.one w1 (w1.heap.size) _ _) (by omega) (by omega) (by omega)) (by omega) (by omega) (by omega)) (by omega) (by omega) (by omega)) (by omega) (by omega) (by omega))
 ·iterate 14 (with_reducible refine Below.setCell ?_ (by simp; try omega) _)
  exact TT.out.2.2.2
theorem toPage_f (x0 : Bool) (x1 : List ByteArray) (x2 : List ByteArray) (x3 : List Int) (A1 : Option Addr) (c1 : Nat) (A2 : Option Addr) (c2 : Nat) (A3 : Option Addr) (c3 : Nat) (lo hi : Nat) (w : World) (h : shPage.R w lo hi [.bool x0, .slice A1 x1.length c1, .slice A2 x2.length c2, .slice A3 x3.length c3] (x0, x1, x2, x3)) (hhi : hi ≤ w.heap.size) (hf : shPage.fit 1048576 (x0, x1, x2, x3)) :
  Calls Tryz.prog 231 #[.agg #[.bool x0, .slice A1 x1.length c1, .slice A2 x2.length c2, .slice A3 x3.length c3]] w fun e w' => ∃ (B1 : Option Addr) (d1 : Nat), ∃ (B2 : Option Addr) (d2 : Nat), ∃ (B3 : Option Addr) (d3 : Nat), e = .returned (.agg #[.bool x0, .slice B1 x1.length d1, .slice B2 x2.length d2, .slice B3 x3.length d3]) ∧ Own shPage w' w.heap.size w'.heap.size [.bool x0, .slice B1 x1.length d1, .slice B2 x2.length d2, .slice B3 x3.length d3] (x0, x1, x2, x3) ∧ Below w.heap.size w w' := by
 rw [shPage_fit] at hf
 obtain ⟨ft0, ft1, ft2, ft3⟩ := hf
 have HA := Lib.hid h
 clear h
 go_enter Tryz.func231, Tryz.ntmps231
 go_wp2_with fail
 have T0 := Three.start w 299 237 237 #[.bool x0, .slice A1 x1.length c1, .slice A2 x2.length c2, .slice A3 x3.length c3] zz11 #[.bool x0, .slice none 0 0, .slice none 0 0, .slice none 0 0]
 refine (toStringS_f A1 c1 x1 lo hi _ (shPage_f1 (shPage.R_below HA.out T0.2.2.2 hhi)) (Nat.le_trans hhi T0.2.2.2.size) ft1).mono ?_
 rintro e1 w1 ⟨B1, d1, rfl, ho1, hb1⟩
 have T1 := T0.call hb1
 have hs1 : w.heap.size + 1 + 1 + 1 ≤ w1.heap.size := by have := hb1.size; simpa using this
 have ho1 := ho1.more (lo' := w.heap.size + 1 + 1 + 1) (by simp) (Nat.le_refl _)
 clear T0 hb1
 have f0 := T1.1.cell
 have f2 := T1.2.2.1.cell
 have z2 := T1.2.2.1.frozen
 have TT := Lib.hid (T1.store2 1 (.slice B1 x1.length d1)); clear T1
 have O1 := Lib.hid (ho1.setCell (p := ⟨w.heap.size + 1 + 1, 1, none⟩) (by dsimp only; omega) (.slice B1 x1.length d1)); clear ho1
 go_wp2_with fail
 clear f0 f2 z2
 have hz1 : (w1.setCell ⟨w.heap.size + 1 + 1, 1, none⟩ (.slice B1 x1.length d1)).heap.size = w1.heap.size := by simp [World.setCell]
 generalize (w1.setCell ⟨w.heap.size + 1 + 1, 1, none⟩ (.slice B1 x1.length d1)) = W1 at *
 refine (toStringS_f A2 c2 x2 lo hi _ (shPage_f2 (shPage.R_below HA.out TT.out.2.2.2 hhi)) (Nat.le_trans hhi TT.out.2.2.2.size) ft2).mono ?_
 rintro e2 w2 ⟨B2, d2, rfl, ho2, hb2⟩
 have T2 := TT.out.call hb2
 have hs2 := hb2.size
 have ho1 := O1.out.below hb2 (by omega)
 clear TT O1 hb2
 have f0 := T2.1.cell
 have f2 := T2.2.2.1.cell
 have z2 := T2.2.2.1.frozen
 have TT := Lib.hid (T2.store2 2 (.slice B2 x2.length d2)); clear T2
 have O1 := Lib.hid (ho1.setCell (p := ⟨w.heap.size + 1 + 1, 2, none⟩) (by dsimp only; omega) (.slice B2 x2.length d2)); clear ho1
 have O2 := Lib.hid (ho2.setCell (p := ⟨w.heap.size + 1 + 1, 2, none⟩) (by dsimp only; omega) (.slice B2 x2.length d2)); clear ho2
 go_wp2_with fail
 clear f0 f2 z2
 have hz2 : (w2.setCell ⟨w.heap.size + 1 + 1, 2, none⟩ (.slice B2 x2.length d2)).heap.size = w2.heap.size := by simp [World.setCell]
 generalize (w2.setCell ⟨w.heap.size + 1 + 1, 2, none⟩ (.slice B2 x2.length d2)) = W2 at *
 refine (toInt64S_f A3 c3 x3 lo hi _ (shPage_f3 (shPage.R_below HA.out TT.out.2.2.2 hhi)) (Nat.le_trans hhi TT.out.2.2.2.size) ft3).mono ?_
 rintro e3 w3 ⟨B3, d3, rfl, ho3, hb3⟩
 have T3 := TT.out.call hb3
 have hs3 := hb3.size
 have ho1 := O1.out.below hb3 (by omega)
 have ho2 := O2.out.below hb3 (by omega)
 clear TT O1 O2 hb3
 have f0 := T3.1.cell
 have f1 := T3.2.1.cell
 have z1 := T3.2.1.frozen
 have f2 := T3.2.2.1.cell
 have z2 := T3.2.2.1.frozen
 have TT := Lib.hid T3; clear T3
 have O1 := Lib.hid ho1; clear ho1
 have O2 := Lib.hid ho2; clear ho2
 have O3 := Lib.hid ho3; clear ho3
 go_wp2_with fail
 refine bodyPost_ret (v := .agg #[.bool x0, .slice B1 x1.length d1, .slice B2 x2.length d2, .slice B3 x3.length d3]) (by simp [results, Tryz.results231, go_sem, f1]) rfl ⟨_, _, _, _, _, _, rfl, ?_, ?_⟩
 ·refine Own.more (lo := w.heap.size + 1 + 1 + 1) (hi := w3.heap.size) ?_ (by omega) (by simp [World.setCell])
  iterate 5 (with_reducible refine Own.setCell ?_ (by dsimp only; omega) _)
  exact (Own.prod (Own.one w3 (w.heap.size + 1 + 1 + 1) (w.heap.size + 1 + 1 + 1) _) (Own.prod O1.out (Own.prod O2.out O3.out (by omega) (by omega) (by omega)) (by omega) (by omega) (by omega)) (by omega) (by omega) (by omega))
 ·iterate 5 (with_reducible refine Below.setCell ?_ (by simp; try omega) _)
  exact TT.out.2.2.2
theorem toSlot_f (x0 : Int) (x1 : Bool) (x2 : List ByteArray) (x3 : List ByteArray) (x4 : List Int) (A2 : Option Addr) (c2 : Nat) (A3 : Option Addr) (c3 : Nat) (A4 : Option Addr) (c4 : Nat) (lo hi : Nat) (w : World) (h : shSlot.R w lo hi [.int .i64 x0, .bool x1, .slice A2 x2.length c2, .slice A3 x3.length c3, .slice A4 x4.length c4] (x0, (x1, x2, x3, x4))) (hhi : hi ≤ w.heap.size) (hf : shSlot.fit 1048576 (x0, (x1, x2, x3, x4))) :
  Calls Tryz.prog 191 #[.agg #[.int .i64 x0, .bool x1, .slice A2 x2.length c2, .slice A3 x3.length c3, .slice A4 x4.length c4]] w fun e w' => ∃ (B2 : Option Addr) (d2 : Nat), ∃ (B3 : Option Addr) (d3 : Nat), ∃ (B4 : Option Addr) (d4 : Nat), e = .returned (.agg #[.int .i64 x0, .bool x1, .slice B2 x2.length d2, .slice B3 x3.length d3, .slice B4 x4.length d4]) ∧ Own shSlot w' w.heap.size w'.heap.size [.int .i64 x0, .bool x1, .slice B2 x2.length d2, .slice B3 x3.length d3, .slice B4 x4.length d4] (x0, (x1, x2, x3, x4)) ∧ Below w.heap.size w w' := by
 rw [shSlot_fit] at hf
 obtain ⟨ft0, ft1⟩ := hf
 have HA := Lib.hid h
 clear h
 go_enter Tryz.func191, Tryz.ntmps191
 go_wp2_with fail
 have T0 := Three.start w 301 239 239 #[.int .i64 x0, .bool x1, .slice A2 x2.length c2, .slice A3 x3.length c3, .slice A4 x4.length c4] zz12 #[.int .i64 x0, .bool false, .slice none 0 0, .slice none 0 0, .slice none 0 0]
 refine (toPage_f x1 x2 x3 x4 A2 c2 A3 c3 A4 c4 lo hi _ (shSlot_f1 (shSlot.R_below HA.out T0.2.2.2 hhi)) (Nat.le_trans hhi T0.2.2.2.size) ft1).mono ?_
 rintro e1 w1 ⟨B2, d2, B3, d3, B4, d4, rfl, ho1, hb1⟩
 have T1 := T0.call hb1
 have hs1 : w.heap.size + 1 + 1 + 1 ≤ w1.heap.size := by have := hb1.size; simpa using this
 have ho1 := ho1.more (lo' := w.heap.size + 1 + 1 + 1) (by simp) (Nat.le_refl _)
 clear T0 hb1
 have f0 := T1.1.cell
 have f1 := T1.2.1.cell
 have z1 := T1.2.1.frozen
 have f2 := T1.2.2.1.cell
 have z2 := T1.2.2.1.frozen
 have TT := Lib.hid T1; clear T1
 have O1 := Lib.hid ho1; clear ho1
 go_wp2_with fail
 refine bodyPost_ret (v := .agg #[.int .i64 x0, .bool x1, .slice B2 x2.length d2, .slice B3 x3.length d3, .slice B4 x4.length d4]) (by simp [results, Tryz.results191, go_sem, f1]) rfl ⟨_, _, _, _, _, _, rfl, ?_, ?_⟩
 ·refine Own.more (lo := w.heap.size + 1 + 1 + 1) (hi := w1.heap.size) ?_ (by omega) (by simp [World.setCell])
  iterate 9 (with_reducible refine Own.setCell ?_ (by dsimp only; omega) _)
  exact (Own.prod (Own.one w1 (w.heap.size + 1 + 1 + 1) (w.heap.size + 1 + 1 + 1) _) O1.out (by omega) (by omega) (by omega))
 ·iterate 9 (with_reducible refine Below.setCell ?_ (by simp; try omega) _)
  exact TT.out.2.2.2
theorem make_SlotS (n : Nat) (hn : n ≤ 1048576) (w : World) :
  (Instr.makeSlice 75 (.int .i64 (n : Int)) (.int .i64 (n : Int))).run Tryz.prog w = .ok (.slice (some ⟨w.heap.size, 0, none⟩) n n) (w.alloc (.cells (madeCells zeroSlot (n * 5)) 239)) := by
 obtain ⟨i0, hi0, hz0, hz1, hz2⟩ := info_parts infoSlot
 have hb : (i0.bytes : Int) * (n : Int) ≤ 281474976710656 := by
  rw [hz2]; omega
 have hr := run_make (P := Tryz.prog) w 75 239 i0 _ Tryz.underlying75 hi0 hz0 .i64 .i64 n n (by omega) (by omega) hb (by omega)
 simp only [Int.toNat_natCast] at hr
 rw [hr, hz1]
 rfl
theorem toSlotS_f (A : Option Addr) (c : Nat) (xs : List TySlot) (lo hi : Nat) (w : World) (h : (Sh.row 239 shSlot).R w lo hi [.slice A xs.length c] xs) (hhi : hi ≤ w.heap.size) (hf : (Sh.row 239 shSlot).fit 1048576 xs) :
  Calls Tryz.prog 129 #[.slice A xs.length c] w fun e w' => ∃ (B : Option Addr) (d : Nat), e = .returned (.slice B xs.length d) ∧ Own (Sh.row 239 shSlot) w' w.heap.size w'.heap.size [.slice B xs.length d] xs ∧ Below w.heap.size w w' := by
 have hn := hf.1
 have hmk := fun W => make_SlotS xs.length hn W
 have H0 := Lib.hid (Blk.new w 239 (madeCells zeroSlot (xs.length * 5)))
 have HB0 := Lib.hid ((Below.refl w.heap.size w).alloc (Nat.le_refl _) (.cells (madeCells zeroSlot (xs.length * 5)) 239))
 have HA := Lib.hid h; have HF := Lib.hid hf.2
 clear h hf
 go_enter Tryz.func129, Tryz.ntmps129
 go_wp2_with fail
 go_loopw [4] (fun i wr => ∃ (k : Nat) (cs : Array Value) (Fs : Nat → List Nat), k ≤ xs.length ∧ i = .int .i64 k ∧ Fill shSlot 239 wr w.heap.size cs Fs xs k ∧ Below w.heap.size w wr) (fun i _ => xs.length - (intOf i).toNat)
 case atStart => exact ⟨0, _, fun _ => [], Nat.zero_le _, rfl, Fill.start H0.out (size_madeCells _ _), HB0.out⟩
 case round =>
  clear hmk
  obtain ⟨k, cs, Fs, hk, rfl, hfl, hb⟩ := hrel
  by_cases hlt : k < xs.length
  ·obtain ⟨-, b, off, rfl, hb1, hb2, A2, c2, A3, c3, A4, c4, e100, e101, e102, e103, e104, hX⟩ := shSlot_at ((Sh.row 239 shSlot).R_below HA.out hb hhi) hlt
   have HX := Lib.hid (HF.out _ (getD_in (d := shSlot.d) hlt))
   obtain ⟨us, hu⟩ := Upd.begin_ (hfl.room hlt)
   have hul : us.length = 5 := hu.len
   obtain ⟨v0, v1, v2, v3, v4, rfl⟩ : ∃ v0 v1 v2 v3 v4, us = [v0, v1, v2, v3, v4] := by
    match us, hul with
    | [v0, v1, v2, v3, v4], _ => exact ⟨v0, v1, v2, v3, v4, rfl⟩
   have hN := fun W vs lo hi => Fill.addM (W := W) (vs := vs) (lo := lo) (hi := hi) hfl hlt
   have HN := Lib.hid hN; clear hN
   have hm0 : Mid [w.heap.size] w.heap.size 239 cs (k * 5) 5 wr wr [v0, v1, v2, v3, v4] := Mid.start hfl.blk hu _
   have hgw : w.heap.size < wr.heap.size := hfl.blk.lt
   generalize xs.getD k shSlot.d = X at *
   obtain ⟨x0, ⟨x1, x2, x3, x4⟩⟩ := X
   try dsimp only at e100 e101 e102 e103 e104
   have HM0 := Lib.hid hm0; have HB := Lib.hid hb; have HR := Lib.hid hX
   have hsz := hb.size
   clear hm0 hb hX hfl hu hul
   go_wp2_with fail
   refine (toSlot_f x0 x1 x2 x3 x4 A2 c2 A3 c3 A4 c4 lo hi _ HR.out (by omega) HX.out).mono ?_
   rintro e5 w5 ⟨B2, d2, B3, d3, B4, d4, rfl, ho5, hb5⟩
   have HM5 := Lib.hid (HM0.out.below hb5)
   have s5 := hb5.size
   have HB5 := Lib.hid (HB.out.trans (hb5.mono hsz))
   have g0 : _ = some v0 := HM5.out.cell0 (by decide)
   have g1 : _ = some v1 := HM5.out.cell (i := 1) (by decide)
   have g2 : _ = some v2 := HM5.out.cell (i := 2) (by decide)
   have g3 : _ = some v3 := HM5.out.cell (i := 3) (by decide)
   have g4 : _ = some v4 := HM5.out.cell (i := 4) (by decide)
   have z5 := HM5.out.frozen
   have hgl : w.heap.size < wr.heap.size := hgw
   have HO5 := Lib.hid (((((ho5.setCell (p := ⟨w.heap.size, k * 5, none⟩) hgl (.int .i64 x0)).setCell (p := ⟨w.heap.size, k * 5 + 1, none⟩) hgl (.bool x1)).setCell (p := ⟨w.heap.size, k * 5 + 2, none⟩) hgl (.slice B2 x2.length d2)).setCell (p := ⟨w.heap.size, k * 5 + 3, none⟩) hgl (.slice B3 x3.length d3)).setCell (p := ⟨w.heap.size, k * 5 + 4, none⟩) hgl (.slice B4 x4.length d4))
   clear hb5 ho5 HM0 e100 e101 e102 e103 e104
   go_wp2_with fail
   go_roundw
   case rel =>
    obtain ⟨cs', Fs', hf'⟩ := HN.out _ _ _ _ (((((HM5.out.set0 (List.mem_cons_self ..) (by decide) (.int .i64 x0)).set_ (List.mem_cons_self ..) (i := 1) (by decide) (.bool x1)).set_ (List.mem_cons_self ..) (i := 2) (by decide) (.slice B2 x2.length d2)).set_ (List.mem_cons_self ..) (i := 3) (by decide) (.slice B3 x3.length d3)).set_ (List.mem_cons_self ..) (i := 4) (by decide) (.slice B4 x4.length d4)) (Nat.le_refl _) HO5.out
    refine ⟨k + 1, cs', Fs', by omega, by go_num, hf', ?_⟩
    iterate 5 (with_reducible refine Below.setCell ?_ (by simp) _)
    exact HB5.out
   case measure => simp [intOf]; omega
  ·obtain rfl : k = xs.length := by omega
   have HB := Lib.hid hb; have HFL := Lib.hid hfl
   clear hb hfl
   go_wp2_with fail
   go_ret
   exact ⟨_, _, rfl, HFL.out.done (by unfold maxLen; omega), HB.out⟩
theorem toBtree_f (x0 : Int) (x1 : List TySlot) (A1 : Option Addr) (c1 : Nat) (lo hi : Nat) (w : World) (h : shBtree.R w lo hi [.int .i64 x0, .slice A1 x1.length c1] (x0, x1)) (hhi : hi ≤ w.heap.size) (hf : shBtree.fit 1048576 (x0, x1)) :
  Calls Tryz.prog 67 #[.agg #[.int .i64 x0, .slice A1 x1.length c1]] w fun e w' => ∃ (B1 : Option Addr) (d1 : Nat), e = .returned (.agg #[.int .i64 x0, .slice B1 x1.length d1]) ∧ Own shBtree w' w.heap.size w'.heap.size [.int .i64 x0, .slice B1 x1.length d1] (x0, x1) ∧ Below w.heap.size w w' := by
 rw [shBtree_fit] at hf
 obtain ⟨ft0, ft1⟩ := hf
 have HA := Lib.hid h
 clear h
 go_enter Tryz.func67, Tryz.ntmps67
 go_wp2_with fail
 have T0 := Three.start w 40 77 77 #[.int .i64 x0, .slice A1 x1.length c1] #[.int .i64 0, .slice none 0 0] #[.int .i64 x0, .slice none 0 0]
 refine (toSlotS_f A1 c1 x1 lo hi _ (shBtree_f1 (shBtree.R_below HA.out T0.2.2.2 hhi)) (Nat.le_trans hhi T0.2.2.2.size) ft1).mono ?_
 rintro e1 w1 ⟨B1, d1, rfl, ho1, hb1⟩
 have T1 := T0.call hb1
 have hs1 : w.heap.size + 1 + 1 + 1 ≤ w1.heap.size := by have := hb1.size; simpa using this
 have ho1 := ho1.more (lo' := w.heap.size + 1 + 1 + 1) (by simp) (Nat.le_refl _)
 clear T0 hb1
 have f0 := T1.1.cell
 have f1 := T1.2.1.cell
 have z1 := T1.2.1.frozen
 have f2 := T1.2.2.1.cell
 have z2 := T1.2.2.1.frozen
 have TT := Lib.hid T1; clear T1
 have O1 := Lib.hid ho1; clear ho1
 go_wp2_with fail
 refine bodyPost_ret (v := .agg #[.int .i64 x0, .slice B1 x1.length d1]) (by simp [results, Tryz.results67, go_sem, f1]) rfl ⟨_, _, rfl, ?_, ?_⟩
 ·refine Own.more (lo := w.heap.size + 1 + 1 + 1) (hi := w1.heap.size) ?_ (by omega) (by simp [World.setCell])
  iterate 3 (with_reducible refine Own.setCell ?_ (by dsimp only; omega) _)
  exact (Own.prod (Own.one w1 (w.heap.size + 1 + 1 + 1) (w.heap.size + 1 + 1 + 1) _) O1.out (by omega) (by omega) (by omega))
 ·iterate 3 (with_reducible refine Below.setCell ?_ (by simp; try omega) _)
  exact TT.out.2.2.2
end Go.Proofs.YtgnmollbnopigaaGreat
