/- Node, Tree, Bind, Cell, Level, Given, Locals, Ref, Loop, Frame: shapes and the laws' walks (to). Printed by gen_fam.py. -/
import Derived.Test.YtgnmollbnopigaaGreatJoinSSAh
import Derived.Test.YtgnmollbnopigaaGreatJoinSSAj
set_option maxHeartbeats 16000000
set_option maxRecDepth 100000
namespace Go.Proofs.YtgnmollbnopigaaGreat
open Go.RowKit
theorem toNode_f (x0 : ByteArray) (x1 : List ByteArray) (x2 : ByteArray) (A1 : Option Addr) (c1 : Nat) (lo hi : Nat) (w : World) (h : shNode.R w lo hi [.string x0, .slice A1 x1.length c1, .string x2] (x0, x1, x2)) (hhi : hi ≤ w.heap.size) (hf : shNode.fit 1048576 (x0, x1, x2)) :
  Calls Tryz.prog 134 #[.agg #[.string x0, .slice A1 x1.length c1, .string x2]] w fun e w' => ∃ (B1 : Option Addr) (d1 : Nat), e = .returned (.agg #[.string x0, .slice B1 x1.length d1, .string x2]) ∧ Own shNode w' w.heap.size w'.heap.size [.string x0, .slice B1 x1.length d1, .string x2] (x0, x1, x2) ∧ Below w.heap.size w w' := by
 rw [shNode_fit] at hf
 obtain ⟨ft0, ft1, ft2⟩ := hf
 have HA := Lib.hid h
 clear h
 go_enter Tryz.func134, Tryz.ntmps134
 go_wp2_with fail
 have T0 := Three.start w 223 165 165 #[.string x0, .slice A1 x1.length c1, .string x2] #[.string ⟨#[]⟩, .slice none 0 0, .string ⟨#[]⟩] #[.string x0, .slice none 0 0, .string ⟨#[]⟩]
 refine (toStringS_f A1 c1 x1 lo hi _ (shNode_f1 (shNode.R_below HA.out T0.2.2.2 hhi)) (Nat.le_trans hhi T0.2.2.2.size) ft1).mono ?_
 rintro e1 w1 ⟨B1, d1, rfl, ho1, hb1⟩
 have T1 := T0.call hb1
 have hs1 : w.heap.size + 1 + 1 + 1 ≤ w1.heap.size := by have := hb1.size; simpa using this
 have ho1 := ho1.more (lo' := w.heap.size + 1 + 1 + 1) (by simp) (Nat.le_refl _)
 clear T0 hb1
 have f0 := T1.1.cell
 have f1 := T1.2.1.cell
 have z1 := T1.2.1.frozen
 have f2 := T1.2.2.1.cell
 have z2 := T1.2.2.1.frozen
 have TT := Lib.hid T1; clear T1
 have O1 := Lib.hid ho1; clear ho1
 go_wp2_with fail
 refine bodyPost_ret (v := .agg #[.string x0, .slice B1 x1.length d1, .string x2]) (by simp [results, Tryz.results134, go_sem, f1]) rfl ⟨_, _, rfl, ?_, ?_⟩
 ·refine Own.more (lo := w.heap.size + 1 + 1 + 1) (hi := w1.heap.size) ?_ (by omega) (by simp [World.setCell])
  iterate 5 (with_reducible refine Own.setCell ?_ (by dsimp only; omega) _)
  exact (Own.prod (Own.one w1 (w.heap.size + 1 + 1 + 1) (w.heap.size + 1 + 1 + 1) _) (Own.prod O1.out (Own.one w1 (w1.heap.size) _ _) (by omega) (by omega) (by omega)) (by omega) (by omega) (by omega))
 ·iterate 5 (with_reducible refine Below.setCell ?_ (by simp; try omega) _)
  exact TT.out.2.2.2
theorem make_NodeS (n : Nat) (hn : n ≤ 1048576) (w : World) :
  (Instr.makeSlice 64 (.int .i64 (n : Int)) (.int .i64 (n : Int))).run Tryz.prog w = .ok (.slice (some ⟨w.heap.size, 0, none⟩) n n) (w.alloc (.cells (madeCells zeroNode (n * 3)) 165)) := by
 obtain ⟨i0, hi0, hz0, hz1, hz2⟩ := info_parts infoNode
 have hb : (i0.bytes : Int) * (n : Int) ≤ 281474976710656 := by
  rw [hz2]; omega
 have hr := run_make (P := Tryz.prog) w 64 165 i0 _ Tryz.underlying64 hi0 hz0 .i64 .i64 n n (by omega) (by omega) hb (by omega)
 simp only [Int.toNat_natCast] at hr
 rw [hr, hz1]
 rfl
theorem toNodeS_f (A : Option Addr) (c : Nat) (xs : List TyNode) (lo hi : Nat) (w : World) (h : (Sh.row 165 shNode).R w lo hi [.slice A xs.length c] xs) (hhi : hi ≤ w.heap.size) (hf : (Sh.row 165 shNode).fit 1048576 xs) :
  Calls Tryz.prog 70 #[.slice A xs.length c] w fun e w' => ∃ (B : Option Addr) (d : Nat), e = .returned (.slice B xs.length d) ∧ Own (Sh.row 165 shNode) w' w.heap.size w'.heap.size [.slice B xs.length d] xs ∧ Below w.heap.size w w' := by
 have hn := hf.1
 have hmk := fun W => make_NodeS xs.length hn W
 have H0 := Lib.hid (Blk.new w 165 (madeCells zeroNode (xs.length * 3)))
 have HB0 := Lib.hid ((Below.refl w.heap.size w).alloc (Nat.le_refl _) (.cells (madeCells zeroNode (xs.length * 3)) 165))
 have HA := Lib.hid h; have HF := Lib.hid hf.2
 clear h hf
 go_enter Tryz.func70, Tryz.ntmps70
 go_wp2_with fail
 go_loopw [4] (fun i wr => ∃ (k : Nat) (cs : Array Value) (Fs : Nat → List Nat), k ≤ xs.length ∧ i = .int .i64 k ∧ Fill shNode 165 wr w.heap.size cs Fs xs k ∧ Below w.heap.size w wr) (fun i _ => xs.length - (intOf i).toNat)
 case atStart => exact ⟨0, _, fun _ => [], Nat.zero_le _, rfl, Fill.start H0.out (size_madeCells _ _), HB0.out⟩
 case round =>
  clear hmk
  obtain ⟨k, cs, Fs, hk, rfl, hfl, hb⟩ := hrel
  by_cases hlt : k < xs.length
  ·obtain ⟨-, b, off, rfl, hb1, hb2, A1, c1, e100, e101, e102, hX⟩ := shNode_at ((Sh.row 165 shNode).R_below HA.out hb hhi) hlt
   have HX := Lib.hid (HF.out _ (getD_in (d := shNode.d) hlt))
   obtain ⟨us, hu⟩ := Upd.begin_ (hfl.room hlt)
   have hul : us.length = 3 := hu.len
   obtain ⟨v0, v1, v2, rfl⟩ : ∃ v0 v1 v2, us = [v0, v1, v2] := by
    match us, hul with
    | [v0, v1, v2], _ => exact ⟨v0, v1, v2, rfl⟩
   have hN := fun W vs lo hi => Fill.addM (W := W) (vs := vs) (lo := lo) (hi := hi) hfl hlt
   have HN := Lib.hid hN; clear hN
   have hm0 : Mid [w.heap.size] w.heap.size 165 cs (k * 3) 3 wr wr [v0, v1, v2] := Mid.start hfl.blk hu _
   have hgw : w.heap.size < wr.heap.size := hfl.blk.lt
   generalize xs.getD k shNode.d = X at *
   obtain ⟨x0, x1, x2⟩ := X
   try dsimp only at e100 e101 e102
   have HM0 := Lib.hid hm0; have HB := Lib.hid hb; have HR := Lib.hid hX
   have hsz := hb.size
   clear hm0 hb hX hfl hu hul
   go_wp2_with fail
   refine (toNode_f x0 x1 x2 A1 c1 lo hi _ HR.out (by omega) HX.out).mono ?_
   rintro e5 w5 ⟨B1, d1, rfl, ho5, hb5⟩
   have HM5 := Lib.hid (HM0.out.below hb5)
   have s5 := hb5.size
   have HB5 := Lib.hid (HB.out.trans (hb5.mono hsz))
   have g0 : _ = some v0 := HM5.out.cell0 (by decide)
   have g1 : _ = some v1 := HM5.out.cell (i := 1) (by decide)
   have g2 : _ = some v2 := HM5.out.cell (i := 2) (by decide)
   have z5 := HM5.out.frozen
   have hgl : w.heap.size < wr.heap.size := hgw
   have HO5 := Lib.hid (((ho5.setCell (p := ⟨w.heap.size, k * 3, none⟩) hgl (.string x0)).setCell (p := ⟨w.heap.size, k * 3 + 1, none⟩) hgl (.slice B1 x1.length d1)).setCell (p := ⟨w.heap.size, k * 3 + 2, none⟩) hgl (.string x2))
   clear hb5 ho5 HM0 e100 e101 e102
   go_wp2_with fail
   go_roundw
   case rel =>
    obtain ⟨cs', Fs', hf'⟩ := HN.out _ _ _ _ (((HM5.out.set0 (List.mem_cons_self ..) (by decide) (.string x0)).set_ (List.mem_cons_self ..) (i := 1) (by decide) (.slice B1 x1.length d1)).set_ (List.mem_cons_self ..) (i := 2) (by decide) (.string x2)) (Nat.le_refl _) HO5.out
    refine ⟨k + 1, cs', Fs', by omega, by go_num, hf', ?_⟩
    iterate 3 (with_reducible refine Below.setCell ?_ (by simp) _)
    exact HB5.out
   case measure => simp [intOf]; omega
  ·obtain rfl : k = xs.length := by omega
   have HB := Lib.hid hb; have HFL := Lib.hid hfl
   clear hb hfl
   go_wp2_with fail
   go_ret
   exact ⟨_, _, rfl, HFL.out.done (by unfold maxLen; omega), HB.out⟩
theorem toTree_f (x0 : List TyNode) (A0 : Option Addr) (c0 : Nat) (lo hi : Nat) (w : World) (h : shTree.R w lo hi [.slice A0 x0.length c0] x0) (hhi : hi ≤ w.heap.size) (hf : shTree.fit 1048576 x0) :
  Calls Tryz.prog 25 #[.agg #[.slice A0 x0.length c0]] w fun e w' => ∃ (B0 : Option Addr) (d0 : Nat), e = .returned (.agg #[.slice B0 x0.length d0]) ∧ Own shTree w' w.heap.size w'.heap.size [.slice B0 x0.length d0] x0 ∧ Below w.heap.size w w' := by
 rw [shTree_fit] at hf
 have ft0 := hf
 have HA := Lib.hid h
 clear h
 go_enter Tryz.func25, Tryz.ntmps25
 go_wp2_with fail
 have T0 := Three.start w 29 66 66 #[.slice A0 x0.length c0] #[.slice none 0 0] #[.slice none 0 0]
 refine (toNodeS_f A0 c0 x0 lo hi _ (shTree_f0 (shTree.R_below HA.out T0.2.2.2 hhi)) (Nat.le_trans hhi T0.2.2.2.size) ft0).mono ?_
 rintro e1 w1 ⟨B0, d0, rfl, ho0, hb1⟩
 have T1 := T0.call hb1
 have hs1 : w.heap.size + 1 + 1 + 1 ≤ w1.heap.size := by have := hb1.size; simpa using this
 have ho0 := ho0.more (lo' := w.heap.size + 1 + 1 + 1) (by simp) (Nat.le_refl _)
 clear T0 hb1
 have f0 := T1.1.cell
 have f1 := T1.2.1.cell
 have z1 := T1.2.1.frozen
 have f2 := T1.2.2.1.cell
 have z2 := T1.2.2.1.frozen
 have TT := Lib.hid T1; clear T1
 have O0 := Lib.hid ho0; clear ho0
 go_wp2_with fail
 refine bodyPost_ret (v := .agg #[.slice B0 x0.length d0]) (by simp [results, Tryz.results25, go_sem, f1]) rfl ⟨_, _, rfl, ?_, ?_⟩
 ·refine Own.more (lo := w.heap.size + 1 + 1 + 1) (hi := w1.heap.size) ?_ (by omega) (by simp [World.setCell])
  iterate 2 (with_reducible refine Own.setCell ?_ (by dsimp only; omega) _)
  exact O0.out
 ·iterate 2 (with_reducible refine Below.setCell ?_ (by simp; try omega) _)
  exact TT.out.2.2.2
theorem toBind_f (x0 : ByteArray) (x1 : Int) (lo hi : Nat) (w : World) (h : shBind.R w lo hi [.string x0, .int .i64 x1] (x0, x1)) (_ : hi ≤ w.heap.size) (hf : shBind.fit 1048576 (x0, x1)) :
  Calls Tryz.prog 271 #[.agg #[.string x0, .int .i64 x1]] w fun e w' => e = .returned (.agg #[.string x0, .int .i64 x1]) ∧ Own shBind w' w.heap.size w'.heap.size [.string x0, .int .i64 x1] (x0, x1) ∧ Below w.heap.size w w' := by
 rw [shBind_fit] at hf
 obtain ⟨ft0, ft1⟩ := hf
 have HA := Lib.hid h
 clear h
 go_enter Tryz.func271, Tryz.ntmps271
 go_wp2_with fail
 have T0 := Three.start w 389 359 359 #[.string x0, .int .i64 x1] #[.string x0, .int .i64 x1] #[.string x0, .int .i64 x1]
 refine bodyPost_ret (v := .agg #[.string x0, .int .i64 x1]) (by simp [results, Tryz.results271, go_sem]) rfl ⟨rfl, ?_, ?_⟩
 ·refine Own.more (lo := w.heap.size) (hi := w.heap.size) ?_ (Nat.le_refl _) T0.2.2.2.size
  exact (Own.prod (Own.one _ (w.heap.size) (w.heap.size) _) (Own.one _ (w.heap.size) _ _) (by omega) (by omega) (by omega))
 ·exact T0.2.2.2
theorem make_BindS (n : Nat) (hn : n ≤ 1048576) (w : World) :
  (Instr.makeSlice 146 (.int .i64 (n : Int)) (.int .i64 (n : Int))).run Tryz.prog w = .ok (.slice (some ⟨w.heap.size, 0, none⟩) n n) (w.alloc (.cells (madeCells zeroBind (n * 2)) 359)) := by
 obtain ⟨i0, hi0, hz0, hz1, hz2⟩ := info_parts infoBind
 have hb : (i0.bytes : Int) * (n : Int) ≤ 281474976710656 := by
  rw [hz2]; omega
 have hr := run_make (P := Tryz.prog) w 146 359 i0 _ Tryz.underlying146 hi0 hz0 .i64 .i64 n n (by omega) (by omega) hb (by omega)
 simp only [Int.toNat_natCast] at hr
 rw [hr, hz1]
 rfl
theorem toBindS_f (A : Option Addr) (c : Nat) (xs : List TyBind) (lo hi : Nat) (w : World) (h : (Sh.row 359 shBind).R w lo hi [.slice A xs.length c] xs) (hhi : hi ≤ w.heap.size) (hf : (Sh.row 359 shBind).fit 1048576 xs) :
  Calls Tryz.prog 259 #[.slice A xs.length c] w fun e w' => ∃ (B : Option Addr) (d : Nat), e = .returned (.slice B xs.length d) ∧ Own (Sh.row 359 shBind) w' w.heap.size w'.heap.size [.slice B xs.length d] xs ∧ Below w.heap.size w w' := by
 have hn := hf.1
 have hmk := fun W => make_BindS xs.length hn W
 have H0 := Lib.hid (Blk.new w 359 (madeCells zeroBind (xs.length * 2)))
 have HB0 := Lib.hid ((Below.refl w.heap.size w).alloc (Nat.le_refl _) (.cells (madeCells zeroBind (xs.length * 2)) 359))
 have HA := Lib.hid h; have HF := Lib.hid hf.2
 clear h hf
 go_enter Tryz.func259, Tryz.ntmps259
 go_wp2_with fail
 go_loopw [4] (fun i wr => ∃ (k : Nat) (cs : Array Value) (Fs : Nat → List Nat), k ≤ xs.length ∧ i = .int .i64 k ∧ Fill shBind 359 wr w.heap.size cs Fs xs k ∧ Below w.heap.size w wr) (fun i _ => xs.length - (intOf i).toNat)
 case atStart => exact ⟨0, _, fun _ => [], Nat.zero_le _, rfl, Fill.start H0.out (size_madeCells _ _), HB0.out⟩
 case round =>
  clear hmk
  obtain ⟨k, cs, Fs, hk, rfl, hfl, hb⟩ := hrel
  by_cases hlt : k < xs.length
  ·obtain ⟨-, b, off, rfl, hb1, hb2, e100, e101, hX⟩ := shBind_at ((Sh.row 359 shBind).R_below HA.out hb hhi) hlt
   have HX := Lib.hid (HF.out _ (getD_in (d := shBind.d) hlt))
   obtain ⟨us, hu⟩ := Upd.begin_ (hfl.room hlt)
   have hul : us.length = 2 := hu.len
   obtain ⟨v0, v1, rfl⟩ : ∃ v0 v1, us = [v0, v1] := by
    match us, hul with
    | [v0, v1], _ => exact ⟨v0, v1, rfl⟩
   have hN := fun W vs lo hi => Fill.addM (W := W) (vs := vs) (lo := lo) (hi := hi) hfl hlt
   have HN := Lib.hid hN; clear hN
   have hm0 : Mid [w.heap.size] w.heap.size 359 cs (k * 2) 2 wr wr [v0, v1] := Mid.start hfl.blk hu _
   have hgw : w.heap.size < wr.heap.size := hfl.blk.lt
   generalize xs.getD k shBind.d = X at *
   obtain ⟨x0, x1⟩ := X
   try dsimp only at e100 e101
   have HM0 := Lib.hid hm0; have HB := Lib.hid hb; have HR := Lib.hid hX
   have hsz := hb.size
   clear hm0 hb hX hfl hu hul
   go_wp2_with fail
   refine (toBind_f x0 x1 lo hi _ HR.out (by omega) HX.out).mono ?_
   rintro e5 w5 ⟨rfl, ho5, hb5⟩
   have HM5 := Lib.hid (HM0.out.below hb5)
   have s5 := hb5.size
   have HB5 := Lib.hid (HB.out.trans (hb5.mono hsz))
   have g0 : _ = some v0 := HM5.out.cell0 (by decide)
   have g1 : _ = some v1 := HM5.out.cell (i := 1) (by decide)
   have z5 := HM5.out.frozen
   have hgl : w.heap.size < wr.heap.size := hgw
   have HO5 := Lib.hid ((ho5.setCell (p := ⟨w.heap.size, k * 2, none⟩) hgl (.string x0)).setCell (p := ⟨w.heap.size, k * 2 + 1, none⟩) hgl (.int .i64 x1))
   clear hb5 ho5 HM0 e100 e101
   go_wp2_with fail
   go_roundw
   case rel =>
    obtain ⟨cs', Fs', hf'⟩ := HN.out _ _ _ _ ((HM5.out.set0 (List.mem_cons_self ..) (by decide) (.string x0)).set_ (List.mem_cons_self ..) (i := 1) (by decide) (.int .i64 x1)) (Nat.le_refl _) HO5.out
    refine ⟨k + 1, cs', Fs', by omega, by go_num, hf', ?_⟩
    iterate 2 (with_reducible refine Below.setCell ?_ (by simp) _)
    exact HB5.out
   case measure => simp [intOf]; omega
  ·obtain rfl : k = xs.length := by omega
   have HB := Lib.hid hb; have HFL := Lib.hid hfl
   clear hb hfl
   go_wp2_with fail
   go_ret
   exact ⟨_, _, rfl, HFL.out.done (by unfold maxLen; omega), HB.out⟩
theorem toCell_f (x0 : Int) (x1 : List TyNode) (A1 : Option Addr) (c1 : Nat) (lo hi : Nat) (w : World) (h : shCell.R w lo hi [.int .i64 x0, .slice A1 x1.length c1] (x0, x1)) (hhi : hi ≤ w.heap.size) (hf : shCell.fit 1048576 (x0, x1)) :
  Calls Tryz.prog 272 #[.agg #[.int .i64 x0, .slice A1 x1.length c1]] w fun e w' => ∃ (B1 : Option Addr) (d1 : Nat), e = .returned (.agg #[.int .i64 x0, .slice B1 x1.length d1]) ∧ Own shCell w' w.heap.size w'.heap.size [.int .i64 x0, .slice B1 x1.length d1] (x0, x1) ∧ Below w.heap.size w w' := by
 rw [shCell_fit] at hf
 obtain ⟨ft0, ft1⟩ := hf
 have HA := Lib.hid h
 clear h
 go_enter Tryz.func272, Tryz.ntmps272
 go_wp2_with fail
 have T0 := Three.start w 392 353 353 #[.int .i64 x0, .slice A1 x1.length c1] #[.int .i64 0, .slice none 0 0] #[.int .i64 x0, .slice none 0 0]
 refine (toTree_f x1 A1 c1 lo hi _ (shCell_f1 (shCell.R_below HA.out T0.2.2.2 hhi)) (Nat.le_trans hhi T0.2.2.2.size) ft1).mono ?_
 rintro e1 w1 ⟨B1, d1, rfl, ho1, hb1⟩
 have T1 := T0.call hb1
 have hs1 : w.heap.size + 1 + 1 + 1 ≤ w1.heap.size := by have := hb1.size; simpa using this
 have ho1 := ho1.more (lo' := w.heap.size + 1 + 1 + 1) (by simp) (Nat.le_refl _)
 clear T0 hb1
 have f0 := T1.1.cell
 have f1 := T1.2.1.cell
 have z1 := T1.2.1.frozen
 have f2 := T1.2.2.1.cell
 have z2 := T1.2.2.1.frozen
 have TT := Lib.hid T1; clear T1
 have O1 := Lib.hid ho1; clear ho1
 go_wp2_with fail
 refine bodyPost_ret (v := .agg #[.int .i64 x0, .slice B1 x1.length d1]) (by simp [results, Tryz.results272, go_sem, f1]) rfl ⟨_, _, rfl, ?_, ?_⟩
 ·refine Own.more (lo := w.heap.size + 1 + 1 + 1) (hi := w1.heap.size) ?_ (by omega) (by simp [World.setCell])
  iterate 3 (with_reducible refine Own.setCell ?_ (by dsimp only; omega) _)
  exact (Own.prod (Own.one w1 (w.heap.size + 1 + 1 + 1) (w.heap.size + 1 + 1 + 1) _) O1.out (by omega) (by omega) (by omega))
 ·iterate 3 (with_reducible refine Below.setCell ?_ (by simp; try omega) _)
  exact TT.out.2.2.2
theorem make_CellS (n : Nat) (hn : n ≤ 1048576) (w : World) :
  (Instr.makeSlice 147 (.int .i64 (n : Int)) (.int .i64 (n : Int))).run Tryz.prog w = .ok (.slice (some ⟨w.heap.size, 0, none⟩) n n) (w.alloc (.cells (madeCells zeroCell (n * 2)) 353)) := by
 obtain ⟨i0, hi0, hz0, hz1, hz2⟩ := info_parts infoCell
 have hb : (i0.bytes : Int) * (n : Int) ≤ 281474976710656 := by
  rw [hz2]; omega
 have hr := run_make (P := Tryz.prog) w 147 353 i0 _ Tryz.underlying147 hi0 hz0 .i64 .i64 n n (by omega) (by omega) hb (by omega)
 simp only [Int.toNat_natCast] at hr
 rw [hr, hz1]
 rfl
theorem toCellS_f (A : Option Addr) (c : Nat) (xs : List TyCell) (lo hi : Nat) (w : World) (h : (Sh.row 353 shCell).R w lo hi [.slice A xs.length c] xs) (hhi : hi ≤ w.heap.size) (hf : (Sh.row 353 shCell).fit 1048576 xs) :
  Calls Tryz.prog 260 #[.slice A xs.length c] w fun e w' => ∃ (B : Option Addr) (d : Nat), e = .returned (.slice B xs.length d) ∧ Own (Sh.row 353 shCell) w' w.heap.size w'.heap.size [.slice B xs.length d] xs ∧ Below w.heap.size w w' := by
 have hn := hf.1
 have hmk := fun W => make_CellS xs.length hn W
 have H0 := Lib.hid (Blk.new w 353 (madeCells zeroCell (xs.length * 2)))
 have HB0 := Lib.hid ((Below.refl w.heap.size w).alloc (Nat.le_refl _) (.cells (madeCells zeroCell (xs.length * 2)) 353))
 have HA := Lib.hid h; have HF := Lib.hid hf.2
 clear h hf
 go_enter Tryz.func260, Tryz.ntmps260
 go_wp2_with fail
 go_loopw [4] (fun i wr => ∃ (k : Nat) (cs : Array Value) (Fs : Nat → List Nat), k ≤ xs.length ∧ i = .int .i64 k ∧ Fill shCell 353 wr w.heap.size cs Fs xs k ∧ Below w.heap.size w wr) (fun i _ => xs.length - (intOf i).toNat)
 case atStart => exact ⟨0, _, fun _ => [], Nat.zero_le _, rfl, Fill.start H0.out (size_madeCells _ _), HB0.out⟩
 case round =>
  clear hmk
  obtain ⟨k, cs, Fs, hk, rfl, hfl, hb⟩ := hrel
  by_cases hlt : k < xs.length
  ·obtain ⟨-, b, off, rfl, hb1, hb2, A1, c1, e100, e101, hX⟩ := shCell_at ((Sh.row 353 shCell).R_below HA.out hb hhi) hlt
   have HX := Lib.hid (HF.out _ (getD_in (d := shCell.d) hlt))
   obtain ⟨us, hu⟩ := Upd.begin_ (hfl.room hlt)
   have hul : us.length = 2 := hu.len
   obtain ⟨v0, v1, rfl⟩ : ∃ v0 v1, us = [v0, v1] := by
    match us, hul with
    | [v0, v1], _ => exact ⟨v0, v1, rfl⟩
   have hN := fun W vs lo hi => Fill.addM (W := W) (vs := vs) (lo := lo) (hi := hi) hfl hlt
   have HN := Lib.hid hN; clear hN
   have hm0 : Mid [w.heap.size] w.heap.size 353 cs (k * 2) 2 wr wr [v0, v1] := Mid.start hfl.blk hu _
   have hgw : w.heap.size < wr.heap.size := hfl.blk.lt
   generalize xs.getD k shCell.d = X at *
   obtain ⟨x0, x1⟩ := X
   try dsimp only at e100 e101
   have HM0 := Lib.hid hm0; have HB := Lib.hid hb; have HR := Lib.hid hX
   have hsz := hb.size
   clear hm0 hb hX hfl hu hul
   go_wp2_with fail
   refine (toCell_f x0 x1 A1 c1 lo hi _ HR.out (by omega) HX.out).mono ?_
   rintro e5 w5 ⟨B1, d1, rfl, ho5, hb5⟩
   have HM5 := Lib.hid (HM0.out.below hb5)
   have s5 := hb5.size
   have HB5 := Lib.hid (HB.out.trans (hb5.mono hsz))
   have g0 : _ = some v0 := HM5.out.cell0 (by decide)
   have g1 : _ = some v1 := HM5.out.cell (i := 1) (by decide)
   have z5 := HM5.out.frozen
   have hgl : w.heap.size < wr.heap.size := hgw
   have HO5 := Lib.hid ((ho5.setCell (p := ⟨w.heap.size, k * 2, none⟩) hgl (.int .i64 x0)).setCell (p := ⟨w.heap.size, k * 2 + 1, none⟩) hgl (.slice B1 x1.length d1))
   clear hb5 ho5 HM0 e100 e101
   go_wp2_with fail
   go_roundw
   case rel =>
    obtain ⟨cs', Fs', hf'⟩ := HN.out _ _ _ _ ((HM5.out.set0 (List.mem_cons_self ..) (by decide) (.int .i64 x0)).set_ (List.mem_cons_self ..) (i := 1) (by decide) (.slice B1 x1.length d1)) (Nat.le_refl _) HO5.out
    refine ⟨k + 1, cs', Fs', by omega, by go_num, hf', ?_⟩
    iterate 2 (with_reducible refine Below.setCell ?_ (by simp) _)
    exact HB5.out
   case measure => simp [intOf]; omega
  ·obtain rfl : k = xs.length := by omega
   have HB := Lib.hid hb; have HFL := Lib.hid hfl
   clear hb hfl
   go_wp2_with fail
   go_ret
   exact ⟨_, _, rfl, HFL.out.done (by unfold maxLen; omega), HB.out⟩
theorem toLevel_f (x0 : List TyBind) (A0 : Option Addr) (c0 : Nat) (lo hi : Nat) (w : World) (h : shLevel.R w lo hi [.slice A0 x0.length c0] x0) (hhi : hi ≤ w.heap.size) (hf : shLevel.fit 1048576 x0) :
  Calls Tryz.prog 273 #[.agg #[.slice A0 x0.length c0]] w fun e w' => ∃ (B0 : Option Addr) (d0 : Nat), e = .returned (.agg #[.slice B0 x0.length d0]) ∧ Own shLevel w' w.heap.size w'.heap.size [.slice B0 x0.length d0] x0 ∧ Below w.heap.size w w' := by
 rw [shLevel_fit] at hf
 have ft0 := hf
 have HA := Lib.hid h
 clear h
 go_enter Tryz.func273, Tryz.ntmps273
 go_wp2_with fail
 have T0 := Three.start w 395 356 356 #[.slice A0 x0.length c0] #[.slice none 0 0] #[.slice none 0 0]
 refine (toBindS_f A0 c0 x0 lo hi _ (shLevel_f0 (shLevel.R_below HA.out T0.2.2.2 hhi)) (Nat.le_trans hhi T0.2.2.2.size) ft0).mono ?_
 rintro e1 w1 ⟨B0, d0, rfl, ho0, hb1⟩
 have T1 := T0.call hb1
 have hs1 : w.heap.size + 1 + 1 + 1 ≤ w1.heap.size := by have := hb1.size; simpa using this
 have ho0 := ho0.more (lo' := w.heap.size + 1 + 1 + 1) (by simp) (Nat.le_refl _)
 clear T0 hb1
 have f0 := T1.1.cell
 have f1 := T1.2.1.cell
 have z1 := T1.2.1.frozen
 have f2 := T1.2.2.1.cell
 have z2 := T1.2.2.1.frozen
 have TT := Lib.hid T1; clear T1
 have O0 := Lib.hid ho0; clear ho0
 go_wp2_with fail
 refine bodyPost_ret (v := .agg #[.slice B0 x0.length d0]) (by simp [results, Tryz.results273, go_sem, f1]) rfl ⟨_, _, rfl, ?_, ?_⟩
 ·refine Own.more (lo := w.heap.size + 1 + 1 + 1) (hi := w1.heap.size) ?_ (by omega) (by simp [World.setCell])
  iterate 2 (with_reducible refine Own.setCell ?_ (by dsimp only; omega) _)
  exact O0.out
 ·iterate 2 (with_reducible refine Below.setCell ?_ (by simp; try omega) _)
  exact TT.out.2.2.2
theorem make_LevelS (n : Nat) (hn : n ≤ 1048576) (w : World) :
  (Instr.makeSlice 148 (.int .i64 (n : Int)) (.int .i64 (n : Int))).run Tryz.prog w = .ok (.slice (some ⟨w.heap.size, 0, none⟩) n n) (w.alloc (.cells (madeCells zeroLevel (n)) 356)) := by
 obtain ⟨i0, hi0, hz0, hz1, hz2⟩ := info_parts infoLevel
 have hb : (i0.bytes : Int) * (n : Int) ≤ 281474976710656 := by
  rw [hz2]; omega
 have hr := run_make (P := Tryz.prog) w 148 356 i0 _ Tryz.underlying148 hi0 hz0 .i64 .i64 n n (by omega) (by omega) hb (by omega)
 simp only [Int.toNat_natCast] at hr
 rw [hr, hz1]
 simp only [Nat.mul_one]; rfl
theorem toLevelS_f (A : Option Addr) (c : Nat) (xs : List TyLevel) (lo hi : Nat) (w : World) (h : (Sh.row 356 shLevel).R w lo hi [.slice A xs.length c] xs) (hhi : hi ≤ w.heap.size) (hf : (Sh.row 356 shLevel).fit 1048576 xs) :
  Calls Tryz.prog 261 #[.slice A xs.length c] w fun e w' => ∃ (B : Option Addr) (d : Nat), e = .returned (.slice B xs.length d) ∧ Own (Sh.row 356 shLevel) w' w.heap.size w'.heap.size [.slice B xs.length d] xs ∧ Below w.heap.size w w' := by
 have hn := hf.1
 have hmk := fun W => make_LevelS xs.length hn W
 have H0 := Lib.hid (Blk.new w 356 (madeCells zeroLevel (xs.length)))
 have HB0 := Lib.hid ((Below.refl w.heap.size w).alloc (Nat.le_refl _) (.cells (madeCells zeroLevel (xs.length)) 356))
 have HA := Lib.hid h; have HF := Lib.hid hf.2
 clear h hf
 go_enter Tryz.func261, Tryz.ntmps261
 go_wp2_with fail
 go_loopw [4] (fun i wr => ∃ (k : Nat) (cs : Array Value) (Fs : Nat → List Nat), k ≤ xs.length ∧ i = .int .i64 k ∧ Fill shLevel 356 wr w.heap.size cs Fs xs k ∧ Below w.heap.size w wr) (fun i _ => xs.length - (intOf i).toNat)
 case atStart => exact ⟨0, _, fun _ => [], Nat.zero_le _, rfl, Fill.start H0.out ((size_madeCells _ _).trans (Nat.mul_one _).symm), HB0.out⟩
 case round =>
  clear hmk
  obtain ⟨k, cs, Fs, hk, rfl, hfl, hb⟩ := hrel
  by_cases hlt : k < xs.length
  ·obtain ⟨-, b, off, rfl, hb1, hb2, A0, c0, e100, hX⟩ := shLevel_at ((Sh.row 356 shLevel).R_below HA.out hb hhi) hlt
   have HX := Lib.hid (HF.out _ (getD_in (d := shLevel.d) hlt))
   obtain ⟨us, hu⟩ := Upd.begin_ (hfl.room hlt)
   have hul : us.length = 1 := hu.len
   obtain ⟨v0, rfl⟩ : ∃ v0, us = [v0] := by
    match us, hul with
    | [v0], _ => exact ⟨v0, rfl⟩
   have hN := fun W vs lo hi => Fill.addM (W := W) (vs := vs) (lo := lo) (hi := hi) hfl hlt
   simp only [shLevel_k, Nat.mul_one] at hN hu
   have HN := Lib.hid hN; clear hN
   have hm0 : Mid [w.heap.size] w.heap.size 356 cs (k) 1 wr wr [v0] := Mid.start hfl.blk hu _
   have hgw : w.heap.size < wr.heap.size := hfl.blk.lt
   generalize xs.getD k shLevel.d = x0 at *
   try dsimp only at e100
   have HM0 := Lib.hid hm0; have HB := Lib.hid hb; have HR := Lib.hid hX
   have hsz := hb.size
   clear hm0 hb hX hfl hu hul
   go_wp2_with fail
   refine (toLevel_f x0 A0 c0 lo hi _ HR.out (by omega) HX.out).mono ?_
   rintro e5 w5 ⟨B0, d0, rfl, ho5, hb5⟩
   have HM5 := Lib.hid (HM0.out.below hb5)
   have s5 := hb5.size
   have HB5 := Lib.hid (HB.out.trans (hb5.mono hsz))
   have g0 : _ = some v0 := HM5.out.cell0 (by decide)
   have z5 := HM5.out.frozen
   have hgl : w.heap.size < wr.heap.size := hgw
   have HO5 := Lib.hid (ho5.setCell (p := ⟨w.heap.size, k, none⟩) hgl (.slice B0 x0.length d0))
   clear hb5 ho5 HM0 e100
   go_wp2_with fail
   go_roundw
   case rel =>
    obtain ⟨cs', Fs', hf'⟩ := HN.out _ _ _ _ (HM5.out.set0 (List.mem_cons_self ..) (by decide) (.slice B0 x0.length d0)) (Nat.le_refl _) HO5.out
    refine ⟨k + 1, cs', Fs', by omega, by go_num, hf', ?_⟩
    iterate 1 (with_reducible refine Below.setCell ?_ (by simp) _)
    exact HB5.out
   case measure => simp [intOf]; omega
  ·obtain rfl : k = xs.length := by omega
   have HB := Lib.hid hb; have HFL := Lib.hid hfl
   clear hb hfl
   go_wp2_with fail
   go_ret
   exact ⟨_, _, rfl, HFL.out.done (by unfold maxLen; omega), HB.out⟩
theorem toGiven_f (x0 : Bool) (x1 : ByteArray) (lo hi : Nat) (w : World) (h : shGiven.R w lo hi [.bool x0, .string x1] (x0, x1)) (_ : hi ≤ w.heap.size) (hf : shGiven.fit 1048576 (x0, x1)) :
  Calls Tryz.prog 256 #[.agg #[.bool x0, .string x1]] w fun e w' => e = .returned (.agg #[.bool x0, .string x1]) ∧ Own shGiven w' w.heap.size w'.heap.size [.bool x0, .string x1] (x0, x1) ∧ Below w.heap.size w w' := by
 rw [shGiven_fit] at hf
 obtain ⟨ft0, ft1⟩ := hf
 have HA := Lib.hid h
 clear h
 go_enter Tryz.func256, Tryz.ntmps256
 go_wp2_with fail
 have T0 := Three.start w 369 322 322 #[.bool x0, .string x1] #[.bool x0, .string x1] #[.bool x0, .string x1]
 refine bodyPost_ret (v := .agg #[.bool x0, .string x1]) (by simp [results, Tryz.results256, go_sem]) rfl ⟨rfl, ?_, ?_⟩
 ·refine Own.more (lo := w.heap.size) (hi := w.heap.size) ?_ (Nat.le_refl _) T0.2.2.2.size
  exact (Own.prod (Own.one _ (w.heap.size) (w.heap.size) _) (Own.one _ (w.heap.size) _ _) (by omega) (by omega) (by omega))
 ·exact T0.2.2.2
theorem make_GivenS (n : Nat) (hn : n ≤ 1048576) (w : World) :
  (Instr.makeSlice 143 (.int .i64 (n : Int)) (.int .i64 (n : Int))).run Tryz.prog w = .ok (.slice (some ⟨w.heap.size, 0, none⟩) n n) (w.alloc (.cells (madeCells zeroGiven (n * 2)) 322)) := by
 obtain ⟨i0, hi0, hz0, hz1, hz2⟩ := info_parts infoGiven
 have hb : (i0.bytes : Int) * (n : Int) ≤ 281474976710656 := by
  rw [hz2]; omega
 have hr := run_make (P := Tryz.prog) w 143 322 i0 _ Tryz.underlying143 hi0 hz0 .i64 .i64 n n (by omega) (by omega) hb (by omega)
 simp only [Int.toNat_natCast] at hr
 rw [hr, hz1]
 rfl
theorem toGivenS_f (A : Option Addr) (c : Nat) (xs : List TyGiven) (lo hi : Nat) (w : World) (h : (Sh.row 322 shGiven).R w lo hi [.slice A xs.length c] xs) (hhi : hi ≤ w.heap.size) (hf : (Sh.row 322 shGiven).fit 1048576 xs) :
  Calls Tryz.prog 226 #[.slice A xs.length c] w fun e w' => ∃ (B : Option Addr) (d : Nat), e = .returned (.slice B xs.length d) ∧ Own (Sh.row 322 shGiven) w' w.heap.size w'.heap.size [.slice B xs.length d] xs ∧ Below w.heap.size w w' := by
 have hn := hf.1
 have hmk := fun W => make_GivenS xs.length hn W
 have H0 := Lib.hid (Blk.new w 322 (madeCells zeroGiven (xs.length * 2)))
 have HB0 := Lib.hid ((Below.refl w.heap.size w).alloc (Nat.le_refl _) (.cells (madeCells zeroGiven (xs.length * 2)) 322))
 have HA := Lib.hid h; have HF := Lib.hid hf.2
 clear h hf
 go_enter Tryz.func226, Tryz.ntmps226
 go_wp2_with fail
 go_loopw [4] (fun i wr => ∃ (k : Nat) (cs : Array Value) (Fs : Nat → List Nat), k ≤ xs.length ∧ i = .int .i64 k ∧ Fill shGiven 322 wr w.heap.size cs Fs xs k ∧ Below w.heap.size w wr) (fun i _ => xs.length - (intOf i).toNat)
 case atStart => exact ⟨0, _, fun _ => [], Nat.zero_le _, rfl, Fill.start H0.out (size_madeCells _ _), HB0.out⟩
 case round =>
  clear hmk
  obtain ⟨k, cs, Fs, hk, rfl, hfl, hb⟩ := hrel
  by_cases hlt : k < xs.length
  ·obtain ⟨-, b, off, rfl, hb1, hb2, e100, e101, hX⟩ := shGiven_at ((Sh.row 322 shGiven).R_below HA.out hb hhi) hlt
   have HX := Lib.hid (HF.out _ (getD_in (d := shGiven.d) hlt))
   obtain ⟨us, hu⟩ := Upd.begin_ (hfl.room hlt)
   have hul : us.length = 2 := hu.len
   obtain ⟨v0, v1, rfl⟩ : ∃ v0 v1, us = [v0, v1] := by
    match us, hul with
    | [v0, v1], _ => exact ⟨v0, v1, rfl⟩
   have hN := fun W vs lo hi => Fill.addM (W := W) (vs := vs) (lo := lo) (hi := hi) hfl hlt
   have HN := Lib.hid hN; clear hN
   have hm0 : Mid [w.heap.size] w.heap.size 322 cs (k * 2) 2 wr wr [v0, v1] := Mid.start hfl.blk hu _
   have hgw : w.heap.size < wr.heap.size := hfl.blk.lt
   generalize xs.getD k shGiven.d = X at *
   obtain ⟨x0, x1⟩ := X
   try dsimp only at e100 e101
   have HM0 := Lib.hid hm0; have HB := Lib.hid hb; have HR := Lib.hid hX
   have hsz := hb.size
   clear hm0 hb hX hfl hu hul
   go_wp2_with fail
   refine (toGiven_f x0 x1 lo hi _ HR.out (by omega) HX.out).mono ?_
   rintro e5 w5 ⟨rfl, ho5, hb5⟩
   have HM5 := Lib.hid (HM0.out.below hb5)
   have s5 := hb5.size
   have HB5 := Lib.hid (HB.out.trans (hb5.mono hsz))
   have g0 : _ = some v0 := HM5.out.cell0 (by decide)
   have g1 : _ = some v1 := HM5.out.cell (i := 1) (by decide)
   have z5 := HM5.out.frozen
   have hgl : w.heap.size < wr.heap.size := hgw
   have HO5 := Lib.hid ((ho5.setCell (p := ⟨w.heap.size, k * 2, none⟩) hgl (.bool x0)).setCell (p := ⟨w.heap.size, k * 2 + 1, none⟩) hgl (.string x1))
   clear hb5 ho5 HM0 e100 e101
   go_wp2_with fail
   go_roundw
   case rel =>
    obtain ⟨cs', Fs', hf'⟩ := HN.out _ _ _ _ ((HM5.out.set0 (List.mem_cons_self ..) (by decide) (.bool x0)).set_ (List.mem_cons_self ..) (i := 1) (by decide) (.string x1)) (Nat.le_refl _) HO5.out
    refine ⟨k + 1, cs', Fs', by omega, by go_num, hf', ?_⟩
    iterate 2 (with_reducible refine Below.setCell ?_ (by simp) _)
    exact HB5.out
   case measure => simp [intOf]; omega
  ·obtain rfl : k = xs.length := by omega
   have HB := Lib.hid hb; have HFL := Lib.hid hfl
   clear hb hfl
   go_wp2_with fail
   go_ret
   exact ⟨_, _, rfl, HFL.out.done (by unfold maxLen; omega), HB.out⟩
theorem toLocals_f (x0 : Int) (x1 : List TyBind) (x2 : List TyCell) (x3 : List TyLevel) (A1 : Option Addr) (c1 : Nat) (A2 : Option Addr) (c2 : Nat) (A3 : Option Addr) (c3 : Nat) (lo hi : Nat) (w : World) (h : shLocals.R w lo hi [.int .i64 x0, .slice A1 x1.length c1, .slice A2 x2.length c2, .slice A3 x3.length c3] (x0, x1, x2, x3)) (hhi : hi ≤ w.heap.size) (hf : shLocals.fit 1048576 (x0, x1, x2, x3)) :
  Calls Tryz.prog 229 #[.agg #[.int .i64 x0, .slice A1 x1.length c1, .slice A2 x2.length c2, .slice A3 x3.length c3]] w fun e w' => ∃ (B1 : Option Addr) (d1 : Nat), ∃ (B2 : Option Addr) (d2 : Nat), ∃ (B3 : Option Addr) (d3 : Nat), e = .returned (.agg #[.int .i64 x0, .slice B1 x1.length d1, .slice B2 x2.length d2, .slice B3 x3.length d3]) ∧ Own shLocals w' w.heap.size w'.heap.size [.int .i64 x0, .slice B1 x1.length d1, .slice B2 x2.length d2, .slice B3 x3.length d3] (x0, x1, x2, x3) ∧ Below w.heap.size w w' := by
 rw [shLocals_fit] at hf
 obtain ⟨ft0, ft1, ft2, ft3⟩ := hf
 have HA := Lib.hid h
 clear h
 go_enter Tryz.func229, Tryz.ntmps229
 go_wp2_with fail
 have T0 := Three.start w 209 150 150 #[.int .i64 x0, .slice A1 x1.length c1, .slice A2 x2.length c2, .slice A3 x3.length c3] zz0 #[.int .i64 x0, .slice none 0 0, .slice none 0 0, .slice none 0 0]
 refine (toBindS_f A1 c1 x1 lo hi _ (shLocals_f1 (shLocals.R_below HA.out T0.2.2.2 hhi)) (Nat.le_trans hhi T0.2.2.2.size) ft1).mono ?_
 rintro e1 w1 ⟨B1, d1, rfl, ho1, hb1⟩
 have T1 := T0.call hb1
 have hs1 : w.heap.size + 1 + 1 + 1 ≤ w1.heap.size := by have := hb1.size; simpa using this
 have ho1 := ho1.more (lo' := w.heap.size + 1 + 1 + 1) (by simp) (Nat.le_refl _)
 clear T0 hb1
 have f0 := T1.1.cell
 have f2 := T1.2.2.1.cell
 have z2 := T1.2.2.1.frozen
 have TT := Lib.hid (T1.store2 1 (.slice B1 x1.length d1)); clear T1
 have O1 := Lib.hid (ho1.setCell (p := ⟨w.heap.size + 1 + 1, 1, none⟩) (by dsimp only; omega) (.slice B1 x1.length d1)); clear ho1
 go_wp2_with fail
 clear f0 f2 z2
 have hz1 : (w1.setCell ⟨w.heap.size + 1 + 1, 1, none⟩ (.slice B1 x1.length d1)).heap.size = w1.heap.size := by simp [World.setCell]
 generalize (w1.setCell ⟨w.heap.size + 1 + 1, 1, none⟩ (.slice B1 x1.length d1)) = W1 at *
 refine (toCellS_f A2 c2 x2 lo hi _ (shLocals_f2 (shLocals.R_below HA.out TT.out.2.2.2 hhi)) (Nat.le_trans hhi TT.out.2.2.2.size) ft2).mono ?_
 rintro e2 w2 ⟨B2, d2, rfl, ho2, hb2⟩
 have T2 := TT.out.call hb2
 have hs2 := hb2.size
 have ho1 := O1.out.below hb2 (by omega)
 clear TT O1 hb2
 have f0 := T2.1.cell
 have f2 := T2.2.2.1.cell
 have z2 := T2.2.2.1.frozen
 have TT := Lib.hid (T2.store2 2 (.slice B2 x2.length d2)); clear T2
 have O1 := Lib.hid (ho1.setCell (p := ⟨w.heap.size + 1 + 1, 2, none⟩) (by dsimp only; omega) (.slice B2 x2.length d2)); clear ho1
 have O2 := Lib.hid (ho2.setCell (p := ⟨w.heap.size + 1 + 1, 2, none⟩) (by dsimp only; omega) (.slice B2 x2.length d2)); clear ho2
 go_wp2_with fail
 clear f0 f2 z2
 have hz2 : (w2.setCell ⟨w.heap.size + 1 + 1, 2, none⟩ (.slice B2 x2.length d2)).heap.size = w2.heap.size := by simp [World.setCell]
 generalize (w2.setCell ⟨w.heap.size + 1 + 1, 2, none⟩ (.slice B2 x2.length d2)) = W2 at *
 refine (toLevelS_f A3 c3 x3 lo hi _ (shLocals_f3 (shLocals.R_below HA.out TT.out.2.2.2 hhi)) (Nat.le_trans hhi TT.out.2.2.2.size) ft3).mono ?_
 rintro e3 w3 ⟨B3, d3, rfl, ho3, hb3⟩
 have T3 := TT.out.call hb3
 have hs3 := hb3.size
 have ho1 := O1.out.below hb3 (by omega)
 have ho2 := O2.out.below hb3 (by omega)
 clear TT O1 O2 hb3
 have f0 := T3.1.cell
 have f1 := T3.2.1.cell
 have z1 := T3.2.1.frozen
 have f2 := T3.2.2.1.cell
 have z2 := T3.2.2.1.frozen
 have TT := Lib.hid T3; clear T3
 have O1 := Lib.hid ho1; clear ho1
 have O2 := Lib.hid ho2; clear ho2
 have O3 := Lib.hid ho3; clear ho3
 go_wp2_with fail
 refine bodyPost_ret (v := .agg #[.int .i64 x0, .slice B1 x1.length d1, .slice B2 x2.length d2, .slice B3 x3.length d3]) (by simp [results, Tryz.results229, go_sem, f1]) rfl ⟨_, _, _, _, _, _, rfl, ?_, ?_⟩
 ·refine Own.more (lo := w.heap.size + 1 + 1 + 1) (hi := w3.heap.size) ?_ (by omega) (by simp [World.setCell])
  iterate 5 (with_reducible refine Own.setCell ?_ (by dsimp only; omega) _)
  exact (Own.prod (Own.one w3 (w.heap.size + 1 + 1 + 1) (w.heap.size + 1 + 1 + 1) _) (Own.prod O1.out (Own.prod O2.out O3.out (by omega) (by omega) (by omega)) (by omega) (by omega) (by omega)) (by omega) (by omega) (by omega))
 ·iterate 5 (with_reducible refine Below.setCell ?_ (by simp; try omega) _)
  exact TT.out.2.2.2
theorem toRef_f (x0 : Bool) (x1 : ByteArray) (x2 : List ByteArray) (A2 : Option Addr) (c2 : Nat) (lo hi : Nat) (w : World) (h : shRef.R w lo hi [.bool x0, .string x1, .slice A2 x2.length c2] (x0, x1, x2)) (hhi : hi ≤ w.heap.size) (hf : shRef.fit 1048576 (x0, x1, x2)) :
  Calls Tryz.prog 230 #[.agg #[.bool x0, .string x1, .slice A2 x2.length c2]] w fun e w' => ∃ (B2 : Option Addr) (d2 : Nat), e = .returned (.agg #[.bool x0, .string x1, .slice B2 x2.length d2]) ∧ Own shRef w' w.heap.size w'.heap.size [.bool x0, .string x1, .slice B2 x2.length d2] (x0, x1, x2) ∧ Below w.heap.size w w' := by
 rw [shRef_fit] at hf
 obtain ⟨ft0, ft1, ft2⟩ := hf
 have HA := Lib.hid h
 clear h
 go_enter Tryz.func230, Tryz.ntmps230
 go_wp2_with fail
 have T0 := Three.start w 210 152 152 #[.bool x0, .string x1, .slice A2 x2.length c2] #[.bool false, .string ⟨#[]⟩, .slice none 0 0] #[.bool x0, .string x1, .slice none 0 0]
 refine (toStringS_f A2 c2 x2 lo hi _ (shRef_f2 (shRef.R_below HA.out T0.2.2.2 hhi)) (Nat.le_trans hhi T0.2.2.2.size) ft2).mono ?_
 rintro e1 w1 ⟨B2, d2, rfl, ho2, hb1⟩
 have T1 := T0.call hb1
 have hs1 : w.heap.size + 1 + 1 + 1 ≤ w1.heap.size := by have := hb1.size; simpa using this
 have ho2 := ho2.more (lo' := w.heap.size + 1 + 1 + 1) (by simp) (Nat.le_refl _)
 clear T0 hb1
 have f0 := T1.1.cell
 have f1 := T1.2.1.cell
 have z1 := T1.2.1.frozen
 have f2 := T1.2.2.1.cell
 have z2 := T1.2.2.1.frozen
 have TT := Lib.hid T1; clear T1
 have O2 := Lib.hid ho2; clear ho2
 go_wp2_with fail
 refine bodyPost_ret (v := .agg #[.bool x0, .string x1, .slice B2 x2.length d2]) (by simp [results, Tryz.results230, go_sem, f1]) rfl ⟨_, _, rfl, ?_, ?_⟩
 ·refine Own.more (lo := w.heap.size + 1 + 1 + 1) (hi := w1.heap.size) ?_ (by omega) (by simp [World.setCell])
  iterate 4 (with_reducible refine Own.setCell ?_ (by dsimp only; omega) _)
  exact (Own.prod (Own.one w1 (w.heap.size + 1 + 1 + 1) (w.heap.size + 1 + 1 + 1) _) (Own.prod (Own.one w1 (w.heap.size + 1 + 1 + 1) (w.heap.size + 1 + 1 + 1) _) O2.out (by omega) (by omega) (by omega)) (by omega) (by omega) (by omega))
 ·iterate 4 (with_reducible refine Below.setCell ?_ (by simp; try omega) _)
  exact TT.out.2.2.2
theorem make_RefS (n : Nat) (hn : n ≤ 1048576) (w : World) :
  (Instr.makeSlice 142 (.int .i64 (n : Int)) (.int .i64 (n : Int))).run Tryz.prog w = .ok (.slice (some ⟨w.heap.size, 0, none⟩) n n) (w.alloc (.cells (madeCells zeroRef (n * 3)) 152)) := by
 obtain ⟨i0, hi0, hz0, hz1, hz2⟩ := info_parts infoRef
 have hb : (i0.bytes : Int) * (n : Int) ≤ 281474976710656 := by
  rw [hz2]; omega
 have hr := run_make (P := Tryz.prog) w 142 152 i0 _ Tryz.underlying142 hi0 hz0 .i64 .i64 n n (by omega) (by omega) hb (by omega)
 simp only [Int.toNat_natCast] at hr
 rw [hr, hz1]
 rfl
theorem toRefS_f (A : Option Addr) (c : Nat) (xs : List TyRef) (lo hi : Nat) (w : World) (h : (Sh.row 152 shRef).R w lo hi [.slice A xs.length c] xs) (hhi : hi ≤ w.heap.size) (hf : (Sh.row 152 shRef).fit 1048576 xs) :
  Calls Tryz.prog 225 #[.slice A xs.length c] w fun e w' => ∃ (B : Option Addr) (d : Nat), e = .returned (.slice B xs.length d) ∧ Own (Sh.row 152 shRef) w' w.heap.size w'.heap.size [.slice B xs.length d] xs ∧ Below w.heap.size w w' := by
 have hn := hf.1
 have hmk := fun W => make_RefS xs.length hn W
 have H0 := Lib.hid (Blk.new w 152 (madeCells zeroRef (xs.length * 3)))
 have HB0 := Lib.hid ((Below.refl w.heap.size w).alloc (Nat.le_refl _) (.cells (madeCells zeroRef (xs.length * 3)) 152))
 have HA := Lib.hid h; have HF := Lib.hid hf.2
 clear h hf
 go_enter Tryz.func225, Tryz.ntmps225
 go_wp2_with fail
 go_loopw [4] (fun i wr => ∃ (k : Nat) (cs : Array Value) (Fs : Nat → List Nat), k ≤ xs.length ∧ i = .int .i64 k ∧ Fill shRef 152 wr w.heap.size cs Fs xs k ∧ Below w.heap.size w wr) (fun i _ => xs.length - (intOf i).toNat)
 case atStart => exact ⟨0, _, fun _ => [], Nat.zero_le _, rfl, Fill.start H0.out (size_madeCells _ _), HB0.out⟩
 case round =>
  clear hmk
  obtain ⟨k, cs, Fs, hk, rfl, hfl, hb⟩ := hrel
  by_cases hlt : k < xs.length
  ·obtain ⟨-, b, off, rfl, hb1, hb2, A2, c2, e100, e101, e102, hX⟩ := shRef_at ((Sh.row 152 shRef).R_below HA.out hb hhi) hlt
   have HX := Lib.hid (HF.out _ (getD_in (d := shRef.d) hlt))
   obtain ⟨us, hu⟩ := Upd.begin_ (hfl.room hlt)
   have hul : us.length = 3 := hu.len
   obtain ⟨v0, v1, v2, rfl⟩ : ∃ v0 v1 v2, us = [v0, v1, v2] := by
    match us, hul with
    | [v0, v1, v2], _ => exact ⟨v0, v1, v2, rfl⟩
   have hN := fun W vs lo hi => Fill.addM (W := W) (vs := vs) (lo := lo) (hi := hi) hfl hlt
   have HN := Lib.hid hN; clear hN
   have hm0 : Mid [w.heap.size] w.heap.size 152 cs (k * 3) 3 wr wr [v0, v1, v2] := Mid.start hfl.blk hu _
   have hgw : w.heap.size < wr.heap.size := hfl.blk.lt
   generalize xs.getD k shRef.d = X at *
   obtain ⟨x0, x1, x2⟩ := X
   try dsimp only at e100 e101 e102
   have HM0 := Lib.hid hm0; have HB := Lib.hid hb; have HR := Lib.hid hX
   have hsz := hb.size
   clear hm0 hb hX hfl hu hul
   go_wp2_with fail
   refine (toRef_f x0 x1 x2 A2 c2 lo hi _ HR.out (by omega) HX.out).mono ?_
   rintro e5 w5 ⟨B2, d2, rfl, ho5, hb5⟩
   have HM5 := Lib.hid (HM0.out.below hb5)
   have s5 := hb5.size
   have HB5 := Lib.hid (HB.out.trans (hb5.mono hsz))
   have g0 : _ = some v0 := HM5.out.cell0 (by decide)
   have g1 : _ = some v1 := HM5.out.cell (i := 1) (by decide)
   have g2 : _ = some v2 := HM5.out.cell (i := 2) (by decide)
   have z5 := HM5.out.frozen
   have hgl : w.heap.size < wr.heap.size := hgw
   have HO5 := Lib.hid (((ho5.setCell (p := ⟨w.heap.size, k * 3, none⟩) hgl (.bool x0)).setCell (p := ⟨w.heap.size, k * 3 + 1, none⟩) hgl (.string x1)).setCell (p := ⟨w.heap.size, k * 3 + 2, none⟩) hgl (.slice B2 x2.length d2))
   clear hb5 ho5 HM0 e100 e101 e102
   go_wp2_with fail
   go_roundw
   case rel =>
    obtain ⟨cs', Fs', hf'⟩ := HN.out _ _ _ _ (((HM5.out.set0 (List.mem_cons_self ..) (by decide) (.bool x0)).set_ (List.mem_cons_self ..) (i := 1) (by decide) (.string x1)).set_ (List.mem_cons_self ..) (i := 2) (by decide) (.slice B2 x2.length d2)) (Nat.le_refl _) HO5.out
    refine ⟨k + 1, cs', Fs', by omega, by go_num, hf', ?_⟩
    iterate 3 (with_reducible refine Below.setCell ?_ (by simp) _)
    exact HB5.out
   case measure => simp [intOf]; omega
  ·obtain rfl : k = xs.length := by omega
   have HB := Lib.hid hb; have HFL := Lib.hid hfl
   clear hb hfl
   go_wp2_with fail
   go_ret
   exact ⟨_, _, rfl, HFL.out.done (by unfold maxLen; omega), HB.out⟩
theorem toLoop_f (x0 : ByteArray) (x1 : Int) (x2 : Int) (x3 : Bool) (x4 : Int) (x5 : Int) (lo hi : Nat) (w : World) (h : shLoop.R w lo hi [.string x0, .int .i64 x1, .int .i64 x2, .bool x3, .int .i64 x4, .int .i64 x5] (x0, x1, x2, x3, x4, x5)) (_ : hi ≤ w.heap.size) (hf : shLoop.fit 1048576 (x0, x1, x2, x3, x4, x5)) :
  Calls Tryz.prog 257 #[.agg #[.string x0, .int .i64 x1, .int .i64 x2, .bool x3, .int .i64 x4, .int .i64 x5]] w fun e w' => e = .returned (.agg #[.string x0, .int .i64 x1, .int .i64 x2, .bool x3, .int .i64 x4, .int .i64 x5]) ∧ Own shLoop w' w.heap.size w'.heap.size [.string x0, .int .i64 x1, .int .i64 x2, .bool x3, .int .i64 x4, .int .i64 x5] (x0, x1, x2, x3, x4, x5) ∧ Below w.heap.size w w' := by
 rw [shLoop_fit] at hf
 obtain ⟨ft0, ft1, ft2, ft3, ft4, ft5⟩ := hf
 have HA := Lib.hid h
 clear h
 go_enter Tryz.func257, Tryz.ntmps257
 go_wp2_with fail
 have T0 := Three.start w 371 325 325 #[.string x0, .int .i64 x1, .int .i64 x2, .bool x3, .int .i64 x4, .int .i64 x5] #[.string x0, .int .i64 x1, .int .i64 x2, .bool x3, .int .i64 x4, .int .i64 x5] #[.string x0, .int .i64 x1, .int .i64 x2, .bool x3, .int .i64 x4, .int .i64 x5]
 refine bodyPost_ret (v := .agg #[.string x0, .int .i64 x1, .int .i64 x2, .bool x3, .int .i64 x4, .int .i64 x5]) (by simp [results, Tryz.results257, go_sem]) rfl ⟨rfl, ?_, ?_⟩
 ·refine Own.more (lo := w.heap.size) (hi := w.heap.size) ?_ (Nat.le_refl _) T0.2.2.2.size
  exact (Own.prod (Own.one _ (w.heap.size) (w.heap.size) _) (Own.prod (Own.one _ (w.heap.size) (w.heap.size) _) (Own.prod (Own.one _ (w.heap.size) (w.heap.size) _) (Own.prod (Own.one _ (w.heap.size) (w.heap.size) _) (Own.prod (Own.one _ (w.heap.size) (w.heap.size) _) (Own.one _ (w.heap.size) _ _) (by omega) (by omega) (by omega)) (by omega) (by omega) (by omega)) (by omega) (by omega) (by omega)) (by omega) (by omega) (by omega)) (by omega) (by omega) (by omega))
 ·exact T0.2.2.2
theorem make_LoopS (n : Nat) (hn : n ≤ 1048576) (w : World) :
  (Instr.makeSlice 144 (.int .i64 (n : Int)) (.int .i64 (n : Int))).run Tryz.prog w = .ok (.slice (some ⟨w.heap.size, 0, none⟩) n n) (w.alloc (.cells (madeCells zeroLoop (n * 6)) 325)) := by
 obtain ⟨i0, hi0, hz0, hz1, hz2⟩ := info_parts infoLoop
 have hb : (i0.bytes : Int) * (n : Int) ≤ 281474976710656 := by
  rw [hz2]; omega
 have hr := run_make (P := Tryz.prog) w 144 325 i0 _ Tryz.underlying144 hi0 hz0 .i64 .i64 n n (by omega) (by omega) hb (by omega)
 simp only [Int.toNat_natCast] at hr
 rw [hr, hz1]
 rfl
theorem toLoopS_f (A : Option Addr) (c : Nat) (xs : List TyLoop) (lo hi : Nat) (w : World) (h : (Sh.row 325 shLoop).R w lo hi [.slice A xs.length c] xs) (hhi : hi ≤ w.heap.size) (hf : (Sh.row 325 shLoop).fit 1048576 xs) :
  Calls Tryz.prog 227 #[.slice A xs.length c] w fun e w' => ∃ (B : Option Addr) (d : Nat), e = .returned (.slice B xs.length d) ∧ Own (Sh.row 325 shLoop) w' w.heap.size w'.heap.size [.slice B xs.length d] xs ∧ Below w.heap.size w w' := by
 have hn := hf.1
 have hmk := fun W => make_LoopS xs.length hn W
 have H0 := Lib.hid (Blk.new w 325 (madeCells zeroLoop (xs.length * 6)))
 have HB0 := Lib.hid ((Below.refl w.heap.size w).alloc (Nat.le_refl _) (.cells (madeCells zeroLoop (xs.length * 6)) 325))
 have HA := Lib.hid h; have HF := Lib.hid hf.2
 clear h hf
 go_enter Tryz.func227, Tryz.ntmps227
 go_wp2_with fail
 go_loopw [4] (fun i wr => ∃ (k : Nat) (cs : Array Value) (Fs : Nat → List Nat), k ≤ xs.length ∧ i = .int .i64 k ∧ Fill shLoop 325 wr w.heap.size cs Fs xs k ∧ Below w.heap.size w wr) (fun i _ => xs.length - (intOf i).toNat)
 case atStart => exact ⟨0, _, fun _ => [], Nat.zero_le _, rfl, Fill.start H0.out (size_madeCells _ _), HB0.out⟩
 case round =>
  clear hmk
  obtain ⟨k, cs, Fs, hk, rfl, hfl, hb⟩ := hrel
  by_cases hlt : k < xs.length
  ·obtain ⟨-, b, off, rfl, hb1, hb2, e100, e101, e102, e103, e104, e105, hX⟩ := shLoop_at ((Sh.row 325 shLoop).R_below HA.out hb hhi) hlt
   have HX := Lib.hid (HF.out _ (getD_in (d := shLoop.d) hlt))
   obtain ⟨us, hu⟩ := Upd.begin_ (hfl.room hlt)
   have hul : us.length = 6 := hu.len
   obtain ⟨v0, v1, v2, v3, v4, v5, rfl⟩ : ∃ v0 v1 v2 v3 v4 v5, us = [v0, v1, v2, v3, v4, v5] := by
    match us, hul with
    | [v0, v1, v2, v3, v4, v5], _ => exact ⟨v0, v1, v2, v3, v4, v5, rfl⟩
   have hN := fun W vs lo hi => Fill.addM (W := W) (vs := vs) (lo := lo) (hi := hi) hfl hlt
   have HN := Lib.hid hN; clear hN
   have hm0 : Mid [w.heap.size] w.heap.size 325 cs (k * 6) 6 wr wr [v0, v1, v2, v3, v4, v5] := Mid.start hfl.blk hu _
   have hgw : w.heap.size < wr.heap.size := hfl.blk.lt
   generalize xs.getD k shLoop.d = X at *
   obtain ⟨x0, x1, x2, x3, x4, x5⟩ := X
   try dsimp only at e100 e101 e102 e103 e104 e105
   have HM0 := Lib.hid hm0; have HB := Lib.hid hb; have HR := Lib.hid hX
   have hsz := hb.size
   clear hm0 hb hX hfl hu hul
   go_wp2_with fail
   refine (toLoop_f x0 x1 x2 x3 x4 x5 lo hi _ HR.out (by omega) HX.out).mono ?_
   rintro e5 w5 ⟨rfl, ho5, hb5⟩
   have HM5 := Lib.hid (HM0.out.below hb5)
   have s5 := hb5.size
   have HB5 := Lib.hid (HB.out.trans (hb5.mono hsz))
   have g0 : _ = some v0 := HM5.out.cell0 (by decide)
   have g1 : _ = some v1 := HM5.out.cell (i := 1) (by decide)
   have g2 : _ = some v2 := HM5.out.cell (i := 2) (by decide)
   have g3 : _ = some v3 := HM5.out.cell (i := 3) (by decide)
   have g4 : _ = some v4 := HM5.out.cell (i := 4) (by decide)
   have g5 : _ = some v5 := HM5.out.cell (i := 5) (by decide)
   have z5 := HM5.out.frozen
   have hgl : w.heap.size < wr.heap.size := hgw
   have HO5 := Lib.hid ((((((ho5.setCell (p := ⟨w.heap.size, k * 6, none⟩) hgl (.string x0)).setCell (p := ⟨w.heap.size, k * 6 + 1, none⟩) hgl (.int .i64 x1)).setCell (p := ⟨w.heap.size, k * 6 + 2, none⟩) hgl (.int .i64 x2)).setCell (p := ⟨w.heap.size, k * 6 + 3, none⟩) hgl (.bool x3)).setCell (p := ⟨w.heap.size, k * 6 + 4, none⟩) hgl (.int .i64 x4)).setCell (p := ⟨w.heap.size, k * 6 + 5, none⟩) hgl (.int .i64 x5))
   clear hb5 ho5 HM0 e100 e101 e102 e103 e104 e105
   go_wp2_with fail
   go_roundw
   case rel =>
    obtain ⟨cs', Fs', hf'⟩ := HN.out _ _ _ _ ((((((HM5.out.set0 (List.mem_cons_self ..) (by decide) (.string x0)).set_ (List.mem_cons_self ..) (i := 1) (by decide) (.int .i64 x1)).set_ (List.mem_cons_self ..) (i := 2) (by decide) (.int .i64 x2)).set_ (List.mem_cons_self ..) (i := 3) (by decide) (.bool x3)).set_ (List.mem_cons_self ..) (i := 4) (by decide) (.int .i64 x4)).set_ (List.mem_cons_self ..) (i := 5) (by decide) (.int .i64 x5)) (Nat.le_refl _) HO5.out
    refine ⟨k + 1, cs', Fs', by omega, by go_num, hf', ?_⟩
    iterate 6 (with_reducible refine Below.setCell ?_ (by simp) _)
    exact HB5.out
   case measure => simp [intOf]; omega
  ·obtain rfl : k = xs.length := by omega
   have HB := Lib.hid hb; have HFL := Lib.hid hfl
   clear hb hfl
   go_wp2_with fail
   go_ret
   exact ⟨_, _, rfl, HFL.out.done (by unfold maxLen; omega), HB.out⟩
theorem toFrame_f (x0 : Int) (x1 : Bool) (x2 : Bool) (x3 : Int) (x4 : Int) (x5 : Int) (x6 : Int) (x7 : ByteArray) (x8 : ByteArray) (lo hi : Nat) (w : World) (h : shFrame.R w lo hi [.int .i64 x0, .bool x1, .bool x2, .int .i64 x3, .int .i64 x4, .int .i64 x5, .int .i64 x6, .string x7, .string x8] (x0, x1, x2, x3, x4, x5, x6, x7, x8)) (_ : hi ≤ w.heap.size) (hf : shFrame.fit 1048576 (x0, x1, x2, x3, x4, x5, x6, x7, x8)) :
  Calls Tryz.prog 258 #[.agg #[.int .i64 x0, .bool x1, .bool x2, .int .i64 x3, .int .i64 x4, .int .i64 x5, .int .i64 x6, .string x7, .string x8]] w fun e w' => e = .returned (.agg #[.int .i64 x0, .bool x1, .bool x2, .int .i64 x3, .int .i64 x4, .int .i64 x5, .int .i64 x6, .string x7, .string x8]) ∧ Own shFrame w' w.heap.size w'.heap.size [.int .i64 x0, .bool x1, .bool x2, .int .i64 x3, .int .i64 x4, .int .i64 x5, .int .i64 x6, .string x7, .string x8] (x0, x1, x2, x3, x4, x5, x6, x7, x8) ∧ Below w.heap.size w w' := by
 rw [shFrame_fit] at hf
 obtain ⟨ft0, ft1, ft2, ft3, ft4, ft5, ft6, ft7, ft8⟩ := hf
 have HA := Lib.hid h
 clear h
 go_enter Tryz.func258, Tryz.ntmps258
 go_wp2_with fail
 have T0 := Three.start w 373 328 328 #[.int .i64 x0, .bool x1, .bool x2, .int .i64 x3, .int .i64 x4, .int .i64 x5, .int .i64 x6, .string x7, .string x8] #[.int .i64 x0, .bool x1, .bool x2, .int .i64 x3, .int .i64 x4, .int .i64 x5, .int .i64 x6, .string x7, .string x8] #[.int .i64 x0, .bool x1, .bool x2, .int .i64 x3, .int .i64 x4, .int .i64 x5, .int .i64 x6, .string x7, .string x8]
 refine bodyPost_ret (v := .agg #[.int .i64 x0, .bool x1, .bool x2, .int .i64 x3, .int .i64 x4, .int .i64 x5, .int .i64 x6, .string x7, .string x8]) (by simp [results, Tryz.results258, go_sem]) rfl ⟨rfl, ?_, ?_⟩
 ·refine Own.more (lo := w.heap.size) (hi := w.heap.size) ?_ (Nat.le_refl _) T0.2.2.2.size
  exact (Own.prod (Own.one _ (w.heap.size) (w.heap.size) _) (Own.prod (Own.one _ (w.heap.size) (w.heap.size) _) (Own.prod (Own.one _ (w.heap.size) (w.heap.size) _) (Own.prod (Own.one _ (w.heap.size) (w.heap.size) _) (Own.prod (Own.one _ (w.heap.size) (w.heap.size) _) (Own.prod (Own.one _ (w.heap.size) (w.heap.size) _) (Own.prod (Own.one _ (w.heap.size) (w.heap.size) _) (Own.prod (Own.one _ (w.heap.size) (w.heap.size) _) (Own.one _ (w.heap.size) _ _) (by omega) (by omega) (by omega)) (by omega) (by omega) (by omega)) (by omega) (by omega) (by omega)) (by omega) (by omega) (by omega)) (by omega) (by omega) (by omega)) (by omega) (by omega) (by omega)) (by omega) (by omega) (by omega)) (by omega) (by omega) (by omega))
 ·exact T0.2.2.2
theorem make_FrameS (n : Nat) (hn : n ≤ 1048576) (w : World) :
  (Instr.makeSlice 145 (.int .i64 (n : Int)) (.int .i64 (n : Int))).run Tryz.prog w = .ok (.slice (some ⟨w.heap.size, 0, none⟩) n n) (w.alloc (.cells (madeCells zeroFrame (n * 9)) 328)) := by
 obtain ⟨i0, hi0, hz0, hz1, hz2⟩ := info_parts infoFrame
 have hb : (i0.bytes : Int) * (n : Int) ≤ 281474976710656 := by
  rw [hz2]; omega
 have hr := run_make (P := Tryz.prog) w 145 328 i0 _ Tryz.underlying145 hi0 hz0 .i64 .i64 n n (by omega) (by omega) hb (by omega)
 simp only [Int.toNat_natCast] at hr
 rw [hr, hz1]
 rfl
theorem toFrameS_f (A : Option Addr) (c : Nat) (xs : List TyFrame) (lo hi : Nat) (w : World) (h : (Sh.row 328 shFrame).R w lo hi [.slice A xs.length c] xs) (hhi : hi ≤ w.heap.size) (hf : (Sh.row 328 shFrame).fit 1048576 xs) :
  Calls Tryz.prog 228 #[.slice A xs.length c] w fun e w' => ∃ (B : Option Addr) (d : Nat), e = .returned (.slice B xs.length d) ∧ Own (Sh.row 328 shFrame) w' w.heap.size w'.heap.size [.slice B xs.length d] xs ∧ Below w.heap.size w w' := by
 have hn := hf.1
 have hmk := fun W => make_FrameS xs.length hn W
 have H0 := Lib.hid (Blk.new w 328 (madeCells zeroFrame (xs.length * 9)))
 have HB0 := Lib.hid ((Below.refl w.heap.size w).alloc (Nat.le_refl _) (.cells (madeCells zeroFrame (xs.length * 9)) 328))
 have HA := Lib.hid h; have HF := Lib.hid hf.2
 clear h hf
 go_enter Tryz.func228, Tryz.ntmps228
 go_wp2_with fail
 go_loopw [4] (fun i wr => ∃ (k : Nat) (cs : Array Value) (Fs : Nat → List Nat), k ≤ xs.length ∧ i = .int .i64 k ∧ Fill shFrame 328 wr w.heap.size cs Fs xs k ∧ Below w.heap.size w wr) (fun i _ => xs.length - (intOf i).toNat)
 case atStart => exact ⟨0, _, fun _ => [], Nat.zero_le _, rfl, Fill.start H0.out (size_madeCells _ _), HB0.out⟩
 case round =>
  clear hmk
  obtain ⟨k, cs, Fs, hk, rfl, hfl, hb⟩ := hrel
  by_cases hlt : k < xs.length
  ·obtain ⟨-, b, off, rfl, hb1, hb2, e100, e101, e102, e103, e104, e105, e106, e107, e108, hX⟩ := shFrame_at ((Sh.row 328 shFrame).R_below HA.out hb hhi) hlt
   have HX := Lib.hid (HF.out _ (getD_in (d := shFrame.d) hlt))
   obtain ⟨us, hu⟩ := Upd.begin_ (hfl.room hlt)
   have hul : us.length = 9 := hu.len
   obtain ⟨v0, v1, v2, v3, v4, v5, v6, v7, v8, rfl⟩ : ∃ v0 v1 v2 v3 v4 v5 v6 v7 v8, us = [v0, v1, v2, v3, v4, v5, v6, v7, v8] := by
    match us, hul with
    | [v0, v1, v2, v3, v4, v5, v6, v7, v8], _ => exact ⟨v0, v1, v2, v3, v4, v5, v6, v7, v8, rfl⟩
   have hN := fun W vs lo hi => Fill.addM (W := W) (vs := vs) (lo := lo) (hi := hi) hfl hlt
   have HN := Lib.hid hN; clear hN
   have hm0 : Mid [w.heap.size] w.heap.size 328 cs (k * 9) 9 wr wr [v0, v1, v2, v3, v4, v5, v6, v7, v8] := Mid.start hfl.blk hu _
   have hgw : w.heap.size < wr.heap.size := hfl.blk.lt
   generalize xs.getD k shFrame.d = X at *
   obtain ⟨x0, x1, x2, x3, x4, x5, x6, x7, x8⟩ := X
   try dsimp only at e100 e101 e102 e103 e104 e105 e106 e107 e108
   have HM0 := Lib.hid hm0; have HB := Lib.hid hb; have HR := Lib.hid hX
   have hsz := hb.size
   clear hm0 hb hX hfl hu hul
   go_wp2_with fail
   refine (toFrame_f x0 x1 x2 x3 x4 x5 x6 x7 x8 lo hi _ HR.out (by omega) HX.out).mono ?_
   rintro e5 w5 ⟨rfl, ho5, hb5⟩
   have HM5 := Lib.hid (HM0.out.below hb5)
   have s5 := hb5.size
   have HB5 := Lib.hid (HB.out.trans (hb5.mono hsz))
   have g0 : _ = some v0 := HM5.out.cell0 (by decide)
   have g1 : _ = some v1 := HM5.out.cell (i := 1) (by decide)
   have g2 : _ = some v2 := HM5.out.cell (i := 2) (by decide)
   have g3 : _ = some v3 := HM5.out.cell (i := 3) (by decide)
   have g4 : _ = some v4 := HM5.out.cell (i := 4) (by decide)
   have g5 : _ = some v5 := HM5.out.cell (i := 5) (by decide)
   have g6 : _ = some v6 := HM5.out.cell (i := 6) (by decide)
   have g7 : _ = some v7 := HM5.out.cell (i := 7) (by decide)
   have g8 : _ = some v8 := HM5.out.cell (i := 8) (by decide)
   have z5 := HM5.out.frozen
   have hgl : w.heap.size < wr.heap.size := hgw
   have HO5 := Lib.hid (((((((((ho5.setCell (p := ⟨w.heap.size, k * 9, none⟩) hgl (.int .i64 x0)).setCell (p := ⟨w.heap.size, k * 9 + 1, none⟩) hgl (.bool x1)).setCell (p := ⟨w.heap.size, k * 9 + 2, none⟩) hgl (.bool x2)).setCell (p := ⟨w.heap.size, k * 9 + 3, none⟩) hgl (.int .i64 x3)).setCell (p := ⟨w.heap.size, k * 9 + 4, none⟩) hgl (.int .i64 x4)).setCell (p := ⟨w.heap.size, k * 9 + 5, none⟩) hgl (.int .i64 x5)).setCell (p := ⟨w.heap.size, k * 9 + 6, none⟩) hgl (.int .i64 x6)).setCell (p := ⟨w.heap.size, k * 9 + 7, none⟩) hgl (.string x7)).setCell (p := ⟨w.heap.size, k * 9 + 8, none⟩) hgl (.string x8))
   clear hb5 ho5 HM0 e100 e101 e102 e103 e104 e105 e106 e107 e108
   go_wp2_with fail
   go_roundw
   case rel =>
    obtain ⟨cs', Fs', hf'⟩ := HN.out _ _ _ _ (((((((((HM5.out.set0 (List.mem_cons_self ..) (by decide) (.int .i64 x0)).set_ (List.mem_cons_self ..) (i := 1) (by decide) (.bool x1)).set_ (List.mem_cons_self ..) (i := 2) (by decide) (.bool x2)).set_ (List.mem_cons_self ..) (i := 3) (by decide) (.int .i64 x3)).set_ (List.mem_cons_self ..) (i := 4) (by decide) (.int .i64 x4)).set_ (List.mem_cons_self ..) (i := 5) (by decide) (.int .i64 x5)).set_ (List.mem_cons_self ..) (i := 6) (by decide) (.int .i64 x6)).set_ (List.mem_cons_self ..) (i := 7) (by decide) (.string x7)).set_ (List.mem_cons_self ..) (i := 8) (by decide) (.string x8)) (Nat.le_refl _) HO5.out
    refine ⟨k + 1, cs', Fs', by omega, by go_num, hf', ?_⟩
    iterate 9 (with_reducible refine Below.setCell ?_ (by simp) _)
    exact HB5.out
   case measure => simp [intOf]; omega
  ·obtain rfl : k = xs.length := by omega
   have HB := Lib.hid hb; have HFL := Lib.hid hfl
   clear hb hfl
   go_wp2_with fail
   go_ret
   exact ⟨_, _, rfl, HFL.out.done (by unfold maxLen; omega), HB.out⟩
end Go.Proofs.YtgnmollbnopigaaGreat
