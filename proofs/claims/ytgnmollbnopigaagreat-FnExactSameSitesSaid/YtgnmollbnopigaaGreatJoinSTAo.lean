/- Machine: shapes and the laws' walks (to). Printed by gen_fam.py. -/
import Derived.Test.YtgnmollbnopigaaGreatJoinSTAf
import Derived.Test.YtgnmollbnopigaaGreatJoinSTAh
import Derived.Test.YtgnmollbnopigaaGreatJoinSTAj
import Derived.Test.YtgnmollbnopigaaGreatJoinSTAl
import Derived.Deep.DeepCutAuto
import Derived.Deep.CutBlock
namespace Go.Proofs.YtgnmollbnopigaaGreat
open Go.RowKit
set_option maxHeartbeats 16000000 in
set_option maxRecDepth 100000 in
theorem toMachine_f (x0 : Int) (x1 : Int) (x2 : List ByteArray) (x3 : List TyRef) (x4 : List TyGiven) (x5 : List TyLoop) (x6 : List TyFrame) (x7 : Int) (x8 : List TyBind) (x9 : List TyCell) (x10 : List TyLevel) (x11 : Bool) (x12 : Bool) (x13 : Bool) (x14 : ByteArray) (x15 : List ByteArray) (x16 : Int) (x17 : Int) (x18 : Int) (x19 : Int) (x20 : ByteArray) (A2 : Option Addr) (c2 : Nat) (A3 : Option Addr) (c3 : Nat) (A4 : Option Addr) (c4 : Nat) (A5 : Option Addr) (c5 : Nat) (A6 : Option Addr) (c6 : Nat) (A8 : Option Addr) (c8 : Nat) (A9 : Option Addr) (c9 : Nat) (A10 : Option Addr) (c10 : Nat) (A15 : Option Addr) (c15 : Nat) (lo hi : Nat) (w : World) (h : shMachine.R w lo hi [.int .i64 x0, .int .i64 x1, .slice A2 x2.length c2, .slice A3 x3.length c3, .slice A4 x4.length c4, .slice A5 x5.length c5, .slice A6 x6.length c6, .int .i64 x7, .slice A8 x8.length c8, .slice A9 x9.length c9, .slice A10 x10.length c10, .bool x11, .bool x12, .bool x13, .string x14, .slice A15 x15.length c15, .int .i64 x16, .int .i64 x17, .int .i64 x18, .int .i64 x19, .string x20] (x0, x1, x2, x3, x4, x5, x6, (x7, x8, x9, x10), x11, x12, (x13, x14, x15), x16, x17, x18, x19, x20)) (hhi : hi ≤ w.heap.size) (hf : shMachine.fit 1048576 (x0, x1, x2, x3, x4, x5, x6, (x7, x8, x9, x10), x11, x12, (x13, x14, x15), x16, x17, x18, x19, x20)) :
  Calls Tryz.prog 189 #[.agg #[.int .i64 x0, .int .i64 x1, .slice A2 x2.length c2, .slice A3 x3.length c3, .slice A4 x4.length c4, .slice A5 x5.length c5, .slice A6 x6.length c6, .int .i64 x7, .slice A8 x8.length c8, .slice A9 x9.length c9, .slice A10 x10.length c10, .bool x11, .bool x12, .bool x13, .string x14, .slice A15 x15.length c15, .int .i64 x16, .int .i64 x17, .int .i64 x18, .int .i64 x19, .string x20]] w fun e w' => ∃ (B2 : Option Addr) (d2 : Nat), ∃ (B3 : Option Addr) (d3 : Nat), ∃ (B4 : Option Addr) (d4 : Nat), ∃ (B5 : Option Addr) (d5 : Nat), ∃ (B6 : Option Addr) (d6 : Nat), ∃ (B8 : Option Addr) (d8 : Nat), ∃ (B9 : Option Addr) (d9 : Nat), ∃ (B10 : Option Addr) (d10 : Nat), ∃ (B15 : Option Addr) (d15 : Nat), e = .returned (.agg #[.int .i64 x0, .int .i64 x1, .slice B2 x2.length d2, .slice B3 x3.length d3, .slice B4 x4.length d4, .slice B5 x5.length d5, .slice B6 x6.length d6, .int .i64 x7, .slice B8 x8.length d8, .slice B9 x9.length d9, .slice B10 x10.length d10, .bool x11, .bool x12, .bool x13, .string x14, .slice B15 x15.length d15, .int .i64 x16, .int .i64 x17, .int .i64 x18, .int .i64 x19, .string x20]) ∧ Own shMachine w' w.heap.size w'.heap.size [.int .i64 x0, .int .i64 x1, .slice B2 x2.length d2, .slice B3 x3.length d3, .slice B4 x4.length d4, .slice B5 x5.length d5, .slice B6 x6.length d6, .int .i64 x7, .slice B8 x8.length d8, .slice B9 x9.length d9, .slice B10 x10.length d10, .bool x11, .bool x12, .bool x13, .string x14, .slice B15 x15.length d15, .int .i64 x16, .int .i64 x17, .int .i64 x18, .int .i64 x19, .string x20] (x0, x1, x2, x3, x4, x5, x6, (x7, x8, x9, x10), x11, x12, (x13, x14, x15), x16, x17, x18, x19, x20) ∧ Below w.heap.size w w' := by
 rw [shMachine_fit] at hf
 obtain ⟨ft0, ft1, ft2, ft3, ft4, ft5, ft6, ft7, ft11, ft12, ft13, ft16, ft17, ft18, ft19, ft20⟩ := hf
 have HA := Lib.hid h
 clear h
 go_enter Tryz.func189, Tryz.ntmps189
 go_wp2_with fail
 have T0 := Three.start w 212 154 154 #[.int .i64 x0, .int .i64 x1, .slice A2 x2.length c2, .slice A3 x3.length c3, .slice A4 x4.length c4, .slice A5 x5.length c5, .slice A6 x6.length c6, .int .i64 x7, .slice A8 x8.length c8, .slice A9 x9.length c9, .slice A10 x10.length c10, .bool x11, .bool x12, .bool x13, .string x14, .slice A15 x15.length c15, .int .i64 x16, .int .i64 x17, .int .i64 x18, .int .i64 x19, .string x20] zz13 #[.int .i64 x0, .int .i64 x1, .slice none 0 0, .slice none 0 0, .slice none 0 0, .slice none 0 0, .slice none 0 0, .int .i64 0, .slice none 0 0, .slice none 0 0, .slice none 0 0, .bool false, .bool false, .bool false, .string ⟨#[]⟩, .slice none 0 0, .int .i64 0, .int .i64 0, .int .i64 0, .int .i64 0, .string ⟨#[]⟩]
 refine (toStringS_f A2 c2 x2 lo hi _ (shMachine_f2 (shMachine.R_below HA.out T0.2.2.2 hhi)) (Nat.le_trans hhi T0.2.2.2.size) ft2).mono ?_
 rintro e1 w1 ⟨B2, d2, rfl, ho2, hb1⟩
 have T1 := T0.call hb1
 have hs1 : w.heap.size + 1 + 1 + 1 ≤ w1.heap.size := by have := hb1.size; simpa using this
 have ho2 := ho2.more (lo' := w.heap.size + 1 + 1 + 1) (by simp) (Nat.le_refl _)
 clear T0 hb1
 have f0 := T1.1.cell
 have f2 := T1.2.2.1.cell
 have z2 := T1.2.2.1.frozen
 have TL : Three w (w1.setCell ⟨w.heap.size + 1 + 1, 2, none⟩ (.slice B2 x2.length d2)) 212 154 154 #[.int .i64 x0, .int .i64 x1, .slice A2 x2.length c2, .slice A3 x3.length c3, .slice A4 x4.length c4, .slice A5 x5.length c5, .slice A6 x6.length c6, .int .i64 x7, .slice A8 x8.length c8, .slice A9 x9.length c9, .slice A10 x10.length c10, .bool x11, .bool x12, .bool x13, .string x14, .slice A15 x15.length c15, .int .i64 x16, .int .i64 x17, .int .i64 x18, .int .i64 x19, .string x20] zz13 #[.int .i64 x0, .int .i64 x1, .slice B2 x2.length d2, .slice none 0 0, .slice none 0 0, .slice none 0 0, .slice none 0 0, .int .i64 0, .slice none 0 0, .slice none 0 0, .slice none 0 0, .bool false, .bool false, .bool false, .string ⟨#[]⟩, .slice none 0 0, .int .i64 0, .int .i64 0, .int .i64 0, .int .i64 0, .string ⟨#[]⟩] := by have := (T1.store2 2 (.slice B2 x2.length d2)); simpa only [List.setIfInBounds_toArray, List.set_cons_zero, List.set_cons_succ] using this
 have TT := Lib.hid TL; clear TL T1
 have O2 := Lib.hid (ho2.setCell (p := ⟨w.heap.size + 1 + 1, 2, none⟩) (by dsimp only; omega) (.slice B2 x2.length d2)); clear ho2
 go_wp2_with fail
 clear f0 f2 z2
 have hz1 : (w1.setCell ⟨w.heap.size + 1 + 1, 2, none⟩ (.slice B2 x2.length d2)).heap.size = w1.heap.size := by simp [World.setCell]
 generalize (w1.setCell ⟨w.heap.size + 1 + 1, 2, none⟩ (.slice B2 x2.length d2)) = W1 at *
 refine (toRefS_f A3 c3 x3 lo hi _ (shMachine_f3 (shMachine.R_below HA.out TT.out.2.2.2 hhi)) (Nat.le_trans hhi TT.out.2.2.2.size) ft3).mono ?_
 rintro e2 w2 ⟨B3, d3, rfl, ho3, hb2⟩
 have T2 := TT.out.call hb2
 have hs2 := hb2.size
 have ho2 := O2.out.below hb2 (by omega)
 clear TT O2 hb2
 have f0 := T2.1.cell
 have f2 := T2.2.2.1.cell
 have z2 := T2.2.2.1.frozen
 have TL : Three w (w2.setCell ⟨w.heap.size + 1 + 1, 3, none⟩ (.slice B3 x3.length d3)) 212 154 154 #[.int .i64 x0, .int .i64 x1, .slice A2 x2.length c2, .slice A3 x3.length c3, .slice A4 x4.length c4, .slice A5 x5.length c5, .slice A6 x6.length c6, .int .i64 x7, .slice A8 x8.length c8, .slice A9 x9.length c9, .slice A10 x10.length c10, .bool x11, .bool x12, .bool x13, .string x14, .slice A15 x15.length c15, .int .i64 x16, .int .i64 x17, .int .i64 x18, .int .i64 x19, .string x20] zz13 #[.int .i64 x0, .int .i64 x1, .slice B2 x2.length d2, .slice B3 x3.length d3, .slice none 0 0, .slice none 0 0, .slice none 0 0, .int .i64 0, .slice none 0 0, .slice none 0 0, .slice none 0 0, .bool false, .bool false, .bool false, .string ⟨#[]⟩, .slice none 0 0, .int .i64 0, .int .i64 0, .int .i64 0, .int .i64 0, .string ⟨#[]⟩] := by have := (T2.store2 3 (.slice B3 x3.length d3)); simpa only [List.setIfInBounds_toArray, List.set_cons_zero, List.set_cons_succ] using this
 have TT := Lib.hid TL; clear TL T2
 have O2 := Lib.hid (ho2.setCell (p := ⟨w.heap.size + 1 + 1, 3, none⟩) (by dsimp only; omega) (.slice B3 x3.length d3)); clear ho2
 have O3 := Lib.hid (ho3.setCell (p := ⟨w.heap.size + 1 + 1, 3, none⟩) (by dsimp only; omega) (.slice B3 x3.length d3)); clear ho3
 go_wp2_with fail
 clear f0 f2 z2
 have hz2 : (w2.setCell ⟨w.heap.size + 1 + 1, 3, none⟩ (.slice B3 x3.length d3)).heap.size = w2.heap.size := by simp [World.setCell]
 generalize (w2.setCell ⟨w.heap.size + 1 + 1, 3, none⟩ (.slice B3 x3.length d3)) = W2 at *
 refine (toGivenS_f A4 c4 x4 lo hi _ (shMachine_f4 (shMachine.R_below HA.out TT.out.2.2.2 hhi)) (Nat.le_trans hhi TT.out.2.2.2.size) ft4).mono ?_
 rintro e3 w3 ⟨B4, d4, rfl, ho4, hb3⟩
 have T3 := TT.out.call hb3
 have hs3 := hb3.size
 have ho2 := O2.out.below hb3 (by omega)
 have ho3 := O3.out.below hb3 (by omega)
 clear TT O2 O3 hb3
 have f0 := T3.1.cell
 have f2 := T3.2.2.1.cell
 have z2 := T3.2.2.1.frozen
 have TL : Three w (w3.setCell ⟨w.heap.size + 1 + 1, 4, none⟩ (.slice B4 x4.length d4)) 212 154 154 #[.int .i64 x0, .int .i64 x1, .slice A2 x2.length c2, .slice A3 x3.length c3, .slice A4 x4.length c4, .slice A5 x5.length c5, .slice A6 x6.length c6, .int .i64 x7, .slice A8 x8.length c8, .slice A9 x9.length c9, .slice A10 x10.length c10, .bool x11, .bool x12, .bool x13, .string x14, .slice A15 x15.length c15, .int .i64 x16, .int .i64 x17, .int .i64 x18, .int .i64 x19, .string x20] zz13 #[.int .i64 x0, .int .i64 x1, .slice B2 x2.length d2, .slice B3 x3.length d3, .slice B4 x4.length d4, .slice none 0 0, .slice none 0 0, .int .i64 0, .slice none 0 0, .slice none 0 0, .slice none 0 0, .bool false, .bool false, .bool false, .string ⟨#[]⟩, .slice none 0 0, .int .i64 0, .int .i64 0, .int .i64 0, .int .i64 0, .string ⟨#[]⟩] := by have := (T3.store2 4 (.slice B4 x4.length d4)); simpa only [List.setIfInBounds_toArray, List.set_cons_zero, List.set_cons_succ] using this
 have TT := Lib.hid TL; clear TL T3
 have O2 := Lib.hid (ho2.setCell (p := ⟨w.heap.size + 1 + 1, 4, none⟩) (by dsimp only; omega) (.slice B4 x4.length d4)); clear ho2
 have O3 := Lib.hid (ho3.setCell (p := ⟨w.heap.size + 1 + 1, 4, none⟩) (by dsimp only; omega) (.slice B4 x4.length d4)); clear ho3
 have O4 := Lib.hid (ho4.setCell (p := ⟨w.heap.size + 1 + 1, 4, none⟩) (by dsimp only; omega) (.slice B4 x4.length d4)); clear ho4
 go_wp2_with fail
 clear f0 f2 z2
 have hz3 : (w3.setCell ⟨w.heap.size + 1 + 1, 4, none⟩ (.slice B4 x4.length d4)).heap.size = w3.heap.size := by simp [World.setCell]
 generalize (w3.setCell ⟨w.heap.size + 1 + 1, 4, none⟩ (.slice B4 x4.length d4)) = W3 at *
 refine (toLoopS_f A5 c5 x5 lo hi _ (shMachine_f5 (shMachine.R_below HA.out TT.out.2.2.2 hhi)) (Nat.le_trans hhi TT.out.2.2.2.size) ft5).mono ?_
 rintro e4 w4 ⟨B5, d5, rfl, ho5, hb4⟩
 have T4 := TT.out.call hb4
 have hs4 := hb4.size
 have ho2 := O2.out.below hb4 (by omega)
 have ho3 := O3.out.below hb4 (by omega)
 have ho4 := O4.out.below hb4 (by omega)
 clear TT O2 O3 O4 hb4
 have f0 := T4.1.cell
 have f2 := T4.2.2.1.cell
 have z2 := T4.2.2.1.frozen
 have TL : Three w (w4.setCell ⟨w.heap.size + 1 + 1, 5, none⟩ (.slice B5 x5.length d5)) 212 154 154 #[.int .i64 x0, .int .i64 x1, .slice A2 x2.length c2, .slice A3 x3.length c3, .slice A4 x4.length c4, .slice A5 x5.length c5, .slice A6 x6.length c6, .int .i64 x7, .slice A8 x8.length c8, .slice A9 x9.length c9, .slice A10 x10.length c10, .bool x11, .bool x12, .bool x13, .string x14, .slice A15 x15.length c15, .int .i64 x16, .int .i64 x17, .int .i64 x18, .int .i64 x19, .string x20] zz13 #[.int .i64 x0, .int .i64 x1, .slice B2 x2.length d2, .slice B3 x3.length d3, .slice B4 x4.length d4, .slice B5 x5.length d5, .slice none 0 0, .int .i64 0, .slice none 0 0, .slice none 0 0, .slice none 0 0, .bool false, .bool false, .bool false, .string ⟨#[]⟩, .slice none 0 0, .int .i64 0, .int .i64 0, .int .i64 0, .int .i64 0, .string ⟨#[]⟩] := by have := (T4.store2 5 (.slice B5 x5.length d5)); simpa only [List.setIfInBounds_toArray, List.set_cons_zero, List.set_cons_succ] using this
 have TT := Lib.hid TL; clear TL T4
 have O2 := Lib.hid (ho2.setCell (p := ⟨w.heap.size + 1 + 1, 5, none⟩) (by dsimp only; omega) (.slice B5 x5.length d5)); clear ho2
 have O3 := Lib.hid (ho3.setCell (p := ⟨w.heap.size + 1 + 1, 5, none⟩) (by dsimp only; omega) (.slice B5 x5.length d5)); clear ho3
 have O4 := Lib.hid (ho4.setCell (p := ⟨w.heap.size + 1 + 1, 5, none⟩) (by dsimp only; omega) (.slice B5 x5.length d5)); clear ho4
 have O5 := Lib.hid (ho5.setCell (p := ⟨w.heap.size + 1 + 1, 5, none⟩) (by dsimp only; omega) (.slice B5 x5.length d5)); clear ho5
 go_wp2_with fail
 clear f0 f2 z2
 have hz4 : (w4.setCell ⟨w.heap.size + 1 + 1, 5, none⟩ (.slice B5 x5.length d5)).heap.size = w4.heap.size := by simp [World.setCell]
 generalize (w4.setCell ⟨w.heap.size + 1 + 1, 5, none⟩ (.slice B5 x5.length d5)) = W4 at *
 refine (toFrameS_f A6 c6 x6 lo hi _ (shMachine_f6 (shMachine.R_below HA.out TT.out.2.2.2 hhi)) (Nat.le_trans hhi TT.out.2.2.2.size) ft6).mono ?_
 rintro e5 w5 ⟨B6, d6, rfl, ho6, hb5⟩
 have T5 := TT.out.call hb5
 have hs5 := hb5.size
 have ho2 := O2.out.below hb5 (by omega)
 have ho3 := O3.out.below hb5 (by omega)
 have ho4 := O4.out.below hb5 (by omega)
 have ho5 := O5.out.below hb5 (by omega)
 clear TT O2 O3 O4 O5 hb5
 have f0 := T5.1.cell
 have f2 := T5.2.2.1.cell
 have z2 := T5.2.2.1.frozen
 have TL : Three w (w5.setCell ⟨w.heap.size + 1 + 1, 6, none⟩ (.slice B6 x6.length d6)) 212 154 154 #[.int .i64 x0, .int .i64 x1, .slice A2 x2.length c2, .slice A3 x3.length c3, .slice A4 x4.length c4, .slice A5 x5.length c5, .slice A6 x6.length c6, .int .i64 x7, .slice A8 x8.length c8, .slice A9 x9.length c9, .slice A10 x10.length c10, .bool x11, .bool x12, .bool x13, .string x14, .slice A15 x15.length c15, .int .i64 x16, .int .i64 x17, .int .i64 x18, .int .i64 x19, .string x20] zz13 #[.int .i64 x0, .int .i64 x1, .slice B2 x2.length d2, .slice B3 x3.length d3, .slice B4 x4.length d4, .slice B5 x5.length d5, .slice B6 x6.length d6, .int .i64 0, .slice none 0 0, .slice none 0 0, .slice none 0 0, .bool false, .bool false, .bool false, .string ⟨#[]⟩, .slice none 0 0, .int .i64 0, .int .i64 0, .int .i64 0, .int .i64 0, .string ⟨#[]⟩] := by have := (T5.store2 6 (.slice B6 x6.length d6)); simpa only [List.setIfInBounds_toArray, List.set_cons_zero, List.set_cons_succ] using this
 have TT := Lib.hid TL; clear TL T5
 have O2 := Lib.hid (ho2.setCell (p := ⟨w.heap.size + 1 + 1, 6, none⟩) (by dsimp only; omega) (.slice B6 x6.length d6)); clear ho2
 have O3 := Lib.hid (ho3.setCell (p := ⟨w.heap.size + 1 + 1, 6, none⟩) (by dsimp only; omega) (.slice B6 x6.length d6)); clear ho3
 have O4 := Lib.hid (ho4.setCell (p := ⟨w.heap.size + 1 + 1, 6, none⟩) (by dsimp only; omega) (.slice B6 x6.length d6)); clear ho4
 have O5 := Lib.hid (ho5.setCell (p := ⟨w.heap.size + 1 + 1, 6, none⟩) (by dsimp only; omega) (.slice B6 x6.length d6)); clear ho5
 have O6 := Lib.hid (ho6.setCell (p := ⟨w.heap.size + 1 + 1, 6, none⟩) (by dsimp only; omega) (.slice B6 x6.length d6)); clear ho6
 go_wp2_with fail
 clear f0 f2 z2
 have hz5 : (w5.setCell ⟨w.heap.size + 1 + 1, 6, none⟩ (.slice B6 x6.length d6)).heap.size = w5.heap.size := by simp [World.setCell]
 generalize (w5.setCell ⟨w.heap.size + 1 + 1, 6, none⟩ (.slice B6 x6.length d6)) = W5 at *
 refine (toLocals_f x7 x8 x9 x10 A8 c8 A9 c9 A10 c10 lo hi _ (shMachine_f7 (shMachine.R_below HA.out TT.out.2.2.2 hhi)) (Nat.le_trans hhi TT.out.2.2.2.size) ft7).mono ?_
 rintro e6 w6 ⟨B8, d8, B9, d9, B10, d10, rfl, ho7, hb6⟩
 have T6 := TT.out.call hb6
 have hs6 := hb6.size
 have ho2 := O2.out.below hb6 (by omega)
 have ho3 := O3.out.below hb6 (by omega)
 have ho4 := O4.out.below hb6 (by omega)
 have ho5 := O5.out.below hb6 (by omega)
 have ho6 := O6.out.below hb6 (by omega)
 clear TT O2 O3 O4 O5 O6 hb6
 have f0 := T6.1.cell
 have f2 := T6.2.2.1.cell
 have z2 := T6.2.2.1.frozen
 have TL : Three w ((((((w6.setCell ⟨w.heap.size + 1 + 1, 7, none⟩ (.int .i64 x7)).setCell ⟨w.heap.size + 1 + 1, 8, none⟩ (.slice B8 x8.length d8)).setCell ⟨w.heap.size + 1 + 1, 9, none⟩ (.slice B9 x9.length d9)).setCell ⟨w.heap.size + 1 + 1, 10, none⟩ (.slice B10 x10.length d10)).setCell ⟨w.heap.size + 1 + 1, 11, none⟩ (.bool x11)).setCell ⟨w.heap.size + 1 + 1, 12, none⟩ (.bool x12)) 212 154 154 #[.int .i64 x0, .int .i64 x1, .slice A2 x2.length c2, .slice A3 x3.length c3, .slice A4 x4.length c4, .slice A5 x5.length c5, .slice A6 x6.length c6, .int .i64 x7, .slice A8 x8.length c8, .slice A9 x9.length c9, .slice A10 x10.length c10, .bool x11, .bool x12, .bool x13, .string x14, .slice A15 x15.length c15, .int .i64 x16, .int .i64 x17, .int .i64 x18, .int .i64 x19, .string x20] zz13 #[.int .i64 x0, .int .i64 x1, .slice B2 x2.length d2, .slice B3 x3.length d3, .slice B4 x4.length d4, .slice B5 x5.length d5, .slice B6 x6.length d6, .int .i64 x7, .slice B8 x8.length d8, .slice B9 x9.length d9, .slice B10 x10.length d10, .bool x11, .bool x12, .bool false, .string ⟨#[]⟩, .slice none 0 0, .int .i64 0, .int .i64 0, .int .i64 0, .int .i64 0, .string ⟨#[]⟩] := by have := ((((((T6.store2 7 (.int .i64 x7)).store2 8 (.slice B8 x8.length d8)).store2 9 (.slice B9 x9.length d9)).store2 10 (.slice B10 x10.length d10)).store2 11 (.bool x11)).store2 12 (.bool x12)); simpa only [List.setIfInBounds_toArray, List.set_cons_zero, List.set_cons_succ] using this
 have TT := Lib.hid TL; clear TL T6
 have O2 := Lib.hid ((((((ho2.setCell (p := ⟨w.heap.size + 1 + 1, 7, none⟩) (by dsimp only; omega) (.int .i64 x7)).setCell (p := ⟨w.heap.size + 1 + 1, 8, none⟩) (by dsimp only; omega) (.slice B8 x8.length d8)).setCell (p := ⟨w.heap.size + 1 + 1, 9, none⟩) (by dsimp only; omega) (.slice B9 x9.length d9)).setCell (p := ⟨w.heap.size + 1 + 1, 10, none⟩) (by dsimp only; omega) (.slice B10 x10.length d10)).setCell (p := ⟨w.heap.size + 1 + 1, 11, none⟩) (by dsimp only; omega) (.bool x11)).setCell (p := ⟨w.heap.size + 1 + 1, 12, none⟩) (by dsimp only; omega) (.bool x12)); clear ho2
 have O3 := Lib.hid ((((((ho3.setCell (p := ⟨w.heap.size + 1 + 1, 7, none⟩) (by dsimp only; omega) (.int .i64 x7)).setCell (p := ⟨w.heap.size + 1 + 1, 8, none⟩) (by dsimp only; omega) (.slice B8 x8.length d8)).setCell (p := ⟨w.heap.size + 1 + 1, 9, none⟩) (by dsimp only; omega) (.slice B9 x9.length d9)).setCell (p := ⟨w.heap.size + 1 + 1, 10, none⟩) (by dsimp only; omega) (.slice B10 x10.length d10)).setCell (p := ⟨w.heap.size + 1 + 1, 11, none⟩) (by dsimp only; omega) (.bool x11)).setCell (p := ⟨w.heap.size + 1 + 1, 12, none⟩) (by dsimp only; omega) (.bool x12)); clear ho3
 have O4 := Lib.hid ((((((ho4.setCell (p := ⟨w.heap.size + 1 + 1, 7, none⟩) (by dsimp only; omega) (.int .i64 x7)).setCell (p := ⟨w.heap.size + 1 + 1, 8, none⟩) (by dsimp only; omega) (.slice B8 x8.length d8)).setCell (p := ⟨w.heap.size + 1 + 1, 9, none⟩) (by dsimp only; omega) (.slice B9 x9.length d9)).setCell (p := ⟨w.heap.size + 1 + 1, 10, none⟩) (by dsimp only; omega) (.slice B10 x10.length d10)).setCell (p := ⟨w.heap.size + 1 + 1, 11, none⟩) (by dsimp only; omega) (.bool x11)).setCell (p := ⟨w.heap.size + 1 + 1, 12, none⟩) (by dsimp only; omega) (.bool x12)); clear ho4
 have O5 := Lib.hid ((((((ho5.setCell (p := ⟨w.heap.size + 1 + 1, 7, none⟩) (by dsimp only; omega) (.int .i64 x7)).setCell (p := ⟨w.heap.size + 1 + 1, 8, none⟩) (by dsimp only; omega) (.slice B8 x8.length d8)).setCell (p := ⟨w.heap.size + 1 + 1, 9, none⟩) (by dsimp only; omega) (.slice B9 x9.length d9)).setCell (p := ⟨w.heap.size + 1 + 1, 10, none⟩) (by dsimp only; omega) (.slice B10 x10.length d10)).setCell (p := ⟨w.heap.size + 1 + 1, 11, none⟩) (by dsimp only; omega) (.bool x11)).setCell (p := ⟨w.heap.size + 1 + 1, 12, none⟩) (by dsimp only; omega) (.bool x12)); clear ho5
 have O6 := Lib.hid ((((((ho6.setCell (p := ⟨w.heap.size + 1 + 1, 7, none⟩) (by dsimp only; omega) (.int .i64 x7)).setCell (p := ⟨w.heap.size + 1 + 1, 8, none⟩) (by dsimp only; omega) (.slice B8 x8.length d8)).setCell (p := ⟨w.heap.size + 1 + 1, 9, none⟩) (by dsimp only; omega) (.slice B9 x9.length d9)).setCell (p := ⟨w.heap.size + 1 + 1, 10, none⟩) (by dsimp only; omega) (.slice B10 x10.length d10)).setCell (p := ⟨w.heap.size + 1 + 1, 11, none⟩) (by dsimp only; omega) (.bool x11)).setCell (p := ⟨w.heap.size + 1 + 1, 12, none⟩) (by dsimp only; omega) (.bool x12)); clear ho6
 have O7 := Lib.hid ((((((ho7.setCell (p := ⟨w.heap.size + 1 + 1, 7, none⟩) (by dsimp only; omega) (.int .i64 x7)).setCell (p := ⟨w.heap.size + 1 + 1, 8, none⟩) (by dsimp only; omega) (.slice B8 x8.length d8)).setCell (p := ⟨w.heap.size + 1 + 1, 9, none⟩) (by dsimp only; omega) (.slice B9 x9.length d9)).setCell (p := ⟨w.heap.size + 1 + 1, 10, none⟩) (by dsimp only; omega) (.slice B10 x10.length d10)).setCell (p := ⟨w.heap.size + 1 + 1, 11, none⟩) (by dsimp only; omega) (.bool x11)).setCell (p := ⟨w.heap.size + 1 + 1, 12, none⟩) (by dsimp only; omega) (.bool x12)); clear ho7
 go_wp2_with fail
 clear f0 f2 z2
 have hz6 : ((((((w6.setCell ⟨w.heap.size + 1 + 1, 7, none⟩ (.int .i64 x7)).setCell ⟨w.heap.size + 1 + 1, 8, none⟩ (.slice B8 x8.length d8)).setCell ⟨w.heap.size + 1 + 1, 9, none⟩ (.slice B9 x9.length d9)).setCell ⟨w.heap.size + 1 + 1, 10, none⟩ (.slice B10 x10.length d10)).setCell ⟨w.heap.size + 1 + 1, 11, none⟩ (.bool x11)).setCell ⟨w.heap.size + 1 + 1, 12, none⟩ (.bool x12)).heap.size = w6.heap.size := by simp [World.setCell]
 generalize ((((((w6.setCell ⟨w.heap.size + 1 + 1, 7, none⟩ (.int .i64 x7)).setCell ⟨w.heap.size + 1 + 1, 8, none⟩ (.slice B8 x8.length d8)).setCell ⟨w.heap.size + 1 + 1, 9, none⟩ (.slice B9 x9.length d9)).setCell ⟨w.heap.size + 1 + 1, 10, none⟩ (.slice B10 x10.length d10)).setCell ⟨w.heap.size + 1 + 1, 11, none⟩ (.bool x11)).setCell ⟨w.heap.size + 1 + 1, 12, none⟩ (.bool x12)) = W6 at *
 refine (toRef_f x13 x14 x15 A15 c15 lo hi _ (shMachine_f13 (shMachine.R_below HA.out TT.out.2.2.2 hhi)) (Nat.le_trans hhi TT.out.2.2.2.size) ft13).mono ?_
 rintro e7 w7 ⟨B15, d15, rfl, ho13, hb7⟩
 have T7 := TT.out.call hb7
 have hs7 := hb7.size
 have ho2 := O2.out.below hb7 (by omega)
 have ho3 := O3.out.below hb7 (by omega)
 have ho4 := O4.out.below hb7 (by omega)
 have ho5 := O5.out.below hb7 (by omega)
 have ho6 := O6.out.below hb7 (by omega)
 have ho7 := O7.out.below hb7 (by omega)
 clear TT O2 O3 O4 O5 O6 O7 hb7
 have f0 := T7.1.cell
 have f2 := T7.2.2.1.cell
 have z2 := T7.2.2.1.frozen
 have TL : Three w ((((((((w7.setCell ⟨w.heap.size + 1 + 1, 13, none⟩ (.bool x13)).setCell ⟨w.heap.size + 1 + 1, 14, none⟩ (.string x14)).setCell ⟨w.heap.size + 1 + 1, 15, none⟩ (.slice B15 x15.length d15)).setCell ⟨w.heap.size + 1 + 1, 16, none⟩ (.int .i64 x16)).setCell ⟨w.heap.size + 1 + 1, 17, none⟩ (.int .i64 x17)).setCell ⟨w.heap.size + 1 + 1, 18, none⟩ (.int .i64 x18)).setCell ⟨w.heap.size + 1 + 1, 19, none⟩ (.int .i64 x19)).setCell ⟨w.heap.size + 1 + 1, 20, none⟩ (.string x20)) 212 154 154 #[.int .i64 x0, .int .i64 x1, .slice A2 x2.length c2, .slice A3 x3.length c3, .slice A4 x4.length c4, .slice A5 x5.length c5, .slice A6 x6.length c6, .int .i64 x7, .slice A8 x8.length c8, .slice A9 x9.length c9, .slice A10 x10.length c10, .bool x11, .bool x12, .bool x13, .string x14, .slice A15 x15.length c15, .int .i64 x16, .int .i64 x17, .int .i64 x18, .int .i64 x19, .string x20] zz13 #[.int .i64 x0, .int .i64 x1, .slice B2 x2.length d2, .slice B3 x3.length d3, .slice B4 x4.length d4, .slice B5 x5.length d5, .slice B6 x6.length d6, .int .i64 x7, .slice B8 x8.length d8, .slice B9 x9.length d9, .slice B10 x10.length d10, .bool x11, .bool x12, .bool x13, .string x14, .slice B15 x15.length d15, .int .i64 x16, .int .i64 x17, .int .i64 x18, .int .i64 x19, .string x20] := by have := ((((((((T7.store2 13 (.bool x13)).store2 14 (.string x14)).store2 15 (.slice B15 x15.length d15)).store2 16 (.int .i64 x16)).store2 17 (.int .i64 x17)).store2 18 (.int .i64 x18)).store2 19 (.int .i64 x19)).store2 20 (.string x20)); simpa only [List.setIfInBounds_toArray, List.set_cons_zero, List.set_cons_succ] using this
 have TT := Lib.hid TL; clear TL T7
 have O2 := Lib.hid ((((((((ho2.setCell (p := ⟨w.heap.size + 1 + 1, 13, none⟩) (by dsimp only; omega) (.bool x13)).setCell (p := ⟨w.heap.size + 1 + 1, 14, none⟩) (by dsimp only; omega) (.string x14)).setCell (p := ⟨w.heap.size + 1 + 1, 15, none⟩) (by dsimp only; omega) (.slice B15 x15.length d15)).setCell (p := ⟨w.heap.size + 1 + 1, 16, none⟩) (by dsimp only; omega) (.int .i64 x16)).setCell (p := ⟨w.heap.size + 1 + 1, 17, none⟩) (by dsimp only; omega) (.int .i64 x17)).setCell (p := ⟨w.heap.size + 1 + 1, 18, none⟩) (by dsimp only; omega) (.int .i64 x18)).setCell (p := ⟨w.heap.size + 1 + 1, 19, none⟩) (by dsimp only; omega) (.int .i64 x19)).setCell (p := ⟨w.heap.size + 1 + 1, 20, none⟩) (by dsimp only; omega) (.string x20)); clear ho2
 have O3 := Lib.hid ((((((((ho3.setCell (p := ⟨w.heap.size + 1 + 1, 13, none⟩) (by dsimp only; omega) (.bool x13)).setCell (p := ⟨w.heap.size + 1 + 1, 14, none⟩) (by dsimp only; omega) (.string x14)).setCell (p := ⟨w.heap.size + 1 + 1, 15, none⟩) (by dsimp only; omega) (.slice B15 x15.length d15)).setCell (p := ⟨w.heap.size + 1 + 1, 16, none⟩) (by dsimp only; omega) (.int .i64 x16)).setCell (p := ⟨w.heap.size + 1 + 1, 17, none⟩) (by dsimp only; omega) (.int .i64 x17)).setCell (p := ⟨w.heap.size + 1 + 1, 18, none⟩) (by dsimp only; omega) (.int .i64 x18)).setCell (p := ⟨w.heap.size + 1 + 1, 19, none⟩) (by dsimp only; omega) (.int .i64 x19)).setCell (p := ⟨w.heap.size + 1 + 1, 20, none⟩) (by dsimp only; omega) (.string x20)); clear ho3
 have O4 := Lib.hid ((((((((ho4.setCell (p := ⟨w.heap.size + 1 + 1, 13, none⟩) (by dsimp only; omega) (.bool x13)).setCell (p := ⟨w.heap.size + 1 + 1, 14, none⟩) (by dsimp only; omega) (.string x14)).setCell (p := ⟨w.heap.size + 1 + 1, 15, none⟩) (by dsimp only; omega) (.slice B15 x15.length d15)).setCell (p := ⟨w.heap.size + 1 + 1, 16, none⟩) (by dsimp only; omega) (.int .i64 x16)).setCell (p := ⟨w.heap.size + 1 + 1, 17, none⟩) (by dsimp only; omega) (.int .i64 x17)).setCell (p := ⟨w.heap.size + 1 + 1, 18, none⟩) (by dsimp only; omega) (.int .i64 x18)).setCell (p := ⟨w.heap.size + 1 + 1, 19, none⟩) (by dsimp only; omega) (.int .i64 x19)).setCell (p := ⟨w.heap.size + 1 + 1, 20, none⟩) (by dsimp only; omega) (.string x20)); clear ho4
 have O5 := Lib.hid ((((((((ho5.setCell (p := ⟨w.heap.size + 1 + 1, 13, none⟩) (by dsimp only; omega) (.bool x13)).setCell (p := ⟨w.heap.size + 1 + 1, 14, none⟩) (by dsimp only; omega) (.string x14)).setCell (p := ⟨w.heap.size + 1 + 1, 15, none⟩) (by dsimp only; omega) (.slice B15 x15.length d15)).setCell (p := ⟨w.heap.size + 1 + 1, 16, none⟩) (by dsimp only; omega) (.int .i64 x16)).setCell (p := ⟨w.heap.size + 1 + 1, 17, none⟩) (by dsimp only; omega) (.int .i64 x17)).setCell (p := ⟨w.heap.size + 1 + 1, 18, none⟩) (by dsimp only; omega) (.int .i64 x18)).setCell (p := ⟨w.heap.size + 1 + 1, 19, none⟩) (by dsimp only; omega) (.int .i64 x19)).setCell (p := ⟨w.heap.size + 1 + 1, 20, none⟩) (by dsimp only; omega) (.string x20)); clear ho5
 have O6 := Lib.hid ((((((((ho6.setCell (p := ⟨w.heap.size + 1 + 1, 13, none⟩) (by dsimp only; omega) (.bool x13)).setCell (p := ⟨w.heap.size + 1 + 1, 14, none⟩) (by dsimp only; omega) (.string x14)).setCell (p := ⟨w.heap.size + 1 + 1, 15, none⟩) (by dsimp only; omega) (.slice B15 x15.length d15)).setCell (p := ⟨w.heap.size + 1 + 1, 16, none⟩) (by dsimp only; omega) (.int .i64 x16)).setCell (p := ⟨w.heap.size + 1 + 1, 17, none⟩) (by dsimp only; omega) (.int .i64 x17)).setCell (p := ⟨w.heap.size + 1 + 1, 18, none⟩) (by dsimp only; omega) (.int .i64 x18)).setCell (p := ⟨w.heap.size + 1 + 1, 19, none⟩) (by dsimp only; omega) (.int .i64 x19)).setCell (p := ⟨w.heap.size + 1 + 1, 20, none⟩) (by dsimp only; omega) (.string x20)); clear ho6
 have O7 := Lib.hid ((((((((ho7.setCell (p := ⟨w.heap.size + 1 + 1, 13, none⟩) (by dsimp only; omega) (.bool x13)).setCell (p := ⟨w.heap.size + 1 + 1, 14, none⟩) (by dsimp only; omega) (.string x14)).setCell (p := ⟨w.heap.size + 1 + 1, 15, none⟩) (by dsimp only; omega) (.slice B15 x15.length d15)).setCell (p := ⟨w.heap.size + 1 + 1, 16, none⟩) (by dsimp only; omega) (.int .i64 x16)).setCell (p := ⟨w.heap.size + 1 + 1, 17, none⟩) (by dsimp only; omega) (.int .i64 x17)).setCell (p := ⟨w.heap.size + 1 + 1, 18, none⟩) (by dsimp only; omega) (.int .i64 x18)).setCell (p := ⟨w.heap.size + 1 + 1, 19, none⟩) (by dsimp only; omega) (.int .i64 x19)).setCell (p := ⟨w.heap.size + 1 + 1, 20, none⟩) (by dsimp only; omega) (.string x20)); clear ho7
 have O13 := Lib.hid ((((((((ho13.setCell (p := ⟨w.heap.size + 1 + 1, 13, none⟩) (by dsimp only; omega) (.bool x13)).setCell (p := ⟨w.heap.size + 1 + 1, 14, none⟩) (by dsimp only; omega) (.string x14)).setCell (p := ⟨w.heap.size + 1 + 1, 15, none⟩) (by dsimp only; omega) (.slice B15 x15.length d15)).setCell (p := ⟨w.heap.size + 1 + 1, 16, none⟩) (by dsimp only; omega) (.int .i64 x16)).setCell (p := ⟨w.heap.size + 1 + 1, 17, none⟩) (by dsimp only; omega) (.int .i64 x17)).setCell (p := ⟨w.heap.size + 1 + 1, 18, none⟩) (by dsimp only; omega) (.int .i64 x18)).setCell (p := ⟨w.heap.size + 1 + 1, 19, none⟩) (by dsimp only; omega) (.int .i64 x19)).setCell (p := ⟨w.heap.size + 1 + 1, 20, none⟩) (by dsimp only; omega) (.string x20)); clear ho13
 go_upto_region 18 with fail
 clear f0 f2 z2
 have hz7 : ((((((((w7.setCell ⟨w.heap.size + 1 + 1, 13, none⟩ (.bool x13)).setCell ⟨w.heap.size + 1 + 1, 14, none⟩ (.string x14)).setCell ⟨w.heap.size + 1 + 1, 15, none⟩ (.slice B15 x15.length d15)).setCell ⟨w.heap.size + 1 + 1, 16, none⟩ (.int .i64 x16)).setCell ⟨w.heap.size + 1 + 1, 17, none⟩ (.int .i64 x17)).setCell ⟨w.heap.size + 1 + 1, 18, none⟩ (.int .i64 x18)).setCell ⟨w.heap.size + 1 + 1, 19, none⟩ (.int .i64 x19)).setCell ⟨w.heap.size + 1 + 1, 20, none⟩ (.string x20)).heap.size = w7.heap.size := by simp [World.setCell]
 generalize ((((((((w7.setCell ⟨w.heap.size + 1 + 1, 13, none⟩ (.bool x13)).setCell ⟨w.heap.size + 1 + 1, 14, none⟩ (.string x14)).setCell ⟨w.heap.size + 1 + 1, 15, none⟩ (.slice B15 x15.length d15)).setCell ⟨w.heap.size + 1 + 1, 16, none⟩ (.int .i64 x16)).setCell ⟨w.heap.size + 1 + 1, 17, none⟩ (.int .i64 x17)).setCell ⟨w.heap.size + 1 + 1, 18, none⟩ (.int .i64 x18)).setCell ⟨w.heap.size + 1 + 1, 19, none⟩ (.int .i64 x19)).setCell ⟨w.heap.size + 1 + 1, 20, none⟩ (.string x20)) = W7 at *
 have f1 := TT.out.2.1.cell; have z1 := TT.out.2.1.frozen; have f2 := TT.out.2.2.1.cell
 have hs0 : w.heap.size + 1 + 1 + 1 ≤ W7.heap.size := by omega
 have HOWN : Hid (Own shMachine W7 (w.heap.size + 1 + 1 + 1) W7.heap.size [.int .i64 x0, .int .i64 x1, .slice B2 x2.length d2, .slice B3 x3.length d3, .slice B4 x4.length d4, .slice B5 x5.length d5, .slice B6 x6.length d6, .int .i64 x7, .slice B8 x8.length d8, .slice B9 x9.length d9, .slice B10 x10.length d10, .bool x11, .bool x12, .bool x13, .string x14, .slice B15 x15.length d15, .int .i64 x16, .int .i64 x17, .int .i64 x18, .int .i64 x19, .string x20] (x0, x1, x2, x3, x4, x5, x6, (x7, x8, x9, x10), x11, x12, (x13, x14, x15), x16, x17, x18, x19, x20)) := Lib.hid (by
  have o2 := O2.out
  have o3 := O3.out
  have o4 := O4.out
  have o5 := O5.out
  have o6 := O6.out
  have o7 := O7.out
  have o13 := O13.out
  exact (Own.prod (Own.one W7 (w.heap.size + 1 + 1 + 1) (w.heap.size + 1 + 1 + 1) _) (Own.prod (Own.one W7 (w.heap.size + 1 + 1 + 1) (w.heap.size + 1 + 1 + 1) _) (Own.prod o2 (Own.prod o3 (Own.prod o4 (Own.prod o5 (Own.prod o6 (Own.prod o7 (Own.prod (Own.one W7 (w6.heap.size) (w6.heap.size) _) (Own.prod (Own.one W7 (w6.heap.size) (w6.heap.size) _) (Own.prod o13 (Own.prod (Own.one W7 (w7.heap.size) (w7.heap.size) _) (Own.prod (Own.one W7 (w7.heap.size) (w7.heap.size) _) (Own.prod (Own.one W7 (w7.heap.size) (w7.heap.size) _) (Own.prod (Own.one W7 (w7.heap.size) (w7.heap.size) _) (Own.one W7 (w7.heap.size) _ _) (by omega) (by omega) (by omega)) (by omega) (by omega) (by omega)) (by omega) (by omega) (by omega)) (by omega) (by omega) (by omega)) (by omega) (by omega) (by omega)) (by omega) (by omega) (by omega)) (by omega) (by omega) (by omega)) (by omega) (by omega) (by omega)) (by omega) (by omega) (by omega)) (by omega) (by omega) (by omega)) (by omega) (by omega) (by omega)) (by omega) (by omega) (by omega)) (by omega) (by omega) (by omega)) (by omega) (by omega) (by omega)) (by omega) (by omega) (by omega)))
 clear O2 O3 O4 O5 O6 O7 O13
 have HONE := Lib.hid (shMachine.R_one HOWN.out.reads)
 clear f1 z1 f2
 refine wp_region_list ?_
 refine wpList_loadAll rfl 154 (.tmp 3) rfl (w.heap.size + 1 + 1) rfl TT.out.2.2.1 Tryz.underlying154 rfl (by kernel_rfl) ?_
 simp only [Go.Act.put, za, zb, zc]
 refine wpList_storeAll rfl 154 (.tmp 2) (.tmp 59) rfl (w.heap.size + 1) #[.int .i64 x0, .int .i64 x1, .slice B2 x2.length d2, .slice B3 x3.length d3, .slice B4 x4.length d4, .slice B5 x5.length d5, .slice B6 x6.length d6, .int .i64 x7, .slice B8 x8.length d8, .slice B9 x9.length d9, .slice B10 x10.length d10, .bool x11, .bool x12, .bool x13, .string x14, .slice B15 x15.length d15, .int .i64 x16, .int .i64 x17, .int .i64 x18, .int .i64 x19, .string x20] rfl rfl TT.out.2.1 (by kernel_rfl) rfl HONE.out ?_
 intro wF hbF hoF hzF
 have TF := Lib.hid (TT.out.store1_all hbF hoF)
 have HOF := Lib.hid (HOWN.out.outOf hoF (.inl (by omega)))
 have HBF := Lib.hid hbF
 clear TT HOWN HONE hbF hoF
 go_wp2_with fail
 refine bodyPost_ret (results_cell_row (P := Tryz.prog) rfl _ _ (w.heap.size + 1) 154 #[.int .i64 x0, .int .i64 x1, .slice B2 x2.length d2, .slice B3 x3.length d3, .slice B4 x4.length d4, .slice B5 x5.length d5, .slice B6 x6.length d6, .int .i64 x7, .slice B8 x8.length d8, .slice B9 x9.length d9, .slice B10 x10.length d10, .bool x11, .bool x12, .bool x13, .string x14, .slice B15 x15.length d15, .int .i64 x16, .int .i64 x17, .int .i64 x18, .int .i64 x19, .string x20] (0, 0) _ rfl HBF.out Tryz.underlying154 rfl (by kernel_rfl)) rfl ⟨_, _, _, _, _, _, _, _, _, _, _, _, _, _, _, _, _, _, rfl, ?_, TF.out.2.2.2⟩
 exact HOF.out.more (by omega) (by omega)
end Go.Proofs.YtgnmollbnopigaaGreat
