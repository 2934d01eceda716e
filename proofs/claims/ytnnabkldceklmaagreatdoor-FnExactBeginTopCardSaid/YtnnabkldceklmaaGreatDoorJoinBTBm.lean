/- Cache: shapes and the laws' walks (to). Printed by gen_fam.py. -/
import Derived.Test.YtnnabkldceklmaaGreatDoorJoinBTAt
import Derived.Deep.DeepCutAuto
import Derived.Deep.CutBlock
import Derived.Test.YtnnabkldceklmaaGreatDoorJoinBTAs
import Derived.Test.YtnnabkldceklmaaGreatDoorJoinBTAu
import Derived.Test.YtnnabkldceklmaaGreatDoorJoinBTAv
import Derived.Test.YtnnabkldceklmaaGreatDoorJoinBTAw
import Derived.Test.YtnnabkldceklmaaGreatDoorJoinBTBk
set_option maxHeartbeats 16000000
set_option maxRecDepth 100000
namespace Go.Proofs.YtnnabkldceklmaaGreatDoor
open Go.RowKit
theorem toCache_f (x0 : Int) (x1 : List ByteArray) (x2 : List TyPut) (x3 : Int) (x4 : Int) (x5 : Int) (x6 : List TySeat) (x7 : Int) (x8 : Int) (x9 : Int) (x10 : List TySeat) (x11 : List TySeat) (x12 : List Int) (A1 : Option Addr) (c1 : Nat) (A2 : Option Addr) (c2 : Nat) (A6 : Option Addr) (c6 : Nat) (A10 : Option Addr) (c10 : Nat) (A11 : Option Addr) (c11 : Nat) (A12 : Option Addr) (c12 : Nat) (lo hi : Nat) (w : World) (h : shCache.R w lo hi [.int .i64 x0, .slice A1 x1.length c1, .slice A2 x2.length c2, .int .i64 x3, .int .i64 x4, .int .i64 x5, .slice A6 x6.length c6, .int .i64 x7, .int .i64 x8, .int .i64 x9, .slice A10 x10.length c10, .slice A11 x11.length c11, .slice A12 x12.length c12] ((x0, x1, x2), (x3, x4, x5, x6), (x7, x8, x9, x10), x11, x12)) (hhi : hi ≤ w.heap.size) (hf : shCache.fit 1048576 ((x0, x1, x2), (x3, x4, x5, x6), (x7, x8, x9, x10), x11, x12)) :
  Calls Tryz.prog 11 #[.agg #[.int .i64 x0, .slice A1 x1.length c1, .slice A2 x2.length c2, .int .i64 x3, .int .i64 x4, .int .i64 x5, .slice A6 x6.length c6, .int .i64 x7, .int .i64 x8, .int .i64 x9, .slice A10 x10.length c10, .slice A11 x11.length c11, .slice A12 x12.length c12]] w fun e w' => ∃ (B1 : Option Addr) (d1 : Nat), ∃ (B2 : Option Addr) (d2 : Nat), ∃ (B6 : Option Addr) (d6 : Nat), ∃ (B10 : Option Addr) (d10 : Nat), ∃ (B11 : Option Addr) (d11 : Nat), ∃ (B12 : Option Addr) (d12 : Nat), e = .returned (.agg #[.int .i64 x0, .slice B1 x1.length d1, .slice B2 x2.length d2, .int .i64 x3, .int .i64 x4, .int .i64 x5, .slice B6 x6.length d6, .int .i64 x7, .int .i64 x8, .int .i64 x9, .slice B10 x10.length d10, .slice B11 x11.length d11, .slice B12 x12.length d12]) ∧ Own shCache w' w.heap.size w'.heap.size [.int .i64 x0, .slice B1 x1.length d1, .slice B2 x2.length d2, .int .i64 x3, .int .i64 x4, .int .i64 x5, .slice B6 x6.length d6, .int .i64 x7, .int .i64 x8, .int .i64 x9, .slice B10 x10.length d10, .slice B11 x11.length d11, .slice B12 x12.length d12] ((x0, x1, x2), (x3, x4, x5, x6), (x7, x8, x9, x10), x11, x12) ∧ Below w.heap.size w w' := by
 rw [shCache_fit] at hf
 obtain ⟨ft0, ft3, ft7, ft11, ft12⟩ := hf
 have HA := hd_ h
 clear h
 go_enter Tryz.func11, Tryz.ntmps11
 go_wp2_with fail
 have T0 := Three.start w 31 44 44 #[.int .i64 x0, .slice A1 x1.length c1, .slice A2 x2.length c2, .int .i64 x3, .int .i64 x4, .int .i64 x5, .slice A6 x6.length c6, .int .i64 x7, .int .i64 x8, .int .i64 x9, .slice A10 x10.length c10, .slice A11 x11.length c11, .slice A12 x12.length c12] zz9 zz9
 refine (toDisk_f x0 x1 x2 A1 c1 A2 c2 lo hi _ (shCache_f0 (shCache.R_below HA.out T0.2.2.2 hhi)) (Nat.le_trans hhi T0.2.2.2.size) ft0).mono ?_
 rintro e1 w1 ⟨B1, d1, B2, d2, rfl, ho0, hb1⟩
 have T1 := T0.call hb1
 have hs1 : w.heap.size + 1 + 1 + 1 ≤ w1.heap.size := by have := hb1.size; simpa using this
 have ho0 := ho0.more (lo' := w.heap.size + 1 + 1 + 1) (by simp) (Nat.le_refl _)
 clear T0 hb1
 have f0 := T1.1.cell
 have f2 := T1.2.2.1.cell
 have z2 := T1.2.2.1.frozen
 have TL : Three w (((w1.setCell ⟨w.heap.size + 1 + 1, 0, none⟩ (.int .i64 x0)).setCell ⟨w.heap.size + 1 + 1, 1, none⟩ (.slice B1 x1.length d1)).setCell ⟨w.heap.size + 1 + 1, 2, none⟩ (.slice B2 x2.length d2)) 31 44 44 #[.int .i64 x0, .slice A1 x1.length c1, .slice A2 x2.length c2, .int .i64 x3, .int .i64 x4, .int .i64 x5, .slice A6 x6.length c6, .int .i64 x7, .int .i64 x8, .int .i64 x9, .slice A10 x10.length c10, .slice A11 x11.length c11, .slice A12 x12.length c12] zz9 #[.int .i64 x0, .slice B1 x1.length d1, .slice B2 x2.length d2, .int .i64 0, .int .i64 0, .int .i64 0, .slice none 0 0, .int .i64 0, .int .i64 0, .int .i64 0, .slice none 0 0, .slice none 0 0, .slice none 0 0] := by have := (((T1.store2 0 (.int .i64 x0)).store2 1 (.slice B1 x1.length d1)).store2 2 (.slice B2 x2.length d2)); simpa only [List.setIfInBounds_toArray, List.set_cons_zero, List.set_cons_succ] using this
 have TT := hd_ TL; clear TL T1
 have O0 := hd_ (((ho0.setCell (p := ⟨w.heap.size + 1 + 1, 0, none⟩) (by dsimp only; omega) (.int .i64 x0)).setCell (p := ⟨w.heap.size + 1 + 1, 1, none⟩) (by dsimp only; omega) (.slice B1 x1.length d1)).setCell (p := ⟨w.heap.size + 1 + 1, 2, none⟩) (by dsimp only; omega) (.slice B2 x2.length d2)); clear ho0
 go_wp2_with fail
 clear f0 f2 z2
 have hz1 : (((w1.setCell ⟨w.heap.size + 1 + 1, 0, none⟩ (.int .i64 x0)).setCell ⟨w.heap.size + 1 + 1, 1, none⟩ (.slice B1 x1.length d1)).setCell ⟨w.heap.size + 1 + 1, 2, none⟩ (.slice B2 x2.length d2)).heap.size = w1.heap.size := by simp [World.setCell]
 generalize (((w1.setCell ⟨w.heap.size + 1 + 1, 0, none⟩ (.int .i64 x0)).setCell ⟨w.heap.size + 1 + 1, 1, none⟩ (.slice B1 x1.length d1)).setCell ⟨w.heap.size + 1 + 1, 2, none⟩ (.slice B2 x2.length d2)) = W1 at *
 refine (toTop_f x3 x4 x5 x6 A6 c6 lo hi _ (shCache_f3 (shCache.R_below HA.out TT.out.2.2.2 hhi)) (Nat.le_trans hhi TT.out.2.2.2.size) ft3).mono ?_
 rintro e2 w2 ⟨B6, d6, rfl, ho3, hb2⟩
 have T2 := TT.out.call hb2
 have hs2 := hb2.size
 have ho0 := O0.out.below hb2 (by omega)
 clear TT O0 hb2
 have f0 := T2.1.cell
 have f2 := T2.2.2.1.cell
 have z2 := T2.2.2.1.frozen
 have TL : Three w ((((w2.setCell ⟨w.heap.size + 1 + 1, 3, none⟩ (.int .i64 x3)).setCell ⟨w.heap.size + 1 + 1, 4, none⟩ (.int .i64 x4)).setCell ⟨w.heap.size + 1 + 1, 5, none⟩ (.int .i64 x5)).setCell ⟨w.heap.size + 1 + 1, 6, none⟩ (.slice B6 x6.length d6)) 31 44 44 #[.int .i64 x0, .slice A1 x1.length c1, .slice A2 x2.length c2, .int .i64 x3, .int .i64 x4, .int .i64 x5, .slice A6 x6.length c6, .int .i64 x7, .int .i64 x8, .int .i64 x9, .slice A10 x10.length c10, .slice A11 x11.length c11, .slice A12 x12.length c12] zz9 #[.int .i64 x0, .slice B1 x1.length d1, .slice B2 x2.length d2, .int .i64 x3, .int .i64 x4, .int .i64 x5, .slice B6 x6.length d6, .int .i64 0, .int .i64 0, .int .i64 0, .slice none 0 0, .slice none 0 0, .slice none 0 0] := by have := ((((T2.store2 3 (.int .i64 x3)).store2 4 (.int .i64 x4)).store2 5 (.int .i64 x5)).store2 6 (.slice B6 x6.length d6)); simpa only [List.setIfInBounds_toArray, List.set_cons_zero, List.set_cons_succ] using this
 have TT := hd_ TL; clear TL T2
 have O0 := hd_ ((((ho0.setCell (p := ⟨w.heap.size + 1 + 1, 3, none⟩) (by dsimp only; omega) (.int .i64 x3)).setCell (p := ⟨w.heap.size + 1 + 1, 4, none⟩) (by dsimp only; omega) (.int .i64 x4)).setCell (p := ⟨w.heap.size + 1 + 1, 5, none⟩) (by dsimp only; omega) (.int .i64 x5)).setCell (p := ⟨w.heap.size + 1 + 1, 6, none⟩) (by dsimp only; omega) (.slice B6 x6.length d6)); clear ho0
 have O3 := hd_ ((((ho3.setCell (p := ⟨w.heap.size + 1 + 1, 3, none⟩) (by dsimp only; omega) (.int .i64 x3)).setCell (p := ⟨w.heap.size + 1 + 1, 4, none⟩) (by dsimp only; omega) (.int .i64 x4)).setCell (p := ⟨w.heap.size + 1 + 1, 5, none⟩) (by dsimp only; omega) (.int .i64 x5)).setCell (p := ⟨w.heap.size + 1 + 1, 6, none⟩) (by dsimp only; omega) (.slice B6 x6.length d6)); clear ho3
 go_wp2_with fail
 clear f0 f2 z2
 have hz2 : ((((w2.setCell ⟨w.heap.size + 1 + 1, 3, none⟩ (.int .i64 x3)).setCell ⟨w.heap.size + 1 + 1, 4, none⟩ (.int .i64 x4)).setCell ⟨w.heap.size + 1 + 1, 5, none⟩ (.int .i64 x5)).setCell ⟨w.heap.size + 1 + 1, 6, none⟩ (.slice B6 x6.length d6)).heap.size = w2.heap.size := by simp [World.setCell]
 generalize ((((w2.setCell ⟨w.heap.size + 1 + 1, 3, none⟩ (.int .i64 x3)).setCell ⟨w.heap.size + 1 + 1, 4, none⟩ (.int .i64 x4)).setCell ⟨w.heap.size + 1 + 1, 5, none⟩ (.int .i64 x5)).setCell ⟨w.heap.size + 1 + 1, 6, none⟩ (.slice B6 x6.length d6)) = W2 at *
 refine (toTop_f x7 x8 x9 x10 A10 c10 lo hi _ (shCache_f7 (shCache.R_below HA.out TT.out.2.2.2 hhi)) (Nat.le_trans hhi TT.out.2.2.2.size) ft7).mono ?_
 rintro e3 w3 ⟨B10, d10, rfl, ho7, hb3⟩
 have T3 := TT.out.call hb3
 have hs3 := hb3.size
 have ho0 := O0.out.below hb3 (by omega)
 have ho3 := O3.out.below hb3 (by omega)
 clear TT O0 O3 hb3
 have f0 := T3.1.cell
 have f2 := T3.2.2.1.cell
 have z2 := T3.2.2.1.frozen
 have TL : Three w ((((w3.setCell ⟨w.heap.size + 1 + 1, 7, none⟩ (.int .i64 x7)).setCell ⟨w.heap.size + 1 + 1, 8, none⟩ (.int .i64 x8)).setCell ⟨w.heap.size + 1 + 1, 9, none⟩ (.int .i64 x9)).setCell ⟨w.heap.size + 1 + 1, 10, none⟩ (.slice B10 x10.length d10)) 31 44 44 #[.int .i64 x0, .slice A1 x1.length c1, .slice A2 x2.length c2, .int .i64 x3, .int .i64 x4, .int .i64 x5, .slice A6 x6.length c6, .int .i64 x7, .int .i64 x8, .int .i64 x9, .slice A10 x10.length c10, .slice A11 x11.length c11, .slice A12 x12.length c12] zz9 #[.int .i64 x0, .slice B1 x1.length d1, .slice B2 x2.length d2, .int .i64 x3, .int .i64 x4, .int .i64 x5, .slice B6 x6.length d6, .int .i64 x7, .int .i64 x8, .int .i64 x9, .slice B10 x10.length d10, .slice none 0 0, .slice none 0 0] := by have := ((((T3.store2 7 (.int .i64 x7)).store2 8 (.int .i64 x8)).store2 9 (.int .i64 x9)).store2 10 (.slice B10 x10.length d10)); simpa only [List.setIfInBounds_toArray, List.set_cons_zero, List.set_cons_succ] using this
 have TT := hd_ TL; clear TL T3
 have O0 := hd_ ((((ho0.setCell (p := ⟨w.heap.size + 1 + 1, 7, none⟩) (by dsimp only; omega) (.int .i64 x7)).setCell (p := ⟨w.heap.size + 1 + 1, 8, none⟩) (by dsimp only; omega) (.int .i64 x8)).setCell (p := ⟨w.heap.size + 1 + 1, 9, none⟩) (by dsimp only; omega) (.int .i64 x9)).setCell (p := ⟨w.heap.size + 1 + 1, 10, none⟩) (by dsimp only; omega) (.slice B10 x10.length d10)); clear ho0
 have O3 := hd_ ((((ho3.setCell (p := ⟨w.heap.size + 1 + 1, 7, none⟩) (by dsimp only; omega) (.int .i64 x7)).setCell (p := ⟨w.heap.size + 1 + 1, 8, none⟩) (by dsimp only; omega) (.int .i64 x8)).setCell (p := ⟨w.heap.size + 1 + 1, 9, none⟩) (by dsimp only; omega) (.int .i64 x9)).setCell (p := ⟨w.heap.size + 1 + 1, 10, none⟩) (by dsimp only; omega) (.slice B10 x10.length d10)); clear ho3
 have O7 := hd_ ((((ho7.setCell (p := ⟨w.heap.size + 1 + 1, 7, none⟩) (by dsimp only; omega) (.int .i64 x7)).setCell (p := ⟨w.heap.size + 1 + 1, 8, none⟩) (by dsimp only; omega) (.int .i64 x8)).setCell (p := ⟨w.heap.size + 1 + 1, 9, none⟩) (by dsimp only; omega) (.int .i64 x9)).setCell (p := ⟨w.heap.size + 1 + 1, 10, none⟩) (by dsimp only; omega) (.slice B10 x10.length d10)); clear ho7
 go_wp2_with fail
 clear f0 f2 z2
 have hz3 : ((((w3.setCell ⟨w.heap.size + 1 + 1, 7, none⟩ (.int .i64 x7)).setCell ⟨w.heap.size + 1 + 1, 8, none⟩ (.int .i64 x8)).setCell ⟨w.heap.size + 1 + 1, 9, none⟩ (.int .i64 x9)).setCell ⟨w.heap.size + 1 + 1, 10, none⟩ (.slice B10 x10.length d10)).heap.size = w3.heap.size := by simp [World.setCell]
 generalize ((((w3.setCell ⟨w.heap.size + 1 + 1, 7, none⟩ (.int .i64 x7)).setCell ⟨w.heap.size + 1 + 1, 8, none⟩ (.int .i64 x8)).setCell ⟨w.heap.size + 1 + 1, 9, none⟩ (.int .i64 x9)).setCell ⟨w.heap.size + 1 + 1, 10, none⟩ (.slice B10 x10.length d10)) = W3 at *
 refine (toSeatS_f A11 c11 x11 lo hi _ (shCache_f11 (shCache.R_below HA.out TT.out.2.2.2 hhi)) (Nat.le_trans hhi TT.out.2.2.2.size) ft11).mono ?_
 rintro e4 w4 ⟨B11, d11, rfl, ho11, hb4⟩
 have T4 := TT.out.call hb4
 have hs4 := hb4.size
 have ho0 := O0.out.below hb4 (by omega)
 have ho3 := O3.out.below hb4 (by omega)
 have ho7 := O7.out.below hb4 (by omega)
 clear TT O0 O3 O7 hb4
 have f0 := T4.1.cell
 have f2 := T4.2.2.1.cell
 have z2 := T4.2.2.1.frozen
 have TL : Three w (w4.setCell ⟨w.heap.size + 1 + 1, 11, none⟩ (.slice B11 x11.length d11)) 31 44 44 #[.int .i64 x0, .slice A1 x1.length c1, .slice A2 x2.length c2, .int .i64 x3, .int .i64 x4, .int .i64 x5, .slice A6 x6.length c6, .int .i64 x7, .int .i64 x8, .int .i64 x9, .slice A10 x10.length c10, .slice A11 x11.length c11, .slice A12 x12.length c12] zz9 #[.int .i64 x0, .slice B1 x1.length d1, .slice B2 x2.length d2, .int .i64 x3, .int .i64 x4, .int .i64 x5, .slice B6 x6.length d6, .int .i64 x7, .int .i64 x8, .int .i64 x9, .slice B10 x10.length d10, .slice B11 x11.length d11, .slice none 0 0] := by have := (T4.store2 11 (.slice B11 x11.length d11)); simpa only [List.setIfInBounds_toArray, List.set_cons_zero, List.set_cons_succ] using this
 have TT := hd_ TL; clear TL T4
 have O0 := hd_ (ho0.setCell (p := ⟨w.heap.size + 1 + 1, 11, none⟩) (by dsimp only; omega) (.slice B11 x11.length d11)); clear ho0
 have O3 := hd_ (ho3.setCell (p := ⟨w.heap.size + 1 + 1, 11, none⟩) (by dsimp only; omega) (.slice B11 x11.length d11)); clear ho3
 have O7 := hd_ (ho7.setCell (p := ⟨w.heap.size + 1 + 1, 11, none⟩) (by dsimp only; omega) (.slice B11 x11.length d11)); clear ho7
 have O11 := hd_ (ho11.setCell (p := ⟨w.heap.size + 1 + 1, 11, none⟩) (by dsimp only; omega) (.slice B11 x11.length d11)); clear ho11
 go_wp2_with fail
 clear f0 f2 z2
 have hz4 : (w4.setCell ⟨w.heap.size + 1 + 1, 11, none⟩ (.slice B11 x11.length d11)).heap.size = w4.heap.size := by simp [World.setCell]
 generalize (w4.setCell ⟨w.heap.size + 1 + 1, 11, none⟩ (.slice B11 x11.length d11)) = W4 at *
 refine (toInt64S_f A12 c12 x12 lo hi _ (shCache_f12 (shCache.R_below HA.out TT.out.2.2.2 hhi)) (Nat.le_trans hhi TT.out.2.2.2.size) ft12).mono ?_
 rintro e5 w5 ⟨B12, d12, rfl, ho12, hb5⟩
 have T5 := TT.out.call hb5
 have hs5 := hb5.size
 have ho0 := O0.out.below hb5 (by omega)
 have ho3 := O3.out.below hb5 (by omega)
 have ho7 := O7.out.below hb5 (by omega)
 have ho11 := O11.out.below hb5 (by omega)
 clear TT O0 O3 O7 O11 hb5
 have f0 := T5.1.cell
 have f2 := T5.2.2.1.cell
 have z2 := T5.2.2.1.frozen
 have TL : Three w (w5.setCell ⟨w.heap.size + 1 + 1, 12, none⟩ (.slice B12 x12.length d12)) 31 44 44 #[.int .i64 x0, .slice A1 x1.length c1, .slice A2 x2.length c2, .int .i64 x3, .int .i64 x4, .int .i64 x5, .slice A6 x6.length c6, .int .i64 x7, .int .i64 x8, .int .i64 x9, .slice A10 x10.length c10, .slice A11 x11.length c11, .slice A12 x12.length c12] zz9 #[.int .i64 x0, .slice B1 x1.length d1, .slice B2 x2.length d2, .int .i64 x3, .int .i64 x4, .int .i64 x5, .slice B6 x6.length d6, .int .i64 x7, .int .i64 x8, .int .i64 x9, .slice B10 x10.length d10, .slice B11 x11.length d11, .slice B12 x12.length d12] := by have := (T5.store2 12 (.slice B12 x12.length d12)); simpa only [List.setIfInBounds_toArray, List.set_cons_zero, List.set_cons_succ] using this
 have TT := hd_ TL; clear TL T5
 have O0 := hd_ (ho0.setCell (p := ⟨w.heap.size + 1 + 1, 12, none⟩) (by dsimp only; omega) (.slice B12 x12.length d12)); clear ho0
 have O3 := hd_ (ho3.setCell (p := ⟨w.heap.size + 1 + 1, 12, none⟩) (by dsimp only; omega) (.slice B12 x12.length d12)); clear ho3
 have O7 := hd_ (ho7.setCell (p := ⟨w.heap.size + 1 + 1, 12, none⟩) (by dsimp only; omega) (.slice B12 x12.length d12)); clear ho7
 have O11 := hd_ (ho11.setCell (p := ⟨w.heap.size + 1 + 1, 12, none⟩) (by dsimp only; omega) (.slice B12 x12.length d12)); clear ho11
 have O12 := hd_ (ho12.setCell (p := ⟨w.heap.size + 1 + 1, 12, none⟩) (by dsimp only; omega) (.slice B12 x12.length d12)); clear ho12
 go_upto_region 7 with fail
 clear f0 f2 z2
 have hz5 : (w5.setCell ⟨w.heap.size + 1 + 1, 12, none⟩ (.slice B12 x12.length d12)).heap.size = w5.heap.size := by simp [World.setCell]
 generalize (w5.setCell ⟨w.heap.size + 1 + 1, 12, none⟩ (.slice B12 x12.length d12)) = W5 at *
 have f1 := TT.out.2.1.cell; have z1 := TT.out.2.1.frozen; have f2 := TT.out.2.2.1.cell
 have hs0 : w.heap.size + 1 + 1 + 1 ≤ W5.heap.size := by omega
 have HOWN : Hid (Own shCache W5 (w.heap.size + 1 + 1 + 1) W5.heap.size [.int .i64 x0, .slice B1 x1.length d1, .slice B2 x2.length d2, .int .i64 x3, .int .i64 x4, .int .i64 x5, .slice B6 x6.length d6, .int .i64 x7, .int .i64 x8, .int .i64 x9, .slice B10 x10.length d10, .slice B11 x11.length d11, .slice B12 x12.length d12] ((x0, x1, x2), (x3, x4, x5, x6), (x7, x8, x9, x10), x11, x12)) := hd_ (by
  have o0 := O0.out
  have o3 := O3.out
  have o7 := O7.out
  have o11 := O11.out
  have o12 := O12.out
  have OL := Own.more (lo' := W4.heap.size) (hi' := W5.heap.size) o12 (by omega) (by omega)
  exact (Own.prod o0 (Own.prod o3 (Own.prod o7 (Own.prod o11 OL (by omega) (by omega) (by omega)) (by omega) (by omega) (by omega)) (by omega) (by omega) (by omega)) (by omega) (by omega) (by omega)))
 clear O0 O3 O7 O11 O12
 have HONE := hd_ (shCache.R_one HOWN.out.reads)
 clear f1 z1 f2
 refine wp_region_list ?_
 refine wpList_loadAll rfl 44 (.tmp 3) rfl (w.heap.size + 1 + 1) rfl TT.out.2.2.1 Tryz.underlying44 rfl (by kernel_rfl) ?_
 simp only [pz]
 refine wpList_storeAll rfl 44 (.tmp 2) (.tmp 24) rfl (w.heap.size + 1) #[.int .i64 x0, .slice B1 x1.length d1, .slice B2 x2.length d2, .int .i64 x3, .int .i64 x4, .int .i64 x5, .slice B6 x6.length d6, .int .i64 x7, .int .i64 x8, .int .i64 x9, .slice B10 x10.length d10, .slice B11 x11.length d11, .slice B12 x12.length d12] rfl rfl TT.out.2.1 (by kernel_rfl) rfl HONE.out ?_
 intro wF hbF hoF hzF
 have TF := hd_ (TT.out.store1_all hbF hoF)
 have HOF := hd_ (HOWN.out.outOf hoF (.inl (by omega)))
 have HBF := hd_ hbF
 clear TT HOWN HONE hbF hoF
 go_wp2_with fail
 refine bodyPost_ret (results_cell_row (P := Tryz.prog) rfl _ _ (w.heap.size + 1) 44 #[.int .i64 x0, .slice B1 x1.length d1, .slice B2 x2.length d2, .int .i64 x3, .int .i64 x4, .int .i64 x5, .slice B6 x6.length d6, .int .i64 x7, .int .i64 x8, .int .i64 x9, .slice B10 x10.length d10, .slice B11 x11.length d11, .slice B12 x12.length d12] (0, 0) _ rfl HBF.out Tryz.underlying44 rfl (by kernel_rfl)) rfl ⟨_, _, _, _, _, _, _, _, _, _, _, _, rfl, ?_, TF.out.2.2.2⟩
 exact HOF.out.more (by omega) (by omega)
end Go.Proofs.YtnnabkldceklmaaGreatDoor
/- Cache, Btree: the laws' walks for values whose cells are not spelled out. Printed by gen_opq.py. -/
namespace Go.Proofs.YtnnabkldceklmaaGreatDoor
open Go.RowKit
theorem fewCache (x : TyCache) (h : shCache.cost x ≤ 4194304) : 1 + shCache.cntTop x ≤ 4294967000 := by
 have := (show Few shCache _ _ from (few_prod (few_prod few_one (few_prod (few_row few_one) (few_row (few_prod few_one few_one)))) (few_prod (few_prod few_one (few_prod few_one (few_prod few_one (few_row (few_prod few_one few_one))))) (few_prod (few_prod few_one (few_prod few_one (few_prod few_one (few_row (few_prod few_one few_one))))) (few_prod (few_row (few_prod few_one few_one)) (few_row few_one)))))).top x
 omega
theorem fewerCache (x : TyCache) (h : shCache.cost x ≤ 1048576) : 1 + shCache.cntTop x ≤ 1073741824 := by
 have := (show Few shCache _ _ from (few_prod (few_prod few_one (few_prod (few_row few_one) (few_row (few_prod few_one few_one)))) (few_prod (few_prod few_one (few_prod few_one (few_prod few_one (few_row (few_prod few_one few_one))))) (few_prod (few_prod few_one (few_prod few_one (few_prod few_one (few_row (few_prod few_one few_one))))) (few_prod (few_row (few_prod few_one few_one)) (few_row few_one)))))).top x
 omega
theorem sizeLCache : (Tryz.prog.info? 31).map (·.size) = some shCache.k := by kernel_rfl
theorem sizeICache : (Tryz.prog.info? 44).map (·.size) = some shCache.k := by kernel_rfl
theorem szCache_o (X : TyCache) (vs : List Value) (lo hi : Nat) (left : Int) (w : World) (h : shCache.R w lo hi vs X) (hhi : hi ≤ w.heap.size) (hf : shCache.fit 9223372036854775807 X) (hl0 : 0 ≤ left) (hl : left ≤ 1048576) :
  Calls Tryz.prog 8 #[.agg vs.toArray, .int .i64 left] w fun e w' => ∃ m, e = .returned (.int .i64 m) ∧ Left left (shCache.cost X) m ∧ Below w.heap.size w w' := by
 obtain ⟨⟨x0, x1, x2⟩, ⟨x3, x4, x5, x6⟩, ⟨x7, x8, x9, x10⟩, x11, x12⟩ := X
 obtain ⟨A1, c1, A2, c2, A6, c6, A10, c10, A11, c11, A12, c12, rfl, _⟩ := shCache_R.1 h
 exact szCache_f x0 x1 x2 x3 x4 x5 x6 x7 x8 x9 x10 x11 x12 A1 c1 A2 c2 A6 c6 A10 c10 A11 c11 A12 c12 lo hi left w h hhi hf hl0 hl
theorem toCache_o (X : TyCache) (vs : List Value) (lo hi : Nat) (w : World) (h : shCache.R w lo hi vs X) (hhi : hi ≤ w.heap.size) (hf : shCache.fit 1048576 X) :
  Calls Tryz.prog 11 #[.agg vs.toArray] w fun e w' => ∃ us : List Value, e = .returned (.agg us.toArray) ∧ Own shCache w' w.heap.size w'.heap.size us X ∧ Below w.heap.size w w' := by
 obtain ⟨⟨x0, x1, x2⟩, ⟨x3, x4, x5, x6⟩, ⟨x7, x8, x9, x10⟩, x11, x12⟩ := X
 obtain ⟨A1, c1, A2, c2, A6, c6, A10, c10, A11, c11, A12, c12, rfl, _⟩ := shCache_R.1 h
 refine (toCache_f x0 x1 x2 x3 x4 x5 x6 x7 x8 x9 x10 x11 x12 A1 c1 A2 c2 A6 c6 A10 c10 A11 c11 A12 c12 lo hi w h hhi hf).mono ?_
 rintro e w' ⟨B1, d1, B2, d2, B6, d6, B10, d10, B11, d11, B12, d12, rfl, ho, hb⟩
 exact ⟨_, rfl, ho, hb⟩
theorem eqCache_o (X : TyCache) (vs us : List Value) (lo hi lo' hi' : Nat) (w : World) (h : shCache.R w lo hi vs X) (h' : shCache.R w lo' hi' us X) (hhi : hi ≤ w.heap.size) (hhi' : hi' ≤ w.heap.size) (hf : shCache.fit 4294967296 X) :
  Calls Tryz.prog 14 #[.agg vs.toArray, .agg us.toArray] w fun e w' => e = .returned (.bool true) ∧ Below w.heap.size w w' := by
 obtain ⟨⟨x0, x1, x2⟩, ⟨x3, x4, x5, x6⟩, ⟨x7, x8, x9, x10⟩, x11, x12⟩ := X
 obtain ⟨A1, c1, A2, c2, A6, c6, A10, c10, A11, c11, A12, c12, rfl, _⟩ := shCache_R.1 h
 obtain ⟨B1, d1, B2, d2, B6, d6, B10, d10, B11, d11, B12, d12, rfl, _⟩ := shCache_R.1 h'
 exact eqCache_f x0 x1 x2 x3 x4 x5 x6 x7 x8 x9 x10 x11 x12 A1 c1 A2 c2 A6 c6 A10 c10 A11 c11 A12 c12 B1 d1 B2 d2 B6 d6 B10 d10 B11 d11 B12 d12 lo hi lo' hi' w h h' hhi hhi' hf
theorem markCache_o (X : TyCache) (vs : List Value) (k : Nat) (a : Int) (F : List Nat) (w : World) (h : shCache.O w F vs X) (hF : F.Nodup) (ha : a = (k : Int)) (h1 : 1 ≤ k) (h2 : k + shCache.cntTop X ≤ 4294967000) :
  Calls Tryz.prog 16 #[.agg vs.toArray, .int .i64 a] w fun e w' => ∃ r : Int, e = .returned (.int .i64 r) ∧ r = ((k + shCache.cntTop X : Nat) : Int) ∧ shCache.O w' F vs (shCache.top k X) ∧ Out F w w' := by
 obtain ⟨⟨x0, x1, x2⟩, ⟨x3, x4, x5, x6⟩, ⟨x7, x8, x9, x10⟩, x11, x12⟩ := X
 have h0 := h
 obtain ⟨A1, c1, F1, A2, c2, F2, A6, c6, F6, A10, c10, F10, A11, c11, F11, A12, c12, F12, rfl, _⟩ := shCache_O.1 h0
 exact markCache_f x0 x1 x2 x3 x4 x5 x6 x7 x8 x9 x10 x11 x12 A1 c1 A2 c2 A6 c6 A10 c10 A11 c11 A12 c12 k a F w h hF ha h1 h2
theorem heldCache_o (X : TyCache) (vs : List Value) (k : Nat) (a : Int) (lo hi : Nat) (w : World) (h : shCache.R w lo hi vs (shCache.top k X)) (hhi : hi ≤ w.heap.size) (hf : shCache.fit 4294967296 X) (ha : a = (k : Int)) (h1 : 1 ≤ k) (h2 : k + shCache.cntTop X ≤ 4294967000) :
  Calls Tryz.prog 18 #[.agg vs.toArray, .int .i64 a] w fun e w' => ∃ r : Int, e = .returned (.int .i64 r) ∧ r = ((k + shCache.cntTop X : Nat) : Int) ∧ Below w.heap.size w w' := by
 obtain ⟨⟨x0, x1, x2⟩, ⟨x3, x4, x5, x6⟩, ⟨x7, x8, x9, x10⟩, x11, x12⟩ := X
 have h0 := h
 obtain ⟨A1, c1, A2, c2, A6, c6, A10, c10, A11, c11, A12, c12, rfl, _⟩ := shCache_R.1 h0
 exact heldCache_f x0 x1 x2 x3 x4 x5 x6 x7 x8 x9 x10 x11 x12 A1 c1 A2 c2 A6 c6 A10 c10 A11 c11 A12 c12 _ _ _ _ _ _ k a lo hi w h (mkAll_len _ _ _) (mkAll_len _ _ _) (mkAll_len _ _ _) (mkAll_len _ _ _) (mkAll_len _ _ _) (mkAll_len _ _ _) hhi hf ha h1 h2
theorem fewerBtree (x : TyBtree) (h : shBtree.cost x ≤ 1048576) : 1 + shBtree.cntTop x ≤ 1073741824 := by
 have := (show Few shBtree _ _ from (few_prod few_one (few_row (few_prod few_one (few_prod few_one (few_prod (few_row few_one) (few_prod (few_row few_one) (few_row few_one)))))))).top x
 omega
theorem sizeLBtree : (Tryz.prog.info? 34).map (·.size) = some shBtree.k := by kernel_rfl
theorem sizeIBtree : (Tryz.prog.info? 50).map (·.size) = some shBtree.k := by kernel_rfl
theorem szBtree_o (X : TyBtree) (vs : List Value) (lo hi : Nat) (left : Int) (w : World) (h : shBtree.R w lo hi vs X) (hhi : hi ≤ w.heap.size) (hf : shBtree.fit 9223372036854775807 X) (hl0 : 0 ≤ left) (hl : left ≤ 1048576) :
  Calls Tryz.prog 9 #[.agg vs.toArray, .int .i64 left] w fun e w' => ∃ m, e = .returned (.int .i64 m) ∧ Left left (shBtree.cost X) m ∧ Below w.heap.size w w' := by
 obtain ⟨x0, x1⟩ := X
 obtain ⟨A1, c1, rfl, _⟩ := shBtree_R.1 h
 exact szBtree_f x0 x1 A1 c1 lo hi left w h hhi hf hl0 hl
theorem toBtree_o (X : TyBtree) (vs : List Value) (lo hi : Nat) (w : World) (h : shBtree.R w lo hi vs X) (hhi : hi ≤ w.heap.size) (hf : shBtree.fit 1048576 X) :
  Calls Tryz.prog 12 #[.agg vs.toArray] w fun e w' => ∃ us : List Value, e = .returned (.agg us.toArray) ∧ Own shBtree w' w.heap.size w'.heap.size us X ∧ Below w.heap.size w w' := by
 obtain ⟨x0, x1⟩ := X
 obtain ⟨A1, c1, rfl, _⟩ := shBtree_R.1 h
 refine (toBtree_f x0 x1 A1 c1 lo hi w h hhi hf).mono ?_
 rintro e w' ⟨B1, d1, rfl, ho, hb⟩
 exact ⟨_, rfl, ho, hb⟩
theorem eqBtree_o (X : TyBtree) (vs us : List Value) (lo hi lo' hi' : Nat) (w : World) (h : shBtree.R w lo hi vs X) (h' : shBtree.R w lo' hi' us X) (hhi : hi ≤ w.heap.size) (hhi' : hi' ≤ w.heap.size) (hf : shBtree.fit 4294967296 X) :
  Calls Tryz.prog 15 #[.agg vs.toArray, .agg us.toArray] w fun e w' => e = .returned (.bool true) ∧ Below w.heap.size w w' := by
 obtain ⟨x0, x1⟩ := X
 obtain ⟨A1, c1, rfl, _⟩ := shBtree_R.1 h
 obtain ⟨B1, d1, rfl, _⟩ := shBtree_R.1 h'
 exact eqBtree_f x0 x1 A1 c1 B1 d1 lo hi lo' hi' w h h' hhi hhi' hf
theorem markBtree_o (X : TyBtree) (vs : List Value) (k : Nat) (a : Int) (F : List Nat) (w : World) (h : shBtree.O w F vs X) (hF : F.Nodup) (ha : a = (k : Int)) (h1 : 1 ≤ k) (h2 : k + shBtree.cntTop X ≤ 4294967000) :
  Calls Tryz.prog 17 #[.agg vs.toArray, .int .i64 a] w fun e w' => ∃ r : Int, e = .returned (.int .i64 r) ∧ r = ((k + shBtree.cntTop X : Nat) : Int) ∧ shBtree.O w' F vs (shBtree.top k X) ∧ Out F w w' := by
 obtain ⟨x0, x1⟩ := X
 have h0 := h
 obtain ⟨A1, c1, F1, rfl, _⟩ := shBtree_O.1 h0
 exact markBtree_f x0 x1 A1 c1 k a F w h hF ha h1 h2
end Go.Proofs.YtnnabkldceklmaaGreatDoor
/- The reference's DiskPut walked, at a disk that has room. -/
namespace Go.Proofs.YtnnabkldceklmaaGreatDoor
open Go.RowKit
theorem results_cell_tmpB {P : Program} {fn : Func} {p q : Tmp} {ty : TypeId} (h : fn.results = #[.cell p ty, .tmp q]) (tmps : Array Value) (w : World) (g : Nat) (t : TypeId) (cs : Array Value) (fr : Nat × Nat) (d : TypeDesc)
  (hp : tmps.getD p undef = .pointer (some ⟨g, 0, none⟩)) (hg : w.heap[g]? = some (.cells cs t fr))
  (hu : P.underlying ty = some d) (hd : (match d with | .struct _ | .array _ _ => true | _ => false) = true) (hi : (P.info? ty).map (·.size) = some cs.size) :
  (results fn tmps).run P w = .ok (.tuple #[.agg cs, tmps.getD q undef]) w := by
 have hp' : tmps[p]?.getD undef = .pointer (some ⟨g, 0, none⟩) := by simpa using hp
 simp [results, h, hp', asAddr, run_loadVar_row w g t ty cs fr d hg hu hd hi]
theorem l17Has_any (x0 : Int) (x1 : List ByteArray) (x2 : List TyPut) (A1 : Option Addr) (c1 : Nat) (A2 : Option Addr) (c2 : Nat) (n : Int) (w : World) (hn : x1.length ≤ 1048576) :
  Calls Tryz.prog 100 #[.agg #[.int .i64 x0, .slice A1 x1.length c1, .slice A2 x2.length c2], .int .i64 n] w fun e w' => e = .returned (.bool (inB n 0 ((x1.length : Int) - 1))) ∧ Below w.heap.size w w' := by
 have HIN := hd_ (fun a lo hi W => l00InP_any a lo hi W)
 have hb := (Below.refl w.heap.size w).alloc (Nat.le_refl _) (.cells #[.int .i64 x0, .slice A1 x1.length c1, .slice A2 x2.length c2] 39)
 have k1 : IntKind.i64.wrap ((x1.length : Int) - 1) = (x1.length : Int) - 1 := IntWalk.i64_in _ (by omega)
 have HB := hd_ hb
 clear hb
 go_enter Tryz.func100, Tryz.ntmps100
 go_wp2_with fail
 refine (HIN.out _ _ _ _).mono ?_; rintro e1 w1 ⟨rfl, rfl⟩
 go_wp2_with fail
 go_ret
 exact ⟨rfl, HB.out⟩
theorem specDiskPut_any (X : TyDisk) (at_ : Int) (b : ByteArray) (vs : List Value) (lo hi : Nat) (w : World) (h : shDisk.R w lo hi vs X) (hhi : hi ≤ w.heap.size) (hok : diskP X = true) (hbs : (b.size : Int) = X.1) (hat : inB at_ 0 ((X.2.1.length : Int) - 1) = true) (hp : X.2.2.length < 400) :
  Calls Tryz.prog 43 #[.agg vs.toArray, .int .i64 at_, .string b] w fun e w' => (∃ us : List Value, e = .returned (.tuple #[.agg us.toArray, .int .i64 0]) ∧ shDisk.R w' w.heap.size w'.heap.size us (X.1, X.2.1, X.2.2 ++ [(at_, b)])) ∧ Below w.heap.size w w' := by
 obtain ⟨x0, x1, x2⟩ := X
 obtain ⟨A1, c1, A2, c2, rfl, _⟩ := shDisk_R.1 h
 have hdk := hok
 unfold diskP inB at hdk
 simp only [Bool.and_eq_true, decide_eq_true_eq, List.all_eq_true] at hdk
 obtain ⟨⟨⟨⟨⟨hw1, hw2⟩, hl1, hl4⟩, hl5⟩, hsz1⟩, hsz2⟩ := hdk
 dsimp only at hbs hat hp
 have hs1 : ∀ x ∈ x1, x.size ≤ 1048576 := fun x hx => by have := hsz1 x hx; omega
 have hs2 : ∀ x ∈ x2, x.2.size ≤ 1048576 := fun x hx => by have := (hsz2 x hx).2; omega
 have hz2 : ((w.alloc (.cells #[.int .i64 x0, .slice A1 x1.length c1, .slice A2 x2.length c2] 39)).alloc (.cells #[.int .i64 0, .slice none 0 0, .slice none 0 0] 39)).heap.size = w.heap.size + 1 + 1 := by simp
 have HS0 : Stand w [(w.heap.size + 1, w.heap.size + 1 + 1, fun W => Blk W (w.heap.size + 1) 39 #[.int .i64 0, .slice none 0 0, .slice none 0 0]), (w.heap.size, w.heap.size + 1, fun W => Blk W w.heap.size 39 #[.int .i64 x0, .slice A1 x1.length c1, .slice A2 x2.length c2])] ((w.alloc (.cells #[.int .i64 x0, .slice A1 x1.length c1, .slice A2 x2.length c2] 39)).alloc (.cells #[.int .i64 0, .slice none 0 0, .slice none 0 0] 39)) := by
  have := (((Stand.nil w).box 39 #[.int .i64 x0, .slice A1 x1.length c1, .slice A2 x2.length c2]).box 39 #[.int .i64 0, .slice none 0 0, .slice none 0 0])
  rw [heap_alloc_size1] at this
  exact this
 have HRp := hd_ h
 have HS1 := hd_ hs1; have HS2 := hd_ hs2
 clear h hs1 hs2 hsz1 hsz2
 go_enter Tryz.func43, Tryz.ntmps43
 go_upto_region 1 with fail
 generalize ((w.alloc (.cells #[.int .i64 x0, .slice A1 x1.length c1, .slice A2 x2.length c2] 39)).alloc (.cells #[.int .i64 0, .slice none 0 0, .slice none 0 0] 39)) = w2 at *
 have HZ2 := hd_ hz2
 have HS := hd_ HS0
 clear HS0 hz2
 have f := (HS.out.get 1 rfl).cell
 have q0 : ((b.size : Int) != x0) = false := by simp [hbs]
 have HBS := hd_ hbs; clear hbs
 have q1 : ¬ (400 : Int) ≤ (x2.length : Int) := by omega
 go_wp2_with fail
 refine (specDiskOk_any x0 x1 x2 A1 c1 A2 c2 lo hi _ (shDisk.R_below HRp.out HS.out.1 hhi) (Nat.le_trans hhi HS.out.1.size) (by omega) (by omega) HS1.out HS2.out).mono ?_
 rintro e1 w3 ⟨rfl, hb⟩
 rw [hok]
 have hsa := hb.size
 have HS := hd_ (HS.out.below hb)
 clear hb f
 have f := (HS.out.get 1 rfl).cell
 go_wp2_with fail
 refine (l17Has_any x0 x1 x2 A1 c1 A2 c2 at_ _ (by omega)).mono ?_
 rintro e1 w4 ⟨rfl, hb⟩
 rw [hat]
 have hsb := hb.size
 have HS := hd_ (HS.out.below hb)
 clear hb f
 have f := (HS.out.get 1 rfl).cell
 go_wp2_with fail
 refine (l17Own_own (x0, x1, x2) _ lo hi _ (shDisk.R_below HRp.out HS.out.1 hhi) (Nat.le_trans hhi HS.out.1.size) (by dsimp only; omega) (by dsimp only; omega)).mono ?_
 rintro e1 w5 ⟨⟨j1, d1, j2, d2, rfl, ho1, ho2, hjj, hj1, hj1', hj2, hj2'⟩, hb⟩
 have hs5 := hb.size
 have HS := hd_ (((HS.out.below hb).add j2 (j2 + 1) _ (loc_own _ _ _ _ _) hj2' ho2).add j1 (j1 + 1) _ (loc_own _ _ _ _ _) hj1' ho1)
 have hs4 : w.heap.size + 1 + 1 ≤ w4.heap.size := by have h2 := HZ2.out; omega
 have HS6 := hd_ (HS.out.box 39 #[.int .i64 x0, .slice (some ⟨j1, 0, none⟩) x1.length d1, .slice (some ⟨j2, 0, none⟩) x2.length d2])
 have hs6 : w5.heap.size < (w5.alloc (.cells #[.int .i64 x0, .slice (some ⟨j1, 0, none⟩) x1.length d1, .slice (some ⟨j2, 0, none⟩) x2.length d2] 39)).heap.size := by simp
 clear f ho1 ho2 hb HS
 dsimp only
 go_upto_region 8 with fail
 generalize (w5.alloc (.cells #[.int .i64 x0, .slice (some ⟨j1, 0, none⟩) x1.length d1, .slice (some ⟨j2, 0, none⟩) x2.length d2] 39)) = w6 at *
 generalize hg8 : w5.heap.size = g8 at *
 have f8 := (HS6.out.get 0 rfl).cell
 go_upto_region 9 with (first
  | fail
  | (at_builtin; refine wpList_growX (s := shPut) rfl (.tmp 36) (.tmp 40) 37 rfl Tryz.underlying37 rfl (by decide) (by decide) infoPut flatPut w6 j2 x2.length d2 x2 [.int .i64 at_, .string b] (at_, b) rfl (HS6.out.get 2 rfl) (HS6.out.le 2 rfl) (shPut_O.2 ⟨rfl, rfl⟩) rfl (by omega) ?_; intro g cap w7 ho7 hout hor hlt; have hb8 := (HS6.out.get 0 rfl).outOf hout (by omega); have f7 := hb8.cell; have z7 := hb8.frozen))
 have hs7 := hout.size
 have hb1 := (HS6.out.get 3 rfl).outOf hout (by omega)
 have ho1 := (HS6.out.get 1 rfl).keepOut hout (fun q hq => by have := List.mem_singleton.1 hq; omega)
 have hB7 : Below w.heap.size w w7 := HS6.out.1.trans (hout.below1 (by omega) (by have := HS6.out.1.size; omega))
 have hz8 : (w7.setCell ⟨g8, 2, none⟩ (.slice (some ⟨g, 0, none⟩) (x2.length + 1) cap)).heap.size = w7.heap.size := by simp [World.setCell]
 have hgg8 : g ≠ g8 := by omega
 have hj18 : j1 ≠ g8 := by omega
 have hj1g : j1 ≠ g ∨ True := .inr trivial
 have HB8 := hd_ (hb8.set_ 2 (.slice (some ⟨g, 0, none⟩) (x2.length + 1) cap))
 have HK8 := hd_ (hb1.far (p := ⟨g8, 2, none⟩) (by dsimp only; omega) (.slice (some ⟨g, 0, none⟩) (x2.length + 1) cap))
 have HO2 := hd_ (ho7.keepOut ((Out.refl [g8] w7).setCell (p := ⟨g8, 2, none⟩) (List.mem_cons_self ..) (.slice (some ⟨g, 0, none⟩) (x2.length + 1) cap)) (fun q hq => by have := List.mem_singleton.1 hq; omega))
 have HO1 := hd_ (ho1.keepOut ((Out.refl [g8] w7).setCell (p := ⟨g8, 2, none⟩) (List.mem_cons_self ..) (.slice (some ⟨g, 0, none⟩) (x2.length + 1) cap)) (fun q hq => by have := List.mem_singleton.1 hq; omega))
 have HBW := hd_ (hB7.setCell (p := ⟨g8, 2, none⟩) (by dsimp only; omega) (.slice (some ⟨g, 0, none⟩) (x2.length + 1) cap))
 clear f8 f7 z7 hb8 hb1 ho1 ho7 hB7 HS6 hout
 generalize (w7.setCell ⟨g8, 2, none⟩ (.slice (some ⟨g, 0, none⟩) (x2.length + 1) cap)) = w8 at *
 have HONE := hd_ (show ∀ u ∈ (#[.int .i64 x0, .slice (some ⟨j1, 0, none⟩) x1.length d1, .slice (some ⟨g, 0, none⟩) (x2.length + 1) cap] : Array Value).toList, u.oneCell' = true from by
  intro u hu; simp only [List.mem_cons, List.not_mem_nil, or_false] at hu; rcases hu with rfl | rfl | rfl <;> rfl)
 have f8 : ∀ i, w8.cell? ⟨g8, i, none⟩ = (#[.int .i64 x0, .slice (some ⟨j1, 0, none⟩) x1.length d1, .slice (some ⟨g, 0, none⟩) (x2.length + 1) cap] : Array Value)[i]? := HB8.out.cell
 go_wp2_with (first | fail | (refine wpList_storeAll rfl 39 (.tmp 6) (.tmp 43) rfl (w.heap.size + 1) #[.int .i64 x0, .slice (some ⟨j1, 0, none⟩) x1.length d1, .slice (some ⟨g, 0, none⟩) (x2.length + 1) cap] rfl rfl HK8.out (by kernel_rfl) rfl HONE.out ?_; intro w9 hb9 ho9 hz9))
 have hB9 : Below w.heap.size w w9 := HBW.out.trans (ho9.below1 (by omega) HBW.out.size)
 refine bodyPost_ret (results_cell_tmpB (P := Tryz.prog) rfl _ _ (w.heap.size + 1) 39 #[.int .i64 x0, .slice (some ⟨j1, 0, none⟩) x1.length d1, .slice (some ⟨g, 0, none⟩) (x2.length + 1) cap] (0, 0) _ rfl hb9 Tryz.underlying39 rfl (by kernel_rfl)) rfl ⟨⟨[.int .i64 x0, .slice (some ⟨j1, 0, none⟩) x1.length d1, .slice (some ⟨g, 0, none⟩) (x2.length + 1) cap], rfl, ?_⟩, hB9⟩
 have e1 := HO1.out.keepOut ho9 (fun q hq => by have := List.mem_singleton.1 hq; omega)
 have e2 := HO2.out.keepOut ho9 (fun q hq => by have := List.mem_singleton.1 hq; omega)
 have hl : (x2 ++ [(at_, b)]).length = x2.length + 1 := by simp
 refine shDisk_R.2 ⟨_, d1, some ⟨g, 0, none⟩, cap, by rw [hl], rowG_ofC (t := 9) (c := d1) ?_, rowG_ofC (t := 138) (c := cap) ?_⟩
 ·exact (e1.more (by omega) (by omega)).reads
 ·rw [hl]; exact (e2.more (by omega) (by omega)).reads
end Go.Proofs.YtnnabkldceklmaaGreatDoor
