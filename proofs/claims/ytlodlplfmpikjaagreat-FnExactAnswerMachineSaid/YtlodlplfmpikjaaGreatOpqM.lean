/- Machine: the laws' walks for values whose cells are not spelled out. Printed by gen_opq.py. -/
import Derived.Test.YtlodlplfmpikjaaGreatFamToM
import Derived.Test.YtlodlplfmpikjaaGreatFamEqM
import Derived.Test.YtlodlplfmpikjaaGreatFamHeM
import Derived.Test.YtlodlplfmpikjaaGreatFamMkM
import Derived.Test.YtlodlplfmpikjaaGreatFamSzM
import Derived.Test.YtlodlplfmpikjaaGreatOpq
namespace Go.Proofs.YtlodlplfmpikjaaGreat
open Go.RowKit

theorem fewMachine (x : TyMachine) (h : shMachine.cost x ≤ 4194304) : 1 + shMachine.cntTop x ≤ 4294967000 := by
  have := (show Few shMachine _ _ from (few_prod few_one (few_prod few_one (few_prod (few_row few_one) (few_prod (few_row (few_prod few_one (few_prod few_one (few_row few_one)))) (few_prod (few_row (few_prod few_one few_one)) (few_prod (few_row (few_prod few_one (few_prod few_one (few_prod few_one (few_prod few_one (few_prod few_one few_one)))))) (few_prod (few_row (few_prod few_one (few_prod few_one (few_prod few_one (few_prod few_one (few_prod few_one (few_prod few_one (few_prod few_one (few_prod few_one few_one))))))))) (few_prod (few_prod few_one (few_prod (few_row (few_prod few_one few_one)) (few_prod (few_row (few_prod few_one (few_row (few_prod few_one (few_prod (few_row few_one) few_one))))) (few_row (few_row (few_prod few_one few_one)))))) (few_prod few_one (few_prod few_one (few_prod (few_prod few_one (few_prod few_one (few_row few_one))) (few_prod few_one (few_prod few_one (few_prod few_one (few_prod few_one few_one)))))))))))))))).top x
  omega
theorem sizeLMachine : (Tryz.prog.info? 35).map (·.size) = some shMachine.k := by kernel_rfl
theorem sizeIMachine : (Tryz.prog.info? 48).map (·.size) = some shMachine.k := by kernel_rfl
set_option maxRecDepth 100000 in
theorem szMachine_o (X : TyMachine) (vs : List Value) (lo hi : Nat) (left : Int) (w : World) (h : shMachine.R w lo hi vs X) (hhi : hi ≤ w.heap.size) (hf : shMachine.fit 9223372036854775807 X) (hl0 : 0 ≤ left) (hl : left ≤ 1048576) :
    Calls Tryz.prog 4 #[.agg vs.toArray, .int .i64 left] w fun e w' => ∃ m, e = .returned (.int .i64 m) ∧ Left left (shMachine.cost X) m ∧ Below w.heap.size w w' := by
  obtain ⟨x0, x1, x2, x3, x4, x5, x6, ⟨x7, x8, x9, x10⟩, x11, x12, ⟨x13, x14, x15⟩, x16, x17, x18, x19, x20⟩ := X
  obtain ⟨A2, c2, A3, c3, A4, c4, A5, c5, A6, c6, A8, c8, A9, c9, A10, c10, A15, c15, rfl, _⟩ := shMachine_R.1 h
  exact szMachine_f x0 x1 x2 x3 x4 x5 x6 x7 x8 x9 x10 x11 x12 x13 x14 x15 x16 x17 x18 x19 x20 A2 c2 A3 c3 A4 c4 A5 c5 A6 c6 A8 c8 A9 c9 A10 c10 A15 c15 lo hi left w h hhi hf hl0 hl
set_option maxRecDepth 100000 in
theorem toMachine_o (X : TyMachine) (vs : List Value) (lo hi : Nat) (w : World) (h : shMachine.R w lo hi vs X) (hhi : hi ≤ w.heap.size) (hf : shMachine.fit 1048576 X) :
    Calls Tryz.prog 6 #[.agg vs.toArray] w fun e w' => ∃ us : List Value, e = .returned (.agg us.toArray) ∧ Own shMachine w' w.heap.size w'.heap.size us X ∧ Below w.heap.size w w' := by
  obtain ⟨x0, x1, x2, x3, x4, x5, x6, ⟨x7, x8, x9, x10⟩, x11, x12, ⟨x13, x14, x15⟩, x16, x17, x18, x19, x20⟩ := X
  obtain ⟨A2, c2, A3, c3, A4, c4, A5, c5, A6, c6, A8, c8, A9, c9, A10, c10, A15, c15, rfl, _⟩ := shMachine_R.1 h
  refine (toMachine_f x0 x1 x2 x3 x4 x5 x6 x7 x8 x9 x10 x11 x12 x13 x14 x15 x16 x17 x18 x19 x20 A2 c2 A3 c3 A4 c4 A5 c5 A6 c6 A8 c8 A9 c9 A10 c10 A15 c15 lo hi w h hhi hf).mono ?_
  rintro e w' ⟨B2, d2, B3, d3, B4, d4, B5, d5, B6, d6, B8, d8, B9, d9, B10, d10, B15, d15, rfl, ho, hb⟩
  exact ⟨_, rfl, ho, hb⟩
set_option maxRecDepth 100000 in
theorem eqMachine_o (X : TyMachine) (vs us : List Value) (lo hi lo' hi' : Nat) (w : World) (h : shMachine.R w lo hi vs X) (h' : shMachine.R w lo' hi' us X) (hhi : hi ≤ w.heap.size) (hhi' : hi' ≤ w.heap.size) (hf : shMachine.fit 4294967296 X) :
    Calls Tryz.prog 8 #[.agg vs.toArray, .agg us.toArray] w fun e w' => e = .returned (.bool true) ∧ Below w.heap.size w w' := by
  obtain ⟨x0, x1, x2, x3, x4, x5, x6, ⟨x7, x8, x9, x10⟩, x11, x12, ⟨x13, x14, x15⟩, x16, x17, x18, x19, x20⟩ := X
  obtain ⟨A2, c2, A3, c3, A4, c4, A5, c5, A6, c6, A8, c8, A9, c9, A10, c10, A15, c15, rfl, _⟩ := shMachine_R.1 h
  obtain ⟨B2, d2, B3, d3, B4, d4, B5, d5, B6, d6, B8, d8, B9, d9, B10, d10, B15, d15, rfl, _⟩ := shMachine_R.1 h'
  exact eqMachine_f x0 x1 x2 x3 x4 x5 x6 x7 x8 x9 x10 x11 x12 x13 x14 x15 x16 x17 x18 x19 x20 A2 c2 A3 c3 A4 c4 A5 c5 A6 c6 A8 c8 A9 c9 A10 c10 A15 c15 B2 d2 B3 d3 B4 d4 B5 d5 B6 d6 B8 d8 B9 d9 B10 d10 B15 d15 lo hi lo' hi' w h h' hhi hhi' hf
set_option maxRecDepth 100000 in
theorem markMachine_o (X : TyMachine) (vs : List Value) (k : Nat) (a : Int) (F : List Nat) (w : World) (h : shMachine.O w F vs X) (hF : F.Nodup) (ha : a = (k : Int)) (h1 : 1 ≤ k) (h2 : k + shMachine.cntTop X ≤ 4294967000) :
    Calls Tryz.prog 9 #[.agg vs.toArray, .int .i64 a] w fun e w' => ∃ r : Int, e = .returned (.int .i64 r) ∧ r = ((k + shMachine.cntTop X : Nat) : Int) ∧ shMachine.O w' F vs (shMachine.top k X) ∧ Out F w w' := by
  obtain ⟨x0, x1, x2, x3, x4, x5, x6, ⟨x7, x8, x9, x10⟩, x11, x12, ⟨x13, x14, x15⟩, x16, x17, x18, x19, x20⟩ := X
  have h0 := h
  obtain ⟨A2, c2, F2, A3, c3, F3, A4, c4, F4, A5, c5, F5, A6, c6, F6, A8, c8, F8, A9, c9, F9, A10, c10, F10, A15, c15, F15, rfl, _⟩ := shMachine_O.1 h0
  exact markMachine_f x0 x1 x2 x3 x4 x5 x6 x7 x8 x9 x10 x11 x12 x13 x14 x15 x16 x17 x18 x19 x20 A2 c2 A3 c3 A4 c4 A5 c5 A6 c6 A8 c8 A9 c9 A10 c10 A15 c15 k a F w h hF ha h1 h2
set_option maxRecDepth 100000 in
theorem heldMachine_o (X : TyMachine) (vs : List Value) (k : Nat) (a : Int) (lo hi : Nat) (w : World) (h : shMachine.R w lo hi vs (shMachine.top k X)) (hhi : hi ≤ w.heap.size) (hf : shMachine.fit 4294967296 X) (ha : a = (k : Int)) (h1 : 1 ≤ k) (h2 : k + shMachine.cntTop X ≤ 4294967000) :
    Calls Tryz.prog 10 #[.agg vs.toArray, .int .i64 a] w fun e w' => ∃ r : Int, e = .returned (.int .i64 r) ∧ r = ((k + shMachine.cntTop X : Nat) : Int) ∧ Below w.heap.size w w' := by
  obtain ⟨x0, x1, x2, x3, x4, x5, x6, ⟨x7, x8, x9, x10⟩, x11, x12, ⟨x13, x14, x15⟩, x16, x17, x18, x19, x20⟩ := X
  have h0 := h
  obtain ⟨A2, c2, A3, c3, A4, c4, A5, c5, A6, c6, A8, c8, A9, c9, A10, c10, A15, c15, rfl, _⟩ := shMachine_R.1 h0
  exact heldMachine_f x0 x1 x2 x3 x4 x5 x6 x7 x8 x9 x10 x11 x12 x13 x14 x15 x16 x17 x18 x19 x20 A2 c2 A3 c3 A4 c4 A5 c5 A6 c6 A8 c8 A9 c9 A10 c10 A15 c15 _ _ _ _ _ _ _ _ _ k a lo hi w h (mkAll_len _ _ _) (mkAll_len _ _ _) (mkAll_len _ _ _) (mkAll_len _ _ _) (mkAll_len _ _ _) (mkAll_len _ _ _) (mkAll_len _ _ _) (mkAll_len _ _ _) (mkAll_len _ _ _) hhi hf ha h1 h2

end Go.Proofs.YtlodlplfmpikjaaGreat
