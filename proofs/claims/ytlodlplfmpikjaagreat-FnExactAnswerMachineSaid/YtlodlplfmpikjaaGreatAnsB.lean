/- AnswerMachine of the reference and of the program walked. Printed by gen_ansb.py. -/
import Derived.Test.YtlodlplfmpikjaaGreatAnsA
import Derived.Test.YtlodlplfmpikjaaGreatOwnA
import Derived.Test.YtlodlplfmpikjaaGreatActs
namespace Go.Proofs.YtlodlplfmpikjaaGreat
open Go.RowKit

theorem O_nil {α : Type} {s : Sh α} {t : TypeId} (w : World) : (Sh.row t s).O w [] [.slice none 0 0] [] :=
  ⟨none, 0, [], fun _ => [], rfl, World.ownsRow_nil _ _ _ _, by simp [Value.ownBlock], fun j hj => absurd hj (by simp)⟩
theorem ownM_zero (w : World) (lo hi : Nat) : Own shMachine w lo hi [.int .i64 0, .int .i64 0, .slice none 0 0, .slice none 0 0, .slice none 0 0, .slice none 0 0, .slice none 0 0, .int .i64 0, .slice none 0 0, .slice none 0 0, .slice none 0 0, .bool false, .bool false, .bool false, .string ⟨#[]⟩, .slice none 0 0, .int .i64 0, .int .i64 0, .int .i64 0, .int .i64 0, .string ⟨#[]⟩] shMachine.d := ⟨[], shMachine_O.2 ⟨none, 0, [], none, 0, [], none, 0, [], none, 0, [], none, 0, [], none, 0, [], none, 0, [], none, 0, [], none, 0, [], rfl, rfl, O_nil w, O_nil w, O_nil w, O_nil w, O_nil w, O_nil w, O_nil w, O_nil w, O_nil w⟩, List.nodup_nil, fun b hb => by cases hb⟩
theorem shMachine_reR {w : World} {lo hi : Nat} {x0 : Int} {x1 : Int} {x2 : List ByteArray} {x3 : List TyRef} {x4 : List TyGiven} {x5 : List TyLoop} {x6 : List TyFrame} {x7 : Int} {x8 : List TyBind} {x9 : List TyCell} {x10 : List TyLevel} {x11 : Bool} {x12 : Bool} {x13 : Bool} {x14 : ByteArray} {x15 : List ByteArray} {x16 : Int} {x17 : Int} {x18 : Int} {x19 : Int} {x20 : ByteArray} {A2 : Option Addr} {c2 : Nat} {A3 : Option Addr} {c3 : Nat} {A4 : Option Addr} {c4 : Nat} {A5 : Option Addr} {c5 : Nat} {A6 : Option Addr} {c6 : Nat} {A8 : Option Addr} {c8 : Nat} {A9 : Option Addr} {c9 : Nat} {A10 : Option Addr} {c10 : Nat} {A15 : Option Addr} {c15 : Nat} {y0 : Int} {y1 : Int} {y7 : Int} {y11 : Bool} {y12 : Bool} {y13 : Bool} {y14 : ByteArray} {y16 : Int} {y17 : Int} {y18 : Int} {y19 : Int} {y20 : ByteArray} (h : shMachine.R w lo hi [.int .i64 x0, .int .i64 x1, .slice A2 x2.length c2, .slice A3 x3.length c3, .slice A4 x4.length c4, .slice A5 x5.length c5, .slice A6 x6.length c6, .int .i64 x7, .slice A8 x8.length c8, .slice A9 x9.length c9, .slice A10 x10.length c10, .bool x11, .bool x12, .bool x13, .string x14, .slice A15 x15.length c15, .int .i64 x16, .int .i64 x17, .int .i64 x18, .int .i64 x19, .string x20] (x0, x1, x2, x3, x4, x5, x6, (x7, x8, x9, x10), x11, x12, (x13, x14, x15), x16, x17, x18, x19, x20)) : shMachine.R w lo hi [.int .i64 y0, .int .i64 y1, .slice A2 x2.length c2, .slice A3 x3.length c3, .slice A4 x4.length c4, .slice A5 x5.length c5, .slice A6 x6.length c6, .int .i64 y7, .slice A8 x8.length c8, .slice A9 x9.length c9, .slice A10 x10.length c10, .bool y11, .bool y12, .bool y13, .string y14, .slice A15 x15.length c15, .int .i64 y16, .int .i64 y17, .int .i64 y18, .int .i64 y19, .string y20] (y0, y1, x2, x3, x4, x5, x6, (y7, x8, x9, x10), y11, y12, (y13, y14, x15), y16, y17, y18, y19, y20) := by
  obtain ⟨A2', c2', A3', c3', A4', c4', A5', c5', A6', c6', A8', c8', A9', c9', A10', c10', A15', c15', e, g2, g3, g4, g5, g6, g8, g9, g10, g15⟩ := shMachine_R.1 h
  simp only [List.cons.injEq, Value.slice.injEq] at e
  simp only [true_and, and_true] at e
  obtain ⟨⟨rfl, rfl⟩, ⟨rfl, rfl⟩, ⟨rfl, rfl⟩, ⟨rfl, rfl⟩, ⟨rfl, rfl⟩, ⟨rfl, rfl⟩, ⟨rfl, rfl⟩, ⟨rfl, rfl⟩, ⟨rfl, rfl⟩⟩ := e
  exact shMachine_R.2 ⟨_, _, _, _, _, _, _, _, _, _, _, _, _, _, _, _, _, _, rfl, g2, g3, g4, g5, g6, g8, g9, g10, g15⟩
theorem shMachine_reO {w : World} {lo hi : Nat} {x0 : Int} {x1 : Int} {x2 : List ByteArray} {x3 : List TyRef} {x4 : List TyGiven} {x5 : List TyLoop} {x6 : List TyFrame} {x7 : Int} {x8 : List TyBind} {x9 : List TyCell} {x10 : List TyLevel} {x11 : Bool} {x12 : Bool} {x13 : Bool} {x14 : ByteArray} {x15 : List ByteArray} {x16 : Int} {x17 : Int} {x18 : Int} {x19 : Int} {x20 : ByteArray} {A2 : Option Addr} {c2 : Nat} {A3 : Option Addr} {c3 : Nat} {A4 : Option Addr} {c4 : Nat} {A5 : Option Addr} {c5 : Nat} {A6 : Option Addr} {c6 : Nat} {A8 : Option Addr} {c8 : Nat} {A9 : Option Addr} {c9 : Nat} {A10 : Option Addr} {c10 : Nat} {A15 : Option Addr} {c15 : Nat} {y0 : Int} {y1 : Int} {y7 : Int} {y11 : Bool} {y12 : Bool} {y13 : Bool} {y14 : ByteArray} {y16 : Int} {y17 : Int} {y18 : Int} {y19 : Int} {y20 : ByteArray} (h : Own shMachine w lo hi [.int .i64 x0, .int .i64 x1, .slice A2 x2.length c2, .slice A3 x3.length c3, .slice A4 x4.length c4, .slice A5 x5.length c5, .slice A6 x6.length c6, .int .i64 x7, .slice A8 x8.length c8, .slice A9 x9.length c9, .slice A10 x10.length c10, .bool x11, .bool x12, .bool x13, .string x14, .slice A15 x15.length c15, .int .i64 x16, .int .i64 x17, .int .i64 x18, .int .i64 x19, .string x20] (x0, x1, x2, x3, x4, x5, x6, (x7, x8, x9, x10), x11, x12, (x13, x14, x15), x16, x17, x18, x19, x20)) : Own shMachine w lo hi [.int .i64 y0, .int .i64 y1, .slice A2 x2.length c2, .slice A3 x3.length c3, .slice A4 x4.length c4, .slice A5 x5.length c5, .slice A6 x6.length c6, .int .i64 y7, .slice A8 x8.length c8, .slice A9 x9.length c9, .slice A10 x10.length c10, .bool y11, .bool y12, .bool y13, .string y14, .slice A15 x15.length c15, .int .i64 y16, .int .i64 y17, .int .i64 y18, .int .i64 y19, .string y20] (y0, y1, x2, x3, x4, x5, x6, (y7, x8, x9, x10), y11, y12, (y13, y14, x15), y16, y17, y18, y19, y20) := by
  obtain ⟨F, h, hN, hr⟩ := h
  obtain ⟨A2', c2', F2, A3', c3', F3, A4', c4', F4, A5', c5', F5, A6', c6', F6, A8', c8', F8, A9', c9', F9, A10', c10', F10, A15', c15', F15, e, eF, q2, q3, q4, q5, q6, q8, q9, q10, q15⟩ := shMachine_O.1 h
  refine ⟨F, ?_, hN, hr⟩
  simp only [List.cons.injEq, Value.slice.injEq] at e
  simp only [true_and, and_true] at e
  obtain ⟨⟨rfl, rfl⟩, ⟨rfl, rfl⟩, ⟨rfl, rfl⟩, ⟨rfl, rfl⟩, ⟨rfl, rfl⟩, ⟨rfl, rfl⟩, ⟨rfl, rfl⟩, ⟨rfl, rfl⟩, ⟨rfl, rfl⟩⟩ := e
  exact shMachine_O.2 ⟨_, _, _, _, _, _, _, _, _, _, _, _, _, _, _, _, _, _, _, _, _, _, _, _, _, _, _, rfl, eF, q2, q3, q4, q5, q6, q8, q9, q10, q15⟩

theorem longB_pays (w : World) : PredAt Tryz.prog 68 #[] Value.string (fun x : ByteArray => decide (64 < x.size)) w := by
  intro W x hb
  unfold FnGives
  by_cases h : 64 < x.size
  · go_enter Tryz.func68, Tryz.ntmps68
    go_wp2
    go_ret
    exact ⟨by simp [h]; omega, 0, rfl⟩
  · go_enter Tryz.func68, Tryz.ntmps68
    go_wp2
    go_ret
    exact ⟨by simp [h]; omega, 0, rfl⟩

set_option maxHeartbeats 4000000 in
theorem long_one (b : Nat) (t : ByteArray) (c : Nat) (w : World) (hc : w.cell? ⟨b, 0, none⟩ = some (.string t)) :
    Calls Tryz.prog 28 #[.slice (some ⟨b, 0, none⟩) 1 c] w fun e w' => e = .returned (.bool (decide (64 < t.size))) ∧ ∃ q, w' = w.drewN q := by
  have HC := Lib.hid (fun (W : World) (hW : W.cell? ⟨b, 0, none⟩ = some (.string t)) =>
    Tryz.slices_ContainsFunc Value.string (fun x : ByteArray => decide (64 < x.size)) 68 #[] (enters_of Tryz.func68 (by kernel_rfl) rfl) b 0 1 c [t] W (longB_pays W) (Nat.le_refl _) (by omega)
      (fun j hj => by
        have hj' : j < 1 := hj
        obtain rfl : j = 0 := by omega
        rw [hW]; rfl))
  have HH := Lib.hid hc; clear hc
  go_enter Tryz.func28, Tryz.ntmps28
  go_wp2_with fail
  refine (HC.out _ HH.out).mono ?_
  rintro e w1 ⟨rfl, q, rfl⟩
  go_wp2_with fail
  go_ret
  exact ⟨by simp, q, rfl⟩

theorem results_cell_tmp {P : Program} {fn : Func} {p q : Tmp} {ty : TypeId} (h : fn.results = #[.cell p ty, .tmp q]) (tmps : Array Value) (w : World) (g : Nat) (t : TypeId) (cs : Array Value) (fr : Nat × Nat) (d : TypeDesc)
    (hp : tmps.getD p undef = .pointer (some ⟨g, 0, none⟩)) (hg : w.heap[g]? = some (.cells cs t fr))
    (hu : P.underlying ty = some d) (hd : (match d with | .struct _ | .array _ _ => true | _ => false) = true) (hi : (P.info? ty).map (·.size) = some cs.size) :
    (results fn tmps).run P w = .ok (.tuple #[.agg cs, tmps.getD q undef]) w := by
  have hp' : tmps[p]?.getD undef = .pointer (some ⟨g, 0, none⟩) := by simpa using hp
  simp [results, h, hp', asAddr, run_loadVar_row w g t ty cs fr d hg hu hd hi]

set_option maxHeartbeats 16000000 in
set_option maxRecDepth 100000 in
theorem sAns_long (ok : Bool) (text : ByteArray) (x0 : Int) (x1 : Int) (x2 : List ByteArray) (x3 : List TyRef) (x4 : List TyGiven) (x5 : List TyLoop) (x6 : List TyFrame) (x7 : Int) (x8 : List TyBind) (x9 : List TyCell) (x10 : List TyLevel) (x11 : Bool) (x12 : Bool) (x13 : Bool) (x14 : ByteArray) (x15 : List ByteArray) (x16 : Int) (x17 : Int) (x18 : Int) (x19 : Int) (x20 : ByteArray) (A2 : Option Addr) (c2 : Nat) (A3 : Option Addr) (c3 : Nat) (A4 : Option Addr) (c4 : Nat) (A5 : Option Addr) (c5 : Nat) (A6 : Option Addr) (c6 : Nat) (A8 : Option Addr) (c8 : Nat) (A9 : Option Addr) (c9 : Nat) (A10 : Option Addr) (c10 : Nat) (A15 : Option Addr) (c15 : Nat) (lo hi : Nat) (w : World) (h : shMachine.R w lo hi [.int .i64 x0, .int .i64 x1, .slice A2 x2.length c2, .slice A3 x3.length c3, .slice A4 x4.length c4, .slice A5 x5.length c5, .slice A6 x6.length c6, .int .i64 x7, .slice A8 x8.length c8, .slice A9 x9.length c9, .slice A10 x10.length c10, .bool x11, .bool x12, .bool x13, .string x14, .slice A15 x15.length c15, .int .i64 x16, .int .i64 x17, .int .i64 x18, .int .i64 x19, .string x20] (x0, x1, x2, x3, x4, x5, x6, (x7, x8, x9, x10), x11, x12, (x13, x14, x15), x16, x17, x18, x19, x20)) (hhi : hi ≤ w.heap.size) (hf : shMachine.fit 1048576 (x0, x1, x2, x3, x4, x5, x6, (x7, x8, x9, x10), x11, x12, (x13, x14, x15), x16, x17, x18, x19, x20)) (h64 : 64 < text.size) :
    Calls Tryz.prog 5 #[.agg #[.int .i64 x0, .int .i64 x1, .slice A2 x2.length c2, .slice A3 x3.length c3, .slice A4 x4.length c4, .slice A5 x5.length c5, .slice A6 x6.length c6, .int .i64 x7, .slice A8 x8.length c8, .slice A9 x9.length c9, .slice A10 x10.length c10, .bool x11, .bool x12, .bool x13, .string x14, .slice A15 x15.length c15, .int .i64 x16, .int .i64 x17, .int .i64 x18, .int .i64 x19, .string x20], .bool ok, .string text] w fun e w' => ∃ us : List Value, e = .returned (.tuple #[.agg us.toArray, .int .i64 1]) ∧ shMachine.R w' w.heap.size w'.heap.size us shMachine.d ∧ Below w.heap.size w w' := by
  have HH := Lib.hid h; have HFF := Lib.hid hf
  clear h hf
  have T0 := Lib.hid (Two.start w 48 48 #[.int .i64 x0, .int .i64 x1, .slice A2 x2.length c2, .slice A3 x3.length c3, .slice A4 x4.length c4, .slice A5 x5.length c5, .slice A6 x6.length c6, .int .i64 x7, .slice A8 x8.length c8, .slice A9 x9.length c9, .slice A10 x10.length c10, .bool x11, .bool x12, .bool x13, .string x14, .slice A15 x15.length c15, .int .i64 x16, .int .i64 x17, .int .i64 x18, .int .i64 x19, .string x20] #[.int .i64 0, .int .i64 0, .slice none 0 0, .slice none 0 0, .slice none 0 0, .slice none 0 0, .slice none 0 0, .int .i64 0, .slice none 0 0, .slice none 0 0, .slice none 0 0, .bool false, .bool false, .bool false, .string ⟨#[]⟩, .slice none 0 0, .int .i64 0, .int .i64 0, .int .i64 0, .int .i64 0, .string ⟨#[]⟩])
  have i1 : (64 : Int) < (text.size : Int) := by omega
  have HZO : Hid (∀ u ∈ ([.int .i64 0, .int .i64 0, .slice none 0 0, .slice none 0 0, .slice none 0 0, .slice none 0 0, .slice none 0 0, .int .i64 0, .slice none 0 0, .slice none 0 0, .slice none 0 0, .bool false, .bool false, .bool false, .string ⟨#[]⟩, .slice none 0 0, .int .i64 0, .int .i64 0, .int .i64 0, .int .i64 0, .string ⟨#[]⟩] : List Value), u.oneCell' = true) := Lib.hid (by intro u hu; simp only [List.mem_cons, List.not_mem_nil, or_false] at hu; rcases hu with rfl | rfl | rfl | rfl | rfl | rfl | rfl | rfl | rfl | rfl | rfl | rfl | rfl | rfl | rfl | rfl | rfl | rfl | rfl | rfl | rfl <;> rfl)
  go_enter Tryz.func5, Tryz.ntmps5
  go_upto_region 1 with fail
  generalize ((w.alloc (.cells #[.int .i64 x0, .int .i64 x1, .slice A2 x2.length c2, .slice A3 x3.length c3, .slice A4 x4.length c4, .slice A5 x5.length c5, .slice A6 x6.length c6, .int .i64 x7, .slice A8 x8.length c8, .slice A9 x9.length c9, .slice A10 x10.length c10, .bool x11, .bool x12, .bool x13, .string x14, .slice A15 x15.length c15, .int .i64 x16, .int .i64 x17, .int .i64 x18, .int .i64 x19, .string x20] 48)).alloc (.cells #[.int .i64 0, .int .i64 0, .slice none 0 0, .slice none 0 0, .slice none 0 0, .slice none 0 0, .slice none 0 0, .int .i64 0, .slice none 0 0, .slice none 0 0, .slice none 0 0, .bool false, .bool false, .bool false, .string ⟨#[]⟩, .slice none 0 0, .int .i64 0, .int .i64 0, .int .i64 0, .int .i64 0, .string ⟨#[]⟩] 48)) = w0 at *
  go_wp2_with (first | fail | (refine wpList_storeAll rfl 48 (.tmp 6) (.tmp 11) rfl (w.heap.size + 1) #[.int .i64 0, .int .i64 0, .slice none 0 0, .slice none 0 0, .slice none 0 0, .slice none 0 0, .slice none 0 0, .int .i64 0, .slice none 0 0, .slice none 0 0, .slice none 0 0, .bool false, .bool false, .bool false, .string ⟨#[]⟩, .slice none 0 0, .int .i64 0, .int .i64 0, .int .i64 0, .int .i64 0, .string ⟨#[]⟩] rfl rfl T0.out.2.1 (by kernel_rfl) rfl HZO.out ?_; intro wF hbF hoF hzF))
  have HBF := Lib.hid hbF
  have HBB := Lib.hid (T0.out.2.2.trans (hoF.below1 (by omega) T0.out.2.2.size))
  refine bodyPost_ret (results_cell_tmp (P := Tryz.prog) rfl _ _ (w.heap.size + 1) 48 #[.int .i64 0, .int .i64 0, .slice none 0 0, .slice none 0 0, .slice none 0 0, .slice none 0 0, .slice none 0 0, .int .i64 0, .slice none 0 0, .slice none 0 0, .slice none 0 0, .bool false, .bool false, .bool false, .string ⟨#[]⟩, .slice none 0 0, .int .i64 0, .int .i64 0, .int .i64 0, .int .i64 0, .string ⟨#[]⟩] (0, 0) _ rfl HBF.out Tryz.underlying48 rfl (by kernel_rfl)) rfl ⟨_, rfl, ?_, HBB.out⟩
  exact (ownM_zero _ _ _).reads

set_option maxHeartbeats 16000000 in
set_option maxRecDepth 100000 in
theorem sAns_bad (ok : Bool) (text : ByteArray) (x0 : Int) (x1 : Int) (x2 : List ByteArray) (x3 : List TyRef) (x4 : List TyGiven) (x5 : List TyLoop) (x6 : List TyFrame) (x7 : Int) (x8 : List TyBind) (x9 : List TyCell) (x10 : List TyLevel) (x11 : Bool) (x12 : Bool) (x13 : Bool) (x14 : ByteArray) (x15 : List ByteArray) (x16 : Int) (x17 : Int) (x18 : Int) (x19 : Int) (x20 : ByteArray) (A2 : Option Addr) (c2 : Nat) (A3 : Option Addr) (c3 : Nat) (A4 : Option Addr) (c4 : Nat) (A5 : Option Addr) (c5 : Nat) (A6 : Option Addr) (c6 : Nat) (A8 : Option Addr) (c8 : Nat) (A9 : Option Addr) (c9 : Nat) (A10 : Option Addr) (c10 : Nat) (A15 : Option Addr) (c15 : Nat) (lo hi : Nat) (w : World) (h : shMachine.R w lo hi [.int .i64 x0, .int .i64 x1, .slice A2 x2.length c2, .slice A3 x3.length c3, .slice A4 x4.length c4, .slice A5 x5.length c5, .slice A6 x6.length c6, .int .i64 x7, .slice A8 x8.length c8, .slice A9 x9.length c9, .slice A10 x10.length c10, .bool x11, .bool x12, .bool x13, .string x14, .slice A15 x15.length c15, .int .i64 x16, .int .i64 x17, .int .i64 x18, .int .i64 x19, .string x20] (x0, x1, x2, x3, x4, x5, x6, (x7, x8, x9, x10), x11, x12, (x13, x14, x15), x16, x17, x18, x19, x20)) (hhi : hi ≤ w.heap.size) (hf : shMachine.fit 1048576 (x0, x1, x2, x3, x4, x5, x6, (x7, x8, x9, x10), x11, x12, (x13, x14, x15), x16, x17, x18, x19, x20)) (h64 : ¬ 64 < text.size) (hst : ¬ (x0 = 2 ∧ inB x19 1 3 = true)) :
    Calls Tryz.prog 5 #[.agg #[.int .i64 x0, .int .i64 x1, .slice A2 x2.length c2, .slice A3 x3.length c3, .slice A4 x4.length c4, .slice A5 x5.length c5, .slice A6 x6.length c6, .int .i64 x7, .slice A8 x8.length c8, .slice A9 x9.length c9, .slice A10 x10.length c10, .bool x11, .bool x12, .bool x13, .string x14, .slice A15 x15.length c15, .int .i64 x16, .int .i64 x17, .int .i64 x18, .int .i64 x19, .string x20], .bool ok, .string text] w fun e w' => ∃ us : List Value, e = .returned (.tuple #[.agg us.toArray, .int .i64 5]) ∧ shMachine.R w' w.heap.size w'.heap.size us shMachine.d ∧ Below w.heap.size w w' := by
  have HH := Lib.hid h; have HFF := Lib.hid hf
  clear h hf
  have T0 := Lib.hid (Two.start w 48 48 #[.int .i64 x0, .int .i64 x1, .slice A2 x2.length c2, .slice A3 x3.length c3, .slice A4 x4.length c4, .slice A5 x5.length c5, .slice A6 x6.length c6, .int .i64 x7, .slice A8 x8.length c8, .slice A9 x9.length c9, .slice A10 x10.length c10, .bool x11, .bool x12, .bool x13, .string x14, .slice A15 x15.length c15, .int .i64 x16, .int .i64 x17, .int .i64 x18, .int .i64 x19, .string x20] #[.int .i64 0, .int .i64 0, .slice none 0 0, .slice none 0 0, .slice none 0 0, .slice none 0 0, .slice none 0 0, .int .i64 0, .slice none 0 0, .slice none 0 0, .slice none 0 0, .bool false, .bool false, .bool false, .string ⟨#[]⟩, .slice none 0 0, .int .i64 0, .int .i64 0, .int .i64 0, .int .i64 0, .string ⟨#[]⟩])
  have i1 : ¬ (64 : Int) < (text.size : Int) := by omega
  have HZO : Hid (∀ u ∈ ([.int .i64 0, .int .i64 0, .slice none 0 0, .slice none 0 0, .slice none 0 0, .slice none 0 0, .slice none 0 0, .int .i64 0, .slice none 0 0, .slice none 0 0, .slice none 0 0, .bool false, .bool false, .bool false, .string ⟨#[]⟩, .slice none 0 0, .int .i64 0, .int .i64 0, .int .i64 0, .int .i64 0, .string ⟨#[]⟩] : List Value), u.oneCell' = true) := Lib.hid (by intro u hu; simp only [List.mem_cons, List.not_mem_nil, or_false] at hu; rcases hu with rfl | rfl | rfl | rfl | rfl | rfl | rfl | rfl | rfl | rfl | rfl | rfl | rfl | rfl | rfl | rfl | rfl | rfl | rfl | rfl | rfl <;> rfl)
  go_enter Tryz.func5, Tryz.ntmps5
  go_upto_region 1 with fail
  generalize ((w.alloc (.cells #[.int .i64 x0, .int .i64 x1, .slice A2 x2.length c2, .slice A3 x3.length c3, .slice A4 x4.length c4, .slice A5 x5.length c5, .slice A6 x6.length c6, .int .i64 x7, .slice A8 x8.length c8, .slice A9 x9.length c9, .slice A10 x10.length c10, .bool x11, .bool x12, .bool x13, .string x14, .slice A15 x15.length c15, .int .i64 x16, .int .i64 x17, .int .i64 x18, .int .i64 x19, .string x20] 48)).alloc (.cells #[.int .i64 0, .int .i64 0, .slice none 0 0, .slice none 0 0, .slice none 0 0, .slice none 0 0, .slice none 0 0, .int .i64 0, .slice none 0 0, .slice none 0 0, .slice none 0 0, .bool false, .bool false, .bool false, .string ⟨#[]⟩, .slice none 0 0, .int .i64 0, .int .i64 0, .int .i64 0, .int .i64 0, .string ⟨#[]⟩] 48)) = w0 at *
  have f0 := T0.out.1.cell
  by_cases h0 : x0 = 2
  · have hq0 : (x0 != 2) = false := by simp [h0]
    have hb3 : inB x19 1 3 = false := by cases hq : inB x19 1 3 with
        | false => rfl
        | true => exact absurd ⟨h0, hq⟩ hst
    clear hst h0
    go_wp2_with (first | (go_at_call 18; refine (l00In_any x19 1 3 _).mono ?_; rintro e2 w2 ⟨rfl, rfl⟩; rw [hb3]) | (refine wpList_storeAll rfl 48 (.tmp 6) (.tmp 21) rfl (w.heap.size + 1) #[.int .i64 0, .int .i64 0, .slice none 0 0, .slice none 0 0, .slice none 0 0, .slice none 0 0, .slice none 0 0, .int .i64 0, .slice none 0 0, .slice none 0 0, .slice none 0 0, .bool false, .bool false, .bool false, .string ⟨#[]⟩, .slice none 0 0, .int .i64 0, .int .i64 0, .int .i64 0, .int .i64 0, .string ⟨#[]⟩] rfl rfl T0.out.2.1 (by kernel_rfl) rfl HZO.out ?_; intro wF hbF hoF hzF))
    have HBF := Lib.hid hbF
    have HBB := Lib.hid (T0.out.2.2.trans (hoF.below1 (by omega) T0.out.2.2.size))
    refine bodyPost_ret (results_cell_tmp (P := Tryz.prog) rfl _ _ (w.heap.size + 1) 48 #[.int .i64 0, .int .i64 0, .slice none 0 0, .slice none 0 0, .slice none 0 0, .slice none 0 0, .slice none 0 0, .int .i64 0, .slice none 0 0, .slice none 0 0, .slice none 0 0, .bool false, .bool false, .bool false, .string ⟨#[]⟩, .slice none 0 0, .int .i64 0, .int .i64 0, .int .i64 0, .int .i64 0, .string ⟨#[]⟩] (0, 0) _ rfl HBF.out Tryz.underlying48 rfl (by kernel_rfl)) rfl ⟨_, rfl, ?_, HBB.out⟩
    exact (ownM_zero _ _ _).reads
  · have hq0 : (x0 != 2) = true := by simp [h0]
    clear hst h0
    go_wp2_with (first | fail | (refine wpList_storeAll rfl 48 (.tmp 6) (.tmp 21) rfl (w.heap.size + 1) #[.int .i64 0, .int .i64 0, .slice none 0 0, .slice none 0 0, .slice none 0 0, .slice none 0 0, .slice none 0 0, .int .i64 0, .slice none 0 0, .slice none 0 0, .slice none 0 0, .bool false, .bool false, .bool false, .string ⟨#[]⟩, .slice none 0 0, .int .i64 0, .int .i64 0, .int .i64 0, .int .i64 0, .string ⟨#[]⟩] rfl rfl T0.out.2.1 (by kernel_rfl) rfl HZO.out ?_; intro wF hbF hoF hzF))
    have HBF := Lib.hid hbF
    have HBB := Lib.hid (T0.out.2.2.trans (hoF.below1 (by omega) T0.out.2.2.size))
    refine bodyPost_ret (results_cell_tmp (P := Tryz.prog) rfl _ _ (w.heap.size + 1) 48 #[.int .i64 0, .int .i64 0, .slice none 0 0, .slice none 0 0, .slice none 0 0, .slice none 0 0, .slice none 0 0, .int .i64 0, .slice none 0 0, .slice none 0 0, .slice none 0 0, .bool false, .bool false, .bool false, .string ⟨#[]⟩, .slice none 0 0, .int .i64 0, .int .i64 0, .int .i64 0, .int .i64 0, .string ⟨#[]⟩] (0, 0) _ rfl HBF.out Tryz.underlying48 rfl (by kernel_rfl)) rfl ⟨_, rfl, ?_, HBB.out⟩
    exact (ownM_zero _ _ _).reads

set_option maxHeartbeats 16000000 in
set_option maxRecDepth 100000 in
theorem sAns_ok (ok : Bool) (text : ByteArray) (x0 : Int) (x1 : Int) (x2 : List ByteArray) (x3 : List TyRef) (x4 : List TyGiven) (x5 : List TyLoop) (x6 : List TyFrame) (x7 : Int) (x8 : List TyBind) (x9 : List TyCell) (x10 : List TyLevel) (x11 : Bool) (x12 : Bool) (x13 : Bool) (x14 : ByteArray) (x15 : List ByteArray) (x16 : Int) (x17 : Int) (x18 : Int) (x19 : Int) (x20 : ByteArray) (A2 : Option Addr) (c2 : Nat) (A3 : Option Addr) (c3 : Nat) (A4 : Option Addr) (c4 : Nat) (A5 : Option Addr) (c5 : Nat) (A6 : Option Addr) (c6 : Nat) (A8 : Option Addr) (c8 : Nat) (A9 : Option Addr) (c9 : Nat) (A10 : Option Addr) (c10 : Nat) (A15 : Option Addr) (c15 : Nat) (lo hi : Nat) (w : World) (h : shMachine.R w lo hi [.int .i64 x0, .int .i64 x1, .slice A2 x2.length c2, .slice A3 x3.length c3, .slice A4 x4.length c4, .slice A5 x5.length c5, .slice A6 x6.length c6, .int .i64 x7, .slice A8 x8.length c8, .slice A9 x9.length c9, .slice A10 x10.length c10, .bool x11, .bool x12, .bool x13, .string x14, .slice A15 x15.length c15, .int .i64 x16, .int .i64 x17, .int .i64 x18, .int .i64 x19, .string x20] (x0, x1, x2, x3, x4, x5, x6, (x7, x8, x9, x10), x11, x12, (x13, x14, x15), x16, x17, x18, x19, x20)) (hhi : hi ≤ w.heap.size) (hf : shMachine.fit 1048576 (x0, x1, x2, x3, x4, x5, x6, (x7, x8, x9, x10), x11, x12, (x13, x14, x15), x16, x17, x18, x19, x20)) (h64 : ¬ 64 < text.size) (h0 : x0 = 2) (hb3 : inB x19 1 3 = true) (y11 : Bool) (y18 : Int) (y20 : ByteArray) (e11 : y11 = if x19 = 2 then ok else x11) (e18 : y18 = if x19 = 1 then (if ok then x18 else 16) else x18) (e20 : y20 = if x19 = 3 then text else x20) :
    Calls Tryz.prog 5 #[.agg #[.int .i64 x0, .int .i64 x1, .slice A2 x2.length c2, .slice A3 x3.length c3, .slice A4 x4.length c4, .slice A5 x5.length c5, .slice A6 x6.length c6, .int .i64 x7, .slice A8 x8.length c8, .slice A9 x9.length c9, .slice A10 x10.length c10, .bool x11, .bool x12, .bool x13, .string x14, .slice A15 x15.length c15, .int .i64 x16, .int .i64 x17, .int .i64 x18, .int .i64 x19, .string x20], .bool ok, .string text] w fun e w' => ∃ us : List Value, e = .returned (.tuple #[.agg us.toArray, .int .i64 0]) ∧ shMachine.R w' w.heap.size w'.heap.size us (1, x1, x2, x3, x4, x5, x6, (x7, x8, x9, x10), y11, x12, (x13, x14, x15), x16, x17, y18, 0, y20) ∧ Below w.heap.size w w' := by
  have HH := Lib.hid h; have HFF := Lib.hid hf
  clear h hf
  have T0 := Lib.hid (Two.start w 48 48 #[.int .i64 x0, .int .i64 x1, .slice A2 x2.length c2, .slice A3 x3.length c3, .slice A4 x4.length c4, .slice A5 x5.length c5, .slice A6 x6.length c6, .int .i64 x7, .slice A8 x8.length c8, .slice A9 x9.length c9, .slice A10 x10.length c10, .bool x11, .bool x12, .bool x13, .string x14, .slice A15 x15.length c15, .int .i64 x16, .int .i64 x17, .int .i64 x18, .int .i64 x19, .string x20] #[.int .i64 0, .int .i64 0, .slice none 0 0, .slice none 0 0, .slice none 0 0, .slice none 0 0, .slice none 0 0, .int .i64 0, .slice none 0 0, .slice none 0 0, .slice none 0 0, .bool false, .bool false, .bool false, .string ⟨#[]⟩, .slice none 0 0, .int .i64 0, .int .i64 0, .int .i64 0, .int .i64 0, .string ⟨#[]⟩])
  have i1 : ¬ (64 : Int) < (text.size : Int) := by omega
  have E11 := Lib.hid e11; have E18 := Lib.hid e18; have E20 := Lib.hid e20
  clear e11 e18 e20
  have HX0 : Hid (x0 = 2) := Lib.hid h0
  clear h0
  have hq0 : (x0 != 2) = false := by simp [HX0.out]
  have HZO : Hid (∀ u ∈ ([.int .i64 0, .int .i64 0, .slice none 0 0, .slice none 0 0, .slice none 0 0, .slice none 0 0, .slice none 0 0, .int .i64 0, .slice none 0 0, .slice none 0 0, .slice none 0 0, .bool false, .bool false, .bool false, .string ⟨#[]⟩, .slice none 0 0, .int .i64 0, .int .i64 0, .int .i64 0, .int .i64 0, .string ⟨#[]⟩] : List Value), u.oneCell' = true) := Lib.hid (by intro u hu; simp only [List.mem_cons, List.not_mem_nil, or_false] at hu; rcases hu with rfl | rfl | rfl | rfl | rfl | rfl | rfl | rfl | rfl | rfl | rfl | rfl | rfl | rfl | rfl | rfl | rfl | rfl | rfl | rfl | rfl <;> rfl)
  go_enter Tryz.func5, Tryz.ntmps5
  go_upto_region 1 with fail
  generalize ((w.alloc (.cells #[.int .i64 x0, .int .i64 x1, .slice A2 x2.length c2, .slice A3 x3.length c3, .slice A4 x4.length c4, .slice A5 x5.length c5, .slice A6 x6.length c6, .int .i64 x7, .slice A8 x8.length c8, .slice A9 x9.length c9, .slice A10 x10.length c10, .bool x11, .bool x12, .bool x13, .string x14, .slice A15 x15.length c15, .int .i64 x16, .int .i64 x17, .int .i64 x18, .int .i64 x19, .string x20] 48)).alloc (.cells #[.int .i64 0, .int .i64 0, .slice none 0 0, .slice none 0 0, .slice none 0 0, .slice none 0 0, .slice none 0 0, .int .i64 0, .slice none 0 0, .slice none 0 0, .slice none 0 0, .bool false, .bool false, .bool false, .string ⟨#[]⟩, .slice none 0 0, .int .i64 0, .int .i64 0, .int .i64 0, .int .i64 0, .string ⟨#[]⟩] 48)) = w0 at *
  have H19 := Lib.hid (show 1 ≤ x19 ∧ x19 ≤ 3 from by simpa [inB] using hb3)
  have f0 := T0.out.1.cell
  go_upto_region 5 with (first | (go_at_call 18; refine (l00In_any x19 1 3 _).mono ?_; rintro e2 w2 ⟨rfl, rfl⟩; rw [hb3]) | fail)
  clear f0
  refine wp_region_list ?_
  refine wpList_loadAll rfl 48 (.tmp 3) rfl w.heap.size rfl T0.out.1 Tryz.underlying48 rfl (by kernel_rfl) ?_
  simp only [Go.Act.put, List.setIfInBounds_toArray, List.set_cons_zero, List.set_cons_succ]
  go_wp2_with fail
  refine (l14OwnAll_f x0 x1 x2 x3 x4 x5 x6 x7 x8 x9 x10 x11 x12 x13 x14 x15 x16 x17 x18 x19 x20 A2 c2 A3 c3 A4 c4 A5 c5 A6 c6 A8 c8 A9 c9 A10 c10 A15 c15 lo hi _ (shMachine.R_below HH.out T0.out.2.2 hhi) (Nat.le_trans hhi T0.out.2.2.size) HFF.out).mono ?_
  rintro ea wa ⟨B2, d2, B3, d3, B4, d4, B5, d5, B6, d6, B8, d8, B9, d9, B10, d10, B15, d15, rfl, hra, hba⟩
  have TA := Lib.hid (T0.out.call hba)
  have hsa := hba.size
  have HRA := Lib.hid hra
  have hs0 := T0.out.2.1.lt
  clear T0 hba hra
  go_wp2_with fail
  have HAN := fun W => l14Answer_f ok text x0 x1 x2 x3 x4 x5 x6 x7 x8 x9 x10 x11 x12 x13 x14 x15 x16 x17 x18 x19 x20 B2 d2 B3 d3 B4 d4 B5 d5 B6 d6 B8 d8 B9 d9 B10 d10 B15 d15 W H19.out
  rw [← E11.out, ← E18.out, ← E20.out] at HAN
  refine (HAN _).mono ?_
  clear HAN
  rintro eb wb ⟨rfl, hbb⟩
  have hsb := hbb.size
  have TB := Lib.hid (TA.out.call hbb)
  have HRB := Lib.hid (shMachine.R_below HRA.out hbb (Nat.le_refl _))
  clear TA HRA hbb
  have HONE : Hid (∀ u ∈ ([.int .i64 1, .int .i64 x1, .slice B2 x2.length d2, .slice B3 x3.length d3, .slice B4 x4.length d4, .slice B5 x5.length d5, .slice B6 x6.length d6, .int .i64 x7, .slice B8 x8.length d8, .slice B9 x9.length d9, .slice B10 x10.length d10, .bool y11, .bool x12, .bool x13, .string x14, .slice B15 x15.length d15, .int .i64 x16, .int .i64 x17, .int .i64 y18, .int .i64 0, .string y20] : List Value), u.oneCell' = true) := Lib.hid (by intro u hu; simp only [List.mem_cons, List.not_mem_nil, or_false] at hu; rcases hu with rfl | rfl | rfl | rfl | rfl | rfl | rfl | rfl | rfl | rfl | rfl | rfl | rfl | rfl | rfl | rfl | rfl | rfl | rfl | rfl | rfl <;> rfl)
  go_wp2_with (first | fail | (refine wpList_storeAll rfl 48 (.tmp 6) (.tmp 26) rfl (w.heap.size + 1) #[.int .i64 1, .int .i64 x1, .slice B2 x2.length d2, .slice B3 x3.length d3, .slice B4 x4.length d4, .slice B5 x5.length d5, .slice B6 x6.length d6, .int .i64 x7, .slice B8 x8.length d8, .slice B9 x9.length d9, .slice B10 x10.length d10, .bool y11, .bool x12, .bool x13, .string x14, .slice B15 x15.length d15, .int .i64 x16, .int .i64 x17, .int .i64 y18, .int .i64 0, .string y20] rfl rfl TB.out.2.1 (by kernel_rfl) rfl HONE.out ?_; intro wF hbF hoF hzF))
  have HBF := Lib.hid hbF
  have hsF := hoF.size
  have HBB := Lib.hid (TB.out.2.2.trans (hoF.below1 (by omega) (by omega)))
  have HRF := Lib.hid (shMachine.R_more (shMachine.R_keep HRB.out (fun b h1 h2 => hoF.block b (by omega) (by simp; omega))) (by omega : w.heap.size ≤ w0.heap.size) (by omega : wa.heap.size ≤ wF.heap.size))
  refine bodyPost_ret (results_cell_tmp (P := Tryz.prog) rfl _ _ (w.heap.size + 1) 48 #[.int .i64 1, .int .i64 x1, .slice B2 x2.length d2, .slice B3 x3.length d3, .slice B4 x4.length d4, .slice B5 x5.length d5, .slice B6 x6.length d6, .int .i64 x7, .slice B8 x8.length d8, .slice B9 x9.length d9, .slice B10 x10.length d10, .bool y11, .bool x12, .bool x13, .string x14, .slice B15 x15.length d15, .int .i64 x16, .int .i64 x17, .int .i64 y18, .int .i64 0, .string y20] (0, 0) _ rfl HBF.out Tryz.underlying48 rfl (by kernel_rfl)) rfl ⟨_, rfl, ?_, HBB.out⟩
  exact shMachine_reR (y0 := 1) (y1 := x1) (y7 := x7) (y11 := y11) (y12 := x12) (y13 := x13) (y14 := x14) (y16 := x16) (y17 := x17) (y18 := y18) (y19 := 0) (y20 := y20) HRF.out

set_option maxHeartbeats 16000000 in
set_option maxRecDepth 100000 in
theorem iAns_long (ok : Bool) (text : ByteArray) (x0 : Int) (x1 : Int) (x2 : List ByteArray) (x3 : List TyRef) (x4 : List TyGiven) (x5 : List TyLoop) (x6 : List TyFrame) (x7 : Int) (x8 : List TyBind) (x9 : List TyCell) (x10 : List TyLevel) (x11 : Bool) (x12 : Bool) (x13 : Bool) (x14 : ByteArray) (x15 : List ByteArray) (x16 : Int) (x17 : Int) (x18 : Int) (x19 : Int) (x20 : ByteArray) (A2 : Option Addr) (c2 : Nat) (A3 : Option Addr) (c3 : Nat) (A4 : Option Addr) (c4 : Nat) (A5 : Option Addr) (c5 : Nat) (A6 : Option Addr) (c6 : Nat) (A8 : Option Addr) (c8 : Nat) (A9 : Option Addr) (c9 : Nat) (A10 : Option Addr) (c10 : Nat) (A15 : Option Addr) (c15 : Nat) (lo hi : Nat) (w : World) (h : shMachine.R w lo hi [.int .i64 x0, .int .i64 x1, .slice A2 x2.length c2, .slice A3 x3.length c3, .slice A4 x4.length c4, .slice A5 x5.length c5, .slice A6 x6.length c6, .int .i64 x7, .slice A8 x8.length c8, .slice A9 x9.length c9, .slice A10 x10.length c10, .bool x11, .bool x12, .bool x13, .string x14, .slice A15 x15.length c15, .int .i64 x16, .int .i64 x17, .int .i64 x18, .int .i64 x19, .string x20] (x0, x1, x2, x3, x4, x5, x6, (x7, x8, x9, x10), x11, x12, (x13, x14, x15), x16, x17, x18, x19, x20)) (hhi : hi ≤ w.heap.size) (hf : shMachine.fit 1048576 (x0, x1, x2, x3, x4, x5, x6, (x7, x8, x9, x10), x11, x12, (x13, x14, x15), x16, x17, x18, x19, x20)) (h64 : 64 < text.size) :
    Calls Tryz.prog 7 #[.agg #[.int .i64 x0, .int .i64 x1, .slice A2 x2.length c2, .slice A3 x3.length c3, .slice A4 x4.length c4, .slice A5 x5.length c5, .slice A6 x6.length c6, .int .i64 x7, .slice A8 x8.length c8, .slice A9 x9.length c9, .slice A10 x10.length c10, .bool x11, .bool x12, .bool x13, .string x14, .slice A15 x15.length c15, .int .i64 x16, .int .i64 x17, .int .i64 x18, .int .i64 x19, .string x20], .bool ok, .string text] w fun e w' => ∃ us : List Value, e = .returned (.tuple #[.agg us.toArray, .int .i64 1]) ∧ Own shMachine w' w.heap.size w'.heap.size us shMachine.d ∧ Below w.heap.size w w' := by
  have HH := Lib.hid h; have HFF := Lib.hid hf
  clear h hf
  have T0 := Lib.hid (Two.start w 48 48 #[.int .i64 x0, .int .i64 x1, .slice A2 x2.length c2, .slice A3 x3.length c3, .slice A4 x4.length c4, .slice A5 x5.length c5, .slice A6 x6.length c6, .int .i64 x7, .slice A8 x8.length c8, .slice A9 x9.length c9, .slice A10 x10.length c10, .bool x11, .bool x12, .bool x13, .string x14, .slice A15 x15.length c15, .int .i64 x16, .int .i64 x17, .int .i64 x18, .int .i64 x19, .string x20] #[.int .i64 0, .int .i64 0, .slice none 0 0, .slice none 0 0, .slice none 0 0, .slice none 0 0, .slice none 0 0, .int .i64 0, .slice none 0 0, .slice none 0 0, .slice none 0 0, .bool false, .bool false, .bool false, .string ⟨#[]⟩, .slice none 0 0, .int .i64 0, .int .i64 0, .int .i64 0, .int .i64 0, .string ⟨#[]⟩])
  have HLG := Lib.hid (fun b c W hc => long_one b text c W hc)
  rw [decide_eq_true h64] at HLG
  have HZO : Hid (∀ u ∈ ([.int .i64 0, .int .i64 0, .slice none 0 0, .slice none 0 0, .slice none 0 0, .slice none 0 0, .slice none 0 0, .int .i64 0, .slice none 0 0, .slice none 0 0, .slice none 0 0, .bool false, .bool false, .bool false, .string ⟨#[]⟩, .slice none 0 0, .int .i64 0, .int .i64 0, .int .i64 0, .int .i64 0, .string ⟨#[]⟩] : List Value), u.oneCell' = true) := Lib.hid (by intro u hu; simp only [List.mem_cons, List.not_mem_nil, or_false] at hu; rcases hu with rfl | rfl | rfl | rfl | rfl | rfl | rfl | rfl | rfl | rfl | rfl | rfl | rfl | rfl | rfl | rfl | rfl | rfl | rfl | rfl | rfl <;> rfl)
  go_enter Tryz.func7, Tryz.ntmps7
  go_upto_region 1 with fail
  generalize ((w.alloc (.cells #[.int .i64 x0, .int .i64 x1, .slice A2 x2.length c2, .slice A3 x3.length c3, .slice A4 x4.length c4, .slice A5 x5.length c5, .slice A6 x6.length c6, .int .i64 x7, .slice A8 x8.length c8, .slice A9 x9.length c9, .slice A10 x10.length c10, .bool x11, .bool x12, .bool x13, .string x14, .slice A15 x15.length c15, .int .i64 x16, .int .i64 x17, .int .i64 x18, .int .i64 x19, .string x20] 48)).alloc (.cells #[.int .i64 0, .int .i64 0, .slice none 0 0, .slice none 0 0, .slice none 0 0, .slice none 0 0, .slice none 0 0, .int .i64 0, .slice none 0 0, .slice none 0 0, .slice none 0 0, .bool false, .bool false, .bool false, .string ⟨#[]⟩, .slice none 0 0, .int .i64 0, .int .i64 0, .int .i64 0, .int .i64 0, .string ⟨#[]⟩] 48)) = w0 at *
  go_wp2_with fail
  refine (HLG.out _ _ _ (cell_of_row _ _ _ _ _ _ (heap_alloc_new _ _))).mono ?_
  rintro e1 w1 ⟨rfl, q, rfl⟩
  have T0 := Lib.hid (show Two w ((w0.alloc (.cells #[.string text] 9)).drewN q) 48 48 #[.int .i64 x0, .int .i64 x1, .slice A2 x2.length c2, .slice A3 x3.length c3, .slice A4 x4.length c4, .slice A5 x5.length c5, .slice A6 x6.length c6, .int .i64 x7, .slice A8 x8.length c8, .slice A9 x9.length c9, .slice A10 x10.length c10, .bool x11, .bool x12, .bool x13, .string x14, .slice A15 x15.length c15, .int .i64 x16, .int .i64 x17, .int .i64 x18, .int .i64 x19, .string x20] #[.int .i64 0, .int .i64 0, .slice none 0 0, .slice none 0 0, .slice none 0 0, .slice none 0 0, .slice none 0 0, .int .i64 0, .slice none 0 0, .slice none 0 0, .slice none 0 0, .bool false, .bool false, .bool false, .string ⟨#[]⟩, .slice none 0 0, .int .i64 0, .int .i64 0, .int .i64 0, .int .i64 0, .string ⟨#[]⟩] from ((T0.out.call ((Below.refl _ _).alloc (Nat.le_refl _) _)).call (below_drewN' _ q)))
  generalize ((w0.alloc (.cells #[.string text] 9)).drewN q) = w0 at *
  go_wp2_with (first | fail | (refine wpList_storeAll rfl 48 (.tmp 6) (.tmp 13) rfl (w.heap.size + 1) #[.int .i64 0, .int .i64 0, .slice none 0 0, .slice none 0 0, .slice none 0 0, .slice none 0 0, .slice none 0 0, .int .i64 0, .slice none 0 0, .slice none 0 0, .slice none 0 0, .bool false, .bool false, .bool false, .string ⟨#[]⟩, .slice none 0 0, .int .i64 0, .int .i64 0, .int .i64 0, .int .i64 0, .string ⟨#[]⟩] rfl rfl T0.out.2.1 (by kernel_rfl) rfl HZO.out ?_; intro wF hbF hoF hzF))
  have HBF := Lib.hid hbF
  have HBB := Lib.hid (T0.out.2.2.trans (hoF.below1 (by omega) T0.out.2.2.size))
  refine bodyPost_ret (results_cell_tmp (P := Tryz.prog) rfl _ _ (w.heap.size + 1) 48 #[.int .i64 0, .int .i64 0, .slice none 0 0, .slice none 0 0, .slice none 0 0, .slice none 0 0, .slice none 0 0, .int .i64 0, .slice none 0 0, .slice none 0 0, .slice none 0 0, .bool false, .bool false, .bool false, .string ⟨#[]⟩, .slice none 0 0, .int .i64 0, .int .i64 0, .int .i64 0, .int .i64 0, .string ⟨#[]⟩] (0, 0) _ rfl HBF.out Tryz.underlying48 rfl (by kernel_rfl)) rfl ⟨_, rfl, ?_, HBB.out⟩
  exact ownM_zero _ _ _

set_option maxHeartbeats 16000000 in
set_option maxRecDepth 100000 in
theorem iAns_bad (ok : Bool) (text : ByteArray) (x0 : Int) (x1 : Int) (x2 : List ByteArray) (x3 : List TyRef) (x4 : List TyGiven) (x5 : List TyLoop) (x6 : List TyFrame) (x7 : Int) (x8 : List TyBind) (x9 : List TyCell) (x10 : List TyLevel) (x11 : Bool) (x12 : Bool) (x13 : Bool) (x14 : ByteArray) (x15 : List ByteArray) (x16 : Int) (x17 : Int) (x18 : Int) (x19 : Int) (x20 : ByteArray) (A2 : Option Addr) (c2 : Nat) (A3 : Option Addr) (c3 : Nat) (A4 : Option Addr) (c4 : Nat) (A5 : Option Addr) (c5 : Nat) (A6 : Option Addr) (c6 : Nat) (A8 : Option Addr) (c8 : Nat) (A9 : Option Addr) (c9 : Nat) (A10 : Option Addr) (c10 : Nat) (A15 : Option Addr) (c15 : Nat) (lo hi : Nat) (w : World) (h : shMachine.R w lo hi [.int .i64 x0, .int .i64 x1, .slice A2 x2.length c2, .slice A3 x3.length c3, .slice A4 x4.length c4, .slice A5 x5.length c5, .slice A6 x6.length c6, .int .i64 x7, .slice A8 x8.length c8, .slice A9 x9.length c9, .slice A10 x10.length c10, .bool x11, .bool x12, .bool x13, .string x14, .slice A15 x15.length c15, .int .i64 x16, .int .i64 x17, .int .i64 x18, .int .i64 x19, .string x20] (x0, x1, x2, x3, x4, x5, x6, (x7, x8, x9, x10), x11, x12, (x13, x14, x15), x16, x17, x18, x19, x20)) (hhi : hi ≤ w.heap.size) (hf : shMachine.fit 1048576 (x0, x1, x2, x3, x4, x5, x6, (x7, x8, x9, x10), x11, x12, (x13, x14, x15), x16, x17, x18, x19, x20)) (h64 : ¬ 64 < text.size) (hst : ¬ (x0 = 2 ∧ inB x19 1 3 = true)) :
    Calls Tryz.prog 7 #[.agg #[.int .i64 x0, .int .i64 x1, .slice A2 x2.length c2, .slice A3 x3.length c3, .slice A4 x4.length c4, .slice A5 x5.length c5, .slice A6 x6.length c6, .int .i64 x7, .slice A8 x8.length c8, .slice A9 x9.length c9, .slice A10 x10.length c10, .bool x11, .bool x12, .bool x13, .string x14, .slice A15 x15.length c15, .int .i64 x16, .int .i64 x17, .int .i64 x18, .int .i64 x19, .string x20], .bool ok, .string text] w fun e w' => ∃ us : List Value, e = .returned (.tuple #[.agg us.toArray, .int .i64 5]) ∧ Own shMachine w' w.heap.size w'.heap.size us shMachine.d ∧ Below w.heap.size w w' := by
  have HH := Lib.hid h; have HFF := Lib.hid hf
  clear h hf
  have T0 := Lib.hid (Two.start w 48 48 #[.int .i64 x0, .int .i64 x1, .slice A2 x2.length c2, .slice A3 x3.length c3, .slice A4 x4.length c4, .slice A5 x5.length c5, .slice A6 x6.length c6, .int .i64 x7, .slice A8 x8.length c8, .slice A9 x9.length c9, .slice A10 x10.length c10, .bool x11, .bool x12, .bool x13, .string x14, .slice A15 x15.length c15, .int .i64 x16, .int .i64 x17, .int .i64 x18, .int .i64 x19, .string x20] #[.int .i64 0, .int .i64 0, .slice none 0 0, .slice none 0 0, .slice none 0 0, .slice none 0 0, .slice none 0 0, .int .i64 0, .slice none 0 0, .slice none 0 0, .slice none 0 0, .bool false, .bool false, .bool false, .string ⟨#[]⟩, .slice none 0 0, .int .i64 0, .int .i64 0, .int .i64 0, .int .i64 0, .string ⟨#[]⟩])
  have HLG := Lib.hid (fun b c W hc => long_one b text c W hc)
  rw [decide_eq_false h64] at HLG
  have HZO : Hid (∀ u ∈ ([.int .i64 0, .int .i64 0, .slice none 0 0, .slice none 0 0, .slice none 0 0, .slice none 0 0, .slice none 0 0, .int .i64 0, .slice none 0 0, .slice none 0 0, .slice none 0 0, .bool false, .bool false, .bool false, .string ⟨#[]⟩, .slice none 0 0, .int .i64 0, .int .i64 0, .int .i64 0, .int .i64 0, .string ⟨#[]⟩] : List Value), u.oneCell' = true) := Lib.hid (by intro u hu; simp only [List.mem_cons, List.not_mem_nil, or_false] at hu; rcases hu with rfl | rfl | rfl | rfl | rfl | rfl | rfl | rfl | rfl | rfl | rfl | rfl | rfl | rfl | rfl | rfl | rfl | rfl | rfl | rfl | rfl <;> rfl)
  go_enter Tryz.func7, Tryz.ntmps7
  go_upto_region 1 with fail
  generalize ((w.alloc (.cells #[.int .i64 x0, .int .i64 x1, .slice A2 x2.length c2, .slice A3 x3.length c3, .slice A4 x4.length c4, .slice A5 x5.length c5, .slice A6 x6.length c6, .int .i64 x7, .slice A8 x8.length c8, .slice A9 x9.length c9, .slice A10 x10.length c10, .bool x11, .bool x12, .bool x13, .string x14, .slice A15 x15.length c15, .int .i64 x16, .int .i64 x17, .int .i64 x18, .int .i64 x19, .string x20] 48)).alloc (.cells #[.int .i64 0, .int .i64 0, .slice none 0 0, .slice none 0 0, .slice none 0 0, .slice none 0 0, .slice none 0 0, .int .i64 0, .slice none 0 0, .slice none 0 0, .slice none 0 0, .bool false, .bool false, .bool false, .string ⟨#[]⟩, .slice none 0 0, .int .i64 0, .int .i64 0, .int .i64 0, .int .i64 0, .string ⟨#[]⟩] 48)) = w0 at *
  go_wp2_with fail
  refine (HLG.out _ _ _ (cell_of_row _ _ _ _ _ _ (heap_alloc_new _ _))).mono ?_
  rintro e1 w1 ⟨rfl, q, rfl⟩
  have T0 := Lib.hid (show Two w ((w0.alloc (.cells #[.string text] 9)).drewN q) 48 48 #[.int .i64 x0, .int .i64 x1, .slice A2 x2.length c2, .slice A3 x3.length c3, .slice A4 x4.length c4, .slice A5 x5.length c5, .slice A6 x6.length c6, .int .i64 x7, .slice A8 x8.length c8, .slice A9 x9.length c9, .slice A10 x10.length c10, .bool x11, .bool x12, .bool x13, .string x14, .slice A15 x15.length c15, .int .i64 x16, .int .i64 x17, .int .i64 x18, .int .i64 x19, .string x20] #[.int .i64 0, .int .i64 0, .slice none 0 0, .slice none 0 0, .slice none 0 0, .slice none 0 0, .slice none 0 0, .int .i64 0, .slice none 0 0, .slice none 0 0, .slice none 0 0, .bool false, .bool false, .bool false, .string ⟨#[]⟩, .slice none 0 0, .int .i64 0, .int .i64 0, .int .i64 0, .int .i64 0, .string ⟨#[]⟩] from ((T0.out.call ((Below.refl _ _).alloc (Nat.le_refl _) _)).call (below_drewN' _ q)))
  generalize ((w0.alloc (.cells #[.string text] 9)).drewN q) = w0 at *
  have f0 := T0.out.1.cell
  by_cases h0 : x0 = 2
  · have hq0 : (x0 != 2) = false := by simp [h0]
    have hb3 : inB x19 1 3 = false := by cases hq : inB x19 1 3 with
        | false => rfl
        | true => exact absurd ⟨h0, hq⟩ hst
    clear hst h0
    go_wp2_with (first | (go_at_call 29; refine (within_any x19 1 3 _).mono ?_; rintro e2 w2 ⟨rfl, rfl⟩; rw [hb3]) | (refine wpList_storeAll rfl 48 (.tmp 6) (.tmp 24) rfl (w.heap.size + 1) #[.int .i64 0, .int .i64 0, .slice none 0 0, .slice none 0 0, .slice none 0 0, .slice none 0 0, .slice none 0 0, .int .i64 0, .slice none 0 0, .slice none 0 0, .slice none 0 0, .bool false, .bool false, .bool false, .string ⟨#[]⟩, .slice none 0 0, .int .i64 0, .int .i64 0, .int .i64 0, .int .i64 0, .string ⟨#[]⟩] rfl rfl T0.out.2.1 (by kernel_rfl) rfl HZO.out ?_; intro wF hbF hoF hzF))
    have HBF := Lib.hid hbF
    have HBB := Lib.hid (T0.out.2.2.trans (hoF.below1 (by omega) T0.out.2.2.size))
    refine bodyPost_ret (results_cell_tmp (P := Tryz.prog) rfl _ _ (w.heap.size + 1) 48 #[.int .i64 0, .int .i64 0, .slice none 0 0, .slice none 0 0, .slice none 0 0, .slice none 0 0, .slice none 0 0, .int .i64 0, .slice none 0 0, .slice none 0 0, .slice none 0 0, .bool false, .bool false, .bool false, .string ⟨#[]⟩, .slice none 0 0, .int .i64 0, .int .i64 0, .int .i64 0, .int .i64 0, .string ⟨#[]⟩] (0, 0) _ rfl HBF.out Tryz.underlying48 rfl (by kernel_rfl)) rfl ⟨_, rfl, ?_, HBB.out⟩
    exact ownM_zero _ _ _
  · have hq0 : (x0 != 2) = true := by simp [h0]
    clear hst h0
    go_wp2_with (first | fail | (refine wpList_storeAll rfl 48 (.tmp 6) (.tmp 24) rfl (w.heap.size + 1) #[.int .i64 0, .int .i64 0, .slice none 0 0, .slice none 0 0, .slice none 0 0, .slice none 0 0, .slice none 0 0, .int .i64 0, .slice none 0 0, .slice none 0 0, .slice none 0 0, .bool false, .bool false, .bool false, .string ⟨#[]⟩, .slice none 0 0, .int .i64 0, .int .i64 0, .int .i64 0, .int .i64 0, .string ⟨#[]⟩] rfl rfl T0.out.2.1 (by kernel_rfl) rfl HZO.out ?_; intro wF hbF hoF hzF))
    have HBF := Lib.hid hbF
    have HBB := Lib.hid (T0.out.2.2.trans (hoF.below1 (by omega) T0.out.2.2.size))
    refine bodyPost_ret (results_cell_tmp (P := Tryz.prog) rfl _ _ (w.heap.size + 1) 48 #[.int .i64 0, .int .i64 0, .slice none 0 0, .slice none 0 0, .slice none 0 0, .slice none 0 0, .slice none 0 0, .int .i64 0, .slice none 0 0, .slice none 0 0, .slice none 0 0, .bool false, .bool false, .bool false, .string ⟨#[]⟩, .slice none 0 0, .int .i64 0, .int .i64 0, .int .i64 0, .int .i64 0, .string ⟨#[]⟩] (0, 0) _ rfl HBF.out Tryz.underlying48 rfl (by kernel_rfl)) rfl ⟨_, rfl, ?_, HBB.out⟩
    exact ownM_zero _ _ _

set_option maxHeartbeats 16000000 in
set_option maxRecDepth 100000 in
theorem iAns_ok (ok : Bool) (text : ByteArray) (x0 : Int) (x1 : Int) (x2 : List ByteArray) (x3 : List TyRef) (x4 : List TyGiven) (x5 : List TyLoop) (x6 : List TyFrame) (x7 : Int) (x8 : List TyBind) (x9 : List TyCell) (x10 : List TyLevel) (x11 : Bool) (x12 : Bool) (x13 : Bool) (x14 : ByteArray) (x15 : List ByteArray) (x16 : Int) (x17 : Int) (x18 : Int) (x19 : Int) (x20 : ByteArray) (A2 : Option Addr) (c2 : Nat) (A3 : Option Addr) (c3 : Nat) (A4 : Option Addr) (c4 : Nat) (A5 : Option Addr) (c5 : Nat) (A6 : Option Addr) (c6 : Nat) (A8 : Option Addr) (c8 : Nat) (A9 : Option Addr) (c9 : Nat) (A10 : Option Addr) (c10 : Nat) (A15 : Option Addr) (c15 : Nat) (lo hi : Nat) (w : World) (h : shMachine.R w lo hi [.int .i64 x0, .int .i64 x1, .slice A2 x2.length c2, .slice A3 x3.length c3, .slice A4 x4.length c4, .slice A5 x5.length c5, .slice A6 x6.length c6, .int .i64 x7, .slice A8 x8.length c8, .slice A9 x9.length c9, .slice A10 x10.length c10, .bool x11, .bool x12, .bool x13, .string x14, .slice A15 x15.length c15, .int .i64 x16, .int .i64 x17, .int .i64 x18, .int .i64 x19, .string x20] (x0, x1, x2, x3, x4, x5, x6, (x7, x8, x9, x10), x11, x12, (x13, x14, x15), x16, x17, x18, x19, x20)) (hhi : hi ≤ w.heap.size) (hf : shMachine.fit 1048576 (x0, x1, x2, x3, x4, x5, x6, (x7, x8, x9, x10), x11, x12, (x13, x14, x15), x16, x17, x18, x19, x20)) (h64 : ¬ 64 < text.size) (h0 : x0 = 2) (hb3 : inB x19 1 3 = true) (y11 : Bool) (y18 : Int) (y20 : ByteArray) (e11 : y11 = if x19 = 2 then ok else x11) (e18 : y18 = if x19 = 1 then (if ok then x18 else 16) else x18) (e20 : y20 = if x19 = 3 then text else x20) :
    Calls Tryz.prog 7 #[.agg #[.int .i64 x0, .int .i64 x1, .slice A2 x2.length c2, .slice A3 x3.length c3, .slice A4 x4.length c4, .slice A5 x5.length c5, .slice A6 x6.length c6, .int .i64 x7, .slice A8 x8.length c8, .slice A9 x9.length c9, .slice A10 x10.length c10, .bool x11, .bool x12, .bool x13, .string x14, .slice A15 x15.length c15, .int .i64 x16, .int .i64 x17, .int .i64 x18, .int .i64 x19, .string x20], .bool ok, .string text] w fun e w' => ∃ us : List Value, e = .returned (.tuple #[.agg us.toArray, .int .i64 0]) ∧ Own shMachine w' w.heap.size w'.heap.size us (1, x1, x2, x3, x4, x5, x6, (x7, x8, x9, x10), y11, x12, (x13, x14, x15), x16, x17, y18, 0, y20) ∧ Below w.heap.size w w' := by
  have HH := Lib.hid h; have HFF := Lib.hid hf
  clear h hf
  have T0 := Lib.hid (Two.start w 48 48 #[.int .i64 x0, .int .i64 x1, .slice A2 x2.length c2, .slice A3 x3.length c3, .slice A4 x4.length c4, .slice A5 x5.length c5, .slice A6 x6.length c6, .int .i64 x7, .slice A8 x8.length c8, .slice A9 x9.length c9, .slice A10 x10.length c10, .bool x11, .bool x12, .bool x13, .string x14, .slice A15 x15.length c15, .int .i64 x16, .int .i64 x17, .int .i64 x18, .int .i64 x19, .string x20] #[.int .i64 0, .int .i64 0, .slice none 0 0, .slice none 0 0, .slice none 0 0, .slice none 0 0, .slice none 0 0, .int .i64 0, .slice none 0 0, .slice none 0 0, .slice none 0 0, .bool false, .bool false, .bool false, .string ⟨#[]⟩, .slice none 0 0, .int .i64 0, .int .i64 0, .int .i64 0, .int .i64 0, .string ⟨#[]⟩])
  have E11 := Lib.hid e11; have E18 := Lib.hid e18; have E20 := Lib.hid e20
  clear e11 e18 e20
  have HX0 : Hid (x0 = 2) := Lib.hid h0
  clear h0
  have hq0 : (x0 != 2) = false := by simp [HX0.out]
  have HLG := Lib.hid (fun b c W hc => long_one b text c W hc)
  rw [decide_eq_false h64] at HLG
  have HZO : Hid (∀ u ∈ ([.int .i64 0, .int .i64 0, .slice none 0 0, .slice none 0 0, .slice none 0 0, .slice none 0 0, .slice none 0 0, .int .i64 0, .slice none 0 0, .slice none 0 0, .slice none 0 0, .bool false, .bool false, .bool false, .string ⟨#[]⟩, .slice none 0 0, .int .i64 0, .int .i64 0, .int .i64 0, .int .i64 0, .string ⟨#[]⟩] : List Value), u.oneCell' = true) := Lib.hid (by intro u hu; simp only [List.mem_cons, List.not_mem_nil, or_false] at hu; rcases hu with rfl | rfl | rfl | rfl | rfl | rfl | rfl | rfl | rfl | rfl | rfl | rfl | rfl | rfl | rfl | rfl | rfl | rfl | rfl | rfl | rfl <;> rfl)
  go_enter Tryz.func7, Tryz.ntmps7
  go_upto_region 1 with fail
  generalize ((w.alloc (.cells #[.int .i64 x0, .int .i64 x1, .slice A2 x2.length c2, .slice A3 x3.length c3, .slice A4 x4.length c4, .slice A5 x5.length c5, .slice A6 x6.length c6, .int .i64 x7, .slice A8 x8.length c8, .slice A9 x9.length c9, .slice A10 x10.length c10, .bool x11, .bool x12, .bool x13, .string x14, .slice A15 x15.length c15, .int .i64 x16, .int .i64 x17, .int .i64 x18, .int .i64 x19, .string x20] 48)).alloc (.cells #[.int .i64 0, .int .i64 0, .slice none 0 0, .slice none 0 0, .slice none 0 0, .slice none 0 0, .slice none 0 0, .int .i64 0, .slice none 0 0, .slice none 0 0, .slice none 0 0, .bool false, .bool false, .bool false, .string ⟨#[]⟩, .slice none 0 0, .int .i64 0, .int .i64 0, .int .i64 0, .int .i64 0, .string ⟨#[]⟩] 48)) = w0 at *
  go_wp2_with fail
  refine (HLG.out _ _ _ (cell_of_row _ _ _ _ _ _ (heap_alloc_new _ _))).mono ?_
  rintro e1 w1 ⟨rfl, q, rfl⟩
  have T0 := Lib.hid (show Two w ((w0.alloc (.cells #[.string text] 9)).drewN q) 48 48 #[.int .i64 x0, .int .i64 x1, .slice A2 x2.length c2, .slice A3 x3.length c3, .slice A4 x4.length c4, .slice A5 x5.length c5, .slice A6 x6.length c6, .int .i64 x7, .slice A8 x8.length c8, .slice A9 x9.length c9, .slice A10 x10.length c10, .bool x11, .bool x12, .bool x13, .string x14, .slice A15 x15.length c15, .int .i64 x16, .int .i64 x17, .int .i64 x18, .int .i64 x19, .string x20] #[.int .i64 0, .int .i64 0, .slice none 0 0, .slice none 0 0, .slice none 0 0, .slice none 0 0, .slice none 0 0, .int .i64 0, .slice none 0 0, .slice none 0 0, .slice none 0 0, .bool false, .bool false, .bool false, .string ⟨#[]⟩, .slice none 0 0, .int .i64 0, .int .i64 0, .int .i64 0, .int .i64 0, .string ⟨#[]⟩] from ((T0.out.call ((Below.refl _ _).alloc (Nat.le_refl _) _)).call (below_drewN' _ q)))
  generalize ((w0.alloc (.cells #[.string text] 9)).drewN q) = w0 at *
  have H19 := Lib.hid (show 1 ≤ x19 ∧ x19 ≤ 3 from by simpa [inB] using hb3)
  have f0 := T0.out.1.cell
  go_upto_region 5 with (first | (go_at_call 29; refine (within_any x19 1 3 _).mono ?_; rintro e2 w2 ⟨rfl, rfl⟩; rw [hb3]) | fail)
  clear f0
  refine wp_region_list ?_
  refine wpList_loadAll rfl 48 (.tmp 3) rfl w.heap.size rfl T0.out.1 Tryz.underlying48 rfl (by kernel_rfl) ?_
  simp only [Go.Act.put, List.setIfInBounds_toArray, List.set_cons_zero, List.set_cons_succ]
  go_wp2_with fail
  refine (copyMachine_f x0 x1 x2 x3 x4 x5 x6 x7 x8 x9 x10 x11 x12 x13 x14 x15 x16 x17 x18 x19 x20 A2 c2 A3 c3 A4 c4 A5 c5 A6 c6 A8 c8 A9 c9 A10 c10 A15 c15 lo hi _ (shMachine.R_below HH.out T0.out.2.2 hhi) (Nat.le_trans hhi T0.out.2.2.size) HFF.out).mono ?_
  rintro ea wa ⟨B2, d2, B3, d3, B4, d4, B5, d5, B6, d6, B8, d8, B9, d9, B10, d10, B15, d15, rfl, hka, hoa, hba⟩
  have TA := Lib.hid (T0.out.call hba)
  have hsa := hba.size
  have HOA := Lib.hid hoa
  have HKA := Lib.hid hka
  have hs0 := T0.out.2.1.lt
  clear T0 hba hoa hka
  go_wp2_with fail
  have HAN := answer_f ok text x0 x1 x2 x3 x4 x5 x6 x7 x8 x9 x10 x11 x12 x13 x14 x15 x16 x17 x18 x19 x20 B2 d2 B3 d3 B4 d4 B5 d5 B6 d6 B8 d8 B9 d9 B10 d10 B15 d15 (w0.heap.size + 1) _ HKA.out H19.out
  rw [← E11.out, ← E18.out, ← E20.out] at HAN
  refine HAN.mono ?_
  rintro eb wb ⟨rfl, hkb, hob⟩
  have hsb := hob.size
  have TB := Lib.hid (show Two w wb 48 48 #[.int .i64 x0, .int .i64 x1, .slice A2 x2.length c2, .slice A3 x3.length c3, .slice A4 x4.length c4, .slice A5 x5.length c5, .slice A6 x6.length c6, .int .i64 x7, .slice A8 x8.length c8, .slice A9 x9.length c9, .slice A10 x10.length c10, .bool x11, .bool x12, .bool x13, .string x14, .slice A15 x15.length c15, .int .i64 x16, .int .i64 x17, .int .i64 x18, .int .i64 x19, .string x20] #[.int .i64 0, .int .i64 0, .slice none 0 0, .slice none 0 0, .slice none 0 0, .slice none 0 0, .slice none 0 0, .int .i64 0, .slice none 0 0, .slice none 0 0, .slice none 0 0, .bool false, .bool false, .bool false, .string ⟨#[]⟩, .slice none 0 0, .int .i64 0, .int .i64 0, .int .i64 0, .int .i64 0, .string ⟨#[]⟩] from ⟨TA.out.1.outOf hob (by omega), TA.out.2.1.outOf hob (by omega), TA.out.2.2.trans (hob.below1 (by omega) (by omega))⟩)
  have HOB := Lib.hid (HOA.out.outOf hob (.inl (by omega)))
  have HKB := Lib.hid hkb
  clear TA HOA HKA hkb hob
  have HONE : Hid (∀ u ∈ ([.int .i64 1, .int .i64 x1, .slice B2 x2.length d2, .slice B3 x3.length d3, .slice B4 x4.length d4, .slice B5 x5.length d5, .slice B6 x6.length d6, .int .i64 x7, .slice B8 x8.length d8, .slice B9 x9.length d9, .slice B10 x10.length d10, .bool y11, .bool x12, .bool x13, .string x14, .slice B15 x15.length d15, .int .i64 x16, .int .i64 x17, .int .i64 y18, .int .i64 0, .string y20] : List Value), u.oneCell' = true) := Lib.hid (by intro u hu; simp only [List.mem_cons, List.not_mem_nil, or_false] at hu; rcases hu with rfl | rfl | rfl | rfl | rfl | rfl | rfl | rfl | rfl | rfl | rfl | rfl | rfl | rfl | rfl | rfl | rfl | rfl | rfl | rfl | rfl <;> rfl)
  go_upto_region 7 with fail
  refine wp_region_list ?_
  go_wp2_with (first | fail | (refine wpList_loadAll rfl 48 (.tmp 32) rfl (w0.heap.size + 1) rfl HKB.out Tryz.underlying48 rfl (by kernel_rfl) ?_; simp only [Go.Act.put, List.setIfInBounds_toArray, List.set_cons_zero, List.set_cons_succ]; refine wpList_storeAll rfl 48 (.tmp 6) (.tmp 33) rfl (w.heap.size + 1) #[.int .i64 1, .int .i64 x1, .slice B2 x2.length d2, .slice B3 x3.length d3, .slice B4 x4.length d4, .slice B5 x5.length d5, .slice B6 x6.length d6, .int .i64 x7, .slice B8 x8.length d8, .slice B9 x9.length d9, .slice B10 x10.length d10, .bool y11, .bool x12, .bool x13, .string x14, .slice B15 x15.length d15, .int .i64 x16, .int .i64 x17, .int .i64 y18, .int .i64 0, .string y20] rfl rfl TB.out.2.1 (by kernel_rfl) rfl HONE.out ?_; intro wF hbF hoF hzF))
  have HBF := Lib.hid hbF
  have hsF := hoF.size
  have HBB := Lib.hid (TB.out.2.2.trans (hoF.below1 (by omega) (by omega)))
  have HOF := Lib.hid ((HOB.out.outOf hoF (.inl (by omega))).more (lo' := w.heap.size) (by omega) (by omega : wa.heap.size ≤ wF.heap.size))
  refine bodyPost_ret (results_cell_tmp (P := Tryz.prog) rfl _ _ (w.heap.size + 1) 48 #[.int .i64 1, .int .i64 x1, .slice B2 x2.length d2, .slice B3 x3.length d3, .slice B4 x4.length d4, .slice B5 x5.length d5, .slice B6 x6.length d6, .int .i64 x7, .slice B8 x8.length d8, .slice B9 x9.length d9, .slice B10 x10.length d10, .bool y11, .bool x12, .bool x13, .string x14, .slice B15 x15.length d15, .int .i64 x16, .int .i64 x17, .int .i64 y18, .int .i64 0, .string y20] (0, 0) _ rfl HBF.out Tryz.underlying48 rfl (by kernel_rfl)) rfl ⟨_, rfl, ?_, HBB.out⟩
  exact shMachine_reO (y0 := 1) (y1 := x1) (y7 := x7) (y11 := y11) (y12 := x12) (y13 := x13) (y14 := x14) (y16 := x16) (y17 := x17) (y18 := y18) (y19 := 0) (y20 := y20) HOF.out

set_option maxRecDepth 100000 in
theorem specAnswerMachine_f (X : TyMachine) (ok : Bool) (text : ByteArray) (vs : List Value) (lo hi : Nat) (w : World) (h : shMachine.R w lo hi vs X) (hhi : hi ≤ w.heap.size) (hf : shMachine.fit 1048576 X) :
    Calls Tryz.prog 5 #[.agg vs.toArray, .bool ok, .string text] w fun e w' => ∃ us : List Value, e = .returned (.tuple #[.agg us.toArray, .int .i64 (ansP X ok text).2]) ∧ shMachine.R w' w.heap.size w'.heap.size us (ansP X ok text).1 ∧ Below w.heap.size w w' := by
  obtain ⟨x0, x1, x2, x3, x4, x5, x6, ⟨x7, x8, x9, x10⟩, x11, x12, ⟨x13, x14, x15⟩, x16, x17, x18, x19, x20⟩ := X
  obtain ⟨A2, c2, A3, c3, A4, c4, A5, c5, A6, c6, A8, c8, A9, c9, A10, c10, A15, c15, rfl, _⟩ := shMachine_R.1 h
  by_cases h64 : 64 < text.size
  · rw [show ansP (x0, x1, x2, x3, x4, x5, x6, (x7, x8, x9, x10), x11, x12, (x13, x14, x15), x16, x17, x18, x19, x20) ok text = (shMachine.d, 1) from if_pos h64]
    exact sAns_long ok text x0 x1 x2 x3 x4 x5 x6 x7 x8 x9 x10 x11 x12 x13 x14 x15 x16 x17 x18 x19 x20 A2 c2 A3 c3 A4 c4 A5 c5 A6 c6 A8 c8 A9 c9 A10 c10 A15 c15 lo hi w h hhi hf h64
  · by_cases hst : x0 = 2 ∧ inB x19 1 3 = true
    · have h2 : x0 = 2 ∧ 1 ≤ x19 ∧ x19 ≤ 3 := ⟨hst.1, by simpa [inB] using hst.2⟩
      rw [show ansP (x0, x1, x2, x3, x4, x5, x6, (x7, x8, x9, x10), x11, x12, (x13, x14, x15), x16, x17, x18, x19, x20) ok text = (ansM ok text (x0, x1, x2, x3, x4, x5, x6, (x7, x8, x9, x10), x11, x12, (x13, x14, x15), x16, x17, x18, x19, x20), 0) from (if_neg h64).trans (if_pos h2)]
      exact sAns_ok ok text x0 x1 x2 x3 x4 x5 x6 x7 x8 x9 x10 x11 x12 x13 x14 x15 x16 x17 x18 x19 x20 A2 c2 A3 c3 A4 c4 A5 c5 A6 c6 A8 c8 A9 c9 A10 c10 A15 c15 lo hi w h hhi hf h64 hst.1 hst.2 _ _ _ rfl rfl rfl
    · have h2 : ¬ (x0 = 2 ∧ 1 ≤ x19 ∧ x19 ≤ 3) := fun h => hst ⟨h.1, by simpa [inB] using h.2⟩
      rw [show ansP (x0, x1, x2, x3, x4, x5, x6, (x7, x8, x9, x10), x11, x12, (x13, x14, x15), x16, x17, x18, x19, x20) ok text = (shMachine.d, 5) from (if_neg h64).trans (if_neg h2)]
      exact sAns_bad ok text x0 x1 x2 x3 x4 x5 x6 x7 x8 x9 x10 x11 x12 x13 x14 x15 x16 x17 x18 x19 x20 A2 c2 A3 c3 A4 c4 A5 c5 A6 c6 A8 c8 A9 c9 A10 c10 A15 c15 lo hi w h hhi hf h64 hst

set_option maxRecDepth 100000 in
theorem implAnswerMachine_f (X : TyMachine) (ok : Bool) (text : ByteArray) (vs : List Value) (lo hi : Nat) (w : World) (h : shMachine.R w lo hi vs X) (hhi : hi ≤ w.heap.size) (hf : shMachine.fit 1048576 X) :
    Calls Tryz.prog 7 #[.agg vs.toArray, .bool ok, .string text] w fun e w' => ∃ us : List Value, e = .returned (.tuple #[.agg us.toArray, .int .i64 (ansP X ok text).2]) ∧ Own shMachine w' w.heap.size w'.heap.size us (ansP X ok text).1 ∧ Below w.heap.size w w' := by
  obtain ⟨x0, x1, x2, x3, x4, x5, x6, ⟨x7, x8, x9, x10⟩, x11, x12, ⟨x13, x14, x15⟩, x16, x17, x18, x19, x20⟩ := X
  obtain ⟨A2, c2, A3, c3, A4, c4, A5, c5, A6, c6, A8, c8, A9, c9, A10, c10, A15, c15, rfl, _⟩ := shMachine_R.1 h
  by_cases h64 : 64 < text.size
  · rw [show ansP (x0, x1, x2, x3, x4, x5, x6, (x7, x8, x9, x10), x11, x12, (x13, x14, x15), x16, x17, x18, x19, x20) ok text = (shMachine.d, 1) from if_pos h64]
    exact iAns_long ok text x0 x1 x2 x3 x4 x5 x6 x7 x8 x9 x10 x11 x12 x13 x14 x15 x16 x17 x18 x19 x20 A2 c2 A3 c3 A4 c4 A5 c5 A6 c6 A8 c8 A9 c9 A10 c10 A15 c15 lo hi w h hhi hf h64
  · by_cases hst : x0 = 2 ∧ inB x19 1 3 = true
    · have h2 : x0 = 2 ∧ 1 ≤ x19 ∧ x19 ≤ 3 := ⟨hst.1, by simpa [inB] using hst.2⟩
      rw [show ansP (x0, x1, x2, x3, x4, x5, x6, (x7, x8, x9, x10), x11, x12, (x13, x14, x15), x16, x17, x18, x19, x20) ok text = (ansM ok text (x0, x1, x2, x3, x4, x5, x6, (x7, x8, x9, x10), x11, x12, (x13, x14, x15), x16, x17, x18, x19, x20), 0) from (if_neg h64).trans (if_pos h2)]
      exact iAns_ok ok text x0 x1 x2 x3 x4 x5 x6 x7 x8 x9 x10 x11 x12 x13 x14 x15 x16 x17 x18 x19 x20 A2 c2 A3 c3 A4 c4 A5 c5 A6 c6 A8 c8 A9 c9 A10 c10 A15 c15 lo hi w h hhi hf h64 hst.1 hst.2 _ _ _ rfl rfl rfl
    · have h2 : ¬ (x0 = 2 ∧ 1 ≤ x19 ∧ x19 ≤ 3) := fun h => hst ⟨h.1, by simpa [inB] using h.2⟩
      rw [show ansP (x0, x1, x2, x3, x4, x5, x6, (x7, x8, x9, x10), x11, x12, (x13, x14, x15), x16, x17, x18, x19, x20) ok text = (shMachine.d, 5) from (if_neg h64).trans (if_neg h2)]
      exact iAns_bad ok text x0 x1 x2 x3 x4 x5 x6 x7 x8 x9 x10 x11 x12 x13 x14 x15 x16 x17 x18 x19 x20 A2 c2 A3 c3 A4 c4 A5 c5 A6 c6 A8 c8 A9 c9 A10 c10 A15 c15 lo hi w h hhi hf h64 hst

end Go.Proofs.YtlodlplfmpikjaaGreat
