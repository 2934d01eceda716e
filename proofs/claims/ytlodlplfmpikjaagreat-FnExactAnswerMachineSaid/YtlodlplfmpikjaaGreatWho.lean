/- A whole block loaded, a whole block stored: for values of many cells. Over any program. -/
import Derived.Test.YtlodlplfmpikjaaGreatGro
import Derived.Laws.Tables
import Derived.Deep.DeepCutAuto
import Derived.Deep.CutBlock
namespace Go.Proofs.YtlodlplfmpikjaaGreat
open Go.RowKit

section
variable {P : Program}
theorem out_setRow (w : World) (g : Nat) (cs : Array Value) : Out [g] w (w.setRow g cs) :=
  ⟨rfl, rfl, rfl, by simp, fun b _ hb => setRow_other w g b cs (by simpa using hb)⟩

/-- The load of a struct at the head of a block that holds just it. -/
theorem wpList_loadAll {ops : Array Oper} {rest : List Oper} {o : Oper} {a : Go.Act} {w : World} {Q : Exit → Go.Act → World → Prop} (hgd : o.guard = none) (ty : TypeId) (x : Operand) (ho : o.op = .load ty x)
    (g : Nat) (hx : a.eval x = .pointer (some ⟨g, 0, none⟩)) {t : TypeId} {cs : Array Value} {d : TypeDesc} (hg : Blk w g t cs) (hu : P.underlying ty = some d) (hd : (match d with | .struct _ | .array _ _ => true | _ => false) = true)
    (hi : (P.info? ty).map (·.size) = some cs.size) (h : wpList P ops Q rest (a.put o.dst (.agg cs)) w) : wpList P ops Q (o :: rest) a w :=
  wpList_load_row hgd ty x ho g hx t cs (0, 0) d hg hu hd hi h

/-- The store of a struct at the head of a block that holds just it. -/
theorem wpList_storeAll {ops : Array Oper} {rest : List Oper} {o : Oper} {a : Go.Act} {w : World} {Q : Exit → Go.Act → World → Prop} (hgd : o.guard = none) (ty : TypeId) (x y : Operand) (ho : o.op = .store ty x y)
    (g : Nat) (cells : Array Value) (hx : a.eval x = .pointer (some ⟨g, 0, none⟩)) (hy : a.eval y = .agg cells) {t : TypeId} {old : Array Value} (hg : Blk w g t old) (hi : (P.info? ty).map (·.size) = some cells.size)
    (hold : old.size = cells.size) (h1 : ∀ u ∈ cells.toList, u.oneCell' = true)
    (h : ∀ w', Blk w' g t cells → Out [g] w w' → w'.heap.size = w.heap.size → wpList P ops Q rest (a.put o.dst undef) w') : wpList P ops Q (o :: rest) a w :=
  wpList_store_row hgd ty x y ho g cells hx hy t old hg hi hold (Array.all_eq_true_iff_forall_mem.2 fun u hu => h1 u (by simpa using hu)) (h _ (setRow_heap w g old cells t (0, 0) hg) (out_setRow w g cells) (by simp))
end

theorem Out.below1 {g B : Nat} {w w' : World} (h : Out [g] w w') (hB : B ≤ g) (hs : B ≤ w.heap.size) : Below B w w' :=
  ⟨h.os, h.tape, h.output, h.size, fun b hb => h.block b (by omega) (by simp; omega)⟩
theorem Blk.outOf {w w' : World} {g b : Nat} {t : TypeId} {cs : Array Value} (h : Blk w b t cs) (ho : Out [g] w w') (hb : b ≠ g) : Blk w' b t cs := (ho.block b h.lt (by simpa using hb)).trans h
theorem Own.outOf {α : Type} {s : Sh α} {w w' : World} {g lo hi : Nat} {vs : List Value} {x : α} (h : Own s w lo hi vs x) (ho : Out [g] w w') (hg : g < lo ∨ hi ≤ g) : Own s w' lo hi vs x := by
  obtain ⟨F, h1, h2, h3⟩ := h
  exact ⟨F, s.O_keep h1 fun b hb => ho.block b (s.O_lt h1 b hb) (by have := h3 b hb; simp; omega), h2, h3⟩
theorem Three.store1_all {w0 w w' : World} {t0 t1 t2 : TypeId} {c0 c1 c2 cs : Array Value} (h : Three w0 w t0 t1 t2 c0 c1 c2) (hb : Blk w' (w0.heap.size + 1) t1 cs) (ho : Out [w0.heap.size + 1] w w') : Three w0 w' t0 t1 t2 c0 cs c2 :=
  ⟨h.1.outOf ho (by omega), hb, h.2.2.1.outOf ho (by omega), h.2.2.2.trans (ho.below1 (by omega) h.2.2.2.size)⟩


/-- The value owns what hangs on it; which blocks, the predicate S says. -/
def OwnS {α : Type} (s : Sh α) (w : World) (S : Nat → Prop) (vs : List Value) (x : α) : Prop := ∃ F, s.O w F vs x ∧ F.Nodup ∧ ∀ b ∈ F, S b
section
variable {α β : Type} {s : Sh α} {s' : Sh β} {w : World} {lo hi : Nat} {vs ws : List Value} {x : α} {y : β} {S S' : Nat → Prop}
theorem Own.toS (h : Own s w lo hi vs x) : OwnS s w (fun b => lo ≤ b ∧ b < hi) vs x := h
theorem OwnS.own (h : OwnS s w S vs x) (hs : ∀ b, S b → lo ≤ b ∧ b < hi) : Own s w lo hi vs x := by
  obtain ⟨F, h1, h2, h3⟩ := h
  exact ⟨F, h1, h2, fun b hb => hs b (h3 b hb)⟩
theorem OwnS.one {enc : α → Value} {d : α} {m : Nat → α} {co : α → Nat} {h1 : ∀ x, (enc x).oneCell' = true} (w : World) (x : α) : OwnS (Sh.one enc d m co h1) w (fun _ => False) [enc x] x :=
  ⟨[], ⟨rfl, rfl⟩, List.nodup_nil, fun b hb => by cases hb⟩
theorem OwnS.prod (h1 : OwnS s w S vs x) (h2 : OwnS s' w S' ws y) (hd : ∀ b, S b → S' b → False) : OwnS (s.prod s') w (fun b => S b ∨ S' b) (vs ++ ws) (x, y) := by
  obtain ⟨F1, o1, n1, r1⟩ := h1
  obtain ⟨F2, o2, n2, r2⟩ := h2
  refine ⟨F1 ++ F2, ⟨vs, ws, F1, F2, rfl, rfl, o1, o2⟩, List.nodup_append.2 ⟨n1, n2, fun c hc c' hc' e => ?_⟩, fun c hc => ?_⟩
  · subst e; exact hd c (r1 c hc) (r2 c hc')
  · rcases List.mem_append.1 hc with hc | hc
    · exact .inl (r1 c hc)
    · exact .inr (r2 c hc)
end

end Go.Proofs.YtlodlplfmpikjaaGreat
