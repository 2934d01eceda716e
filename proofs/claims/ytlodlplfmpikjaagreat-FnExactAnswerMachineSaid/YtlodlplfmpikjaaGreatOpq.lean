/- A whole block loaded where the load has a guard, or in a region that draws; a new block that is stored whole: for values whose cells are not spelled out. Over any program. -/
import Derived.Test.YtlodlplfmpikjaaGreatFew
import Derived.Test.YtlodlplfmpikjaaGreatWho
import Derived.Test.YtlodlplfmpikjaaGreatTail
namespace Go.Proofs.YtlodlplfmpikjaaGreat
open Go.RowKit

section
variable {P : Program}
theorem wpList_loadW {ops : Array Oper} {rest : List Oper} {o : Oper} {a : Go.Act} {w : World} {Q : Exit → Go.Act → World → Prop} (ty : TypeId) (x : Operand) (ho : o.op = .load ty x) (hw : Region.wanted o (yielded ops a.tmps) = true)
    (g : Nat) (hx : a.eval x = .pointer (some ⟨g, 0, none⟩)) {t : TypeId} {cs : Array Value} {d : TypeDesc} (hg : Blk w g t cs) (hu : P.underlying ty = some d) (hd : (match d with | .struct _ | .array _ _ => true | _ => false) = true)
    (hi : (P.info? ty).map (·.size) = some cs.size) (h : wpList P ops Q rest (a.put o.dst (.agg cs)) w) : wpList P ops Q (o :: rest) a w := by
  simp only [wpList, hw, if_true]
  exact .inl (wp_load_row ty x ho g hx t cs (0, 0) d hg hu hd hi h)
theorem exec_loadAll {o : Oper} {a : Go.Act} {w : World} (ty : TypeId) (x : Operand) (ho : o.op = .load ty x)
    (g : Nat) (hx : a.eval x = .pointer (some ⟨g, 0, none⟩)) {t : TypeId} {cs : Array Value} {d : TypeDesc} (hg : Blk w g t cs) (hu : P.underlying ty = some d) (hd : (match d with | .struct _ | .array _ _ => true | _ => false) = true)
    (hi : (P.info? ty).map (·.size) = some cs.size) : (execOp a.eval o).run P w = .ok (.value (.agg cs)) w := by
  unfold execOp
  simp only [ho, hx, Instr.loadAt, Instr.sureAddr, Sem.run_bind, Sem.run_pure, Result.andThen_ok, run_loadVar_row w g t ty cs (0, 0) d hg hu hd hi]
theorem size_of {α : Type} {s : Sh α} {w : World} {lo hi : Nat} {vs : List Value} {x : α} {ty : TypeId} (hi' : (P.info? ty).map (·.size) = some s.k) (h : s.R w lo hi vs x) : (P.info? ty).map (·.size) = some vs.toArray.size := by
  rw [hi', List.size_toArray, s.R_len h]
end

section
variable {w0 w w' : World} {Fs : Facts}
/-- A new block, stored whole. -/
theorem Stand.store (h : Stand w0 Fs w) {t : TypeId} {cs zs : Array Value} (hb : Blk w' w.heap.size t cs) (ho : Out [w.heap.size] (w.alloc (.cells zs t)) w') :
    Stand w0 ((w.heap.size, w.heap.size + 1, fun W => Blk W w.heap.size t cs) :: Fs) w' :=
  (h.below (((Below.refl w.heap.size w).alloc (Nat.le_refl _) (.cells zs t)).trans (ho.below1 (Nat.le_refl _) (by simp)))).add _ _ _ (loc_blk _ _ _) (by have := ho.size; simp at this; omega) hb
end

end Go.Proofs.YtlodlplfmpikjaaGreat
