/- A whole block loaded, a whole block stored: for values of many cells. Over any program. -/
import Derived.Test.YtgnmollbnopigaaGreatJoinSSAh
import Derived.Laws.Tables
import Derived.Deep.DeepCutAuto
import Derived.Deep.CutBlock
import Derived.Test.YtgnmollbnopigaaGreatJoinSSAg
import Derived.Test.YtgnmollbnopigaaGreatJoinSSAe
import Derived.Deep.MidRow
namespace Go.Proofs.YtgnmollbnopigaaGreat
open Go.RowKit
section
variable {P : Program}
theorem out_setRow (w : World) (g : Nat) (cs : Array Value) : Out [g] w (w.setRow g cs) :=
 ⟨rfl, rfl, rfl, by simp, fun b _ hb => setRow_other w g b cs (by simpa using hb)⟩
theorem wpList_loadAll {ops : Array Oper} {rest : List Oper} {o : Oper} {a : Go.Act} {w : World} {Q : Exit → Go.Act → World → Prop} (hgd : o.guard = none) (ty : TypeId) (x : Operand) (ho : o.op = .load ty x)
  (g : Nat) (hx : a.eval x = .pointer (some ⟨g, 0, none⟩)) {t : TypeId} {cs : Array Value} {d : TypeDesc} (hg : Blk w g t cs) (hu : P.underlying ty = some d) (hd : (match d with | .struct _ | .array _ _ => true | _ => false) = true)
  (hi : (P.info? ty).map (·.size) = some cs.size) (h : wpList P ops Q rest (a.put o.dst (.agg cs)) w) : wpList P ops Q (o :: rest) a w :=
 wpList_load_row hgd ty x ho g hx t cs (0, 0) d hg hu hd hi h
theorem wpList_storeAll {ops : Array Oper} {rest : List Oper} {o : Oper} {a : Go.Act} {w : World} {Q : Exit → Go.Act → World → Prop} (hgd : o.guard = none) (ty : TypeId) (x y : Operand) (ho : o.op = .store ty x y)
  (g : Nat) (cells : Array Value) (hx : a.eval x = .pointer (some ⟨g, 0, none⟩)) (hy : a.eval y = .agg cells) {t : TypeId} {old : Array Value} (hg : Blk w g t old) (hi : (P.info? ty).map (·.size) = some cells.size)
  (hold : old.size = cells.size) (h1 : ∀ u ∈ cells.toList, u.oneCell' = true)
  (h : ∀ w', Blk w' g t cells → Out [g] w w' → w'.heap.size = w.heap.size → wpList P ops Q rest (a.put o.dst undef) w') : wpList P ops Q (o :: rest) a w :=
 wpList_store_row hgd ty x y ho g cells hx hy t old hg hi hold (Array.all_eq_true_iff_forall_mem.2 fun u hu => h1 u (by simpa using hu)) (h _ (setRow_heap w g old cells t (0, 0) hg) (out_setRow w g cells) (by simp))
end
theorem Out.below1 {g B : Nat} {w w' : World} (h : Out [g] w w') (hB : B ≤ g) (hs : B ≤ w.heap.size) : Below B w w' :=
 ⟨h.os, h.tape, h.output, h.size, fun b hb => h.block b (by omega) (by simp; omega)⟩
theorem Blk.outOf {w w' : World} {g b : Nat} {t : TypeId} {cs : Array Value} (h : Blk w b t cs) (ho : Out [g] w w') (hb : b ≠ g) : Blk w' b t cs := (ho.block b h.lt (by simpa using hb)).trans h
theorem Own.outOf {α : Type} {s : Sh α} {w w' : World} {g lo hi : Nat} {vs : List Value} {x : α} (h : Own s w lo hi vs x) (ho : Out [g] w w') (hg : g < lo ∨ hi ≤ g) : Own s w' lo hi vs x := by
 obtain ⟨F, h1, h2, h3⟩ := h
 exact ⟨F, s.O_keep h1 fun b hb => ho.block b (s.O_lt h1 b hb) (by have := h3 b hb; simp; omega), h2, h3⟩
theorem Three.store1_all {w0 w w' : World} {t0 t1 t2 : TypeId} {c0 c1 c2 cs : Array Value} (h : Three w0 w t0 t1 t2 c0 c1 c2) (hb : Blk w' (w0.heap.size + 1) t1 cs) (ho : Out [w0.heap.size + 1] w w') : Three w0 w' t0 t1 t2 c0 cs c2 :=
 ⟨h.1.outOf ho (by omega), hb, h.2.2.1.outOf ho (by omega), h.2.2.2.trans (ho.below1 (by omega) h.2.2.2.size)⟩
def OwnS {α : Type} (s : Sh α) (w : World) (S : Nat → Prop) (vs : List Value) (x : α) : Prop := ∃ F, s.O w F vs x ∧ F.Nodup ∧ ∀ b ∈ F, S b
section
variable {α β : Type} {s : Sh α} {s' : Sh β} {w : World} {lo hi : Nat} {vs ws : List Value} {x : α} {y : β} {S S' : Nat → Prop}
theorem OwnS.own (h : OwnS s w S vs x) (hs : ∀ b, S b → lo ≤ b ∧ b < hi) : Own s w lo hi vs x := by
 obtain ⟨F, h1, h2, h3⟩ := h
 exact ⟨F, h1, h2, fun b hb => hs b (h3 b hb)⟩
theorem OwnS.one {enc : α → Value} {d : α} {m : Nat → α} {co : α → Nat} {h1 : ∀ x, (enc x).oneCell' = true} (w : World) (x : α) : OwnS (Sh.one enc d m co h1) w (fun _ => False) [enc x] x :=
 ⟨[], ⟨rfl, rfl⟩, List.nodup_nil, fun b hb => by cases hb⟩
theorem OwnS.prod (h1 : OwnS s w S vs x) (h2 : OwnS s' w S' ws y) (hd : ∀ b, S b → S' b → False) : OwnS (s.prod s') w (fun b => S b ∨ S' b) (vs ++ ws) (x, y) := by
 obtain ⟨F1, o1, n1, r1⟩ := h1
 obtain ⟨F2, o2, n2, r2⟩ := h2
 refine ⟨F1 ++ F2, ⟨vs, ws, F1, F2, rfl, rfl, o1, o2⟩, List.nodup_append.2 ⟨n1, n2, fun c hc c' hc' e => ?_⟩, fun c hc => ?_⟩
 ·subst e; exact hd c (r1 c hc) (r2 c hc')
 ·rcases List.mem_append.1 hc with hc | hc
  ·exact .inl (r1 c hc)
  ·exact .inr (r2 c hc)
end
end Go.Proofs.YtgnmollbnopigaaGreat
/- A whole block loaded where the load has a guard, or in a region that draws; a new block that is stored whole: for values whose cells are not spelled out. Over any program. -/
namespace Go.Proofs.YtgnmollbnopigaaGreat
open Go.RowKit
section
variable {P : Program}
theorem exec_loadAll {o : Oper} {a : Go.Act} {w : World} (ty : TypeId) (x : Operand) (ho : o.op = .load ty x)
  (g : Nat) (hx : a.eval x = .pointer (some ⟨g, 0, none⟩)) {t : TypeId} {cs : Array Value} {d : TypeDesc} (hg : Blk w g t cs) (hu : P.underlying ty = some d) (hd : (match d with | .struct _ | .array _ _ => true | _ => false) = true)
  (hi : (P.info? ty).map (·.size) = some cs.size) : (execOp a.eval o).run P w = .ok (.value (.agg cs)) w := by
 unfold execOp
 simp only [ho, hx, Instr.loadAt, Instr.sureAddr, Sem.run_bind, Sem.run_pure, Result.andThen_ok, run_loadVar_row w g t ty cs (0, 0) d hg hu hd hi]
theorem size_of {α : Type} {s : Sh α} {w : World} {lo hi : Nat} {vs : List Value} {x : α} {ty : TypeId} (hi' : (P.info? ty).map (·.size) = some s.k) (h : s.R w lo hi vs x) : (P.info? ty).map (·.size) = some vs.toArray.size := by
 rw [hi', List.size_toArray, s.R_len h]
end
section
variable {w0 w w' : World} {Fs : Facts}
theorem Stand.store (h : Stand w0 Fs w) {t : TypeId} {cs zs : Array Value} (hb : Blk w' w.heap.size t cs) (ho : Out [w.heap.size] (w.alloc (.cells zs t)) w') :
  Stand w0 ((w.heap.size, w.heap.size + 1, fun W => Blk W w.heap.size t cs) :: Fs) w' :=
 (h.below (((Below.refl w.heap.size w).alloc (Nat.le_refl _) (.cells zs t)).trans (ho.below1 (Nat.le_refl _) (by simp)))).add _ _ _ (loc_blk _ _ _) (by have := ho.size; simp at this; omega) hb
end
end Go.Proofs.YtgnmollbnopigaaGreat
/- Ranges of cells: values of many cells whose fields are not spelled out. Over any program. -/
namespace Go.Proofs.YtgnmollbnopigaaGreat
open Go.RowKit
theorem blk_all {w : World} {b : Nat} {t : TypeId} {vs : List Value} (h : Blk w b t vs.toArray) : w.rangeAt b 0 vs := fun j v hj => by
 rw [h.cell, Nat.zero_add]; simpa using hj
theorem rng_split {w : World} {b o n : Nat} {us ws : List Value} (hl : us.length = n) (h : w.rangeAt b o (us ++ ws)) : w.rangeAt b o us ∧ w.rangeAt b (o + n) ws := by
 refine ⟨fun j v hj => h j v ?_, fun j v hj => ?_⟩
 ·rw [List.getElem?_append_left (List.getElem?_eq_some_iff.1 hj).1]; exact hj
 ·have := h (n + j) v (by rw [List.getElem?_append_right (by omega), hl, Nat.add_sub_cancel_left]; exact hj)
  rwa [← Nat.add_assoc] at this
theorem rng_one {w : World} {b o : Nat} {v : Value} (h : w.rangeAt b o [v]) : w.cell? ⟨b, o, none⟩ = some v := by
 simpa using h 0 v rfl
theorem rng_of {w : World} {b o : Nat} {vs : List Value} (h : CellsAt w b o vs) : w.rangeAt b o vs := fun j _ hj => (h j (List.getElem?_eq_some_iff.1 hj).1).trans hj
theorem there_blk {w : World} {b o n : Nat} {t : TypeId} {cs : Array Value} (h : Blk w b t cs) (hn : o + n ≤ cs.size) : w.there b o n := fun j hj => by
 refine ⟨?_, h.frozen _⟩
 rw [h.cell, Array.getElem?_eq_getElem (by omega)]; rfl
theorem setCells_out (b : Nat) : ∀ (us : List Value) (o : Nat) (w : World), Out [b] w (w.setCells b o us) ∧ (w.setCells b o us).heap.size = w.heap.size
 | [], _, w => ⟨⟨rfl, rfl, rfl, Nat.le_refl _, fun _ _ _ => rfl⟩, rfl⟩
 | u :: us, o, w => by
  obtain ⟨h, hz⟩ := setCells_out b us (o + 1) (w.setCell ⟨b, o, none⟩ u)
  have hs : (w.setCell ⟨b, o, none⟩ u).heap.size = w.heap.size := by simp [World.setCell]
  have h5 := h.size
  rw [hs] at h5
  exact ⟨⟨h.os, h.tape, h.output, h5, fun k hk hn => (h.block k (by omega) hn).trans (Below.heap_setCell w ⟨b, o, none⟩ u k (by simpa using hn))⟩, by rw [← hs]; exact hz⟩
theorem blk_put1 {w : World} {b o : Nat} {t : TypeId} {pre post : List Value} {old : Value} (h : Blk w b t (pre ++ ([old] ++ post)).toArray) (ho : pre.length = o) (v : Value) : Blk (w.setCell ⟨b, o, none⟩ v) b t (pre ++ ([v] ++ post)).toArray := by
 have := h.set_ o v
 subst ho
 rw [List.setIfInBounds_toArray] at this
 simpa using this
theorem blk_put {b : Nat} {t : TypeId} : ∀ (us old : List Value) (pre post : List Value) (w : World) (o : Nat), Blk w b t (pre ++ (old ++ post)).toArray → pre.length = o → old.length = us.length → Blk (w.setCells b o us) b t (pre ++ (us ++ post)).toArray
 | [], old, pre, post, w, o, h, _, hl => by
  have : old = [] := List.eq_nil_of_length_eq_zero hl
  subst this; exact h
 | u :: us, [], pre, post, w, o, h, ho, hl => by simp at hl
 | u :: us, x :: old, pre, post, w, o, h, ho, hl => by
  have h1 := blk_put1 (post := old ++ post) (by simpa using h) ho u
  have h2 := blk_put us old (pre ++ [u]) post (w.setCell ⟨b, o, none⟩ u) (o + 1) (by simpa using h1) (by simp [ho]) (by simpa using hl)
  simpa [World.setCells] using h2
theorem blk_cell {w : World} {b o : Nat} {t : TypeId} {pre post : List Value} {v : Value} (h : Blk w b t (pre ++ ([v] ++ post)).toArray) (ho : pre.length = o) : w.cell? ⟨b, o, none⟩ = some v := by
 subst ho
 rw [h.cell]; simp
theorem blk_next {w : World} {b : Nat} {t : TypeId} {pre v rest : List Value} (h : Blk w b t (pre ++ (v ++ rest)).toArray) : Blk w b t ((pre ++ v) ++ rest).toArray := by
 rwa [List.append_assoc]
theorem there_mid {w : World} {b o n : Nat} {t : TypeId} {pre old post : List Value} (h : Blk w b t (pre ++ (old ++ post)).toArray) (ho : pre.length = o) (hl : old.length = n) : w.there b o n :=
 there_blk h (by simp; omega)
section
variable {w0 w w' : World} {Fs : Facts}
theorem Stand.out {g : Nat} (h : Stand w0 Fs w) (ho : Out [g] w w') (h0 : w0.heap.size ≤ g) (hd : ∀ f ∈ Fs, f.2.1 ≤ g ∨ g + 1 ≤ f.1) : Stand w0 Fs w' :=
 h.within (a := g) (b := g + 1) ⟨ho.os, ho.tape, ho.output, ho.size, fun k hk h => ho.block k hk (by simp; omega)⟩ h0 hd
theorem Stand.set1 {g o : Nat} (h : Stand w0 Fs w) (v : Value) (h0 : w0.heap.size ≤ g) (hd : ∀ f ∈ Fs, f.2.1 ≤ g ∨ g + 1 ≤ f.1) : Stand w0 Fs (w.setCell ⟨g, o, none⟩ v) :=
 h.out (g := g) ⟨rfl, rfl, rfl, by simp [World.setCell], fun k _ hn => Below.heap_setCell w ⟨g, o, none⟩ v k (by simpa using hn)⟩ h0 hd
end
theorem row_at {α : Type} {s : Sh α} {w : World} {lo hi : Nat} {A : Option Addr} {n c : Nat} {xs : List α} {t : TypeId} (h : (Sh.row t s).R w lo hi [.slice A n c] xs) {j : Nat} (hj : j < n) :
  ∃ b off, A = some ⟨b, off, none⟩ ∧ lo ≤ b ∧ b < hi ∧ ∃ us, CellsAt w b (off + j * s.k) us ∧ s.R w lo hi us (xs.getD j s.d) := by
 obtain ⟨A', c', e, h⟩ := h
 injection e with e _
 injection e with e1 e2 e3
 subst e1 e2
 obtain ⟨b, off, rfl, h1, h2, hc⟩ := h (by omega)
 exact ⟨b, off, rfl, h1, h2, hc j hj⟩
theorem rng_below {w w' : World} {b o B : Nat} {us : List Value} (h : w.rangeAt b o us) (hb : Below B w w') (hB : b < B) : w'.rangeAt b o us := fun j v hj => (hb.cell (p := ⟨b, o + j, none⟩) hB).trans (h j v hj)
structure FillR {α : Type} (s : Sh α) (w : World) (g : Nat) (xs : List α) (j : Nat) : Prop where
 lt : g < w.heap.size
 th : w.there g 0 (xs.length * s.k)
 el : ∀ i, i < j → ∃ us, w.rangeAt g (i * s.k) us ∧ us.length = s.k ∧ s.R w (g + 1) w.heap.size us (xs.getD i s.d)
section
variable {α : Type} {s : Sh α} {w w' : World} {g j : Nat} {xs : List α}
theorem FillR.start {t : TypeId} {cs : Array Value} (h : Blk w g t cs) (hs : cs.size = xs.length * s.k) : FillR s w g xs 0 := ⟨h.lt, there_blk h (by omega), fun i hi => absurd hi (by omega)⟩
theorem FillR.below (h : FillR s w g xs j) (hb : Below w.heap.size w w') : FillR s w' g xs j :=
 ⟨Nat.lt_of_lt_of_le h.lt hb.size, fun i hi => by
  have := h.th i hi
  exact ⟨by rw [hb.cell (p := ⟨g, 0 + i, none⟩) h.lt]; exact this.1, by rw [World.frozen?_of_block (a := ⟨g, 0 + i, none⟩) (hb.block g h.lt)]; exact this.2⟩, fun i hi => by
  obtain ⟨us, h1, h2, h3⟩ := h.el i hi
  exact ⟨us, rng_below h1 hb h.lt, h2, s.R_more (s.R_keep h3 fun b _ q => hb.block b q) (Nat.le_refl _) hb.size⟩⟩
theorem FillR.room (h : FillR s w g xs j) (hj : j < xs.length) {n : Nat} (hn : n = s.k) : w.there g (j * s.k) n := fun i hi => by
 have := h.th (j * s.k + i) (mul_lt hj (by omega))
 rwa [Nat.zero_add] at this
theorem FillR.add (h : FillR s w g xs j) {us : List Value} {lo : Nat} (hlo : g + 1 ≤ lo) (hj : j < xs.length) (hR : s.R w lo w.heap.size us (xs.getD j s.d)) : FillR s (w.setCells g (j * s.k) us) g xs (j + 1) := by
 obtain ⟨ho, hz⟩ := setCells_out g us (j * s.k) w
 have hk : ∀ b, g + 1 ≤ b → b < w.heap.size → (w.setCells g (j * s.k) us).heap[b]? = w.heap[b]? := fun b q1 q2 => ho.block b q2 (by simp; omega)
 refine ⟨by rw [hz]; exact h.lt, World.there_setCells h.th _ _ _, fun i hi => ?_⟩
 rw [hz]
 rcases Nat.lt_or_ge i j with hij | hij
 ·obtain ⟨vs, h1, h2, h3⟩ := h.el i hij
  have h4 : (i + 1) * s.k ≤ j * s.k := Nat.mul_le_mul_right _ hij
  rw [Nat.add_mul] at h4
  exact ⟨vs, World.rangeAt_setCells_apart h1 _ _ _ (.inr (.inl (by omega))), h2, s.R_keep h3 hk⟩
 ·obtain rfl : i = j := by omega
  exact ⟨us, World.rangeAt_setCells_same _ _ _ _ (h.room hj (s.R_len hR)), s.R_len hR, s.R_keep (s.R_more hR hlo (Nat.le_refl _)) hk⟩
theorem FillR.done {t : TypeId} (h : FillR s w g xs xs.length) {lo : Nat} (hlo : lo ≤ g) : (Sh.row t s).R w lo w.heap.size [.slice (some ⟨g, 0, none⟩) xs.length xs.length] xs :=
 ⟨_, _, rfl, fun _ => ⟨g, 0, rfl, hlo, h.lt, fun i hi => by
  obtain ⟨us, h1, h2, h3⟩ := h.el i hi
  refine ⟨us, fun q hq => ?_, s.R_more h3 (by omega) (Nat.le_refl _)⟩
  rw [Nat.zero_add, List.getElem?_eq_getElem hq]
  exact h1 q _ (List.getElem?_eq_getElem hq)⟩⟩
end
section
variable {P : Program}
theorem size_len {α : Type} {s : Sh α} {w : World} {lo hi : Nat} {vs : List Value} {x : α} {ty : TypeId} (hi' : (P.info? ty).map (·.size) = some s.k) (h : s.R w lo hi vs x) : (P.info? ty).map (·.size) = some vs.length := by
 rw [hi', s.R_len h]
theorem size_arr {α : Type} {s : Sh α} {w : World} {lo hi : Nat} {vs : List Value} {x : α} {ty : TypeId} (hi' : (P.info? ty).map (·.size) = some s.k) (h : s.R w lo hi vs x) : (P.info? ty).map (·.size) = some vs.toArray.size := by
 rw [hi', List.size_toArray, s.R_len h]
theorem exec_loadMid {o : Oper} {a : Go.Act} {w : World} (ty : TypeId) (x : Operand) (ho : o.op = .load ty x) (b off : Nat) (hx : a.eval x = .pointer (some ⟨b, off, none⟩)) (cs : List Value) {d : TypeDesc} (hc : w.rangeAt b off cs)
  (hu : P.underlying ty = some d) (hd : d.isRow = true) (hi : (P.info? ty).map (·.size) = some cs.length) : (execOp a.eval o).run P w = .ok (.value (.agg cs.toArray)) w := by
 unfold execOp
 simp only [ho, hx, Instr.loadAt, Instr.sureAddr, Sem.run_bind, Sem.run_pure, Result.andThen_ok, run_loadVar_mid w b off ty cs d hc hu hd hi]
end
theorem wpList_load_midG {P : Program} {ops : Array Oper} {rest : List Oper} {op : Oper} {a : Go.Act} {w : World} {Q : Exit → Go.Act → World → Prop} (hw : Region.wanted op (yielded ops a.tmps) = true) (ty : TypeId) (x : Operand) (ho : op.op = .load ty x)
  (b o : Nat) (hx : a.eval x = .pointer (some ⟨b, o, none⟩)) (cs : List Value) (d : TypeDesc) (hc : w.rangeAt b o cs)
  (hu : P.underlying ty = some d) (hd : d.isRow = true) (hi : (P.info? ty).map (·.size) = some cs.length)
  (h : wpList P ops Q rest (a.put op.dst (.agg cs.toArray)) w) : wpList P ops Q (op :: rest) a w := by
 simp only [wpList, hw, if_true]
 exact .inl (wp_load_mid ty x ho b o hx cs d hc hu hd hi h)
theorem cpyF {w : World} {t : TypeId} {Z : Array Value} {us : List Value} (h : (w.alloc (.cells Z t)).there w.heap.size 0 us.toArray.size) :
  Below w.heap.size w ((w.alloc (.cells Z t)).setCells w.heap.size 0 us) ∧ ((w.alloc (.cells Z t)).setCells w.heap.size 0 us).rangeAt w.heap.size 0 us ∧ w.heap.size + 1 ≤ ((w.alloc (.cells Z t)).setCells w.heap.size 0 us).heap.size :=
 ⟨((Below.refl _ _).alloc (Nat.le_refl _) _).trans ((setCells_out w.heap.size us 0 (w.alloc (.cells Z t))).1.below1 (Nat.le_refl _) (by simp)), World.rangeAt_setCells_same _ _ _ _ (by simpa using h), by rw [(setCells_out _ _ _ _).2]; simp⟩
theorem elF {α : Type} {s : Sh α} {w : World} {lo hi b o : Nat} {vs : List Value} {x : α} {P : Program} {ty : TypeId} (hi' : (P.info? ty).map (·.size) = some s.k) (hc : CellsAt w b o vs) (h : s.R w lo hi vs x) :
  Hid (w.rangeAt b o vs) ∧ Hid ((P.info? ty).map (·.size) = some vs.length) ∧ Hid ((P.info? ty).map (·.size) = some vs.toArray.size) ∧ Hid (vs.toArray.all (·.oneCell') = true) :=
 ⟨Lib.hid (rng_of hc), Lib.hid (size_len hi' h), Lib.hid (size_arr hi' h), Lib.hid (all_oneCell_toArray (s.R_one h))⟩
theorem rsp {w : World} {b o n : Nat} {vs us ws : List Value} (e : vs = us ++ ws) (hl : us.length = n) (h : w.rangeAt b o vs) : w.rangeAt b o us ∧ w.rangeAt b (o + n) ws := rng_split hl (e ▸ h)
theorem slH {α : Type} {s : Sh α} {w : World} {lo hi : Nat} {vs : List Value} {x : α} {P : Program} {ty : TypeId} (hi' : (P.info? ty).map (·.size) = some s.k) (h : s.R w lo hi vs x) : Hid ((P.info? ty).map (·.size) = some vs.length) := Lib.hid (size_len hi' h)
theorem saH {α : Type} {s : Sh α} {w : World} {lo hi : Nat} {vs : List Value} {x : α} {P : Program} {ty : TypeId} (hi' : (P.info? ty).map (·.size) = some s.k) (h : s.R w lo hi vs x) : Hid ((P.info? ty).map (·.size) = some vs.toArray.size) := Lib.hid (size_arr hi' h)
theorem fa1 {α : Type} {p : α → Prop} (a : α) (l : List α) : (∀ x ∈ a :: l, p x) ↔ p a ∧ ∀ x ∈ l, p x := by simp
theorem fa2 {α : Type} {p : α → Prop} : (∀ x ∈ ([] : List α), p x) ↔ True := by simp
theorem wlg {P : Program} {ops : Array Oper} {rest : List Oper} {op : Oper} {a : Go.Act} {w : World} {Q : Exit → Go.Act → World → Prop} (b o : Nat) (cs : List Value) {ty : TypeId} {x : Operand} {d : TypeDesc} (hc : w.rangeAt b o cs)
  (hu : P.underlying ty = some d) (hi : (P.info? ty).map (·.size) = some cs.length) (h : wpList P ops Q rest (a.put op.dst (.agg cs.toArray)) w)
  (ho : op.op = .load ty x := by rfl) (hx : a.eval x = .pointer (some ⟨b, o, none⟩) := by rfl) (hd : d.isRow = true := by rfl) (hw : Region.wanted op (yielded ops a.tmps) = true := by rfl) : wpList P ops Q (op :: rest) a w :=
 wpList_load_midG hw ty x ho b o hx cs d hc hu hd hi h
end Go.Proofs.YtgnmollbnopigaaGreat
