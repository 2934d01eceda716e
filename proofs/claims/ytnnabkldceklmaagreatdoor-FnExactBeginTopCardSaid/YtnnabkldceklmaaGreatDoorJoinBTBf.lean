/- A region that draws its order and whose orders all end alike: what stands behind it is stated once, in an order's own names. Over any program. -/
import Derived.Test.YtnnabkldceklmaaGreatDoorJoinBTBd
import Derived.Lib.AppendZeros
set_option maxHeartbeats 16000000
set_option maxRecDepth 100000
namespace Go.Proofs.YtnnabkldceklmaaGreatDoor
def Via {X : Type} (F : X → Go.Act) (R : X → World → Prop) : Exit → Go.Act → World → Prop := fun e a w => match e with | .normal => ∃ x, a = F x ∧ R x w | _ => False
theorem Via.normal {X : Type} {F : X → Go.Act} {R : X → World → Prop} {a : Go.Act} {w : World} (x : X) (h : a = F x) (hR : R x w) : Via F R .normal a w := ⟨x, h, hR⟩
theorem AnyT.via {P : Program} {ops : Array Oper} {Q : Exit → Go.Act → World → Prop} {id : Nat} {a : Go.Act} {w : World} {X : Type} (F : Go.Act → X → Go.Act) (R : X → World → Prop) (z : Nat → Bool) (S : World → Prop) (hm : P.follows .mixedOrders = true) (hS : S w.drew)
  (h : S w.drew → AnyT P .any ops (Via (F a) R) S z ops.size (Array.replicate ops.size false) a w.drew) (hq : ∀ x w', R x w' → Q .normal (F a x) w') : (Code.region id ops true).wp P Q a w := by
 refine Code.wp_mono (fun e a' w' hV => ?_) (AnyT.region z S hm hS h)
 cases e with
 | normal =>
  obtain ⟨x, rfl, hR⟩ := hV
  exact hq x w' hR
 | _ => exact hV.elim
section
variable {P : Program} {l : List Oper} {Q : Exit → Go.Act → World → Prop} {md : Region.Mode} {S : World → Prop} {z : Nat → Bool}
theorem AnyT.either {i j : Nat} {oi oj : Oper} {n : Nat} {listed : Array Bool} {a : Go.Act} {w : World} (hr : Region.ready md l.toArray listed = [i, j]) (hi : l[i]? = some oi) (hj : l[j]? = some oj)
  (h1 : ∀ K' : Go.Act → World → Prop, Shut (∀ a w, S w → (S w → AnyT P md l.toArray Q S z n (listed.setIfInBounds i true) a w) → K' a w) → if Region.wanted oi (yielded l.toArray a.tmps) = true then Oper.wp P oi a w K' Q else K' (a.put oi.dst undef) w)
  (h2 : ∀ K' : Go.Act → World → Prop, Shut (∀ a w, S w → (S w → AnyT P md l.toArray Q S z n (listed.setIfInBounds j true) a w) → K' a w) → if Region.wanted oj (yielded l.toArray a.tmps) = true then Oper.wp P oj a w K' Q else K' (a.put oj.dst undef) w) :
  AnyT P md l.toArray Q S z (n + 1) listed a w := by
 refine ⟨fun h0 => (by rw [hr] at h0; cases h0), fun k hk => ?_⟩
 rw [hr] at hk
 rcases List.mem_cons.1 hk with rfl | hk
 ·exact wpOp_step (by simpa using hi) (fun K' hK => h1 K' (fun a w hS hW => hK a w ⟨fun _ => hS, hW hS⟩))
 ·obtain rfl : k = j := by simpa using hk
  exact wpOp_step (by simpa using hj) (fun K' hK => h2 K' (fun a w hS hW => hK a w ⟨fun _ => hS, hW hS⟩))
theorem AnyT.storeAll {i : Nat} {o : Oper} {n : Nat} {listed : Array Bool} {a : Go.Act} {w : World} (hr : Region.ready md l.toArray listed = [i]) (hi : l[i]? = some o) (hw : Region.wanted o (yielded l.toArray a.tmps) = true) (ty : TypeId) (x y : Operand) (ho : o.op = .store ty x y)
  (g : Nat) (cells : Array Value) (hx : a.eval x = .pointer (some ⟨g, 0, none⟩)) (hy : a.eval y = .agg cells) {t : TypeId} {old : Array Value} (hg : Blk w g t old) (hs : (P.info? ty).map (·.size) = some cells.size)
  (hold : old.size = cells.size) (h1 : ∀ u ∈ cells.toList, u.oneCell' = true)
  (h : ∀ w', Blk w' g t cells → Out [g] w w' → w'.heap.size = w.heap.size → S w' ∧ (S w' → AnyT P md l.toArray Q S z n (listed.setIfInBounds i true) (a.put o.dst undef) w')) : AnyT P md l.toArray Q S z (n + 1) listed a w :=
 AnyT.one hr hi fun K' hK => by
  rw [if_pos hw]
  have h2 := h _ (setRow_heap w g old cells t (0, 0) hg) (out_setRow w g cells) (by simp)
  exact wp_store_row ty x y ho g cells hx hy t old hg hs hold (Array.all_eq_true_iff_forall_mem.2 fun u hu => h1 u (by simpa using hu)) (hK.out _ _ h2.1 h2.2)
end
theorem Stand.putAll {w0 w w' : World} {Fs : Facts} {g : Nat} {t : TypeId} {old cs : Array Value} (h : Stand w0 ((g, g + 1, fun W => Blk W g t old) :: Fs) w) (h0 : w0.heap.size ≤ g) (hd : ∀ f ∈ Fs, f.2.1 ≤ g ∨ g + 1 ≤ f.1) (hb : Blk w' g t cs) (ho : Out [g] w w') :
  Stand w0 ((g, g + 1, fun W => Blk W g t cs) :: Fs) w' := by
 have hl := (h.get 0 rfl).lt
 have h1 : Stand w0 Fs w := ⟨h.1, fun f hf => h.2 f (List.mem_cons_of_mem _ hf)⟩
 exact (h1.within (ho.within fun b hb => by have := List.mem_singleton.1 hb; omega) h0 hd).add g (g + 1) _ (loc_blk _ _ _) (by have := ho.size; omega) hb
abbrev RSh {α : Type} (s : Sh α) (w : World) (lo hi : Nat) (vs : List Value) (x : α) : Prop := s.R w lo hi vs x
theorem via_stand {P : Program} {ops : Array Oper} {Q : Exit → Go.Act → World → Prop} {id : Nat} {a : Go.Act} {w0 w : World} {Fs : Facts} (_hst : Stand w0 Fs w) {X : Type} (F : Go.Act → X → Go.Act) (Gs : X → Facts) (z : Nat → Bool) (S : World → Prop) (hm : P.follows .mixedOrders = true) (hS : S w.drew)
  (h : S w.drew → AnyT P .any ops (Via (F a) (fun x W => Stand w0 (Gs x ++ Fs) W)) S z ops.size (Array.replicate ops.size false) a w.drew) (hq : ∀ x w', Stand w0 (Gs x ++ Fs) w' → Q .normal (F a x) w') : (Code.region id ops true).wp P Q a w :=
 AnyT.via F _ z S hm hS h hq
end Go.Proofs.YtnnabkldceklmaaGreatDoor
/- A row copied by append at a step of a region that draws its order: which block it lies in, what else stays. -/
namespace Go.Proofs.YtnnabkldceklmaaGreatDoor
open Go.RowKit
section
variable {α : Type} {s : Sh α} {t : TypeId}
theorem own_exact {w : World} {base g cap : Nat} {cs : List Value} {xs : List α} (h : w.ownsRow base t s.k (.slice (some ⟨g, 0, none⟩) xs.length cap) xs.length cs) (hel : ∀ j, j < xs.length → s.O w [] (elemAt s.k cs j) (xs.getD j s.d)) : Own (Sh.row t s) w g (g + 1) [.slice (some ⟨g, 0, none⟩) xs.length cap] xs := by
 refine ⟨[g], ⟨some ⟨g, 0, none⟩, cap, cs, fun _ => [], rfl, ?_, ?_, hel⟩, by simp, fun b hb => ?_⟩
 ·exact ownsRow_base h fun _ _ => Nat.zero_le _
 ·rw [flat_nil, List.append_nil]; rfl
 ·have := List.mem_singleton.1 hb; omega
theorem Own.keepOut {β : Type} {s : Sh β} {w w' : World} {lo hi : Nat} {vs : List Value} {x : β} {G : List Nat} (h : Own s w lo hi vs x) (ho : Out G w w') (hd : ∀ b ∈ G, b < lo ∨ hi ≤ b) : Own s w' lo hi vs x := by
 obtain ⟨F, o, hN, hr⟩ := h
 refine ⟨F, s.O_keep o fun b hb => ho.block b (s.O_lt o b hb) fun hg => ?_, hN, hr⟩
 have h1 := hr b hb
 rcases hd b hg with h2 | h2 <;> omega
theorem step_growRO {P : Program} {ops : Array Oper} {o : Oper} {a : Go.Act} {K : Go.Act → World → Prop} {Q : Exit → Go.Act → World → Prop} {E : Prop} (hgd : o.guard = none) (p x : Operand) (ty : TypeId)
  (ho : o.op = .call { callee := .builtin .append, args := #[p, x], argTypes := #[ty, ty] }) (ht : P.underlying ty = some (.slice t))
  {z : Value} {by_ : Nat} (hzz : z.cells.size = s.k) (hk : 0 < s.k) (hby : by_ ≤ 4096) (hinfo : (P.info? t).map (fun i => (i.zero, i.size, i.bytes)) = some (some z, s.k, by_)) (hfl : FlatSh s)
  (w : World) (g0 lo hi : Nat) (A : Option Addr) (c : Nat) (ys : List α) (hs : a.eval p = .slice (some ⟨g0, 0, none⟩) 0 0) (hown : w.ownsRow g0 t s.k (.slice (some ⟨g0, 0, none⟩) 0 0) 0 []) (hg0 : g0 < w.heap.size) (hx : a.eval x = .slice A ys.length c) (hr : RowG s w lo hi A ys) (hlen : ys.length ≤ 1000000000)
  (h : ∀ g cap w', Own (Sh.row t s) w' g (g + 1) [.slice (some ⟨g, 0, none⟩) ys.length cap] ys → Out [g0] w w' → (g = g0 ∨ w.heap.size ≤ g) → g < w'.heap.size → K (a.put o.dst (.slice (some ⟨g, 0, none⟩) ys.length cap)) w') : if Region.wanted o (yielded ops a.tmps) = true then Oper.wp P o a w K Q else E := by
 have hwt : Region.wanted o (yielded ops a.tmps) = true := by simp [Region.wanted, hgd]
 rw [if_pos hwt]
 obtain ⟨i0, hi0, hz0, hz1, hz2⟩ := info_parts hinfo
 by_cases h0 : ys = []
 ·subst h0
  have hrun : (Builtin.append_ #[ty, ty] o.type #[.slice (some ⟨g0, 0, none⟩) 0 0, .slice A 0 c]).run P w = .ok (.slice (some ⟨g0, 0, none⟩) 0 0) w := by
   cases A <;> simp [Builtin.append_, run_underlying ht, sizeOf, typeInfo, hi0, Builtin.lenOf, Builtin.firstCells, loadCells, loadCellsFrom, storeCells]
  unfold Oper.wp execOp
  rw [List.length_nil] at hx
  simp only [ho, resolve, invoke, builtin, Sem.run_bind, Sem.run_pure, Result.andThen_ok, List.map_toArray, List.map_cons, List.map_nil, hs, hx, hrun]
  exact h g0 0 w (own_exact (xs := []) hown fun j hj => absurd hj (by simp)) (Out.refl _ _) (.inl rfl) hg0
 ·have hp := List.length_pos_iff.2 h0
  obtain ⟨b, off, news, rfl, _, _, hl, hc, hone, hel⟩ := rowG_news hr hp
  have hadd : ∀ j, (⟨b, off, none⟩ : Addr).add j = ⟨b, off + j, none⟩ := fun j => by unfold Addr.add; split <;> simp_all
  refine wp_append_lies w p x ty ho g0 t i0 _ s.k by_ ht hi0 hz0 hz1 hz2 hzz hk _ 0 [] hs hown ⟨b, off, none⟩ ys.length c news hx hl (fun j u hj => by rw [hadd]; exact hc j u hj) hone hp (by unfold maxLen; omega) (Nat.le_trans (Nat.mul_le_mul_left _ hby) (by omega)) (by omega) _ rfl ?_
  intro g cap w' h1 h2 h3 h4
  rw [Nat.zero_add, List.nil_append] at h1
  rw [Nat.zero_add]
  refine h g cap w' (own_exact h1 fun j hj => hfl (hel j hj) w') (grown_out h2) ?_ h4
  rcases h3 with e | e
  ·left
   have e : some g0 = some g := e
   injection e with e
   exact e.symm
  ·right; omega
end
end Go.Proofs.YtnnabkldceklmaaGreatDoor
/- append(row, y) of one element that owns nothing: which block the row lies in, what else stays. -/
namespace Go.Proofs.YtnnabkldceklmaaGreatDoor
open Go.RowKit
section
variable {α : Type} {s : Sh α} {t : TypeId}
theorem own_flat_exact (hfl : FlatSh s) {w : World} {lo hi g n c : Nat} {xs : List α} (h : Own (Sh.row t s) w lo hi [.slice (some ⟨g, 0, none⟩) n c] xs) : Own (Sh.row t s) w g (g + 1) [.slice (some ⟨g, 0, none⟩) n c] xs := by
 obtain ⟨F, ⟨A', c', cs, Fs, e, ho1, eF, hel⟩, hN, hr⟩ := h
 injection e with e _
 injection e with e1 e2 e3
 subst e1 e2 e3
 refine ⟨[g], ⟨some ⟨g, 0, none⟩, c, cs, fun _ => [], rfl, ho1, ?_, fun j hj => ?_⟩, by simp, fun b hb => ?_⟩
 ·rw [flat_nil, List.append_nil]; rfl
 ·exact hfl (s.O_R (lo := lo) (hi := hi) (hel j hj) fun b hb => hr b (by rw [eF]; exact List.mem_append_right _ (flat_mem hj hb))) w
 ·have := List.mem_singleton.1 hb; omega
theorem wpList_growX {P : Program} {ops : Array Oper} {rest : List Oper} {o : Oper} {a : Go.Act} {Q : Exit → Go.Act → World → Prop} (hgd : o.guard = none) (p x : Operand) (ty : TypeId)
  (ho : o.op = .call { callee := .builtin .append, args := #[p, x], argTypes := #[ty, ty] }) (ht : P.underlying ty = some (.slice t))
  {z : Value} {by_ : Nat} (hzz : z.cells.size = s.k) (hk : 0 < s.k) (hby : by_ ≤ 4096) (hinfo : (P.info? t).map (fun i => (i.zero, i.size, i.bytes)) = some (some z, s.k, by_)) (hfl : FlatSh s)
  (w : World) (g0 n c : Nat) (xs : List α) (us : List Value) (y : α) (hs : a.eval p = .slice (some ⟨g0, 0, none⟩) n c) (h1 : Own (Sh.row t s) w g0 (g0 + 1) [.slice (some ⟨g0, 0, none⟩) n c] xs) (hg0 : g0 < w.heap.size) (h2 : s.O w [] us y)
  (hx : a.eval x = .slice (some ⟨w.heap.size, 0, none⟩) 1 1) (hlen : n ≤ 1000000000)
  (h : ∀ g cap w', Own (Sh.row t s) w' g (g + 1) [.slice (some ⟨g, 0, none⟩) (n + 1) cap] (xs ++ [y]) → Out [g0] w w' → (g = g0 ∨ w.heap.size ≤ g) → g < w'.heap.size → wpList P ops Q rest (a.put o.dst (.slice (some ⟨g, 0, none⟩) (n + 1) cap)) w') : wpList P ops Q (o :: rest) a (w.alloc (.cells us.toArray t)) := by
 obtain ⟨i0, hi0, hz0, hz1, hz2⟩ := info_parts hinfo
 have hba := (Below.refl w.heap.size w).alloc (Nat.le_refl _) (.cells us.toArray t)
 have h2o : Own s w w.heap.size w.heap.size us y := ⟨[], h2, List.nodup_nil, fun b hb => by cases hb⟩
 have h2b := h2o.below hba (Nat.le_refl _)
 have h1b := h1.below hba (by omega)
 obtain ⟨F, ⟨A', c', cs, Fs, e, ho1, eF, hel⟩, hN, hr⟩ := h1
 injection e with e _
 injection e with e1 e2 e3
 subst e1 e2 e3
 have ho2 : (w.alloc (.cells us.toArray t)).ownsRow 0 t s.k (.slice (some ⟨g0, 0, none⟩) xs.length c) xs.length cs := ho1.alloc _
 have ho3 : (w.alloc (.cells us.toArray t)).ownsRow g0 t s.k (.slice (some ⟨g0, 0, none⟩) xs.length c) xs.length cs := ownsRow_base ho2 fun g hg => by
  have hg : some g0 = some g := hg
  injection hg with hg; omega
 have hul : us.length = s.k := h2o.len
 refine wpList_append_lies _ hgd p x ty ho g0 t i0 _ s.k by_ ht hi0 hz0 hz1 hz2 hzz hk (.slice (some ⟨g0, 0, none⟩) xs.length c) xs.length cs hs ho3 ⟨w.heap.size, 0, none⟩ 1 1 us hx (by omega) ?_ (fun u hu => s.R_one h2o.reads u hu) (by omega) (by unfold maxLen; omega) ?_ (by simp; omega) _ rfl ?_
 ·exact World.news_of_block (Blk.new w t us.toArray)
 ·exact Nat.le_trans (Nat.mul_le_mul_left _ hby) (by omega)
 ·intro g cap w' q1 q2 q3 q4
  have hsz : w.heap.size < w'.heap.size := by have := q2.size; rw [heap_alloc_size1] at this; omega
  have hgr := Own.grow h1b h2b (show g0 + 1 ≤ w.heap.size from hg0) (by omega) (by simp) ho2 q1 q2 q3 q4
  refine h g cap w' (own_flat_exact hfl hgr) ⟨q2.os, q2.tape, q2.output, by omega, fun b hb hn => ?_⟩ ?_ q4
  ·exact (q2.block b (by rw [heap_alloc_size1]; omega) (fun e => by
    have e : some b = some g0 := e
    injection e with e
    exact hn (by rw [e]; simp))).trans (hba.block b hb)
  ·rcases q3 with q | q
   ·left
    have q : some g0 = some g := q
    injection q with q
    exact q.symm
   ·right; rw [q, heap_alloc_size1]; omega
end
end Go.Proofs.YtnnabkldceklmaaGreatDoor
/- slices.Grow and slices.Concat at seats; rising. -/
namespace Go.Proofs.YtnnabkldceklmaaGreatDoor
open Go.RowKit
def OwnF {α : Type} (s : Sh α) (t : TypeId) (w : World) (base : Nat) (v : Value) (xs : List α) : Prop :=
 ∃ cs, w.ownsRow base t s.k v xs.length cs ∧ ∀ j, j < xs.length → ∀ W : World, s.O W [] (elemAt s.k cs j) (xs.getD j s.d)
theorem OwnF.below {α : Type} {s : Sh α} {t : TypeId} {w w' : World} {base B : Nat} {v : Value} {xs : List α} (h : OwnF s t w base v xs) (hb : Below B w w') (hB : w.heap.size ≤ B) : OwnF s t w' base v xs := by
 obtain ⟨cs, ⟨h1, h2⟩, h3⟩ := h
 refine ⟨cs, ⟨h1, ?_⟩, h3⟩
 rcases h2 with h2 | ⟨g, cap, cur, e, h4, h5, h6⟩
 ·exact .inl h2
 ·exact .inr ⟨g, cap, cur, e, h4, by rw [hb.block g (by have := (Array.getElem?_eq_some_iff.1 h5).1; omega)]; exact h5, h6⟩
section
variable {α : Type} {s : Sh α} {t : TypeId}
theorem wpList_growRn {P : Program} {ops : Array Oper} {rest : List Oper} {o : Oper} {a : Go.Act} {Q : Exit → Go.Act → World → Prop} (hgd : o.guard = none) (p x : Operand) (ty : TypeId)
  (ho : o.op = .call { callee := .builtin .append, args := #[p, x], argTypes := #[ty, ty] }) (ht : P.underlying ty = some (.slice t))
  {z : Value} {by_ : Nat} (hzz : z.cells.size = s.k) (hk : 0 < s.k) (hby : by_ ≤ 4096) (hinfo : (P.info? t).map (fun i => (i.zero, i.size, i.bytes)) = some (some z, s.k, by_)) (hfl : FlatSh s)
  (w : World) (base lo hi : Nat) (v : Value) (xs : List α) (A : Option Addr) (c : Nat) (ys : List α) (hs : a.eval p = v) (hown : OwnF s t w base v xs) (hx : a.eval x = .slice A ys.length c) (hr : RowG s w lo hi A ys) (hlen : xs.length + ys.length ≤ 1000000000) (hbase : base ≤ w.heap.size)
  (h : ∀ v' w', OwnF s t w' base v' (xs ++ ys) → Below base w w' → wpList P ops Q rest (a.put o.dst v') w') : wpList P ops Q (o :: rest) a w := by
 obtain ⟨i0, hi0, hz0, hz1, hz2⟩ := info_parts hinfo
 obtain ⟨cs, hown, hel0⟩ := hown
 by_cases h0 : ys = []
 ·subst h0
  have hrun : (Builtin.append_ #[ty, ty] o.type #[v, .slice A 0 c]).run P w = .ok v w := by
   rcases hown.2 with ⟨rfl, hz⟩ | ⟨g, cap, cur, rfl, _, _, hnc, _⟩
   ·cases A <;> simp [Builtin.append_, run_underlying ht, sizeOf, typeInfo, hi0, Builtin.lenOf, Builtin.firstCells, loadCells, loadCellsFrom]
   ·cases A <;> simp [Builtin.append_, run_underlying ht, sizeOf, typeInfo, hi0, Builtin.lenOf, Builtin.firstCells, loadCells, loadCellsFrom, storeCells] <;> omega
  refine wpList_plain hgd fun K hK => ?_
  unfold Oper.wp execOp
  rw [List.length_nil] at hx
  simp only [ho, resolve, invoke, builtin, Sem.run_bind, Sem.run_pure, Result.andThen_ok, List.map_toArray, List.map_cons, List.map_nil, hs, hx, hrun]
  exact hK _ _ (h v w ⟨cs, by rw [List.append_nil]; exact hown, by rw [List.append_nil]; exact hel0⟩ (Below.refl _ _))
 ·have hp := List.length_pos_iff.2 h0
  obtain ⟨b, off, news, rfl, _, _, hl, hc, hone, hel⟩ := rowG_news hr hp
  have hadd : ∀ j, (⟨b, off, none⟩ : Addr).add j = ⟨b, off + j, none⟩ := fun j => by unfold Addr.add; split <;> simp_all
  have hcl := hown.1
  refine wpList_append_own w hgd p x ty ho base t i0 _ s.k by_ ht hi0 hz0 hz1 hz2 hzz hk v xs.length cs hs hown ⟨b, off, none⟩ ys.length c news hx hl (fun j u hj => by rw [hadd]; exact hc j u hj) hone (by unfold maxLen; omega) (Nat.le_trans (Nat.mul_le_mul_left _ hby) (by omega)) hbase ?_
  intro v' w' h1 h2 _
  have hB : Below base w w' := (Below.refl base w).grown h2 hbase (fun k hk => (hown.lt k hk).1)
  refine h v' w' ⟨cs ++ news, by rw [List.length_append]; exact h1, fun j hj W => ?_⟩ hB
  rw [List.length_append] at hj
  by_cases hlt : j < xs.length
  ·rw [show elemAt s.k (cs ++ news) j = elemAt s.k cs j from elemAt_ext (n := xs.length + ys.length) (by rw [List.length_append, hcl, hl, Nat.add_mul]) (by omega) (elemAt_len hcl hlt) fun i hi => by
     rw [elemAt_get hi, List.getElem?_append_left (by rw [hcl]; exact mul_lt hlt hi)],
    List.getD_eq_getElem?_getD, List.getElem?_append_left hlt, ← List.getD_eq_getElem?_getD]
   exact hel0 j hlt W
  ·rw [show elemAt s.k (cs ++ news) j = elemAt s.k news (j - xs.length) from elemAt_ext (n := xs.length + ys.length) (by rw [List.length_append, hcl, hl, Nat.add_mul]) (by omega) (elemAt_len hl (by omega)) fun i hi => by
     have e : j * s.k = xs.length * s.k + (j - xs.length) * s.k := by rw [← Nat.add_mul]; congr 1; omega
     rw [elemAt_get hi, List.getElem?_append_right (by rw [hcl, e]; omega), hcl]
     congr 1; rw [e]; omega,
    List.getD_eq_getElem?_getD, List.getElem?_append_right (by omega), ← List.getD_eq_getElem?_getD]
   exact hfl (hel (j - xs.length) (by omega)) W
end
theorem growSeat (n : Nat) (hn : n ≤ 4194304) (w : World) :
  Calls Tryz.prog 164 #[.slice none 0 0, .int .i64 n] w fun e w' => ∃ v, e = .returned v ∧ OwnF shSeat 88 w' w.heap.size v [] ∧ Below w.heap.size w w' := by
 obtain ⟨i0, hi0, hz0, hz1, hz2⟩ := info_parts infoSeat
 have h1 : ¬ ((n : Int) < 0) := by omega
 have h2 : IntKind.i64.wrap (0 : Int) = 0 := rfl
 have h3 : IntKind.i64.wrap ((n : Int) - 0) = (n : Int) := by rw [IntWalk.i64_in _ (by omega)]; omega
 have h5 : IntKind.i64.wrap (n : Int) = (n : Int) := IntWalk.i64_in _ (by omega)
 by_cases h0 : n = 0
 ·subst h0
  go_enter Tryz.func164, Tryz.ntmps164
  go_wp2_with fail
  go_ret
  exact ⟨_, rfl, ⟨[], World.ownsRow_nil _ _ _ _, fun j hj => absurd hj (by simp)⟩, Below.refl _ _⟩
 ·have h4 : (0 : Int) < (n : Int) := by omega
  have happ := Lib.run_append_nil_zeros (P := Tryz.prog) w 40 3 40 88 i0 _ .i64 .i64 Tryz.underlying40 Tryz.underlying3 hi0 hz0 n (by omega) (by rw [hz1]; decide) (by omega) (by rw [hz2]; omega)
  have hg := grownCap_ge w n 0 88
  have hgm := grownCap_le_maxLen w n 0 88 (by unfold maxLen; omega)
  generalize grownCap w n 0 88 = G at *
  have hO := hd_ (World.ownsRow_made (base := w.heap.size) (e := 88) (size := 2) w.drew (Builtin.zeroCells (Value.agg #[.int .i64 0, .int .i64 0]).cells n ++ Builtin.zeroCells (Value.agg #[.int .i64 0, .int .i64 0]).cells (G - n)) G (Nat.le_refl _) hgm (by
   rw [Array.size_append, size_zeroCells, size_zeroCells]
   show n * 2 + (G - n) * 2 = G * 2
   omega))
  have HB := hd_ ((Below.refl w.heap.size w).drew.alloc (Nat.le_refl _) (.cells (Builtin.zeroCells (Value.agg #[.int .i64 0, .int .i64 0]).cells n ++ Builtin.zeroCells (Value.agg #[.int .i64 0, .int .i64 0]).cells (G - n)) 88))
  have hgG : ¬ (G : Int) < 0 := by omega
  have HR := hd_ happ
  unfold maxLen at hgm
  clear happ hi0 hz0 hz1 hz2
  generalize w.drew.alloc (.cells (Builtin.zeroCells (Value.agg #[.int .i64 0, .int .i64 0]).cells n ++ Builtin.zeroCells (Value.agg #[.int .i64 0, .int .i64 0]).cells (G - n)) 88) = wN at *
  go_enter Tryz.func164, Tryz.ntmps164
  go_wp2_with (at_builtin; refine Lib.wpList_append_run _ rfl _ _ _ _ rfl _ _ rfl rfl _ _ HR.out ?_)
  go_ret
  exact ⟨_, rfl, ⟨[], hO.out, fun j hj => absurd hj (by simp)⟩, HB.out⟩
def lenTo (L : List (Option Addr × Nat × List TySeat)) (k : Nat) : Nat := ((L.take k).map fun r => r.2.2.length).sum
def flatTo (L : List (Option Addr × Nat × List TySeat)) (k : Nat) : List TySeat := (L.take k).flatMap fun r => r.2.2
theorem lenTo_next (L : List (Option Addr × Nat × List TySeat)) (k : Nat) (h : k < L.length) : lenTo L (k + 1) = lenTo L k + L[k].2.2.length := by
 unfold lenTo; rw [List.take_succ_eq_append_getElem h, List.map_append, List.sum_append]; simp
theorem flatTo_next (L : List (Option Addr × Nat × List TySeat)) (k : Nat) (h : k < L.length) : flatTo L (k + 1) = flatTo L k ++ L[k].2.2 := by
 unfold flatTo; rw [List.take_succ_eq_append_getElem h, List.flatMap_append]; simp
theorem flatTo_len (L : List (Option Addr × Nat × List TySeat)) (k : Nat) : (flatTo L k).length = lenTo L k := by
 unfold flatTo lenTo; rw [List.length_flatMap]
theorem lenTo_le (L : List (Option Addr × Nat × List TySeat)) (k : Nat) : lenTo L k ≤ lenTo L L.length := by
 unfold lenTo
 conv => rhs; rw [List.take_length, ← List.take_append_drop k L, List.map_append, List.sum_append]
 omega
theorem concat_any (L : List (Option Addr × Nat × List TySeat)) (bS oS cS lo hi : Nat) (w : World) (hc : ∀ j (h : j < L.length), w.cell? ⟨bS, oS + j, none⟩ = some (.slice L[j].1 L[j].2.2.length L[j].2.1)) (hbS : bS < w.heap.size)
  (h : ∀ r ∈ L, (Sh.row 88 shSeat).R w lo hi [.slice r.1 r.2.2.length r.2.1] r.2.2) (hhi : hi ≤ w.heap.size) (hL : L.length ≤ 16) (hn : lenTo L L.length ≤ 4194304) :
  Calls Tryz.prog 111 #[.slice (some ⟨bS, oS, none⟩) L.length cS] w fun e w' => ∃ A c, e = .returned (.slice A (flatTo L L.length).length c) ∧ (Sh.row 88 shSeat).R w' w.heap.size w'.heap.size [.slice A (flatTo L L.length).length c] (flatTo L L.length) ∧ Below w.heap.size w w' := by
 have HC := hd_ hc
 have HR := hd_ h
 have HG := hd_ (fun W => growSeat (lenTo L L.length) hn W)
 have HN := hd_ (lenTo_next L)
 have HFN := hd_ (flatTo_next L)
 have HLE := hd_ (lenTo_le L)
 clear hc h
 go_enter Tryz.func111, Tryz.ntmps111
 go_wp2_with fail
 go_loopw [3, 5, 11] (fun s3 _ i wr => ∃ k : Nat, k ≤ L.length ∧ i = .int .i64 k ∧ s3 = .int .i64 (lenTo L k) ∧ w = wr) (fun _ _ i _ => L.length - (intOf i).toNat)
 case atStart => exact ⟨0, Nat.zero_le _, rfl, by simp [lenTo], rfl⟩
 case round =>
  obtain ⟨k, hk, rfl, rfl, rfl⟩ := hrel
  by_cases hlt : k < L.length
  ·have i4 : (k : Int) < (L.length : Int) := by omega
   have f0 := HC.out k hlt
   have hnx := HN.out k hlt
   have hle := HLE.out (k + 1)
   rw [hnx] at hle
   have HX := hd_ hnx
   clear hnx
   generalize L[k].2.2.length = m at *
   generalize L[k].1 = Ak at *
   generalize L[k].2.1 = ck at *
   obtain ⟨S, hS⟩ : ∃ S, S = lenTo L k := ⟨_, rfl⟩
   rw [← hS] at hle HX ⊢
   clear hS
   have h5 : IntKind.i64.wrap ((S : Int) + (m : Int)) = ((S + m : Nat) : Int) := by rw [IntWalk.i64_in _ (by omega)]; omega
   have h6 : ¬ ((S + m : Nat) : Int) < 0 := by omega
   go_wp2_with fail
   go_roundw
   case rel => exact ⟨k + 1, by omega, by go_num, by rw [HX.out, Int.natCast_add], by trivial⟩
   all_goals (first | omega | (simp only [intOf, Int.toNat_natCast]; omega) | (simp [intOf]; omega))
  ·obtain rfl : k = L.length := by omega
   have i4 : ¬ (L.length : Int) < (L.length : Int) := by omega
   go_wp2_with (first | fail | (refine (HG.out _).mono ?_; rintro e1 w1 ⟨v0, rfl, hO0, hb0⟩))
   have HO0 := hd_ hO0; have HB0 := hd_ hb0
   clear hO0 hb0
   go_loopw [6, 8, 27] (fun s6 _ i wr => ∃ k : Nat, k ≤ L.length ∧ i = .int .i64 k ∧ Hid (OwnF shSeat 88 wr w.heap.size s6 (flatTo L k)) ∧ Below w.heap.size w wr) (fun _ _ i _ => L.length - (intOf i).toNat)
   case atStart => exact ⟨0, Nat.zero_le _, rfl, HO0, HB0.out⟩
   case round =>
    clear HO0 HB0
    obtain ⟨k, hk, rfl, HO, hb⟩ := hrel
    by_cases hlt : k < L.length
    ·have i4 : (k : Int) < (L.length : Int) := by omega
     have hsz := hb.size
     have f0 := (hb.cell (p := ⟨bS, oS + k, none⟩) hbS).trans (HC.out k hlt)
     have hrk := HR.out L[k] (List.getElem_mem hlt)
     have hle := HLE.out (k + 1)
     rw [HN.out k hlt] at hle
     have hfl := flatTo_len L k
     have HX := hd_ (HFN.out k hlt)
     generalize L[k].2.2 = ys at *
     generalize L[k].1 = Ak at *
     generalize L[k].2.1 = ck at *
     have hrk := hd_ (rowG_ofC ((Sh.row 88 shSeat).R_below hrk hb hhi))
     have HB := hd_ hb
     have hle := hd_ hle
     clear hb
     go_wp2_with (at_builtin; refine wpList_growRn (s := shSeat) (t := 88) rfl (.tmp 31) (.tmp 32) 40 rfl Tryz.underlying40 rfl (by decide) (by decide) infoSeat flatSeat _ w.heap.size lo hi _ (flatTo L k) Ak ck ys rfl HO.out rfl hrk.out (by have := hle.out; omega) hsz ?_)
     intro v' w2 hO2 hb2
     have HO2 := hd_ (HX.out ▸ hO2)
     have HB2 := hd_ (HB.out.trans hb2)
     clear hO2 hb2 HO
     go_wp2_with fail
     go_roundw
     case rel => exact ⟨k + 1, by omega, by go_num, HO2, HB2.out⟩
     all_goals (first | omega | (simp only [intOf, Int.toNat_natCast]; omega) | (simp [intOf]; omega))
    ·obtain rfl : k = L.length := by omega
     have i4 : ¬ (L.length : Int) < (L.length : Int) := by omega
     obtain ⟨cs, ho, hel⟩ := HO.out
     obtain ⟨A', c', rfl, hO⟩ := Own.of_flat (s := shSeat) (hi := wr.heap.size) ho rfl (Nat.le_refl _) (fun j hj => hel j hj wr)
     have HO3 := hd_ hO.reads
     clear ho hel hO HO
     go_wp2_with fail
     go_ret
     exact ⟨A', c', rfl, HO3.out, hb⟩
def risTo (l : List Int) (k : Nat) : Bool := (List.range k).all fun k => decide (l.getD k 0 < l.getD (k + 1) 0)
theorem risTo_next (l : List Int) (k : Nat) : risTo l (k + 1) = (risTo l k && decide (l.getD k 0 < l.getD (k + 1) 0)) := by
 unfold risTo; rw [List.range_succ, List.all_append]; simp
theorem risTo_no (l : List Int) (k : Nat) (hk : k < l.length - 1) (h : ¬ l.getD k 0 < l.getD (k + 1) 0) : risesI l = false := by
 unfold risesI
 rw [List.all_eq_false]
 exact ⟨k, List.mem_range.2 hk, by simpa using h⟩
theorem risingP_any (A : Option Addr) (c : Nat) (xs : List Int) (lo hi : Nat) (w : World) (h : (Sh.row 2 shI).R w lo hi [.slice A xs.length c] xs) (hhi : hi ≤ w.heap.size) (hn : xs.length ≤ 1048576) :
  Calls Tryz.prog 116 #[.slice A xs.length c] w fun e w' => e = .returned (.bool (risesI xs)) ∧ Below w.heap.size w w' := by
 have HA := hd_ h
 clear h
 obtain ⟨ANS, hANS⟩ : ∃ b, b = risesI xs := ⟨_, rfl⟩
 rw [← hANS]
 have HNO := hd_ (risTo_no xs)
 rw [← hANS] at HNO
 have HANS := hd_ hANS; clear hANS
 go_enter Tryz.func116, Tryz.ntmps116
 go_wp2
 go_loopw [3] (fun i wr => ∃ k : Nat, (k + 1 ≤ xs.length ∨ k = 0) ∧ i = .int .i64 (k + 1 : Nat) ∧ Hid (risTo xs k = true) ∧ Below w.heap.size w wr) (fun i _ => xs.length - (intOf i).toNat)
 case atStart => exact ⟨0, .inr rfl, rfl, hd_ rfl, Below.refl _ _⟩
 case round =>
  obtain ⟨k, hk, rfl, HT, hb⟩ := hrel
  by_cases hlt : k + 1 < xs.length
  ·have hr := rowR_of ((Sh.row 2 shI).R_below HA.out hb hhi)
   obtain ⟨b, off, rfl, _, _, hc⟩ := hr.2 (by omega)
   have hc0 := hc k (by omega)
   have hc1 := hc (k + 1) hlt
   have HS := hd_ (risTo_next xs k)
   have HF := hd_ (HNO.out k (by omega))
   have HB := hd_ hb
   clear hr hc hb HNO
   have hi1 : ((k + 1 : Nat) : Int) < (xs.length : Int) := by omega
   have hi0 : ((k + 1 : Nat) : Int) - 1 < (xs.length : Int) := by omega
   generalize xs.getD k 0 = X at *
   generalize xs.getD (k + 1) 0 = Y at *
   have w1 : IntKind.i64.wrap (((k + 1 : Nat) : Int) - 1) = (k : Int) := by rw [IntWalk.i64_in _ (by omega)]; omega
   by_cases hxy : X < Y
   ·have HX := hd_ (show risTo xs (k + 1) = true by rw [HS.out, HT.out, decide_eq_true hxy]; rfl)
    clear HS HF HT
    go_wp2
    go_quiet (fail)
    clear w1
    go_wp2
    go_roundw
    case rel => exact ⟨k + 1, .inl (by omega), by go_num, HX, by first | exact HB.out.drew | exact HB.out.trans (below_drewN' _ _ |>.mono HB.out.size)⟩
    case measure => simp [intOf]; omega
   ·have HX := hd_ (HF.out (by omega))
    clear HS HF HT
    go_wp2
    go_quiet (fail)
    clear w1
    go_wp2
    go_ret
    exact ⟨by rw [HX.out]; rfl, by first | exact HB.out.drew | exact HB.out.trans (below_drewN' _ _ |>.mono HB.out.size)⟩
  ·have HX := hd_ (show ANS = true by
    rw [HANS.out]; unfold risesI
    rcases hk with hk | hk
    ·rw [show xs.length - 1 = k by omega]; exact HT.out
    ·subst hk; rw [show xs.length - 1 = 0 by omega]; rfl)
   clear HT
   go_wp2
   go_ret
   exact ⟨by rw [HX.out]; rfl, hb⟩
end Go.Proofs.YtnnabkldceklmaaGreatDoor
