/- Shapes: rows that grow by append: one element that was made, many elements that own nothing; rows that were laid at once. -/
import Derived.Test.YtnnabkldceklmaaGreatDoorJoinBTAf
namespace Go.Proofs.YtnnabkldceklmaaGreatDoor
open Go.RowKit
section
variable {α : Type} {s : Sh α} {t : TypeId}
theorem Own.nil_row (w : World) (lo hi : Nat) : Own (Sh.row t s) w lo hi [.slice none 0 0] [] :=
 ⟨[], ⟨none, 0, [], fun _ => [], rfl, World.ownsRow_nil _ _ _ _, by simp [Value.ownBlock], fun j hj => absurd hj (by simp)⟩, List.nodup_nil, fun b hb => by cases hb⟩
theorem Own.of_flat {w : World} {base hi : Nat} {v : Value} {n : Nat} {cs : List Value} {xs : List α} (h : w.ownsRow base t s.k v n cs) (hn : n = xs.length) (hh : w.heap.size ≤ hi) (hel : ∀ j, j < xs.length → s.O w [] (elemAt s.k cs j) (xs.getD j s.d)) :
  ∃ A c, v = .slice A xs.length c ∧ Own (Sh.row t s) w base hi [.slice A xs.length c] xs := by
 subst hn
 obtain ⟨A, c, rfl⟩ : ∃ A c, v = .slice A xs.length c := by
  rcases h.2 with ⟨e1, e2⟩ | ⟨g, cap, cur, e1, _⟩
  ·exact ⟨none, 0, by rw [e1, e2]⟩
  ·exact ⟨_, _, e1⟩
 refine ⟨A, c, rfl, (Value.slice A xs.length c).ownBlock.toList, ⟨A, c, cs, fun _ => [], rfl, ?_, by rw [flat_nil, List.append_nil], hel⟩, ?_, fun b hb => ?_⟩
 ·exact ownsRow_base h fun _ _ => Nat.zero_le _
 ·cases (Value.slice A xs.length c).ownBlock <;> simp
 ·have := h.lt b (by simpa using hb)
  omega
theorem Own.grow {w w' : World} {base m m' hi : Nat} {A : Option Addr} {n c : Nat} {xs : List α} {us : List Value} {y : α} {g cap : Nat} {cs : List Value}
  (h1 : Own (Sh.row t s) w base m [.slice A n c] xs) (h2 : Own s w m' hi us y) (hm : m ≤ m') (hb : base ≤ m') (hhi : hi ≤ w.heap.size) (hcs : w.ownsRow 0 t s.k (.slice A n c) n cs)
  (ho : w'.ownsRow base t s.k (.slice (some ⟨g, 0, none⟩) (n + 1) cap) (n + 1) (cs ++ us)) (hg : w.grownBy w' (Value.slice A n c).ownBlock) (hor : (Value.slice A n c).ownBlock = some g ∨ g = w.heap.size) (hlt : g < w'.heap.size) :
  Own (Sh.row t s) w' base w'.heap.size [.slice (some ⟨g, 0, none⟩) (n + 1) cap] (xs ++ [y]) := by
 obtain ⟨F, ⟨A', c', cs', Fs, e, ho1, eF, hel⟩, hN, hr⟩ := h1
 injection e with e _
 injection e with e1 e2 e3
 subst e1 e2 e3
 obtain rfl : cs = cs' := by
  have key : ∀ {a b : List Value}, w.ownsRow 0 t s.k (.slice A xs.length c) xs.length a → w.ownsRow 0 t s.k (.slice A xs.length c) xs.length b → a = b := by
   intro a b p q
   rcases p.2 with ⟨p1, p2⟩ | ⟨g1, cap1, cur1, p1, _, p3, _, _, _, p7⟩
   ·have ha : a.length = 0 := by have := p.1; rw [p2, Nat.zero_mul] at this; exact this
    have hb : b.length = 0 := by have := q.1; rw [p2, Nat.zero_mul] at this; exact this
    rw [List.eq_nil_of_length_eq_zero ha, List.eq_nil_of_length_eq_zero hb]
   ·rcases q.2 with ⟨q1, q2⟩ | ⟨g2, cap2, cur2, q1, _, q3, _, _, _, q7⟩
    ·rw [p1] at q1; cases q1
    ·rw [p1] at q1
     injection q1 with q1 _ _
     injection q1 with q1
     injection q1 with q1
     subst q1
     rw [p3] at q3
     injection q3 with q3
     injection q3 with q3
     subst q3
     rw [← p7, ← q7]
  exact key hcs ho1
 obtain ⟨F2, o2, n2, r2⟩ := h2
 have hlF : ∀ b ∈ F, b < w.heap.size := fun b hb' => by have := hr b hb'; have := (Sh.row t s).O_lt ⟨A, c, cs, Fs, rfl, ho1, eF, hel⟩ b hb'; omega
 subst eF
 obtain ⟨_, hN2, hD⟩ := List.nodup_append.1 hN
 obtain ⟨nn1, nn2⟩ := flat_nodup hN2
 have hFs : ∀ j, j < xs.length → ∀ b ∈ Fs j, base ≤ b ∧ b < m ∧ b < w.heap.size ∧ b ≠ g := fun j hj b hb' => by
  have h3 := hr b (List.mem_append_right _ (flat_mem hj hb'))
  have h4 := hlF b (List.mem_append_right _ (flat_mem hj hb'))
  refine ⟨h3.1, h3.2, h4, fun e => ?_⟩
  rcases hor with hor | hor
  ·exact hD g (by rw [hor]; simp) g (by rw [← e]; exact flat_mem hj hb') rfl
  ·omega
 have hown : ∀ b, b < w.heap.size → b ≠ g → b ∉ (Value.slice A xs.length c).ownBlock.toList → w'.heap[b]? = w.heap[b]? := fun b hb1 hb2 hb3 => hg.block b hb1 fun e => hb3 (by rw [← e]; simp)
 have hF2g : ∀ b ∈ F2, b < w.heap.size ∧ b ≠ g ∧ b ∉ (Value.slice A xs.length c).ownBlock.toList := fun b hb' => by
  have h3 := r2 b hb'
  have h5 : ∀ q ∈ (Value.slice A xs.length c).ownBlock.toList, q < m := fun q hq => (hr q (List.mem_append_left _ hq)).2
  refine ⟨by omega, fun e => ?_, fun hq => by have := h5 b hq; omega⟩
  rcases hor with hor | hor
  ·have := h5 g (by rw [hor]; simp); omega
  ·omega
 have hl1 : cs.length = xs.length * s.k := ho1.1
 have hl2 : us.length = s.k := s.R_len (s.O_R (lo := 0) (hi := w.heap.size) o2 fun b hb' => ⟨Nat.zero_le _, (hF2g b hb').1⟩)
 have hl3 : (cs ++ us).length = (xs.length + 1) * s.k := ho.1
 have hlen : (xs ++ [y]).length = xs.length + 1 := by simp
 refine ⟨g :: (List.range (xs.length + 1)).flatMap (fun j => if j = xs.length then F2 else Fs j), ⟨some ⟨g, 0, none⟩, cap, cs ++ us, fun j => if j = xs.length then F2 else Fs j, by rw [hlen], ?_, ?_, fun j hj => ?_⟩, ?_, fun b hb' => ?_⟩
 ·rw [hlen]; exact ownsRow_base ho fun _ _ => Nat.zero_le _
 ·rw [hlen]; rfl
 ·rw [hlen] at hj
  by_cases e : j = xs.length
  ·subst e
   simp only [if_true]
   have e1 : elemAt s.k (cs ++ us) xs.length = us := elemAt_ext hl3 hj hl2 fun i hi => by
    rw [List.getElem?_append_right (by omega)]
    congr 1; omega
   have e2 : (xs ++ [y]).getD xs.length s.d = y := by simp [List.getD_eq_getElem?_getD]
   rw [e1, e2]
   exact s.O_keep o2 fun b hb' => hown b (hF2g b hb').1 (hF2g b hb').2.1 (hF2g b hb').2.2
  ·simp only [if_neg e]
   have hj' : j < xs.length := by omega
   have e1 : elemAt s.k (cs ++ us) j = elemAt s.k cs j := elemAt_ext hl3 hj (elemAt_len hl1 hj') fun i hi => by
    have := mul_lt hj' hi
    rw [elemAt_get hi, List.getElem?_append_left (by omega)]
   have e2 : (xs ++ [y]).getD j s.d = xs.getD j s.d := by simp [List.getD_eq_getElem?_getD, List.getElem?_append_left hj']
   rw [e1, e2]
   refine s.O_keep (hel j hj') fun b hb' => ?_
   obtain ⟨_, _, h5, h6⟩ := hFs j hj' b hb'
   exact hown b h5 h6 fun hq => hD b hq b (flat_mem hj' hb') rfl
 ·refine List.nodup_cons.2 ⟨fun hb' => ?_, flat_nodup_succ ?_ ?_ fun i hi b hb' hb2 => ?_⟩
  ·obtain ⟨i, hi, hb'⟩ := List.mem_flatMap.1 hb'
   have hi := List.mem_range.1 hi
   by_cases e : i = xs.length
   ·simp only [if_pos e] at hb'; exact (hF2g g hb').2.1 rfl
   ·simp only [if_neg e] at hb'; exact (hFs i (by omega) g hb').2.2.2 rfl
  ·rw [flat_congr (Gs := Fs) fun j hj => by rw [if_neg (by omega)]]; exact hN2
  ·simp only [if_true]; exact n2
  ·simp only [if_true] at hb2
   rw [if_neg (by omega)] at hb'
   have := hFs i hi b hb'; have := r2 b hb2; omega
 ·rcases List.mem_cons.1 hb' with rfl | hb'
  ·refine ⟨?_, hlt⟩
   rcases ho.2 with ⟨e, _⟩ | ⟨g', _, _, e, hb2, _⟩
   ·cases e
   ·injection e with e _ _
    injection e with e
    injection e with e
    rw [e]; exact hb2
  ·obtain ⟨i, hi, hb'⟩ := List.mem_flatMap.1 hb'
   have hi := List.mem_range.1 hi
   have hsz := hg.size
   by_cases e : i = xs.length
   ·simp only [if_pos e] at hb'; have := r2 b hb'; omega
   ·simp only [if_neg e] at hb'; have := hFs i (by omega) b hb'; omega
theorem rowG_news {w : World} {lo hi : Nat} {A : Option Addr} {xs : List α} (h : RowG s w lo hi A xs) (hp : 0 < xs.length) :
  ∃ b off news, A = some ⟨b, off, none⟩ ∧ lo ≤ b ∧ b < hi ∧ news.length = xs.length * s.k ∧ (∀ j u, news[j]? = some u → w.cell? ⟨b, off + j, none⟩ = some u) ∧ (∀ u ∈ news, u.oneCell' = true) ∧ ∀ j, j < xs.length → s.R w lo hi (elemAt s.k news j) (xs.getD j s.d) := by
 obtain ⟨b, off, rfl, h1, h2, hc⟩ := h hp
 have hcell : ∀ p, p < xs.length * s.k → ∃ u, w.cell? ⟨b, off + p, none⟩ = some u ∧ u.oneCell' = true := fun p hpk => by
  have hk : 0 < s.k := by rcases Nat.eq_zero_or_pos s.k with e | e; (rw [e] at hpk; omega); exact e
  obtain ⟨us, h3, h4⟩ := hc (p / s.k) ((Nat.div_lt_iff_lt_mul hk).2 hpk)
  have hl := s.R_len h4
  have hm := Nat.mod_lt p hk
  have hdm := Nat.div_add_mod p s.k
  have h5 := h3 (p % s.k) (by omega)
  rw [show off + p / s.k * s.k + p % s.k = off + p by rw [Nat.mul_comm]; omega, List.getElem?_eq_getElem (by omega)] at h5
  exact ⟨_, h5, s.R_one h4 _ (List.getElem_mem _)⟩
 have hget : ∀ p, p < xs.length * s.k → ((List.range (xs.length * s.k)).map fun i => (w.cell? ⟨b, off + i, none⟩).getD (.bool false))[p]? = w.cell? ⟨b, off + p, none⟩ := fun p hp => by
  obtain ⟨u, hu, _⟩ := hcell p hp
  rw [List.getElem?_map, List.getElem?_range hp, hu, Option.map_some, hu]; rfl
 refine ⟨b, off, (List.range (xs.length * s.k)).map fun i => (w.cell? ⟨b, off + i, none⟩).getD (.bool false), rfl, h1, h2, by simp, fun j u hj => ?_, fun u hu => ?_, fun j hj => ?_⟩
 ·rcases Nat.lt_or_ge j (xs.length * s.k) with hlt | hge
  ·rw [hget j hlt] at hj; exact hj
  ·rw [List.getElem?_eq_none (by simpa using hge)] at hj; cases hj
 ·obtain ⟨i, hi, rfl⟩ := List.mem_map.1 hu
  obtain ⟨u, hu, h1⟩ := hcell i (List.mem_range.1 hi)
  rw [hu]; exact h1
 ·obtain ⟨us, h3, h4⟩ := hc j hj
  rw [elemAt_ext (us := us) (n := xs.length) (by simp) hj (s.R_len h4) fun i hi => ?_]
  ·exact h4
  ·rw [hget _ (mul_lt hj hi), ← h3 i (by rw [s.R_len h4]; exact hi), Nat.add_assoc]
def FlatSh (s : Sh α) : Prop := ∀ {w : World} {lo hi : Nat} {vs : List Value} {x : α}, s.R w lo hi vs x → ∀ w' : World, s.O w' [] vs x
theorem wpList_grow {P : Program} {ops : Array Oper} {rest : List Oper} {o : Oper} {a : Go.Act} {Q : Exit → Go.Act → World → Prop} (hgd : o.guard = none) (p x : Operand) (ty : TypeId)
  (ho : o.op = .call { callee := .builtin .append, args := #[p, x], argTypes := #[ty, ty] }) (ht : P.underlying ty = some (.slice t))
  {z : Value} {by_ : Nat} (hzz : z.cells.size = s.k) (hk : 0 < s.k) (hby : by_ ≤ 4096) (hinfo : (P.info? t).map (fun i => (i.zero, i.size, i.bytes)) = some (some z, s.k, by_))
  (w : World) (base m m' hi : Nat) (A : Option Addr) (n c : Nat) (xs : List α) (us : List Value) (y : α) (hs : a.eval p = .slice A n c) (h1 : Own (Sh.row t s) w base m [.slice A n c] xs) (h2 : Own s w m' hi us y) (hm : m ≤ m') (hb : base ≤ m') (hhi : hi ≤ w.heap.size) (hbase : base ≤ w.heap.size)
  (hx : a.eval x = .slice (some ⟨w.heap.size, 0, none⟩) 1 1) (hlen : n ≤ 1000000000)
  (h : ∀ A' c' w', Own (Sh.row t s) w' base w'.heap.size [.slice A' (n + 1) c'] (xs ++ [y]) → Below base w w' → w.heap.size < w'.heap.size → (∀ b, m ≤ b → b < w.heap.size → w'.heap[b]? = w.heap[b]?) → wpList P ops Q rest (a.put o.dst (.slice A' (n + 1) c')) w') : wpList P ops Q (o :: rest) a (w.alloc (.cells us.toArray t)) := by
 obtain ⟨i0, hi0, hz0, hz1, hz2⟩ := info_parts hinfo
 have hba := (Below.refl w.heap.size w).alloc (Nat.le_refl _) (.cells us.toArray t)
 have h2b := h2.below hba hhi
 obtain ⟨F, ⟨A', c', cs, Fs, e, ho1, eF, hel⟩, hN, hr⟩ := h1
 have hlt1 : ∀ b ∈ F, b < w.heap.size := fun b hb' => (Sh.row t s).O_lt ⟨A', c', cs, Fs, e, ho1, eF, hel⟩ b hb'
 injection e with e _
 injection e with e1 e2 e3
 subst e1 e2 e3
 have h1b : Own (Sh.row t s) (w.alloc (.cells us.toArray t)) base m [.slice A xs.length c] xs := by
  refine ⟨F, (Sh.row t s).O_keep ⟨A, c, cs, Fs, rfl, ho1, eF, hel⟩ (fun b hb' => hba.block b (hlt1 b hb')), hN, hr⟩
 have ho2 : (w.alloc (.cells us.toArray t)).ownsRow 0 t s.k (.slice A xs.length c) xs.length cs := ho1.alloc _
 have ho3 : (w.alloc (.cells us.toArray t)).ownsRow base t s.k (.slice A xs.length c) xs.length cs := ownsRow_base ho2 fun g hg => (hr g (by rw [eF, hg]; simp)).1
 have hul : us.length = s.k := h2.len
 refine wpList_append_lies _ hgd p x ty ho base t i0 _ s.k by_ ht hi0 hz0 hz1 hz2 hzz hk (.slice A xs.length c) xs.length cs hs ho3 ⟨w.heap.size, 0, none⟩ 1 1 us hx (by omega) ?_ (fun u hu => s.R_one h2.reads u hu) (by omega) (by unfold maxLen; omega) ?_ (by simp; omega) _ rfl ?_
 ·exact World.news_of_block (Blk.new w t us.toArray)
 ·exact Nat.le_trans (Nat.mul_le_mul_left _ hby) (by omega)
 ·intro g cap w' q1 q2 q3 q4
  have hsz : w.heap.size < w'.heap.size := by have := q2.size; rw [heap_alloc_size1] at this; omega
  exact h _ _ w' (Own.grow h1b h2b hm hb (by simp; omega) ho2 q1 q2 q3 q4) (((Below.refl base w).alloc hbase _).grown q2 (by simp; omega) fun k hk => (hr k (by rw [eF, hk]; simp)).1) hsz fun b hb1 hb2 => (q2.block b (by rw [heap_alloc_size1]; omega) fun e => by have := (hr b (by rw [eF, ← e]; simp)).2; omega).trans (hba.block b hb2)
theorem wpList_growR {P : Program} {ops : Array Oper} {rest : List Oper} {o : Oper} {a : Go.Act} {Q : Exit → Go.Act → World → Prop} (hgd : o.guard = none) (p x : Operand) (ty : TypeId)
  (ho : o.op = .call { callee := .builtin .append, args := #[p, x], argTypes := #[ty, ty] }) (ht : P.underlying ty = some (.slice t))
  {z : Value} {by_ : Nat} (hzz : z.cells.size = s.k) (hk : 0 < s.k) (hby : by_ ≤ 4096) (hinfo : (P.info? t).map (fun i => (i.zero, i.size, i.bytes)) = some (some z, s.k, by_)) (hfl : FlatSh s)
  (w : World) (base lo hi : Nat) (v : Value) (A : Option Addr) (c : Nat) (ys : List α) (hs : a.eval p = v) (hown : w.ownsRow base t s.k v 0 []) (hx : a.eval x = .slice A ys.length c) (hr : RowG s w lo hi A ys) (hlen : ys.length ≤ 1000000000) (hbase : base ≤ w.heap.size)
  (h : ∀ A' c' w', Own (Sh.row t s) w' base w'.heap.size [.slice A' ys.length c'] ys → Below base w w' → wpList P ops Q rest (a.put o.dst (.slice A' ys.length c')) w') : wpList P ops Q (o :: rest) a w := by
 obtain ⟨i0, hi0, hz0, hz1, hz2⟩ := info_parts hinfo
 by_cases h0 : ys = []
 ·subst h0
  have hrun : (Builtin.append_ #[ty, ty] o.type #[v, .slice A 0 c]).run P w = .ok v w := by
   rcases hown.2 with ⟨rfl, hz⟩ | ⟨g, cap, cur, rfl, _, _, hnc, _⟩
   ·cases A <;> simp [Builtin.append_, run_underlying ht, sizeOf, typeInfo, hi0, Builtin.lenOf, Builtin.firstCells, loadCells, loadCellsFrom]
   ·cases A <;> simp [Builtin.append_, run_underlying ht, sizeOf, typeInfo, hi0, Builtin.lenOf, Builtin.firstCells, loadCells, loadCellsFrom, storeCells] <;> omega
  obtain ⟨A', c', rfl, hO⟩ := Own.of_flat (s := s) (hi := w.heap.size) (xs := []) hown rfl (Nat.le_refl _) (fun j hj => absurd hj (by simp))
  refine wpList_plain hgd fun K hK => ?_
  unfold Oper.wp execOp
  rw [List.length_nil] at hx
  simp only [ho, resolve, invoke, builtin, Sem.run_bind, Sem.run_pure, Result.andThen_ok, List.map_toArray, List.map_cons, List.map_nil, hs, hx, hrun]
  exact hK _ _ (h A' c' w hO (Below.refl _ _))
 ·have hp := List.length_pos_iff.2 h0
  obtain ⟨b, off, news, rfl, _, _, hl, hc, hone, hel⟩ := rowG_news hr hp
  have hadd : ∀ j, (⟨b, off, none⟩ : Addr).add j = ⟨b, off + j, none⟩ := fun j => by unfold Addr.add; split <;> simp_all
  refine wpList_append_own w hgd p x ty ho base t i0 _ s.k by_ ht hi0 hz0 hz1 hz2 hzz hk v 0 [] hs hown ⟨b, off, none⟩ ys.length c news hx hl (fun j u hj => by rw [hadd]; exact hc j u hj) hone (by unfold maxLen; omega) (Nat.le_trans (Nat.mul_le_mul_left _ hby) (by omega)) hbase ?_
  intro v' w' h1 h2 _
  have hB : Below base w w' := (Below.refl base w).grown h2 hbase (fun k hk => (hown.lt k hk).1)
  rw [Nat.zero_add, List.nil_append] at h1
  obtain ⟨A', c', rfl, hO⟩ := Own.of_flat (s := s) (hi := w'.heap.size) h1 rfl (Nat.le_refl _) (fun j hj => hfl (hel j hj) w')
  exact h A' c' w' hO hB
end
def Two (w0 w : World) (t0 t1 : TypeId) (c0 c1 : Array Value) : Prop := Blk w w0.heap.size t0 c0 ∧ Blk w (w0.heap.size + 1) t1 c1 ∧ Below w0.heap.size w0 w
theorem Two.start (w : World) (t0 t1 : TypeId) (c0 c1 : Array Value) : Two w ((w.alloc (.cells c0 t0)).alloc (.cells c1 t1)) t0 t1 c0 c1 := by
 refine ⟨(Blk.new w t0 c0).alloc _, ?_, ((Below.refl _ _).alloc (Nat.le_refl _) _).alloc (by simp) _⟩
 have := Blk.new (w.alloc (.cells c0 t0)) t1 c1
 simpa using this
theorem Two.call {w0 w w1 : World} {t0 t1 : TypeId} {c0 c1 : Array Value} (h : Two w0 w t0 t1 c0 c1) (hb : Below w.heap.size w w1) : Two w0 w1 t0 t1 c0 c1 :=
 ⟨h.1.below hb h.1.lt, h.2.1.below hb h.2.1.lt, h.2.2.trans (hb.mono h.2.2.size)⟩
end Go.Proofs.YtnnabkldceklmaaGreatDoor
/- Node, Tree, Bind, Cell, Level, Given, Locals, Ref, Loop, Frame: shapes and the laws' walks (sh). Printed by gen_fam.py. -/
namespace Go.Proofs.YtnnabkldceklmaaGreatDoor
open Go.RowKit
end Go.Proofs.YtnnabkldceklmaaGreatDoor
