/- append([]T{}, ys...) in a region that draws its order, told closely; two operations that may come up. -/
import Derived.Test.YtlodlplfmpikjaaGreatWho
import Derived.Test.YtlodlplfmpikjaaGreatTail
namespace Go.Proofs.YtlodlplfmpikjaaGreat
open Go.RowKit

section
variable {P : Program} {l : List Oper} {Q : Exit → Go.Act → World → Prop} {md : Region.Mode} {S : World → Prop} {z : Nat → Bool}
theorem AnyT.pair {i j : Nat} {oi oj : Oper} {n : Nat} {listed : Array Bool} {a : Go.Act} {w : World} (hr : Region.ready md l.toArray listed = [i, j]) (hi : l[i]? = some oi) (hj : l[j]? = some oj)
    (h1 : ∀ K' : Go.Act → World → Prop, Shut (∀ a w, S w → (S w → AnyT P md l.toArray Q S z n (listed.setIfInBounds i true) a w) → K' a w) → if Region.wanted oi (yielded l.toArray a.tmps) = true then Oper.wp P oi a w K' Q else K' (a.put oi.dst undef) w)
    (h2 : ∀ K' : Go.Act → World → Prop, Shut (∀ a w, S w → (S w → AnyT P md l.toArray Q S z n (listed.setIfInBounds j true) a w) → K' a w) → if Region.wanted oj (yielded l.toArray a.tmps) = true then Oper.wp P oj a w K' Q else K' (a.put oj.dst undef) w) :
    AnyT P md l.toArray Q S z (n + 1) listed a w := by
  refine ⟨fun h0 => (by rw [hr] at h0; cases h0), fun k hk => ?_⟩
  rw [hr] at hk
  rcases List.mem_cons.1 hk with rfl | hk
  · exact wpOp_step (by simpa using hi) (fun K' hK => h1 K' (fun a w hS hW => hK a w ⟨fun _ => hS, hW hS⟩))
  · obtain rfl : k = j := by simpa using hk
    exact wpOp_step (by simpa using hj) (fun K' hK => h2 K' (fun a w hS hW => hK a w ⟨fun _ => hS, hW hS⟩))
end

section
variable {α : Type} {s : Sh α} {t : TypeId}
theorem OwnS.of_flat {w : World} {base : Nat} {v : Value} {n : Nat} {cs : List Value} {xs : List α} (h : w.ownsRow base t s.k v n cs) (hn : n = xs.length) (hel : ∀ j, j < xs.length → s.O w [] (elemAt s.k cs j) (xs.getD j s.d)) :
    ∃ A c, v = .slice A xs.length c ∧ OwnS (Sh.row t s) w (fun b => v.ownBlock = some b) [.slice A xs.length c] xs := by
  subst hn
  obtain ⟨A, c, rfl⟩ : ∃ A c, v = .slice A xs.length c := by
    rcases h.2 with ⟨e1, e2⟩ | ⟨g, cap, cur, e1, _⟩
    · exact ⟨none, 0, by rw [e1, e2]⟩
    · exact ⟨_, _, e1⟩
  refine ⟨A, c, rfl, (Value.slice A xs.length c).ownBlock.toList, ⟨A, c, cs, fun _ => [], rfl, ?_, by rw [flat_nil, List.append_nil], hel⟩, ?_, fun b hb => by simpa using hb⟩
  · exact ownsRow_base h fun _ _ => Nat.zero_le _
  · cases (Value.slice A xs.length c).ownBlock <;> simp
/-- An empty literal's block. -/
theorem lit_own {w : World} {h : Nat} {k : Nat} (hb : Blk w h t #[]) : w.ownsRow h t k (.slice (some ⟨h, 0, none⟩) 0 0) 0 [] :=
  ⟨by simp, .inr ⟨h, 0, #[], rfl, Nat.le_refl _, hb, Nat.le_refl _, by unfold maxLen; omega, by simp, by simp⟩⟩

/-- append([]T{}, ys...), the literal in block h: the row lies in h or in the newest block; nothing else changed. -/
theorem run_litR {P : Program} (ty t0 : TypeId) (ht : P.underlying ty = some (.slice t)) {z : Value} {by_ : Nat} (hzz : z.cells.size = s.k) (hk : 0 < s.k) (hby : by_ ≤ 4096) (hinfo : (P.info? t).map (fun i => (i.zero, i.size, i.bytes)) = some (some z, s.k, by_)) (hfl : FlatSh s)
    (w : World) (h lo hi : Nat) (A : Option Addr) (c : Nat) (ys : List α) (hb : Blk w h t #[]) (hr : RowG s w lo hi A ys) (hlen : ys.length ≤ 1000000000) :
    ∃ A' c' w', (Builtin.append_ #[ty, ty] t0 #[.slice (some ⟨h, 0, none⟩) 0 0, .slice A ys.length c]).run P w = .ok (.slice A' ys.length c') w' ∧ OwnS (Sh.row t s) w' (fun b => b = h ∨ b = w.heap.size) [.slice A' ys.length c'] ys ∧ Out [h] w w' := by
  obtain ⟨i0, hi0, hz0, hz1, hz2⟩ := info_parts hinfo
  by_cases h0 : ys = []
  · subst h0
    have hrun : (Builtin.append_ #[ty, ty] t0 #[.slice (some ⟨h, 0, none⟩) 0 0, .slice A 0 c]).run P w = .ok (.slice (some ⟨h, 0, none⟩) 0 0) w := by
      cases A <;> simp [Builtin.append_, run_underlying ht, sizeOf, typeInfo, hi0, Builtin.lenOf, Builtin.firstCells, loadCells, loadCellsFrom, storeCells]
    obtain ⟨A', c', e, hO⟩ := OwnS.of_flat (s := s) (xs := []) (lit_own (k := s.k) hb) rfl (fun j hj => absurd hj (by simp))
    refine ⟨A', c', w, by rw [← e]; exact hrun, ?_, Out.refl _ _⟩
    obtain ⟨F, q1, q2, q3⟩ := hO
    exact ⟨F, q1, q2, fun b hb' => .inl (by have := q3 b hb'; injection this with this; exact this.symm)⟩
  · have hp := List.length_pos_iff.2 h0
    obtain ⟨b, off, news, rfl, _, _, hl, hc, hone, hel⟩ := rowG_news hr hp
    have hadd : ∀ j, (⟨b, off, none⟩ : Addr).add j = ⟨b, off + j, none⟩ := fun j => by unfold Addr.add; split <;> simp_all
    obtain ⟨v', w', hrun, h1, h2, _, h5⟩ := run_append_own_at (P := P) w h ty t0 t i0 z s.k by_ ht hi0 hz0 hz1 hz2 hzz hk (.slice (some ⟨h, 0, none⟩) 0 0) 0 [] (lit_own hb) ⟨b, off, none⟩ ys.length c news hl (fun j u hj => by rw [hadd]; exact hc j u hj) hone (by unfold maxLen; omega) (Nat.le_trans (Nat.mul_le_mul_left _ hby) (by omega)) (Nat.le_of_lt hb.lt)
    rw [Nat.zero_add, List.nil_append] at h1
    obtain ⟨A', c', rfl, F, q1, q2, q3⟩ := OwnS.of_flat (s := s) h1 rfl (fun j hj => hfl (hel j hj) w')
    refine ⟨A', c', w', hrun, ⟨F, q1, q2, fun b hb' => ?_⟩, Out.of_grown h2⟩
    have h6 := q3 b hb'
    rcases h5 with h5 | h5
    · left; rw [h6] at h5; injection h5
    · right; rw [h6] at h5; injection h5
theorem step_litR {P : Program} {ops : Array Oper} {o : Oper} {a : Go.Act} {K : Go.Act → World → Prop} {Q : Exit → Go.Act → World → Prop} {E : Prop} (hgd : o.guard = none) (p x : Operand) (ty : TypeId)
    (ho : o.op = .call { callee := .builtin .append, args := #[p, x], argTypes := #[ty, ty] }) (ht : P.underlying ty = some (.slice t)) {z : Value} {by_ : Nat} (hzz : z.cells.size = s.k) (hk : 0 < s.k) (hby : by_ ≤ 4096) (hinfo : (P.info? t).map (fun i => (i.zero, i.size, i.bytes)) = some (some z, s.k, by_)) (hfl : FlatSh s)
    (w : World) (h lo hi : Nat) (A : Option Addr) (c : Nat) (ys : List α) (hs : a.eval p = .slice (some ⟨h, 0, none⟩) 0 0) (hx : a.eval x = .slice A ys.length c) (hb : Blk w h t #[]) (hr : RowG s w lo hi A ys) (hlen : ys.length ≤ 1000000000)
    (hc : ∀ A' c' w', OwnS (Sh.row t s) w' (fun b => b = h ∨ b = w.heap.size) [.slice A' ys.length c'] ys → Out [h] w w' → K (a.put o.dst (.slice A' ys.length c')) w') : if Region.wanted o (yielded ops a.tmps) = true then Oper.wp P o a w K Q else E := by
  have hwt : Region.wanted o (yielded ops a.tmps) = true := by simp [Region.wanted, hgd]
  rw [if_pos hwt]
  obtain ⟨A', c', w', hrun, h1, h2⟩ := run_litR ty o.type ht hzz hk hby hinfo hfl w h lo hi A c ys hb hr hlen
  unfold Oper.wp execOp
  simp only [ho, resolve, invoke, builtin, Sem.run_bind, Sem.run_pure, Result.andThen_ok, List.map_toArray, List.map_cons, List.map_nil, hs, hx, hrun]
  exact hc A' c' w' h1 h2
end

theorem Two.belowB {w0 w w1 : World} {t0 t1 : TypeId} {c0 c1 : Array Value} (h : Two w0 w t0 t1 c0 c1) (hb : Below (w0.heap.size + 1 + 1) w w1) : Two w0 w1 t0 t1 c0 c1 :=
  ⟨h.1.below hb (by omega), h.2.1.below hb (by omega), h.2.2.trans (hb.mono (by omega))⟩

section
variable {α : Type} {s : Sh α} {w w' : World} {vs : List Value} {x : α} {S S' : Nat → Prop}
theorem OwnS.keepW (h : OwnS s w S vs x) (hk : ∀ b, S b → b < w.heap.size → w'.heap[b]? = w.heap[b]?) : OwnS s w' S vs x := by
  obtain ⟨F, h1, h2, h3⟩ := h
  exact ⟨F, s.O_keep h1 fun b hb => hk b (h3 b hb) (s.O_lt h1 b hb), h2, h3⟩
theorem OwnS.setCell (h : OwnS s w S vs x) {p : Addr} (hp : ∀ b, S b → b ≠ p.block) (u : Value) : OwnS s (w.setCell p u) S vs x := h.keepW fun b hb _ => Below.heap_setCell _ _ _ _ (hp b hb)
theorem OwnS.belowW (h : OwnS s w S vs x) (hb : Below w.heap.size w w') : OwnS s w' S vs x := h.keepW fun b _ hl => hb.block b hl
theorem OwnS.mono (h : OwnS s w S vs x) (hs : ∀ b, S b → b < w.heap.size → S' b) : OwnS s w S' vs x := by
  obtain ⟨F, h1, h2, h3⟩ := h
  exact ⟨F, h1, h2, fun b hb => hs b (h3 b hb) (s.O_lt h1 b hb)⟩
end

end Go.Proofs.YtlodlplfmpikjaaGreat
