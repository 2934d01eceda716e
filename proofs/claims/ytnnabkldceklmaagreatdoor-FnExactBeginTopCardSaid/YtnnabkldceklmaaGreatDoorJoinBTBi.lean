/- Ranges of cells: values of many cells whose fields are not spelled out. Over any program. -/
import Derived.Deep.MidRow
import Derived.Test.YtnnabkldceklmaaGreatDoorJoinBTBf
namespace Go.Proofs.YtnnabkldceklmaaGreatDoor
open Go.RowKit
theorem there_blk {w : World} {b o n : Nat} {t : TypeId} {cs : Array Value} (h : Blk w b t cs) (hn : o + n ≤ cs.size) : w.there b o n := fun j hj => by
 refine ⟨?_, h.frozen _⟩
 rw [h.cell, Array.getElem?_eq_getElem (by omega)]; rfl
theorem setCells_out (b : Nat) : ∀ (us : List Value) (o : Nat) (w : World), Out [b] w (w.setCells b o us) ∧ (w.setCells b o us).heap.size = w.heap.size
 | [], _, w => ⟨⟨rfl, rfl, rfl, Nat.le_refl _, fun _ _ _ => rfl⟩, rfl⟩
 | u :: us, o, w => by
  obtain ⟨h, hz⟩ := setCells_out b us (o + 1) (w.setCell ⟨b, o, none⟩ u)
  have hs : (w.setCell ⟨b, o, none⟩ u).heap.size = w.heap.size := by simp [World.setCell]
  have h5 := h.size
  rw [hs] at h5
  exact ⟨⟨h.os, h.tape, h.output, h5, fun k hk hn => (h.block k (by omega) hn).trans (Below.heap_setCell w ⟨b, o, none⟩ u k (by simpa using hn))⟩, by rw [← hs]; exact hz⟩
section
variable {w0 w w' : World} {Fs : Facts}
theorem Stand.out {g : Nat} (h : Stand w0 Fs w) (ho : Out [g] w w') (h0 : w0.heap.size ≤ g) (hd : ∀ f ∈ Fs, f.2.1 ≤ g ∨ g + 1 ≤ f.1) : Stand w0 Fs w' :=
 h.within (a := g) (b := g + 1) ⟨ho.os, ho.tape, ho.output, ho.size, fun k hk h => ho.block k hk (by simp; omega)⟩ h0 hd
end
theorem rng_below {w w' : World} {b o B : Nat} {us : List Value} (h : w.rangeAt b o us) (hb : Below B w w') (hB : b < B) : w'.rangeAt b o us := fun j v hj => (hb.cell (p := ⟨b, o + j, none⟩) hB).trans (h j v hj)
structure FillR {α : Type} (s : Sh α) (w : World) (g : Nat) (xs : List α) (j : Nat) : Prop where
 lt : g < w.heap.size
 th : w.there g 0 (xs.length * s.k)
 el : ∀ i, i < j → ∃ us, w.rangeAt g (i * s.k) us ∧ us.length = s.k ∧ s.R w (g + 1) w.heap.size us (xs.getD i s.d)
section
variable {α : Type} {s : Sh α} {w w' : World} {g j : Nat} {xs : List α}
theorem FillR.start {t : TypeId} {cs : Array Value} (h : Blk w g t cs) (hs : cs.size = xs.length * s.k) : FillR s w g xs 0 := ⟨h.lt, there_blk h (by omega), fun i hi => absurd hi (by omega)⟩
theorem FillR.below (h : FillR s w g xs j) (hb : Below w.heap.size w w') : FillR s w' g xs j :=
 ⟨Nat.lt_of_lt_of_le h.lt hb.size, fun i hi => by
  have := h.th i hi
  exact ⟨by rw [hb.cell (p := ⟨g, 0 + i, none⟩) h.lt]; exact this.1, by rw [World.frozen?_of_block (a := ⟨g, 0 + i, none⟩) (hb.block g h.lt)]; exact this.2⟩, fun i hi => by
  obtain ⟨us, h1, h2, h3⟩ := h.el i hi
  exact ⟨us, rng_below h1 hb h.lt, h2, s.R_more (s.R_keep h3 fun b _ q => hb.block b q) (Nat.le_refl _) hb.size⟩⟩
theorem FillR.room (h : FillR s w g xs j) (hj : j < xs.length) {n : Nat} (hn : n = s.k) : w.there g (j * s.k) n := fun i hi => by
 have := h.th (j * s.k + i) (mul_lt hj (by omega))
 rwa [Nat.zero_add] at this
theorem FillR.add (h : FillR s w g xs j) {us : List Value} {lo : Nat} (hlo : g + 1 ≤ lo) (hj : j < xs.length) (hR : s.R w lo w.heap.size us (xs.getD j s.d)) : FillR s (w.setCells g (j * s.k) us) g xs (j + 1) := by
 obtain ⟨ho, hz⟩ := setCells_out g us (j * s.k) w
 have hk : ∀ b, g + 1 ≤ b → b < w.heap.size → (w.setCells g (j * s.k) us).heap[b]? = w.heap[b]? := fun b q1 q2 => ho.block b q2 (by simp; omega)
 refine ⟨by rw [hz]; exact h.lt, World.there_setCells h.th _ _ _, fun i hi => ?_⟩
 rw [hz]
 rcases Nat.lt_or_ge i j with hij | hij
 ·obtain ⟨vs, h1, h2, h3⟩ := h.el i hij
  have h4 : (i + 1) * s.k ≤ j * s.k := Nat.mul_le_mul_right _ hij
  rw [Nat.add_mul] at h4
  exact ⟨vs, World.rangeAt_setCells_apart h1 _ _ _ (.inr (.inl (by omega))), h2, s.R_keep h3 hk⟩
 ·obtain rfl : i = j := by omega
  exact ⟨us, World.rangeAt_setCells_same _ _ _ _ (h.room hj (s.R_len hR)), s.R_len hR, s.R_keep (s.R_more hR hlo (Nat.le_refl _)) hk⟩
theorem FillR.done {t : TypeId} (h : FillR s w g xs xs.length) {lo : Nat} (hlo : lo ≤ g) : (Sh.row t s).R w lo w.heap.size [.slice (some ⟨g, 0, none⟩) xs.length xs.length] xs :=
 ⟨_, _, rfl, fun _ => ⟨g, 0, rfl, hlo, h.lt, fun i hi => by
  obtain ⟨us, h1, h2, h3⟩ := h.el i hi
  refine ⟨us, fun q hq => ?_, s.R_more h3 (by omega) (Nat.le_refl _)⟩
  rw [Nat.zero_add, List.getElem?_eq_getElem hq]
  exact h1 q _ (List.getElem?_eq_getElem hq)⟩⟩
end
section
variable {P : Program}
theorem exec_loadMid {o : Oper} {a : Go.Act} {w : World} (ty : TypeId) (x : Operand) (ho : o.op = .load ty x) (b off : Nat) (hx : a.eval x = .pointer (some ⟨b, off, none⟩)) (cs : List Value) {d : TypeDesc} (hc : w.rangeAt b off cs)
  (hu : P.underlying ty = some d) (hd : d.isRow = true) (hi : (P.info? ty).map (·.size) = some cs.length) : (execOp a.eval o).run P w = .ok (.value (.agg cs.toArray)) w := by
 unfold execOp
 simp only [ho, hx, Instr.loadAt, Instr.sureAddr, Sem.run_bind, Sem.run_pure, Result.andThen_ok, run_loadVar_mid w b off ty cs d hc hu hd hi]
end
end Go.Proofs.YtnnabkldceklmaaGreatDoor
/- append([]T{}, ys...) in a region that draws its order, told closely; two operations that may come up. -/
namespace Go.Proofs.YtnnabkldceklmaaGreatDoor
open Go.RowKit
section
variable {P : Program} {l : List Oper} {Q : Exit → Go.Act → World → Prop} {md : Region.Mode} {S : World → Prop} {z : Nat → Bool}
end
section
variable {α : Type} {s : Sh α} {t : TypeId}
theorem OwnS.of_flat {w : World} {base : Nat} {v : Value} {n : Nat} {cs : List Value} {xs : List α} (h : w.ownsRow base t s.k v n cs) (hn : n = xs.length) (hel : ∀ j, j < xs.length → s.O w [] (elemAt s.k cs j) (xs.getD j s.d)) :
  ∃ A c, v = .slice A xs.length c ∧ OwnS (Sh.row t s) w (fun b => v.ownBlock = some b) [.slice A xs.length c] xs := by
 subst hn
 obtain ⟨A, c, rfl⟩ : ∃ A c, v = .slice A xs.length c := by
  rcases h.2 with ⟨e1, e2⟩ | ⟨g, cap, cur, e1, _⟩
  ·exact ⟨none, 0, by rw [e1, e2]⟩
  ·exact ⟨_, _, e1⟩
 refine ⟨A, c, rfl, (Value.slice A xs.length c).ownBlock.toList, ⟨A, c, cs, fun _ => [], rfl, ?_, by rw [flat_nil, List.append_nil], hel⟩, ?_, fun b hb => by simpa using hb⟩
 ·exact ownsRow_base h fun _ _ => Nat.zero_le _
 ·cases (Value.slice A xs.length c).ownBlock <;> simp
end
section
variable {α : Type} {s : Sh α} {w w' : World} {vs : List Value} {x : α} {S S' : Nat → Prop}
theorem OwnS.keepW (h : OwnS s w S vs x) (hk : ∀ b, S b → b < w.heap.size → w'.heap[b]? = w.heap[b]?) : OwnS s w' S vs x := by
 obtain ⟨F, h1, h2, h3⟩ := h
 exact ⟨F, s.O_keep h1 fun b hb => hk b (h3 b hb) (s.O_lt h1 b hb), h2, h3⟩
theorem OwnS.setCell (h : OwnS s w S vs x) {p : Addr} (hp : ∀ b, S b → b ≠ p.block) (u : Value) : OwnS s (w.setCell p u) S vs x := h.keepW fun b hb _ => Below.heap_setCell _ _ _ _ (hp b hb)
theorem OwnS.belowW (h : OwnS s w S vs x) (hb : Below w.heap.size w w') : OwnS s w' S vs x := h.keepW fun b _ hl => hb.block b hl
theorem OwnS.mono (h : OwnS s w S vs x) (hs : ∀ b, S b → b < w.heap.size → S' b) : OwnS s w S' vs x := by
 obtain ⟨F, h1, h2, h3⟩ := h
 exact ⟨F, h1, h2, fun b hb => hs b (h3 b hb) (s.O_lt h1 b hb)⟩
end
end Go.Proofs.YtnnabkldceklmaaGreatDoor
/- What a value owns, told by any set of blocks: parts out of order. -/
namespace Go.Proofs.YtnnabkldceklmaaGreatDoor
open Go.RowKit
structure KeepS (S : Nat → Prop) (w w' : World) : Prop where
 os : w'.os = w.os
 tape : w'.tape = w.tape
 output : w'.output = w.output
 size : w.heap.size ≤ w'.heap.size
 block : ∀ b, b < w.heap.size → ¬ S b → w'.heap[b]? = w.heap[b]?
theorem KeepS.refl (S : Nat → Prop) (w : World) : KeepS S w w := ⟨rfl, rfl, rfl, Nat.le_refl _, fun _ _ _ => rfl⟩
theorem KeepS.ofBelow {S : Nat → Prop} {w w' : World} (h : Below w.heap.size w w') : KeepS S w w' := ⟨h.os, h.tape, h.output, h.size, fun b hb _ => h.block b hb⟩
theorem KeepS.ofOut {S : Nat → Prop} {G : List Nat} {w w' : World} (h : Out G w w') (hG : ∀ g ∈ G, S g) : KeepS S w w' := ⟨h.os, h.tape, h.output, h.size, fun b hb hn => h.block b hb fun hg => hn (hG b hg)⟩
theorem KeepS.trans {S : Nat → Prop} {w w1 w2 : World} (h : KeepS S w w1) (k : KeepS S w1 w2) : KeepS S w w2 :=
 ⟨k.os.trans h.os, k.tape.trans h.tape, k.output.trans h.output, Nat.le_trans h.size k.size, fun b hb hn => (k.block b (Nat.lt_of_lt_of_le hb h.size) hn).trans (h.block b hb hn)⟩
theorem KeepS.more {S S' : Nat → Prop} {w w1 : World} (h : KeepS S w w1) (hs : ∀ b, S b → S' b) : KeepS S' w w1 := ⟨h.os, h.tape, h.output, h.size, fun b hb hn => h.block b hb fun hS => hn (hs b hS)⟩
theorem KeepS.below {S : Nat → Prop} {w w1 : World} {B : Nat} (h : KeepS S w w1) (hB : B ≤ w.heap.size) (hS : ∀ b, S b → B ≤ b) : Below B w w1 := ⟨h.os, h.tape, h.output, h.size, fun b hb => h.block b (by omega) fun hs => by have := hS b hs; omega⟩
theorem OwnS.lt {α : Type} {s : Sh α} {w : World} {S : Nat → Prop} {vs : List Value} {x : α} (h : OwnS s w S vs x) : OwnS s w (fun b => S b ∧ b < w.heap.size) vs x := by
 obtain ⟨F, h1, h2, h3⟩ := h
 exact ⟨F, h1, h2, fun b hb => ⟨h3 b hb, s.O_lt h1 b hb⟩⟩
theorem OwnS.keep {α : Type} {s : Sh α} {w w' : World} {S T : Nat → Prop} {vs : List Value} {x : α} (h : OwnS s w S vs x) (hk : KeepS T w w') (hd : ∀ b, S b → ¬ T b) : OwnS s w' S vs x := by
 obtain ⟨F, h1, h2, h3⟩ := h
 exact ⟨F, s.O_keep h1 fun b hb => hk.block b (s.O_lt h1 b hb) (hd b (h3 b hb)), h2, h3⟩
theorem OwnS.split {α β : Type} {a : Sh α} {b : Sh β} {w : World} {S : Nat → Prop} {vs : List Value} {x : α} {y : β} (h : OwnS (a.prod b) w S vs (x, y)) :
  ∃ us ws S1 S2, vs = us ++ ws ∧ us.length = a.k ∧ OwnS a w S1 us x ∧ OwnS b w S2 ws y ∧ (∀ c, S1 c → S c) ∧ (∀ c, S2 c → S c) ∧ ∀ c, S1 c → ¬ S2 c := by
 obtain ⟨F, ⟨us, ws, F1, F2, e, eF, o1, o2⟩, hN, hr⟩ := h
 subst eF
 obtain ⟨n1, n2, n3⟩ := List.nodup_append.1 hN
 refine ⟨us, ws, (· ∈ F1), (· ∈ F2), e, ?_, ⟨F1, o1, n1, fun b hb => hb⟩, ⟨F2, o2, n2, fun b hb => hb⟩, fun c hc => hr c (List.mem_append_left _ hc), fun c hc => hr c (List.mem_append_right _ hc), fun c h1 h2 => n3 c h1 c h2 rfl⟩
 exact a.R_len (a.O_R (lo := 0) (hi := w.heap.size) o1 fun b hb => ⟨Nat.zero_le _, a.O_lt o1 b hb⟩)
theorem OwnS.cut {α β : Type} {a : Sh α} {b : Sh β} {w : World} {S : Nat → Prop} {us ws : List Value} {x : α} {y : β} (h : OwnS (a.prod b) w S (us ++ ws) (x, y)) (hl : us.length = a.k) :
  ∃ S1 S2 : Nat → Prop, OwnS a w S1 us x ∧ OwnS b w S2 ws y ∧ (∀ c, S1 c → S c) ∧ (∀ c, S2 c → S c) ∧ ∀ c, S1 c → ¬ S2 c := by
 obtain ⟨us', ws', S1, S2, e, hl', o1, o2, h1, h2, h3⟩ := h.split
 obtain ⟨rfl, rfl⟩ := List.append_inj e (hl.trans hl'.symm)
 exact ⟨S1, S2, o1, o2, h1, h2, h3⟩
section
variable {α : Type} {s : Sh α} {t : TypeId}
theorem wpList_growS {P : Program} {ops : Array Oper} {rest : List Oper} {o : Oper} {a : Go.Act} {Q : Exit → Go.Act → World → Prop} (hgd : o.guard = none) (p x : Operand) (ty : TypeId)
  (ho : o.op = .call { callee := .builtin .append, args := #[p, x], argTypes := #[ty, ty] }) (ht : P.underlying ty = some (.slice t))
  {z : Value} {by_ : Nat} (hzz : z.cells.size = s.k) (hk : 0 < s.k) (hby : by_ ≤ 4096) (hinfo : (P.info? t).map (fun i => (i.zero, i.size, i.bytes)) = some (some z, s.k, by_)) (hfl : FlatSh s)
  (w : World) (S : Nat → Prop) (A : Option Addr) (n c : Nat) (xs : List α) (us : List Value) (y : α) (hs : a.eval p = .slice A n c) (h1 : OwnS (Sh.row t s) w S [.slice A n c] xs) (h2 : s.O w [] us y)
  (hx : a.eval x = .slice (some ⟨w.heap.size, 0, none⟩) 1 1) (hlen : n ≤ 1000000000)
  (h : ∀ A' c' w', OwnS (Sh.row t s) w' (fun b => S b ∨ w.heap.size ≤ b) [.slice A' (n + 1) c'] (xs ++ [y]) → KeepS S w w' → wpList P ops Q rest (a.put o.dst (.slice A' (n + 1) c')) w') : wpList P ops Q (o :: rest) a (w.alloc (.cells us.toArray t)) := by
 obtain ⟨F, hO, hN, hr⟩ := h1
 have hlt := (Sh.row t s).O_lt hO
 obtain ⟨A', c', cs, Fs, e, ho1, eF, hel⟩ := id hO
 injection e with e _
 injection e with e1 e2 e3
 subst e1 e2 e3
 rcases ho1.2 with ⟨hv, h0⟩ | ⟨g, cap, cur, hv, _⟩
 ·injection hv with hA hl hc
  subst hA hc
  have hx0 : xs = [] := List.eq_nil_of_length_eq_zero h0
  subst hx0
  have h2o : Own s w w.heap.size w.heap.size us y := ⟨[], h2, List.nodup_nil, fun b hb => by cases hb⟩
  have h0o : Own (Sh.row t s) w w.heap.size w.heap.size [.slice none ([] : List α).length 0] [] := Own.nil_row _ _ _
  refine wpList_grow hgd p x ty ho ht hzz hk hby hinfo w w.heap.size w.heap.size w.heap.size w.heap.size none ([] : List α).length 0 [] us y hs h0o h2o (Nat.le_refl _) (Nat.le_refl _) (Nat.le_refl _) (Nat.le_refl _) hx hlen ?_
  intro A1 c1 w1 hO1 hb1 _ _
  exact h A1 c1 w1 (hO1.toS.mono fun b hb _ => .inr hb.1) (KeepS.ofBelow hb1)
 ·injection hv with hA hl hc
  subst hA
  have hg : g ∈ F := by rw [eF]; simp [Value.ownBlock]
  have h1o : Own (Sh.row t s) w 0 w.heap.size [.slice (some ⟨g, 0, none⟩) xs.length c] xs := ⟨F, hO, hN, fun b hb => ⟨Nat.zero_le _, hlt b hb⟩⟩
  refine wpList_growX hgd p x ty ho ht hzz hk hby hinfo hfl w g xs.length c xs us y hs (own_flat_exact hfl h1o) (hlt g hg) h2 hx hlen ?_
  intro g1 cap1 w1 hO1 ho1 hg1 hl1
  refine h _ _ w1 (hO1.toS.mono fun b hb _ => ?_) (KeepS.ofOut ho1 fun q hq => by rw [List.mem_singleton.1 hq]; exact hr g hg)
  obtain rfl : b = g1 := by omega
  rcases hg1 with rfl | hg1
  ·exact .inl (hr b hg)
  ·exact .inr hg1
end
end Go.Proofs.YtnnabkldceklmaaGreatDoor
/- The program's Disk.put at a cache's disk without puts. -/
namespace Go.Proofs.YtnnabkldceklmaaGreatDoor
open Go.RowKit
set_option maxHeartbeats 4000000 in
set_option maxRecDepth 100000 in
theorem diskPutI_any (g : Nat) (T : TypeId) (cs : Array Value) (A2 : Option Addr) (c2 : Nat) (S2 : Nat → Prop) (at_ : Int) (s : ByteArray) (W : World) (hk : Blk W g T cs) (h2 : cs[2]? = some (.slice A2 0 c2)) (hO : OwnS (Sh.row 138 shPut) W S2 [.slice A2 0 c2] []) (hg : ¬ S2 g) :
  Calls Tryz.prog 126 #[.pointer (some ⟨g, 0, none⟩), .int .i64 at_, .string s] W fun e W' => e = .returned (.tuple #[]) ∧ ∃ (A' : Option Addr) (c' : Nat), Blk W' g T (cs.setIfInBounds 2 (.slice A' 1 c')) ∧ OwnS (Sh.row 138 shPut) W' (fun b => S2 b ∨ W.heap.size ≤ b) [.slice A' 1 c'] [(at_, s)] ∧ KeepS (fun b => S2 b ∨ b = g) W W' := by
 have f := (hk.cell 2).trans h2
 have HK := hd_ hk; have HO := hd_ hO
 have hgl := hk.lt
 clear hk hO
 go_enter Tryz.func126, Tryz.ntmps126
 go_wp2_with (at_builtin; refine wpList_growS (s := shPut) (t := 138) rfl (.tmp 10) (.tmp 14) 37 rfl Tryz.underlying37 rfl (by decide) (by decide) infoPut flatPut W S2 A2 0 c2 [] [.int .i64 at_, .string s] (at_, s) rfl HO.out (shPut_O.2 ⟨rfl, rfl⟩) rfl (Nat.zero_le _) ?_; intro A' c' w' hO' hK'; have hk' := (hK'.block g hgl hg).trans HK.out; have f' := (show Blk w' g T cs from hk').cell 2; have z' := (show Blk w' g T cs from hk').frozen 2; rw [h2] at f')
 refine bodyPost_end (v := .tuple #[]) (by simp [results, Tryz.results126, go_sem]) rfl ⟨rfl, ?_⟩
 refine ⟨A', c', (show Blk w' g T cs from hk').set_ 2 _, hO'.setCell (fun b hb e => ?_) _, ?_⟩
 ·rcases hb with hb | hb
  ·exact hg (by rw [← show b = g from e]; exact hb)
  ·have : b = g := e
   omega
 ·exact ⟨hK'.os, hK'.tape, hK'.output, by have := hK'.size; simpa [World.setCell] using this, fun b hb hn => (Below.heap_setCell w' ⟨g, 2, none⟩ _ b (fun e => hn (.inr e))).trans (hK'.block b hb fun h => hn (.inl h))⟩
end Go.Proofs.YtnnabkldceklmaaGreatDoor
