/- A whole block loaded, a whole block stored: for values of many cells. Over any program. -/
import Derived.Laws.Tables
import Derived.Deep.DeepCutAuto
import Derived.Deep.CutBlock
import Derived.Test.YtnnabkldceklmaaGreatDoorJoinBTAk
import Derived.MapKept
set_option maxHeartbeats 16000000
set_option maxRecDepth 100000
namespace Go.Proofs.YtnnabkldceklmaaGreatDoor
open Go.RowKit
section
variable {P : Program}
theorem out_setRow (w : World) (g : Nat) (cs : Array Value) : Out [g] w (w.setRow g cs) :=
 ⟨rfl, rfl, rfl, by simp, fun b _ hb => setRow_other w g b cs (by simpa using hb)⟩
theorem wpList_loadAll {ops : Array Oper} {rest : List Oper} {o : Oper} {a : Go.Act} {w : World} {Q : Exit → Go.Act → World → Prop} (hgd : o.guard = none) (ty : TypeId) (x : Operand) (ho : o.op = .load ty x)
  (g : Nat) (hx : a.eval x = .pointer (some ⟨g, 0, none⟩)) {t : TypeId} {cs : Array Value} {d : TypeDesc} (hg : Blk w g t cs) (hu : P.underlying ty = some d) (hd : (match d with | .struct _ | .array _ _ => true | _ => false) = true)
  (hi : (P.info? ty).map (·.size) = some cs.size) (h : wpList P ops Q rest (a.put o.dst (.agg cs)) w) : wpList P ops Q (o :: rest) a w :=
 wpList_load_row hgd ty x ho g hx t cs (0, 0) d hg hu hd hi h
theorem wpList_storeAll {ops : Array Oper} {rest : List Oper} {o : Oper} {a : Go.Act} {w : World} {Q : Exit → Go.Act → World → Prop} (hgd : o.guard = none) (ty : TypeId) (x y : Operand) (ho : o.op = .store ty x y)
  (g : Nat) (cells : Array Value) (hx : a.eval x = .pointer (some ⟨g, 0, none⟩)) (hy : a.eval y = .agg cells) {t : TypeId} {old : Array Value} (hg : Blk w g t old) (hi : (P.info? ty).map (·.size) = some cells.size)
  (hold : old.size = cells.size) (h1 : ∀ u ∈ cells.toList, u.oneCell' = true)
  (h : ∀ w', Blk w' g t cells → Out [g] w w' → w'.heap.size = w.heap.size → wpList P ops Q rest (a.put o.dst undef) w') : wpList P ops Q (o :: rest) a w :=
 wpList_store_row hgd ty x y ho g cells hx hy t old hg hi hold (Array.all_eq_true_iff_forall_mem.2 fun u hu => h1 u (by simpa using hu)) (h _ (setRow_heap w g old cells t (0, 0) hg) (out_setRow w g cells) (by simp))
end
theorem Out.below1 {g B : Nat} {w w' : World} (h : Out [g] w w') (hB : B ≤ g) (hs : B ≤ w.heap.size) : Below B w w' :=
 ⟨h.os, h.tape, h.output, h.size, fun b hb => h.block b (by omega) (by simp; omega)⟩
theorem Blk.outOf {w w' : World} {g b : Nat} {t : TypeId} {cs : Array Value} (h : Blk w b t cs) (ho : Out [g] w w') (hb : b ≠ g) : Blk w' b t cs := (ho.block b h.lt (by simpa using hb)).trans h
theorem Own.outOf {α : Type} {s : Sh α} {w w' : World} {g lo hi : Nat} {vs : List Value} {x : α} (h : Own s w lo hi vs x) (ho : Out [g] w w') (hg : g < lo ∨ hi ≤ g) : Own s w' lo hi vs x := by
 obtain ⟨F, h1, h2, h3⟩ := h
 exact ⟨F, s.O_keep h1 fun b hb => ho.block b (s.O_lt h1 b hb) (by have := h3 b hb; simp; omega), h2, h3⟩
theorem Three.store1_all {w0 w w' : World} {t0 t1 t2 : TypeId} {c0 c1 c2 cs : Array Value} (h : Three w0 w t0 t1 t2 c0 c1 c2) (hb : Blk w' (w0.heap.size + 1) t1 cs) (ho : Out [w0.heap.size + 1] w w') : Three w0 w' t0 t1 t2 c0 cs c2 :=
 ⟨h.1.outOf ho (by omega), hb, h.2.2.1.outOf ho (by omega), h.2.2.2.trans (ho.below1 (by omega) h.2.2.2.size)⟩
def OwnS {α : Type} (s : Sh α) (w : World) (S : Nat → Prop) (vs : List Value) (x : α) : Prop := ∃ F, s.O w F vs x ∧ F.Nodup ∧ ∀ b ∈ F, S b
section
variable {α β : Type} {s : Sh α} {s' : Sh β} {w : World} {lo hi : Nat} {vs ws : List Value} {x : α} {y : β} {S S' : Nat → Prop}
theorem Own.toS (h : Own s w lo hi vs x) : OwnS s w (fun b => lo ≤ b ∧ b < hi) vs x := h
theorem OwnS.own (h : OwnS s w S vs x) (hs : ∀ b, S b → lo ≤ b ∧ b < hi) : Own s w lo hi vs x := by
 obtain ⟨F, h1, h2, h3⟩ := h
 exact ⟨F, h1, h2, fun b hb => hs b (h3 b hb)⟩
theorem OwnS.one {enc : α → Value} {d : α} {m : Nat → α} {co : α → Nat} {h1 : ∀ x, (enc x).oneCell' = true} (w : World) (x : α) : OwnS (Sh.one enc d m co h1) w (fun _ => False) [enc x] x :=
 ⟨[], ⟨rfl, rfl⟩, List.nodup_nil, fun b hb => by cases hb⟩
theorem OwnS.prod (h1 : OwnS s w S vs x) (h2 : OwnS s' w S' ws y) (hd : ∀ b, S b → S' b → False) : OwnS (s.prod s') w (fun b => S b ∨ S' b) (vs ++ ws) (x, y) := by
 obtain ⟨F1, o1, n1, r1⟩ := h1
 obtain ⟨F2, o2, n2, r2⟩ := h2
 refine ⟨F1 ++ F2, ⟨vs, ws, F1, F2, rfl, rfl, o1, o2⟩, List.nodup_append.2 ⟨n1, n2, fun c hc c' hc' e => ?_⟩, fun c hc => ?_⟩
 ·subst e; exact hd c (r1 c hc) (r2 c hc')
 ·rcases List.mem_append.1 hc with hc | hc
  ·exact .inl (r1 c hc)
  ·exact .inr (r2 c hc)
end
end Go.Proofs.YtnnabkldceklmaaGreatDoor
/- A region that draws its order and ends in stores that hit what it loaded: the loads are taken first; what is held need not stand behind the stores ('tail operations', which wait for every load). Over any program. -/
namespace Go.Proofs.YtnnabkldceklmaaGreatDoor
def tailBegun (z : Nat → Bool) (listed : Array Bool) : Bool := (List.range listed.size).any fun j => z j && listed.getD j false
theorem tailBegun_set {z : Nat → Bool} {listed : Array Bool} {i : Nat} (hz : z i = false) : tailBegun z (listed.setIfInBounds i true) = tailBegun z listed := by
 unfold tailBegun
 rw [Array.size_setIfInBounds]
 congr 1
 funext j
 by_cases h : i = j
 ·subst h; rw [hz]; rfl
 ·rw [getD_set_ne false h]
theorem tailBegun_mono {z : Nat → Bool} {listed : Array Bool} {i : Nat} (h : tailBegun z (listed.setIfInBounds i true) = false) : tailBegun z listed = false := by
 unfold tailBegun at h ⊢
 rw [Array.size_setIfInBounds] at h
 rw [List.any_eq_false] at h ⊢
 intro j hj hc
 refine h j hj ?_
 rw [Bool.and_eq_true] at hc ⊢
 exact ⟨hc.1, getD_set_true hc.2⟩
section
variable {P : Program} {ops : Array Oper} {Q : Exit → Go.Act → World → Prop} {md : Region.Mode} {S : World → Prop} {z : Nat → Bool}
def AnyT (P : Program) (md : Region.Mode) (ops : Array Oper) (Q : Exit → Go.Act → World → Prop) (S : World → Prop) (z : Nat → Bool) : Nat → Array Bool → Go.Act → World → Prop
 | 0, listed, a, w => Region.ready md ops listed = [] ∧ Q .normal a w
 | n + 1, listed, a, w => (Region.ready md ops listed = [] → Q .normal a w) ∧
  ∀ i ∈ Region.ready md ops listed, wpOp P ops Q i (fun a' w' => (tailBegun z (listed.setIfInBounds i true) = false → S w') ∧ AnyT P md ops Q S z n (listed.setIfInBounds i true) a' w') a w
theorem AnyT.any : ∀ (n : Nat) (listed : Array Bool) (a : Go.Act) (w : World), AnyT P md ops Q S z n listed a w → wpAny P md ops Q n listed a w
 | 0, _, _, _, h => h
 | n + 1, _, _, _, h => ⟨h.1, fun i hi => wpOp_mono (fun a' w' h' => AnyT.any n _ a' w' h'.2) (h.2 i hi)⟩
theorem AnyT.first {S' : World → Prop} {i : Nat} {oi : Oper} {v : Value} (hi : ops[i]? = some oi) (hs : Region.noSelect ops = true) (hQ : ∀ c a w, Q (.panic c) (a.put oi.dst v) w → Q (.panic c) a w) (hzi : z i = false)
  (hz : (∀ w, S w → S' w) ∧ (∀ j oj, ops[j]? = some oj → z j = true → ∃ e ∈ oj.after, Region.binds md e = true ∧ e.on = i) ∨ ∀ w, S' w) :
  ∀ (n : Nat) (listed : Array Bool), (∀ j oj, ops[j]? = some oj → j ≠ i → listed.getD j true = false → (∀ e ∈ oj.after, Region.binds md e = true → e.on ≠ i) → oi.apart ops oj = true) →
   i ∈ Region.ready md ops listed → (tailBegun z listed = false ∨ ∀ w, S' w) → ∀ (a : Go.Act) (w : World), YieldsIf P ops S' oi v a → (tailBegun z listed = false → S w) → AnyT P md ops Q S z n (listed.setIfInBounds i true) (a.put oi.dst v) w → AnyT P md ops Q S z (n + 1) listed a w := by
 have hSS : ∀ (listed : Array Bool) (w : World), (tailBegun z listed = false ∨ ∀ w, S' w) → (tailBegun z listed = false → S w) → S' w := by
  intro listed w ht hS
  rcases hz with hz | hz
  ·rcases ht with ht | ht
   ·exact hz.1 w (hS ht)
   ·exact ht w
  ·exact hz w
 intro n
 induction n with
 | zero =>
  intro listed hfree hr ht a w hy hS H
  constructor
  ·intro h0; rw [h0] at hr; cases hr
  ·intro j hj
   rcases Nat.decEq j i with hne | heq
   ·have hm := ready_mono hj hne
    rw [H.1] at hm
    cases hm
   ·subst heq
    exact hy.wpOp hi (hSS listed w ht hS) ⟨fun h => hS (tailBegun_mono h), H⟩
 | succ n ih =>
  intro listed hfree hr ht a w hy hS H
  constructor
  ·intro h0; rw [h0] at hr; cases hr
  ·intro j hj
   rcases Nat.decEq j i with hne | heq
   ·have hnext := H.2 j (ready_mono hj hne)
    obtain ⟨hun, oj, hoj, hdone⟩ := mem_ready.1 hj
    have hwait : ∀ e ∈ oj.after, Region.binds md e = true → e.on ≠ i := by
     intro e he hb hon
     have hl := hdone e he hb
     have hu := (mem_ready.1 hr).1
     rw [hon] at hl
     by_cases hlt : i < listed.size
     ·simp [hlt] at hl hu; rw [hl] at hu; cases hu
     ·simp [Array.getElem?_eq_none (Nat.le_of_not_lt hlt)] at hl
    have ht' : tailBegun z (listed.setIfInBounds j true) = false ∨ ∀ w, S' w := by
     rcases hz with hz | hz
     ·rcases ht with ht | ht
      ·left
       have hzj : z j = false := by
        cases hzz : z j with
        | false => rfl
        | true =>
         obtain ⟨e, he, hb, hon⟩ := hz.2 j oj hoj hzz
         exact absurd hon (hwait e he hb)
       rw [tailBegun_set hzj]; exact ht
      ·exact .inr ht
     ·exact .inr hz
    have hstep := wpOp_putIf hoj (hfree j oj hoj hne hun hwait) (fun cs b => Region.noSelect_spec hs i oi cs b hi) (fun cs b => Region.noSelect_spec hs j oj cs b hoj) hQ hy hnext
    refine wpOp_mono (fun a' w' h3 => ?_) hstep
    obtain ⟨hy', hS', hrest⟩ := h3
    have hcom : (listed.setIfInBounds i true).setIfInBounds j true = (listed.setIfInBounds j true).setIfInBounds i true := Array.setIfInBounds_comm _ _ (Ne.symm hne)
    rw [hcom, tailBegun_set hzi] at hS'
    refine ⟨hS', ih (listed.setIfInBounds j true) (fun k ok hok hki huk hnk => hfree k ok hok hki ?_ hnk) (ready_mono hr (Ne.symm hne)) ht' a' w' hy' hS' ?_⟩
    ·by_cases hjk : j = k
     ·subst hjk; exact hun
     ·rw [getD_set_ne true hjk] at huk; exact huk
    ·rw [← hcom]
     exact hrest
   ·subst heq
    exact hy.wpOp hi (hSS listed w ht hS) ⟨fun h => hS (tailBegun_mono h), H⟩
def tailWaits (md : Region.Mode) (ops : Array Oper) (z : Nat → Bool) (i : Nat) : Bool :=
 (List.range ops.size).all fun j => !z j || match ops[j]? with | some oj => oj.after.any (fun e => Region.binds md e && e.on == i) | none => true
theorem tailWaits_spec {i : Nat} (h : tailWaits md ops z i = true) (j : Nat) (oj : Oper) (hj : ops[j]? = some oj) (hz : z j = true) : ∃ e ∈ oj.after, Region.binds md e = true ∧ e.on = i := by
 unfold tailWaits at h
 have h1 := List.all_eq_true.1 h j (List.mem_range.2 (Array.getElem?_eq_some_iff.1 hj).1)
 rw [hz, hj] at h1
 simp only [Bool.not_true, Bool.false_or] at h1
 obtain ⟨e, he, hb⟩ := Array.any_eq_true'.1 h1
 rw [Bool.and_eq_true] at hb
 exact ⟨e, he, hb.1, by simpa using hb.2⟩
theorem AnyT.done {listed : Array Bool} {a : Go.Act} {w : World} (hr : Region.ready md ops listed = []) (h : Q .normal a w) : ∀ n, AnyT P md ops Q S z n listed a w
 | 0 => ⟨hr, h⟩
 | _ + 1 => ⟨fun _ => h, fun i hi => by rw [hr] at hi; cases hi⟩
theorem AnyT.region {id : Nat} {a : Go.Act} {w : World} (z : Nat → Bool) (S : World → Prop) (hm : P.follows .mixedOrders = true) (hS : S w.drew) (h : S w.drew → AnyT P .any ops Q S z ops.size (Array.replicate ops.size false) a w.drew) : (Code.region id ops true).wp P Q a w :=
 wp_region_any hm (AnyT.any _ _ _ _ (h hS))
end
section
variable {P : Program} {l : List Oper} {Q : Exit → Go.Act → World → Prop} {md : Region.Mode} {S : World → Prop} {z : Nat → Bool}
theorem AnyT.take (i d : Nat) (v : Value) {oi : Oper} {n : Nat} {listed : Array Bool} {a : Go.Act} {w : World} (hi : l[i]? = some oi) (hs : Region.noSelect l.toArray = true) (hf : Region.free md l.toArray listed i = true)
  (hr : (Region.ready md l.toArray listed).contains i = true) (hz : tailWaits md l.toArray z i = true) (hzi : z i = false) (ht : tailBegun z listed = false) (hd : oi.dst = some d) (hQ : ∀ c (a : Go.Act) v w, Q (.panic c) (a.put (some d) v) w → Q (.panic c) a w)
  (hw : Region.wanted oi (yielded l.toArray a.tmps) = true) (hy : ∀ w, S w → (execOp a.eval oi).run P w = .ok (.value v) w) (hS : S w)
  (h : AnyT P md l.toArray Q S z n (listed.setIfInBounds i true) (a.put (some d) v) w) : AnyT P md l.toArray Q S z (n + 1) listed a w :=
 AnyT.first (i := i) (oi := oi) (v := v) (by simpa using hi) hs (fun c a w h => hQ c a v w (hd ▸ h)) hzi (.inl ⟨fun _ h => h, fun j oj hj hzj => tailWaits_spec hz j oj hj hzj⟩) n listed (fun j oj => Region.free_spec (by simpa using hi) hf j oj) (by simpa using hr) (.inl ht) a w (.inl ⟨hw, hy⟩) (fun _ => hS) (hd ▸ h)
theorem AnyT.takeAny (i d : Nat) (v : Value) {oi : Oper} {n : Nat} {listed : Array Bool} {a : Go.Act} {w : World} (hi : l[i]? = some oi) (hs : Region.noSelect l.toArray = true) (hf : Region.free md l.toArray listed i = true)
  (hr : (Region.ready md l.toArray listed).contains i = true) (hzi : z i = false) (hd : oi.dst = some d) (hQ : ∀ c (a : Go.Act) v w, Q (.panic c) (a.put (some d) v) w → Q (.panic c) a w)
  (hw : Region.wanted oi (yielded l.toArray a.tmps) = true) (hy : ∀ w, (execOp a.eval oi).run P w = .ok (.value v) w) (hS : S w)
  (h : AnyT P md l.toArray Q S z n (listed.setIfInBounds i true) (a.put (some d) v) w) : AnyT P md l.toArray Q S z (n + 1) listed a w :=
 AnyT.first (S' := fun _ => True) (i := i) (oi := oi) (v := v) (by simpa using hi) hs (fun c a w h => hQ c a v w (hd ▸ h)) hzi (.inr fun _ => trivial) n listed (fun j oj => Region.free_spec (by simpa using hi) hf j oj) (by simpa using hr) (.inr fun _ => trivial) a w (.inl ⟨hw, fun w _ => hy w⟩) (fun _ => hS) (hd ▸ h)
theorem AnyT.one {i : Nat} {o : Oper} {n : Nat} {listed : Array Bool} {a : Go.Act} {w : World} (hr : Region.ready md l.toArray listed = [i]) (ho : l[i]? = some o)
  (h : ∀ K' : Go.Act → World → Prop, Shut (∀ a w, S w → (S w → AnyT P md l.toArray Q S z n (listed.setIfInBounds i true) a w) → K' a w) → if Region.wanted o (yielded l.toArray a.tmps) = true then Oper.wp P o a w K' Q else K' (a.put o.dst undef) w) :
  AnyT P md l.toArray Q S z (n + 1) listed a w := by
 refine ⟨fun h0 => (by rw [hr] at h0; cases h0), fun j hj => ?_⟩
 rw [hr] at hj
 obtain rfl : j = i := by simpa using hj
 exact wpOp_step (by simpa using ho) (fun K' hK => h K' (fun a w hS hW => hK a w ⟨fun _ => hS, hW hS⟩))
theorem za {α : Type} (l : List α) (i : Nat) (a : α) : l.toArray.setIfInBounds i a = (l.set i a).toArray := by simp
theorem zb {α : Type} (a b : α) (l : List α) : (a :: l).set 0 b = b :: l := rfl
theorem zc {α : Type} (a b : α) (n : Nat) (l : List α) : (a :: l).set (n + 1) b = a :: l.set n b := rfl
theorem pz : (∀ (a : Go.Act) (d : Tmp) (v : Value), Go.Act.put a (some d) v = { a with tmps := a.tmps.setIfInBounds d v }) ∧ (∀ (a : Go.Act) (v : Value), Go.Act.put a none v = a) ∧ (∀ {α : Type} (l : List α) (i : Nat) (a : α), l.toArray.setIfInBounds i a = (l.set i a).toArray) ∧ (∀ {α : Type} (a b : α) (l : List α), (a :: l).set 0 b = b :: l) ∧ ∀ {α : Type} (a b : α) (n : Nat) (l : List α), (a :: l).set (n + 1) b = a :: l.set n b := ⟨fun _ _ _ => rfl, fun _ _ => rfl, za, zb, zc⟩
theorem oNe (i : Nat) {o : Oper} {n : Nat} {listed : Array Bool} {a : Go.Act} {w : World}
  (h : ∀ K' : Go.Act → World → Prop, Shut (∀ a w, S w → (S w → AnyT P md l.toArray Q S z n (listed.setIfInBounds i true) a w) → K' a w) → if Region.wanted o (yielded l.toArray a.tmps) = true then Oper.wp P o a w K' Q else K' (a.put o.dst undef) w)
  (hr : Region.ready md l.toArray listed = [i] := by kernel_rfl) (ho : l[i]? = some o := by rfl) : AnyT P md l.toArray Q S z (n + 1) listed a w := AnyT.one hr ho h
theorem tK (i d : Nat) {v : Value} {oi : Oper} {n : Nat} {listed : Array Bool} {a : Go.Act} {w : World}
  (h : AnyT P md l.toArray Q S z n (listed.setIfInBounds i true) (a.put (some d) v) w) (hi : l[i]? = some oi := by rfl) (hy : ∀ w, S w → (execOp a.eval oi).run P w = .ok (.value v) w := by (intro w hSw; (try dsimp only at hSw); go_simp; (try (with_reducible rfl)))) (hs : Region.noSelect l.toArray = true := by kernel_rfl) (hf : Region.free md l.toArray listed i = true := by kernel_rfl)
  (hr : (Region.ready md l.toArray listed).contains i = true := by kernel_rfl) (hz : tailWaits md l.toArray z i = true := by kernel_rfl) (ht : tailBegun z listed = false := by kernel_rfl) (hzi : z i = false := by rfl) (hd : oi.dst = some d := by rfl)
  (hQ : ∀ c (a : Go.Act) v w, Q (.panic c) (a.put (some d) v) w → Q (.panic c) a w := by exact fun _ _ _ _ h => h) (hw : Region.wanted oi (yielded l.toArray a.tmps) = true := by rfl) (hS : S w := by assumption) : AnyT P md l.toArray Q S z (n + 1) listed a w :=
 AnyT.take i d v hi hs hf hr hz hzi ht hd hQ hw hy hS h
theorem tX (i d : Nat) (v : Value) {oi : Oper} {n : Nat} {listed : Array Bool} {a : Go.Act} {w : World} (hy : ∀ w, S w → (execOp a.eval oi).run P w = .ok (.value v) w)
  (h : AnyT P md l.toArray Q S z n (listed.setIfInBounds i true) (a.put (some d) v) w) (hi : l[i]? = some oi := by rfl) (hs : Region.noSelect l.toArray = true := by kernel_rfl) (hf : Region.free md l.toArray listed i = true := by kernel_rfl)
  (hr : (Region.ready md l.toArray listed).contains i = true := by kernel_rfl) (hz : tailWaits md l.toArray z i = true := by kernel_rfl) (ht : tailBegun z listed = false := by kernel_rfl) (hzi : z i = false := by rfl) (hd : oi.dst = some d := by rfl)
  (hQ : ∀ c (a : Go.Act) v w, Q (.panic c) (a.put (some d) v) w → Q (.panic c) a w := by exact fun _ _ _ _ h => h) (hw : Region.wanted oi (yielded l.toArray a.tmps) = true := by rfl) (hS : S w := by assumption) : AnyT P md l.toArray Q S z (n + 1) listed a w :=
 AnyT.take i d v hi hs hf hr hz hzi ht hd hQ hw hy hS h
theorem sK (i d : Nat) {oi : Oper} {n : Nat} {listed : Array Bool} {a : Go.Act} {w : World}
  (h : AnyT P md l.toArray Q S z n (listed.setIfInBounds i true) (a.put (some d) undef) w) (hi : l[i]? = some oi := by rfl) (hs : Region.noSelect l.toArray = true := by kernel_rfl) (hf : Region.free md l.toArray listed i = true := by kernel_rfl)
  (hr : (Region.ready md l.toArray listed).contains i = true := by kernel_rfl) (hzi : z i = false := by rfl) (hd : oi.dst = some d := by rfl)
  (hQ : ∀ c (a : Go.Act) v w, Q (.panic c) (a.put (some d) v) w → Q (.panic c) a w := by exact fun _ _ _ _ h => h) (hw : Region.wanted oi (yielded l.toArray a.tmps) = false := by rfl) (hS : S w := by assumption) : AnyT P md l.toArray Q S z (n + 1) listed a w :=
 AnyT.first (S' := fun _ => True) (i := i) (oi := oi) (v := undef) (by simpa using hi) hs (fun c a w h => hQ c a undef w (hd ▸ h)) hzi (.inr fun _ => trivial) n listed (fun j oj => Region.free_spec (by simpa using hi) hf j oj) (by simpa using hr) (.inr fun _ => trivial) a w (.inr ⟨hw, rfl⟩) (fun _ => hS) (hd ▸ h)
theorem tA (i d : Nat) {v : Value} {oi : Oper} {n : Nat} {listed : Array Bool} {a : Go.Act} {w : World}
  (h : AnyT P md l.toArray Q S z n (listed.setIfInBounds i true) (a.put (some d) v) w) (hi : l[i]? = some oi := by rfl) (hy : ∀ w, (execOp a.eval oi).run P w = .ok (.value v) w := by (intro w; go_simp; (try (with_reducible rfl)))) (hs : Region.noSelect l.toArray = true := by kernel_rfl) (hf : Region.free md l.toArray listed i = true := by kernel_rfl)
  (hr : (Region.ready md l.toArray listed).contains i = true := by kernel_rfl) (hzi : z i = false := by rfl) (hd : oi.dst = some d := by rfl)
  (hQ : ∀ c (a : Go.Act) v w, Q (.panic c) (a.put (some d) v) w → Q (.panic c) a w := by exact fun _ _ _ _ h => h) (hw : Region.wanted oi (yielded l.toArray a.tmps) = true := by rfl) (hS : S w := by assumption) : AnyT P md l.toArray Q S z (n + 1) listed a w :=
 AnyT.takeAny i d v hi hs hf hr hzi hd hQ hw hy hS h
end
end Go.Proofs.YtnnabkldceklmaaGreatDoor
/- A whole block loaded where the load has a guard, or in a region that draws; a new block that is stored whole: for values whose cells are not spelled out. Over any program. -/
namespace Go.Proofs.YtnnabkldceklmaaGreatDoor
open Go.RowKit
section
variable {P : Program}
theorem wpList_loadW {ops : Array Oper} {rest : List Oper} {o : Oper} {a : Go.Act} {w : World} {Q : Exit → Go.Act → World → Prop} (ty : TypeId) (x : Operand) (ho : o.op = .load ty x) (hw : Region.wanted o (yielded ops a.tmps) = true)
  (g : Nat) (hx : a.eval x = .pointer (some ⟨g, 0, none⟩)) {t : TypeId} {cs : Array Value} {d : TypeDesc} (hg : Blk w g t cs) (hu : P.underlying ty = some d) (hd : (match d with | .struct _ | .array _ _ => true | _ => false) = true)
  (hi : (P.info? ty).map (·.size) = some cs.size) (h : wpList P ops Q rest (a.put o.dst (.agg cs)) w) : wpList P ops Q (o :: rest) a w := by
 simp only [wpList, hw, if_true]
 exact .inl (wp_load_row ty x ho g hx t cs (0, 0) d hg hu hd hi h)
theorem exec_loadAll {o : Oper} {a : Go.Act} {w : World} (ty : TypeId) (x : Operand) (ho : o.op = .load ty x)
  (g : Nat) (hx : a.eval x = .pointer (some ⟨g, 0, none⟩)) {t : TypeId} {cs : Array Value} {d : TypeDesc} (hg : Blk w g t cs) (hu : P.underlying ty = some d) (hd : (match d with | .struct _ | .array _ _ => true | _ => false) = true)
  (hi : (P.info? ty).map (·.size) = some cs.size) : (execOp a.eval o).run P w = .ok (.value (.agg cs)) w := by
 unfold execOp
 simp only [ho, hx, Instr.loadAt, Instr.sureAddr, Sem.run_bind, Sem.run_pure, Result.andThen_ok, run_loadVar_row w g t ty cs (0, 0) d hg hu hd hi]
theorem size_of {α : Type} {s : Sh α} {w : World} {lo hi : Nat} {vs : List Value} {x : α} {ty : TypeId} (hi' : (P.info? ty).map (·.size) = some s.k) (h : s.R w lo hi vs x) : (P.info? ty).map (·.size) = some vs.toArray.size := by
 rw [hi', List.size_toArray, s.R_len h]
end
section
variable {w0 w w' : World} {Fs : Facts}
theorem Stand.store (h : Stand w0 Fs w) {t : TypeId} {cs zs : Array Value} (hb : Blk w' w.heap.size t cs) (ho : Out [w.heap.size] (w.alloc (.cells zs t)) w') :
  Stand w0 ((w.heap.size, w.heap.size + 1, fun W => Blk W w.heap.size t cs) :: Fs) w' :=
 (h.below (((Below.refl w.heap.size w).alloc (Nat.le_refl _) (.cells zs t)).trans (ho.below1 (Nat.le_refl _) (by simp)))).add _ _ _ (loc_blk _ _ _) (by have := ho.size; simp at this; omega) hb
end
end Go.Proofs.YtnnabkldceklmaaGreatDoor
/- The reference's copies of numbers and of superblocks walked: l00Own, l18OwnTop. -/
namespace Go.Proofs.YtnnabkldceklmaaGreatDoor
open Go.RowKit
theorem flatI : FlatSh shI := fun h _ => ⟨rfl, h⟩
theorem flatStrC : FlatSh shS := fun h _ => ⟨rfl, h⟩
theorem lit0_ownC {t : TypeId} {k : Nat} (W : World) (base : Nat) (hb : base ≤ W.heap.size) : (W.alloc (.cells #[] t)).ownsRow base t k (.slice (some ⟨W.heap.size, 0, none⟩) 0 0) 0 [] := by
 have := World.ownsRow_lit (base := base) (e := t) (size := k) W #[] 0 hb (by simp) (by simp)
 simpa using this
theorem rowG_ofC {α : Type} {s : Sh α} {t : TypeId} {w : World} {lo hi c : Nat} {A : Option Addr} {xs : List α} (h : (Sh.row t s).R w lo hi [.slice A xs.length c] xs) : RowG s w lo hi A xs := by
 obtain ⟨A', c', e, hg⟩ := h
 injection e with e _
 injection e with e1 e2 e3
 subst e1
 exact hg
theorem l00Own_any (A : Option Addr) (c lo hi : Nat) (xs : List Int) (w : World) (h : (Sh.row 2 shI).R w lo hi [.slice A xs.length c] xs) (hhi : hi ≤ w.heap.size) (hn : xs.length ≤ 1048576) :
  Calls Tryz.prog 99 #[.slice A xs.length c] w fun e w' => (∃ B d, e = .returned (.slice B xs.length d) ∧ Own (Sh.row 2 shI) w' w.heap.size w'.heap.size [.slice B xs.length d] xs) ∧ Below w.heap.size w w' := by
 have hb := (Below.refl w.heap.size w).alloc (Nat.le_refl _) (.cells #[] 2)
 have HL := hd_ (lit0_ownC (t := 2) (k := shI.k) w w.heap.size (Nat.le_refl _))
 have HR := hd_ (rowG_ofC ((Sh.row 2 shI).R_below h hb hhi))
 have HB := hd_ hb
 clear h hb
 go_enter Tryz.func99, Tryz.ntmps99
 go_wp2_with (at_builtin; refine wpList_growR (s := shI) rfl (.tmp 3) (.tmp 4) 29 rfl Tryz.underlying29 rfl (by decide) (by decide) infoI8 flatI _ w.heap.size lo hi _ A c xs rfl HL.out rfl HR.out (by omega) (by simp) ?_)
 intro B d w1 ho hb1
 have HO := hd_ ho
 have HB1 := hd_ (HB.out.trans hb1)
 clear ho hb1
 go_wp2_with fail
 go_ret
 exact ⟨⟨B, d, rfl, HO.out⟩, HB1.out⟩
theorem l18OwnTop_any (t : TyTop) (vs : List Value) (lo hi : Nat) (w : World) (h : shTop.R w lo hi vs t) (hhi : hi ≤ w.heap.size) (hn : t.2.2.2.length ≤ 1048576) :
  Calls Tryz.prog 98 #[.agg vs.toArray] w fun e w' => (∃ us : List Value, e = .returned (.agg us.toArray) ∧ shTop.R w' w.heap.size w'.heap.size us t) ∧ Below w.heap.size w w' := by
 obtain ⟨x0, x1, x2, x3⟩ := t
 obtain ⟨A, c, rfl, _⟩ := shTop_R.1 h
 dsimp only at hn
 have hb1 := (Below.refl w.heap.size w).alloc (Nat.le_refl _) (.cells #[.int .i64 x0, .int .i64 x1, .int .i64 x2, .slice A x3.length c] 42)
 have hb2 := hb1.alloc (by simp) (.cells zz8 42)
 have hb3 := hb2.alloc (by simp; omega) (.cells #[.int .i64 x0, .int .i64 x1, .int .i64 x2, .slice A x3.length c] 42)
 have hz3 : (((w.alloc (.cells #[.int .i64 x0, .int .i64 x1, .int .i64 x2, .slice A x3.length c] 42)).alloc (.cells zz8 42)).alloc (.cells #[.int .i64 x0, .int .i64 x1, .int .i64 x2, .slice A x3.length c] 42)).heap.size = w.heap.size + 1 + 1 + 1 := by simp
 have HK2 : Hid (Blk (((w.alloc (.cells #[.int .i64 x0, .int .i64 x1, .int .i64 x2, .slice A x3.length c] 42)).alloc (.cells zz8 42)).alloc (.cells #[.int .i64 x0, .int .i64 x1, .int .i64 x2, .slice A x3.length c] 42)) (w.heap.size + 1) 42 zz8) := hd_ (by
  have := Blk.new (w.alloc (.cells #[.int .i64 x0, .int .i64 x1, .int .i64 x2, .slice A x3.length c] 42)) 42 zz8
  rw [heap_alloc_size1] at this
  exact this.alloc _)
 have HK3 : Hid (Blk (((w.alloc (.cells #[.int .i64 x0, .int .i64 x1, .int .i64 x2, .slice A x3.length c] 42)).alloc (.cells zz8 42)).alloc (.cells #[.int .i64 x0, .int .i64 x1, .int .i64 x2, .slice A x3.length c] 42)) (w.heap.size + 1 + 1) 42 #[.int .i64 x0, .int .i64 x1, .int .i64 x2, .slice A x3.length c]) := hd_ (by
  have := Blk.new ((w.alloc (.cells #[.int .i64 x0, .int .i64 x1, .int .i64 x2, .slice A x3.length c] 42)).alloc (.cells zz8 42)) 42 #[.int .i64 x0, .int .i64 x1, .int .i64 x2, .slice A x3.length c]
  rw [heap_alloc_size1, heap_alloc_size1] at this
  exact this)
 have HB3 := hd_ hb3
 have HR3 := hd_ ((Sh.row 88 shSeat).R_below (shTop_f3 h) hb3 hhi)
 have f0 := (((Blk.new w 42 #[.int .i64 x0, .int .i64 x1, .int .i64 x2, .slice A x3.length c]).alloc (.cells zz8 42)).alloc (.cells #[.int .i64 x0, .int .i64 x1, .int .i64 x2, .slice A x3.length c] 42)).cell
 clear h hb1 hb2 hb3
 go_enter Tryz.func98, Tryz.ntmps98
 go_upto_region 2 with fail
 generalize (((w.alloc (.cells #[.int .i64 x0, .int .i64 x1, .int .i64 x2, .slice A x3.length c] 42)).alloc (.cells zz8 42)).alloc (.cells #[.int .i64 x0, .int .i64 x1, .int .i64 x2, .slice A x3.length c] 42)) = w3 at *
 have hb4 := (Below.refl w3.heap.size w3).alloc (Nat.le_refl _) (.cells #[] 88)
 have HL := hd_ (lit0_ownC (t := 88) (k := shSeat.k) w3 w3.heap.size (Nat.le_refl _))
 rw [hz3] at HL
 have hs4 : w.heap.size + 1 + 1 + 1 ≤ (w3.alloc (.cells #[] 88)).heap.size := by simp; omega
 have HR := hd_ (rowG_ofC ((Sh.row 88 shSeat).R_below HR3.out hb4 (by omega)))
 have HB4 := hd_ hb4
 have f1 := (HK3.out.alloc (.cells #[] 88)).cell
 clear hb4
 go_upto_region 3 with (first
  | fail
  | (at_builtin; refine wpList_growR (s := shSeat) rfl (.tmp 5) (.tmp 7) 40 rfl Tryz.underlying40 rfl (by decide) (by decide) infoSeat flatSeat _ (w.heap.size + 1 + 1 + 1) lo hi _ A c x3 rfl HL.out rfl HR.out (by omega) hs4 ?_; intro B d w5 ho hb5; have hB5 := (HB4.out.mono (Nat.le_of_eq hz3.symm)).trans hb5; have hk3 := HK3.out.below hB5 (by omega); have f3 := hk3.cell; have z3 := hk3.frozen))
 have hk2 := HK2.out.below hB5 (by omega)
 have HO := hd_ ho
 have hs5 := hB5.size
 have HBW := hd_ (HB3.out.trans (hB5.mono (by omega)))
 have HS := hd_ (hk3.set_ 3 (.slice B x3.length d))
 have HK := hd_ ((hk2.far (p := ⟨w.heap.size + 1 + 1, 3, none⟩) (by dsimp only; omega) (.slice B x3.length d)))
 have HO6 := hd_ (HO.out.setCell (p := ⟨w.heap.size + 1 + 1, 3, none⟩) (by dsimp only; omega) (.slice B x3.length d))
 have HBW6 := hd_ (HBW.out.setCell (p := ⟨w.heap.size + 1 + 1, 3, none⟩) (by dsimp only; omega) (.slice B x3.length d))
 have hz6 : (w5.setCell ⟨w.heap.size + 1 + 1, 3, none⟩ (.slice B x3.length d)).heap.size = w5.heap.size := by simp [World.setCell]
 clear f0 f1 f3 z3 HL HR HB4 hB5 ho hb5 hk2 hk3
 generalize (w5.setCell ⟨w.heap.size + 1 + 1, 3, none⟩ (.slice B x3.length d)) = w6 at *
 have HONE := hd_ (show ∀ u ∈ (#[.int .i64 x0, .int .i64 x1, .int .i64 x2, .slice B x3.length d] : Array Value).toList, u.oneCell' = true from by
  intro u hu; simp only [List.mem_cons, List.not_mem_nil, or_false] at hu; rcases hu with rfl | rfl | rfl | rfl <;> rfl)
 have f6 : ∀ i, w6.cell? ⟨w.heap.size + 1 + 1, i, none⟩ = (#[.int .i64 x0, .int .i64 x1, .int .i64 x2, .slice B x3.length d] : Array Value)[i]? := HS.out.cell
 go_wp2_with (first | fail | (refine wpList_storeAll rfl 42 (.tmp 2) (.tmp 10) rfl (w.heap.size + 1) #[.int .i64 x0, .int .i64 x1, .int .i64 x2, .slice B x3.length d] rfl rfl HK.out (by kernel_rfl) rfl HONE.out ?_; intro w7 hb7 ho7 hz7))
 have hB7 : Below w.heap.size w w7 := HBW6.out.trans (ho7.below1 (by omega) HBW6.out.size)
 refine bodyPost_ret (results_cell_row (P := Tryz.prog) rfl _ _ (w.heap.size + 1) 42 #[.int .i64 x0, .int .i64 x1, .int .i64 x2, .slice B x3.length d] (0, 0) _ rfl hb7 Tryz.underlying42 rfl (by kernel_rfl)) rfl ⟨⟨[.int .i64 x0, .int .i64 x1, .int .i64 x2, .slice B x3.length d], rfl, ?_⟩, hB7⟩
 refine shTop_R.2 ⟨B, d, rfl, rowG_ofC (t := 88) (c := d) ?_⟩
 exact (((HO6.out.outOf ho7 (.inl (by omega))).more (lo' := w.heap.size) (hi' := w7.heap.size) (by omega) (by omega)).reads)
end Go.Proofs.YtnnabkldceklmaaGreatDoor
/- Maps keyed by integers: looked up; a new key put. Over any program. -/
namespace Go.Proofs.YtnnabkldceklmaaGreatDoor
open Go.RowKit
def MapB (w : World) (g : Nat) (es : List (Int × Value)) : Prop := ∃ ents clock, w.heap[g]? = some (.map ents clock) ∧ ents.toList.map (fun e => (e.key, e.val)) = es.map fun p => (Value.int .i64 p.1, p.2)
theorem MapB.lt {w : World} {g : Nat} {es : List (Int × Value)} (h : MapB w g es) : g < w.heap.size := by
 obtain ⟨ents, clock, h1, _⟩ := h
 exact (Array.getElem?_eq_some_iff.1 h1).1
theorem MapB.same {w w' : World} {g : Nat} {es : List (Int × Value)} (h : MapB w g es) (hb : w'.heap[g]? = w.heap[g]?) : MapB w' g es := by
 obtain ⟨ents, clock, h1, h2⟩ := h
 exact ⟨ents, clock, hb.trans h1, h2⟩
theorem MapB.below {w w' : World} {g B : Nat} {es : List (Int × Value)} (h : MapB w g es) (hb : Below B w w') (hg : g < B) : MapB w' g es := h.same (hb.block g hg)
theorem MapB.outOf {w w' : World} {g b : Nat} {es : List (Int × Value)} (h : MapB w g es) (ho : Out [b] w w') (hb : g ≠ b) : MapB w' g es := h.same (ho.block g h.lt (by simpa using hb))
theorem MapB.new (w : World) : MapB (w.alloc (.map #[] 0)) w.heap.size [] := ⟨#[], 0, heap_alloc_new w _, rfl⟩
theorem findNow_int (k : Int) : ∀ (l : List MapEntry) (es : List (Int × Value)) (i : Nat), l.map (fun e => (e.key, e.val)) = es.map (fun p => (Value.int .i64 p.1, p.2)) →
  ∃ r, Instr.findNow (.int .i64) (.int .i64 k) l i = some r ∧ r.map (·.2) = (es.find? fun p => p.1 == k).map (·.2)
 | [], es, i, h => by
  cases es with
  | nil => exact ⟨none, rfl, rfl⟩
  | cons p es => cases h
 | e :: l, es, i, h => by
  cases es with
  | nil => cases h
  | cons p es =>
   rw [List.map_cons, List.map_cons] at h
   injection h with h1 h2
   obtain ⟨h3, h4⟩ := Prod.mk.inj h1
   obtain ⟨r, hr, hv⟩ := findNow_int k l es (i + 1) h2
   have hs : Instr.sameNow (.int .i64) (.int .i64 k) e.key = some (k == p.1) := by rw [h3]; simp [Instr.sameNow]
   by_cases hk : p.1 = k
   ·refine ⟨some (i, e.val), ?_, ?_⟩
    ·simp [Instr.findNow, hs, hk]
    ·rw [List.find?_cons]
     simp [hk, h4]
   ·refine ⟨r, ?_, ?_⟩
    ·have : (k == p.1) = false := by simpa using fun e => hk e.symm
     rw [this] at hs
     simp [Instr.findNow, hs, hr]
    ·rw [List.find?_cons]
     have : (p.1 == k) = false := by simpa using hk
     rw [this]
     exact hv
section
variable {P : Program} {w : World} {T K E : TypeId} {g : Nat} {es : List (Int × Value)}
theorem map_look (hm : P.underlying T = some (.map K E)) (hd : P.underlying K = some (.int .i64)) (h : MapB w g es) (k : Int) (ok : Bool) (z : Value) (hz : (zeroValue E).run P w = .ok z w) :
  (Instr.lookup T (.map (some g)) (.int .i64 k) ok).run P w = .ok (if ok then .tuple #[((es.find? fun p => p.1 == k).map (·.2)).getD z, .bool ((es.find? fun p => p.1 == k).map (·.2)).isSome] else ((es.find? fun p => p.1 == k).map (·.2)).getD z) w := by
 obtain ⟨ents, clock, hb, he⟩ := h
 obtain ⟨r, hr, hv⟩ := findNow_int k ents.toList es 0 he
 rw [← hv]
 have hk : MapKept.IsKey (.int .i64) (.int .i64 k) := by simp [MapKept.IsKey]
 cases r with
 | none =>
  simp [Instr.lookup, run_underlying hm, MapKept.run_getObj_map hb, MapKept.run_checkKey hd hk, MapKept.run_findKey hd hr, hz, Result.andThen]
 | some p =>
  simp [Instr.lookup, run_underlying hm, MapKept.run_getObj_map hb, MapKept.run_checkKey hd hk, MapKept.run_findKey hd hr, Result.andThen]
theorem map_put (hm : P.underlying T = some (.map K E)) (hd : P.underlying K = some (.int .i64)) (h : MapB w g es) (k : Int) (v : Value) (hn : ∀ p ∈ es, p.1 ≠ k) :
  ∃ w', (Instr.mapUpdate T (.map (some g)) (.int .i64 k) v).run P w = .ok () w' ∧ MapB w' g (es ++ [(k, v)]) ∧ Out [g] w w' ∧ w'.heap.size = w.heap.size := by
 obtain ⟨ents, clock, hb, he⟩ := h
 obtain ⟨r, hr, hv⟩ := findNow_int k ents.toList es 0 he
 have hk : MapKept.IsKey (.int .i64) (.int .i64 k) := by simp [MapKept.IsKey]
 have hf : es.find? (fun p => p.1 == k) = none := List.find?_eq_none.2 fun p hp => by simpa using hn p hp
 rw [hf] at hv
 have hr0 : r = none := by cases r with
  | none => rfl
  | some p => cases hv
 subst hr0
 refine ⟨{ w with heap := w.heap.setIfInBounds g (.map (ents.push { key := .int .i64 k, val := v, born := clock }) (clock + 1)) }, by simp [Instr.mapUpdate, run_underlying hm, MapKept.run_getObj_map hb, MapKept.run_checkKey hd hk, MapKept.run_findKey hd hr, MapKept.run_setObj_map _ hb, Result.andThen], ?_, ?_, by simp⟩
 ·exact ⟨_, _, (MapKept.heap_set hb).1, by rw [Array.toList_push, List.map_append, List.map_append, he]; rfl⟩
 ·exact ⟨rfl, rfl, rfl, by simp, fun b _ hn => (MapKept.heap_set hb).2 b (by simpa using hn)⟩
end
end Go.Proofs.YtnnabkldceklmaaGreatDoor
