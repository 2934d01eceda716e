/- Words for the walk of a law: facts that lie in a range of blocks, and how they are kept. Over any program. -/
import Derived.Test.YtgnmollbnopigaaGreatJoinSTAa
import Derived.Test.YtgnmollbnopigaaGreatJoinSTAb
import Derived.Deep.RegionHeld3
namespace Go.Proofs.YtgnmollbnopigaaGreat
open Go.RowKit
structure Within (lo hi : Nat) (w w' : World) : Prop where
 os : w'.os = w.os
 tape : w'.tape = w.tape
 output : w'.output = w.output
 size : w.heap.size ≤ w'.heap.size
 block : ∀ k, k < w.heap.size → (k < lo ∨ hi ≤ k) → w'.heap[k]? = w.heap[k]?
theorem Within.below {lo hi : Nat} {w w' : World} (h : Within lo hi w w') (hlo : lo ≤ w.heap.size) : Below lo w w' := ⟨h.os, h.tape, h.output, h.size, fun k hk => h.block k (by omega) (.inl hk)⟩
theorem Within.trans {lo hi : Nat} {w w1 w2 : World} (h : Within lo hi w w1) (k : Within lo hi w1 w2) : Within lo hi w w2 :=
 ⟨k.os.trans h.os, k.tape.trans h.tape, k.output.trans h.output, Nat.le_trans h.size k.size, fun i hi h' => (k.block i (Nat.lt_of_lt_of_le hi h.size) h').trans (h.block i hi h')⟩
theorem Within.more {lo hi lo' hi' : Nat} {w w' : World} (h : Within lo hi w w') (h1 : lo' ≤ lo) (h2 : hi ≤ hi') : Within lo' hi' w w' :=
 ⟨h.os, h.tape, h.output, h.size, fun k hk hd => h.block k hk (by omega)⟩
def Loc (lo hi : Nat) (F : World → Prop) : Prop := ∀ w w' : World, (∀ b, lo ≤ b → b < hi → w'.heap[b]? = w.heap[b]?) → F w → F w'
theorem loc_blk (g : Nat) (t : TypeId) (cs : Array Value) : Loc g (g + 1) (fun w => Blk w g t cs) := fun _ _ hk h => (hk g (Nat.le_refl _) (by omega)).trans h
abbrev Facts := List (Nat × Nat × (World → Prop))
def Stand (w0 : World) (Fs : Facts) (w : World) : Prop := Below w0.heap.size w0 w ∧ ∀ f ∈ Fs, Loc f.1 f.2.1 f.2.2 ∧ f.2.1 ≤ w.heap.size ∧ f.2.2 w
section
variable {w0 w w' : World} {Fs : Facts}
theorem Stand.nil (w : World) : Stand w [] w := ⟨Below.refl _ _, fun f hf => by simp at hf⟩
theorem Stand.below (h : Stand w0 Fs w) (hb : Below w.heap.size w w') : Stand w0 Fs w' := ⟨h.1.trans (hb.mono h.1.size), fun f hf => by
 obtain ⟨h1, h2, h3⟩ := h.2 f hf
 exact ⟨h1, Nat.le_trans h2 hb.size, h1 w w' (fun b _ hb' => hb.block b (by omega)) h3⟩⟩
theorem Stand.alloc (h : Stand w0 Fs w) (o : Obj) : Stand w0 Fs (w.alloc o) := h.below ((Below.refl _ _).alloc (Nat.le_refl _) o)
theorem Stand.drew (h : Stand w0 Fs w) : Stand w0 Fs w.drew := h.below (below_drewN' w 1)
theorem Stand.within {a b : Nat} (h : Stand w0 Fs w) (hw : Within a b w w') (h0 : w0.heap.size ≤ a) (hd : ∀ f ∈ Fs, f.2.1 ≤ a ∨ b ≤ f.1) : Stand w0 Fs w' :=
 ⟨h.1.trans ⟨hw.os, hw.tape, hw.output, hw.size, fun k hk => hw.block k (by have := h.1.size; omega) (.inl (by omega))⟩, fun f hf => by
  obtain ⟨h1, h2, h3⟩ := h.2 f hf
  have := hd f hf
  exact ⟨h1, Nat.le_trans h2 hw.size, h1 w w' (fun k hk1 hk2 => hw.block k (by omega) (by omega)) h3⟩⟩
theorem Stand.add (h : Stand w0 Fs w) (lo hi : Nat) (F : World → Prop) (L : Loc lo hi F) (hh : hi ≤ w.heap.size) (hF : F w) : Stand w0 ((lo, hi, F) :: Fs) w := ⟨h.1, fun f hf => by
 rcases List.mem_cons.1 hf with rfl | hf
 ·exact ⟨L, hh, hF⟩
 ·exact h.2 f hf⟩
theorem Stand.ad (h : Stand w0 Fs w) {α : Type} (r : World → Nat → Nat → List Value → α → Prop) (vs : List Value) (x : α) {lo hi : Nat} (hh : hi ≤ w.heap.size) (k : r w lo hi vs x) (hk : ∀ {w w' : World} {lo hi : Nat} {vs : List Value} {x : α}, r w lo hi vs x → (∀ b, lo ≤ b → b < hi → w'.heap[b]? = w.heap[b]?) → r w' lo hi vs x) :
  Stand w0 ((lo, hi, fun W => r W lo hi vs x) :: Fs) w := h.add lo hi _ (fun _ _ hk' h => hk h hk') hh k
theorem Stand.get (h : Stand w0 Fs w) (i : Nat) {lo hi : Nat} {F : World → Prop} (hi' : Fs[i]? = some (lo, hi, F)) : F w :=
 (h.2 (lo, hi, F) (List.mem_of_getElem? hi')).2.2
theorem Stand.le (h : Stand w0 Fs w) (i : Nat) {lo hi : Nat} {F : World → Prop} (hi' : Fs[i]? = some (lo, hi, F)) : hi ≤ w.heap.size :=
 (h.2 (lo, hi, F) (List.mem_of_getElem? hi')).2.1
theorem Stand.box (h : Stand w0 Fs w) (t : TypeId) (cs : Array Value) : Stand w0 ((w.heap.size, w.heap.size + 1, fun W => Blk W w.heap.size t cs) :: Fs) (w.alloc (.cells cs t)) :=
 (h.alloc _).add _ _ _ (loc_blk _ _ _) (by simp) (Blk.new w t cs)
end
end Go.Proofs.YtgnmollbnopigaaGreat
/- An operation of a site: its plain form, and how its value lies in memory. -/
namespace Go.Proofs.YtgnmollbnopigaaGreat
open Go.RowKit
structure Act where
 k : Int
 a : Int
 r : ByteArray
 l : ByteArray
 args : List ByteArray
 input : List ByteArray
 keep : List Int
def ActR (w : World) (lo hi : Nat) (v : Value) (x : Act) : Prop :=
 ∃ A c B d C e, v = .agg #[.int .i64 x.k, .int .i64 x.a, .string x.r, .string x.l, .slice A x.args.length c, .slice B x.input.length d, .slice C x.keep.length e] ∧
  StrR w lo hi A x.args.length x.args ∧ StrR w lo hi B x.input.length x.input ∧ IntR w lo hi C x.keep.length x.keep
theorem ActR.below {w w' : World} {lo hi B : Nat} {v : Value} {x : Act} (h : ActR w lo hi v x) (hb : Below B w w') (hB : hi ≤ B) : ActR w' lo hi v x := by
 obtain ⟨A, c, B', d, C, e, hv, h1, h2, h3⟩ := h
 exact ⟨A, c, B', d, C, e, hv, h1.below hb hB, h2.below hb hB, h3.below hb hB⟩
end Go.Proofs.YtgnmollbnopigaaGreat
/- Walks: toSiteAct, szSiteAct, eqSiteAct. -/
namespace Go.Proofs.YtgnmollbnopigaaGreat
open Go.RowKit
theorem szStringS_m (A : Option Addr) (n c lo hi : Nat) (left : Int) (xs : List ByteArray) (w : World) (ha : StrR w lo hi A n xs) (hn : n ≤ 9223372036854775807) (hl0 : 0 ≤ left) (hl : left ≤ 1048576) (hb : ∀ x ∈ xs, x.size ≤ 9223372036854775807) :
  Calls Tryz.prog 36 #[.slice A n c, .int .i64 left] w fun e w' => ∃ m, e = .returned (.int .i64 m) ∧ Left left (costStrs xs) m ∧ w = w' := by
 obtain ⟨k, rfl⟩ := Int.eq_ofNat_of_zero_le hl0
 refine (szStringS_any A n c lo hi k xs w ha hn (by omega) hb).mono fun e w' ⟨he, hw⟩ => ⟨_, he, ?_, hw.symm⟩
 unfold leftStrs Left costStrs
 split
 ·right; omega
 ·left; rfl
theorem szInt64S_m (A : Option Addr) (n c : Nat) (left : Int) (w : World) (hn : n ≤ 9223372036854775807) (hl0 : 0 ≤ left) (hl : left ≤ 1048576) :
  Calls Tryz.prog 111 #[.slice A n c, .int .i64 left] w fun e w' => ∃ m, e = .returned (.int .i64 m) ∧ Left left n m ∧ w = w' := by
 obtain ⟨k, rfl⟩ := Int.eq_ofNat_of_zero_le hl0
 refine (szInt64S_any A n c k w hn (by omega)).mono fun e w' ⟨he, hw⟩ => ⟨_, he, ?_, hw.symm⟩
 unfold leftInts Left
 split
 ·right; omega
 ·left; rfl
end Go.Proofs.YtgnmollbnopigaaGreat
/- Marks of an operation of two sites: rows of texts and of numbers. -/
namespace Go.Proofs.YtgnmollbnopigaaGreat
open Go.RowKit
end Go.Proofs.YtgnmollbnopigaaGreat
/- Moves of a region that draws its order: an operation whose guard says no is passed over; one that yields is taken first. Over any program. -/
namespace Go.Proofs.YtgnmollbnopigaaGreat
section
variable {P : Program} {l : List Oper} {Q : Exit → Go.Act → World → Prop} {md : Region.Mode} {S : World → Prop}
end
end Go.Proofs.YtgnmollbnopigaaGreat
/- A region that draws its order and ends in stores that hit what it loaded: the loads are taken first; what is held need not stand behind the stores ('tail operations', which wait for every load). Over any program. -/
namespace Go.Proofs.YtgnmollbnopigaaGreat
def tailBegun (z : Nat → Bool) (listed : Array Bool) : Bool := (List.range listed.size).any fun j => z j && listed.getD j false
theorem tailBegun_set {z : Nat → Bool} {listed : Array Bool} {i : Nat} (hz : z i = false) : tailBegun z (listed.setIfInBounds i true) = tailBegun z listed := by
 unfold tailBegun
 rw [Array.size_setIfInBounds]
 congr 1
 funext j
 by_cases h : i = j
 ·subst h; rw [hz]; rfl
 ·rw [getD_set_ne false h]
theorem tailBegun_mono {z : Nat → Bool} {listed : Array Bool} {i : Nat} (h : tailBegun z (listed.setIfInBounds i true) = false) : tailBegun z listed = false := by
 unfold tailBegun at h ⊢
 rw [Array.size_setIfInBounds] at h
 rw [List.any_eq_false] at h ⊢
 intro j hj hc
 refine h j hj ?_
 rw [Bool.and_eq_true] at hc ⊢
 exact ⟨hc.1, getD_set_true hc.2⟩
section
variable {P : Program} {ops : Array Oper} {Q : Exit → Go.Act → World → Prop} {md : Region.Mode} {S : World → Prop} {z : Nat → Bool}
def AnyT (P : Program) (md : Region.Mode) (ops : Array Oper) (Q : Exit → Go.Act → World → Prop) (S : World → Prop) (z : Nat → Bool) : Nat → Array Bool → Go.Act → World → Prop
 | 0, listed, a, w => Region.ready md ops listed = [] ∧ Q .normal a w
 | n + 1, listed, a, w => (Region.ready md ops listed = [] → Q .normal a w) ∧
  ∀ i ∈ Region.ready md ops listed, wpOp P ops Q i (fun a' w' => (tailBegun z (listed.setIfInBounds i true) = false → S w') ∧ AnyT P md ops Q S z n (listed.setIfInBounds i true) a' w') a w
theorem AnyT.any : ∀ (n : Nat) (listed : Array Bool) (a : Go.Act) (w : World), AnyT P md ops Q S z n listed a w → wpAny P md ops Q n listed a w
 | 0, _, _, _, h => h
 | n + 1, _, _, _, h => ⟨h.1, fun i hi => wpOp_mono (fun a' w' h' => AnyT.any n _ a' w' h'.2) (h.2 i hi)⟩
theorem AnyT.first {S' : World → Prop} {i : Nat} {oi : Oper} {v : Value} (hi : ops[i]? = some oi) (hs : Region.noSelect ops = true) (hQ : ∀ c a w, Q (.panic c) (a.put oi.dst v) w → Q (.panic c) a w) (hzi : z i = false)
  (hz : (∀ w, S w → S' w) ∧ (∀ j oj, ops[j]? = some oj → z j = true → ∃ e ∈ oj.after, Region.binds md e = true ∧ e.on = i) ∨ ∀ w, S' w) :
  ∀ (n : Nat) (listed : Array Bool), (∀ j oj, ops[j]? = some oj → j ≠ i → listed.getD j true = false → (∀ e ∈ oj.after, Region.binds md e = true → e.on ≠ i) → oi.apart ops oj = true) →
   i ∈ Region.ready md ops listed → (tailBegun z listed = false ∨ ∀ w, S' w) → ∀ (a : Go.Act) (w : World), YieldsIf P ops S' oi v a → (tailBegun z listed = false → S w) → AnyT P md ops Q S z n (listed.setIfInBounds i true) (a.put oi.dst v) w → AnyT P md ops Q S z (n + 1) listed a w := by
 have hSS : ∀ (listed : Array Bool) (w : World), (tailBegun z listed = false ∨ ∀ w, S' w) → (tailBegun z listed = false → S w) → S' w := by
  intro listed w ht hS
  rcases hz with hz | hz
  ·rcases ht with ht | ht
   ·exact hz.1 w (hS ht)
   ·exact ht w
  ·exact hz w
 intro n
 induction n with
 | zero =>
  intro listed hfree hr ht a w hy hS H
  constructor
  ·intro h0; rw [h0] at hr; cases hr
  ·intro j hj
   rcases Nat.decEq j i with hne | heq
   ·have hm := ready_mono hj hne
    rw [H.1] at hm
    cases hm
   ·subst heq
    exact hy.wpOp hi (hSS listed w ht hS) ⟨fun h => hS (tailBegun_mono h), H⟩
 | succ n ih =>
  intro listed hfree hr ht a w hy hS H
  constructor
  ·intro h0; rw [h0] at hr; cases hr
  ·intro j hj
   rcases Nat.decEq j i with hne | heq
   ·have hnext := H.2 j (ready_mono hj hne)
    obtain ⟨hun, oj, hoj, hdone⟩ := mem_ready.1 hj
    have hwait : ∀ e ∈ oj.after, Region.binds md e = true → e.on ≠ i := by
     intro e he hb hon
     have hl := hdone e he hb
     have hu := (mem_ready.1 hr).1
     rw [hon] at hl
     by_cases hlt : i < listed.size
     ·simp [hlt] at hl hu; rw [hl] at hu; cases hu
     ·simp [Array.getElem?_eq_none (Nat.le_of_not_lt hlt)] at hl
    have ht' : tailBegun z (listed.setIfInBounds j true) = false ∨ ∀ w, S' w := by
     rcases hz with hz | hz
     ·rcases ht with ht | ht
      ·left
       have hzj : z j = false := by
        cases hzz : z j with
        | false => rfl
        | true =>
         obtain ⟨e, he, hb, hon⟩ := hz.2 j oj hoj hzz
         exact absurd hon (hwait e he hb)
       rw [tailBegun_set hzj]; exact ht
      ·exact .inr ht
     ·exact .inr hz
    have hstep := wpOp_putIf hoj (hfree j oj hoj hne hun hwait) (fun cs b => Region.noSelect_spec hs i oi cs b hi) (fun cs b => Region.noSelect_spec hs j oj cs b hoj) hQ hy hnext
    refine wpOp_mono (fun a' w' h3 => ?_) hstep
    obtain ⟨hy', hS', hrest⟩ := h3
    have hcom : (listed.setIfInBounds i true).setIfInBounds j true = (listed.setIfInBounds j true).setIfInBounds i true := Array.setIfInBounds_comm _ _ (Ne.symm hne)
    rw [hcom, tailBegun_set hzi] at hS'
    refine ⟨hS', ih (listed.setIfInBounds j true) (fun k ok hok hki huk hnk => hfree k ok hok hki ?_ hnk) (ready_mono hr (Ne.symm hne)) ht' a' w' hy' hS' ?_⟩
    ·by_cases hjk : j = k
     ·subst hjk; exact hun
     ·rw [getD_set_ne true hjk] at huk; exact huk
    ·rw [← hcom]
     exact hrest
   ·subst heq
    exact hy.wpOp hi (hSS listed w ht hS) ⟨fun h => hS (tailBegun_mono h), H⟩
def tailWaits (md : Region.Mode) (ops : Array Oper) (z : Nat → Bool) (i : Nat) : Bool :=
 (List.range ops.size).all fun j => !z j || match ops[j]? with | some oj => oj.after.any (fun e => Region.binds md e && e.on == i) | none => true
theorem tailWaits_spec {i : Nat} (h : tailWaits md ops z i = true) (j : Nat) (oj : Oper) (hj : ops[j]? = some oj) (hz : z j = true) : ∃ e ∈ oj.after, Region.binds md e = true ∧ e.on = i := by
 unfold tailWaits at h
 have h1 := List.all_eq_true.1 h j (List.mem_range.2 (Array.getElem?_eq_some_iff.1 hj).1)
 rw [hz, hj] at h1
 simp only [Bool.not_true, Bool.false_or] at h1
 obtain ⟨e, he, hb⟩ := Array.any_eq_true'.1 h1
 rw [Bool.and_eq_true] at hb
 exact ⟨e, he, hb.1, by simpa using hb.2⟩
theorem AnyT.done {listed : Array Bool} {a : Go.Act} {w : World} (hr : Region.ready md ops listed = []) (h : Q .normal a w) : ∀ n, AnyT P md ops Q S z n listed a w
 | 0 => ⟨hr, h⟩
 | _ + 1 => ⟨fun _ => h, fun i hi => by rw [hr] at hi; cases hi⟩
theorem AnyT.region {id : Nat} {a : Go.Act} {w : World} (z : Nat → Bool) (S : World → Prop) (hm : P.follows .mixedOrders = true) (hS : S w.drew) (h : S w.drew → AnyT P .any ops Q S z ops.size (Array.replicate ops.size false) a w.drew) : (Code.region id ops true).wp P Q a w :=
 wp_region_any hm (AnyT.any _ _ _ _ (h hS))
end
section
variable {P : Program} {l : List Oper} {Q : Exit → Go.Act → World → Prop} {md : Region.Mode} {S : World → Prop} {z : Nat → Bool}
theorem AnyT.take (i d : Nat) (v : Value) {oi : Oper} {n : Nat} {listed : Array Bool} {a : Go.Act} {w : World} (hi : l[i]? = some oi) (hs : Region.noSelect l.toArray = true) (hf : Region.free md l.toArray listed i = true)
  (hr : (Region.ready md l.toArray listed).contains i = true) (hz : tailWaits md l.toArray z i = true) (hzi : z i = false) (ht : tailBegun z listed = false) (hd : oi.dst = some d) (hQ : ∀ c (a : Go.Act) v w, Q (.panic c) (a.put (some d) v) w → Q (.panic c) a w)
  (hw : Region.wanted oi (yielded l.toArray a.tmps) = true) (hy : ∀ w, S w → (execOp a.eval oi).run P w = .ok (.value v) w) (hS : S w)
  (h : AnyT P md l.toArray Q S z n (listed.setIfInBounds i true) (a.put (some d) v) w) : AnyT P md l.toArray Q S z (n + 1) listed a w :=
 AnyT.first (i := i) (oi := oi) (v := v) (by simpa using hi) hs (fun c a w h => hQ c a v w (hd ▸ h)) hzi (.inl ⟨fun _ h => h, fun j oj hj hzj => tailWaits_spec hz j oj hj hzj⟩) n listed (fun j oj => Region.free_spec (by simpa using hi) hf j oj) (by simpa using hr) (.inl ht) a w (.inl ⟨hw, hy⟩) (fun _ => hS) (hd ▸ h)
theorem AnyT.takeAny (i d : Nat) (v : Value) {oi : Oper} {n : Nat} {listed : Array Bool} {a : Go.Act} {w : World} (hi : l[i]? = some oi) (hs : Region.noSelect l.toArray = true) (hf : Region.free md l.toArray listed i = true)
  (hr : (Region.ready md l.toArray listed).contains i = true) (hzi : z i = false) (hd : oi.dst = some d) (hQ : ∀ c (a : Go.Act) v w, Q (.panic c) (a.put (some d) v) w → Q (.panic c) a w)
  (hw : Region.wanted oi (yielded l.toArray a.tmps) = true) (hy : ∀ w, (execOp a.eval oi).run P w = .ok (.value v) w) (hS : S w)
  (h : AnyT P md l.toArray Q S z n (listed.setIfInBounds i true) (a.put (some d) v) w) : AnyT P md l.toArray Q S z (n + 1) listed a w :=
 AnyT.first (S' := fun _ => True) (i := i) (oi := oi) (v := v) (by simpa using hi) hs (fun c a w h => hQ c a v w (hd ▸ h)) hzi (.inr fun _ => trivial) n listed (fun j oj => Region.free_spec (by simpa using hi) hf j oj) (by simpa using hr) (.inr fun _ => trivial) a w (.inl ⟨hw, fun w _ => hy w⟩) (fun _ => hS) (hd ▸ h)
theorem AnyT.one {i : Nat} {o : Oper} {n : Nat} {listed : Array Bool} {a : Go.Act} {w : World} (hr : Region.ready md l.toArray listed = [i]) (ho : l[i]? = some o)
  (h : ∀ K' : Go.Act → World → Prop, Shut (∀ a w, S w → (S w → AnyT P md l.toArray Q S z n (listed.setIfInBounds i true) a w) → K' a w) → if Region.wanted o (yielded l.toArray a.tmps) = true then Oper.wp P o a w K' Q else K' (a.put o.dst undef) w) :
  AnyT P md l.toArray Q S z (n + 1) listed a w := by
 refine ⟨fun h0 => (by rw [hr] at h0; cases h0), fun j hj => ?_⟩
 rw [hr] at hj
 obtain rfl : j = i := by simpa using hj
 exact wpOp_step (by simpa using ho) (fun K' hK => h K' (fun a w hS hW => hK a w ⟨fun _ => hS, hW hS⟩))
theorem za {α : Type} (l : List α) (i : Nat) (a : α) : l.toArray.setIfInBounds i a = (l.set i a).toArray := by simp
theorem zb {α : Type} (a b : α) (l : List α) : (a :: l).set 0 b = b :: l := rfl
theorem zc {α : Type} (a b : α) (n : Nat) (l : List α) : (a :: l).set (n + 1) b = a :: l.set n b := rfl
theorem AnyT.tk (i d : Nat) {v : Value} {oi : Oper} {n : Nat} {listed : Array Bool} {a : Go.Act} {w : World} 
  (h : AnyT P md l.toArray Q S z n (listed.setIfInBounds i true) (a.put (some d) v) w) (hi : l[i]? = some oi := by rfl) (hy : ∀ w, S w → (execOp a.eval oi).run P w = .ok (.value v) w := by (intro w hSw; (try dsimp only at hSw); go_simp; (try (with_reducible rfl)))) (hs : Region.noSelect l.toArray = true := by kernel_rfl) (hf : Region.free md l.toArray listed i = true := by kernel_rfl)
  (hr : (Region.ready md l.toArray listed).contains i = true := by kernel_rfl) (hz : tailWaits md l.toArray z i = true := by kernel_rfl) (ht : tailBegun z listed = false := by kernel_rfl) (hzi : z i = false := by rfl) (hd : oi.dst = some d := by rfl)
  (hQ : ∀ c (a : Go.Act) v w, Q (.panic c) (a.put (some d) v) w → Q (.panic c) a w := by exact fun _ _ _ _ h => h) (hw : Region.wanted oi (yielded l.toArray a.tmps) = true := by rfl) (hS : S w := by assumption) : AnyT P md l.toArray Q S z (n + 1) listed a w :=
 AnyT.take i d v hi hs hf hr hz hzi ht hd hQ hw hy hS h
theorem AnyT.tx (i d : Nat) (v : Value) {oi : Oper} {n : Nat} {listed : Array Bool} {a : Go.Act} {w : World} (hy : ∀ w, S w → (execOp a.eval oi).run P w = .ok (.value v) w)
  (h : AnyT P md l.toArray Q S z n (listed.setIfInBounds i true) (a.put (some d) v) w) (hi : l[i]? = some oi := by rfl) (hs : Region.noSelect l.toArray = true := by kernel_rfl) (hf : Region.free md l.toArray listed i = true := by kernel_rfl)
  (hr : (Region.ready md l.toArray listed).contains i = true := by kernel_rfl) (hz : tailWaits md l.toArray z i = true := by kernel_rfl) (ht : tailBegun z listed = false := by kernel_rfl) (hzi : z i = false := by rfl) (hd : oi.dst = some d := by rfl)
  (hQ : ∀ c (a : Go.Act) v w, Q (.panic c) (a.put (some d) v) w → Q (.panic c) a w := by exact fun _ _ _ _ h => h) (hw : Region.wanted oi (yielded l.toArray a.tmps) = true := by rfl) (hS : S w := by assumption) : AnyT P md l.toArray Q S z (n + 1) listed a w :=
 AnyT.take i d v hi hs hf hr hz hzi ht hd hQ hw hy hS h
theorem AnyT.sk (i d : Nat) {oi : Oper} {n : Nat} {listed : Array Bool} {a : Go.Act} {w : World}
  (h : AnyT P md l.toArray Q S z n (listed.setIfInBounds i true) (a.put (some d) undef) w) (hi : l[i]? = some oi := by rfl) (hs : Region.noSelect l.toArray = true := by kernel_rfl) (hf : Region.free md l.toArray listed i = true := by kernel_rfl)
  (hr : (Region.ready md l.toArray listed).contains i = true := by kernel_rfl) (hzi : z i = false := by rfl) (hd : oi.dst = some d := by rfl)
  (hQ : ∀ c (a : Go.Act) v w, Q (.panic c) (a.put (some d) v) w → Q (.panic c) a w := by exact fun _ _ _ _ h => h) (hw : Region.wanted oi (yielded l.toArray a.tmps) = false := by rfl) (hS : S w := by assumption) : AnyT P md l.toArray Q S z (n + 1) listed a w :=
 AnyT.first (S' := fun _ => True) (i := i) (oi := oi) (v := undef) (by simpa using hi) hs (fun c a w h => hQ c a undef w (hd ▸ h)) hzi (.inr fun _ => trivial) n listed (fun j oj => Region.free_spec (by simpa using hi) hf j oj) (by simpa using hr) (.inr fun _ => trivial) a w (.inr ⟨hw, rfl⟩) (fun _ => hS) (hd ▸ h)
theorem AnyT.ta (i d : Nat) {v : Value} {oi : Oper} {n : Nat} {listed : Array Bool} {a : Go.Act} {w : World} 
  (h : AnyT P md l.toArray Q S z n (listed.setIfInBounds i true) (a.put (some d) v) w) (hi : l[i]? = some oi := by rfl) (hy : ∀ w, (execOp a.eval oi).run P w = .ok (.value v) w := by (intro w; go_simp; (try (with_reducible rfl)))) (hs : Region.noSelect l.toArray = true := by kernel_rfl) (hf : Region.free md l.toArray listed i = true := by kernel_rfl)
  (hr : (Region.ready md l.toArray listed).contains i = true := by kernel_rfl) (hzi : z i = false := by rfl) (hd : oi.dst = some d := by rfl)
  (hQ : ∀ c (a : Go.Act) v w, Q (.panic c) (a.put (some d) v) w → Q (.panic c) a w := by exact fun _ _ _ _ h => h) (hw : Region.wanted oi (yielded l.toArray a.tmps) = true := by rfl) (hS : S w := by assumption) : AnyT P md l.toArray Q S z (n + 1) listed a w :=
 AnyT.takeAny i d v hi hs hf hr hzi hd hQ hw hy hS h
end
end Go.Proofs.YtgnmollbnopigaaGreat
