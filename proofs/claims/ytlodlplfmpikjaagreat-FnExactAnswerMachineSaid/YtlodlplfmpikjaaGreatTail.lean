/- A region that draws its order and ends in stores that hit what it loaded: the loads are taken first; what is held need not stand behind the stores ('tail operations', which wait for every load). Over any program. -/
import Derived.Test.YtlodlplfmpikjaaGreatRegion
namespace Go.Proofs.YtlodlplfmpikjaaGreat

/-- Some tail operation has come up. -/
def tailBegun (z : Nat → Bool) (listed : Array Bool) : Bool := (List.range listed.size).any fun j => z j && listed.getD j false
theorem tailBegun_set {z : Nat → Bool} {listed : Array Bool} {i : Nat} (hz : z i = false) : tailBegun z (listed.setIfInBounds i true) = tailBegun z listed := by
  unfold tailBegun
  rw [Array.size_setIfInBounds]
  congr 1
  funext j
  by_cases h : i = j
  · subst h; rw [hz]; rfl
  · rw [getD_set_ne false h]
theorem tailBegun_mono {z : Nat → Bool} {listed : Array Bool} {i : Nat} (h : tailBegun z (listed.setIfInBounds i true) = false) : tailBegun z listed = false := by
  unfold tailBegun at h ⊢
  rw [Array.size_setIfInBounds] at h
  rw [List.any_eq_false] at h ⊢
  intro j hj hc
  refine h j hj ?_
  rw [Bool.and_eq_true] at hc ⊢
  exact ⟨hc.1, getD_set_true hc.2⟩

section
variable {P : Program} {ops : Array Oper} {Q : Exit → Go.Act → World → Prop} {md : Region.Mode} {S : World → Prop} {z : Nat → Bool}

/-- Whatever order is picked: S stands as long as no tail operation has come up. -/
def AnyT (P : Program) (md : Region.Mode) (ops : Array Oper) (Q : Exit → Go.Act → World → Prop) (S : World → Prop) (z : Nat → Bool) : Nat → Array Bool → Go.Act → World → Prop
  | 0, listed, a, w => Region.ready md ops listed = [] ∧ Q .normal a w
  | n + 1, listed, a, w => (Region.ready md ops listed = [] → Q .normal a w) ∧
    ∀ i ∈ Region.ready md ops listed, wpOp P ops Q i (fun a' w' => (tailBegun z (listed.setIfInBounds i true) = false → S w') ∧ AnyT P md ops Q S z n (listed.setIfInBounds i true) a' w') a w

theorem AnyT.any : ∀ (n : Nat) (listed : Array Bool) (a : Go.Act) (w : World), AnyT P md ops Q S z n listed a w → wpAny P md ops Q n listed a w
  | 0, _, _, _, h => h
  | n + 1, _, _, _, h => ⟨h.1, fun i hi => wpOp_mono (fun a' w' h' => AnyT.any n _ a' w' h'.2) (h.2 i hi)⟩

/-- An operation that yields under S comes first, if all tail operations wait for it; one that yields in whatever world comes first anyhow. -/
theorem AnyT.first {S' : World → Prop} {i : Nat} {oi : Oper} {v : Value} (hi : ops[i]? = some oi) (hs : Region.noSelect ops = true) (hQ : ∀ c a w, Q (.panic c) (a.put oi.dst v) w → Q (.panic c) a w) (hzi : z i = false)
    (hz : (∀ w, S w → S' w) ∧ (∀ j oj, ops[j]? = some oj → z j = true → ∃ e ∈ oj.after, Region.binds md e = true ∧ e.on = i) ∨ ∀ w, S' w) :
    ∀ (n : Nat) (listed : Array Bool), (∀ j oj, ops[j]? = some oj → j ≠ i → listed.getD j true = false → (∀ e ∈ oj.after, Region.binds md e = true → e.on ≠ i) → oi.apart ops oj = true) →
      i ∈ Region.ready md ops listed → (tailBegun z listed = false ∨ ∀ w, S' w) → ∀ (a : Go.Act) (w : World), YieldsIf P ops S' oi v a → (tailBegun z listed = false → S w) → AnyT P md ops Q S z n (listed.setIfInBounds i true) (a.put oi.dst v) w → AnyT P md ops Q S z (n + 1) listed a w := by
  have hSS : ∀ (listed : Array Bool) (w : World), (tailBegun z listed = false ∨ ∀ w, S' w) → (tailBegun z listed = false → S w) → S' w := by
    intro listed w ht hS
    rcases hz with hz | hz
    · rcases ht with ht | ht
      · exact hz.1 w (hS ht)
      · exact ht w
    · exact hz w
  intro n
  induction n with
  | zero =>
    intro listed hfree hr ht a w hy hS H
    constructor
    · intro h0; rw [h0] at hr; cases hr
    · intro j hj
      rcases Nat.decEq j i with hne | heq
      · have hm := ready_mono hj hne
        rw [H.1] at hm
        cases hm
      · subst heq
        exact hy.wpOp hi (hSS listed w ht hS) ⟨fun h => hS (tailBegun_mono h), H⟩
  | succ n ih =>
    intro listed hfree hr ht a w hy hS H
    constructor
    · intro h0; rw [h0] at hr; cases hr
    · intro j hj
      rcases Nat.decEq j i with hne | heq
      · have hnext := H.2 j (ready_mono hj hne)
        obtain ⟨hun, oj, hoj, hdone⟩ := mem_ready.1 hj
        have hwait : ∀ e ∈ oj.after, Region.binds md e = true → e.on ≠ i := by
          intro e he hb hon
          have hl := hdone e he hb
          have hu := (mem_ready.1 hr).1
          rw [hon] at hl
          by_cases hlt : i < listed.size
          · simp [hlt] at hl hu; rw [hl] at hu; cases hu
          · simp [Array.getElem?_eq_none (Nat.le_of_not_lt hlt)] at hl
        have ht' : tailBegun z (listed.setIfInBounds j true) = false ∨ ∀ w, S' w := by
          rcases hz with hz | hz
          · rcases ht with ht | ht
            · left
              have hzj : z j = false := by
                cases hzz : z j with
                | false => rfl
                | true =>
                  obtain ⟨e, he, hb, hon⟩ := hz.2 j oj hoj hzz
                  exact absurd hon (hwait e he hb)
              rw [tailBegun_set hzj]; exact ht
            · exact .inr ht
          · exact .inr hz
        have hstep := wpOp_putIf hoj (hfree j oj hoj hne hun hwait) (fun cs b => Region.noSelect_spec hs i oi cs b hi) (fun cs b => Region.noSelect_spec hs j oj cs b hoj) hQ hy hnext
        refine wpOp_mono (fun a' w' h3 => ?_) hstep
        obtain ⟨hy', hS', hrest⟩ := h3
        have hcom : (listed.setIfInBounds i true).setIfInBounds j true = (listed.setIfInBounds j true).setIfInBounds i true := Array.setIfInBounds_comm _ _ (Ne.symm hne)
        rw [hcom, tailBegun_set hzi] at hS'
        refine ⟨hS', ih (listed.setIfInBounds j true) (fun k ok hok hki huk hnk => hfree k ok hok hki ?_ hnk) (ready_mono hr (Ne.symm hne)) ht' a' w' hy' hS' ?_⟩
        · by_cases hjk : j = k
          · subst hjk; exact hun
          · rw [getD_set_ne true hjk] at huk; exact huk
        · rw [← hcom]
          exact hrest
      · subst heq
        exact hy.wpOp hi (hSS listed w ht hS) ⟨fun h => hS (tailBegun_mono h), H⟩

/-- Every tail operation waits for number i. -/
def tailWaits (md : Region.Mode) (ops : Array Oper) (z : Nat → Bool) (i : Nat) : Bool :=
  (List.range ops.size).all fun j => !z j || match ops[j]? with | some oj => oj.after.any (fun e => Region.binds md e && e.on == i) | none => true
theorem tailWaits_spec {i : Nat} (h : tailWaits md ops z i = true) (j : Nat) (oj : Oper) (hj : ops[j]? = some oj) (hz : z j = true) : ∃ e ∈ oj.after, Region.binds md e = true ∧ e.on = i := by
  unfold tailWaits at h
  have h1 := List.all_eq_true.1 h j (List.mem_range.2 (Array.getElem?_eq_some_iff.1 hj).1)
  rw [hz, hj] at h1
  simp only [Bool.not_true, Bool.false_or] at h1
  obtain ⟨e, he, hb⟩ := Array.any_eq_true'.1 h1
  rw [Bool.and_eq_true] at hb
  exact ⟨e, he, hb.1, by simpa using hb.2⟩

theorem AnyT.done {listed : Array Bool} {a : Go.Act} {w : World} (hr : Region.ready md ops listed = []) (h : Q .normal a w) : ∀ n, AnyT P md ops Q S z n listed a w
  | 0 => ⟨hr, h⟩
  | _ + 1 => ⟨fun _ => h, fun i hi => by rw [hr] at hi; cases hi⟩

/-- The beginning. -/
theorem AnyT.region {id : Nat} {a : Go.Act} {w : World} (z : Nat → Bool) (S : World → Prop) (hm : P.follows .mixedOrders = true) (hS : S w.drew) (h : S w.drew → AnyT P .any ops Q S z ops.size (Array.replicate ops.size false) a w.drew) : (Code.region id ops true).wp P Q a w :=
  wp_region_any hm (AnyT.any _ _ _ _ (h hS))

end

section
variable {P : Program} {l : List Oper} {Q : Exit → Go.Act → World → Prop} {md : Region.Mode} {S : World → Prop} {z : Nat → Bool}

/-- A load, or what hangs on S otherwise. -/
theorem AnyT.take (i d : Nat) (v : Value) {oi : Oper} {n : Nat} {listed : Array Bool} {a : Go.Act} {w : World} (hi : l[i]? = some oi) (hs : Region.noSelect l.toArray = true) (hf : Region.free md l.toArray listed i = true)
    (hr : (Region.ready md l.toArray listed).contains i = true) (hz : tailWaits md l.toArray z i = true) (hzi : z i = false) (ht : tailBegun z listed = false) (hd : oi.dst = some d) (hQ : ∀ c (a : Go.Act) v w, Q (.panic c) (a.put (some d) v) w → Q (.panic c) a w)
    (hw : Region.wanted oi (yielded l.toArray a.tmps) = true) (hy : ∀ w, S w → (execOp a.eval oi).run P w = .ok (.value v) w) (hS : S w)
    (h : AnyT P md l.toArray Q S z n (listed.setIfInBounds i true) (a.put (some d) v) w) : AnyT P md l.toArray Q S z (n + 1) listed a w :=
  AnyT.first (i := i) (oi := oi) (v := v) (by simpa using hi) hs (fun c a w h => hQ c a v w (hd ▸ h)) hzi (.inl ⟨fun _ h => h, fun j oj hj hzj => tailWaits_spec hz j oj hj hzj⟩) n listed (fun j oj => Region.free_spec (by simpa using hi) hf j oj) (by simpa using hr) (.inl ht) a w (.inl ⟨hw, hy⟩) (fun _ => hS) (hd ▸ h)
/-- What yields in whatever world. -/
theorem AnyT.takeAny (i d : Nat) (v : Value) {oi : Oper} {n : Nat} {listed : Array Bool} {a : Go.Act} {w : World} (hi : l[i]? = some oi) (hs : Region.noSelect l.toArray = true) (hf : Region.free md l.toArray listed i = true)
    (hr : (Region.ready md l.toArray listed).contains i = true) (hzi : z i = false) (hd : oi.dst = some d) (hQ : ∀ c (a : Go.Act) v w, Q (.panic c) (a.put (some d) v) w → Q (.panic c) a w)
    (hw : Region.wanted oi (yielded l.toArray a.tmps) = true) (hy : ∀ w, (execOp a.eval oi).run P w = .ok (.value v) w) (hS : S w)
    (h : AnyT P md l.toArray Q S z n (listed.setIfInBounds i true) (a.put (some d) v) w) : AnyT P md l.toArray Q S z (n + 1) listed a w :=
  AnyT.first (S' := fun _ => True) (i := i) (oi := oi) (v := v) (by simpa using hi) hs (fun c a w h => hQ c a v w (hd ▸ h)) hzi (.inr fun _ => trivial) n listed (fun j oj => Region.free_spec (by simpa using hi) hf j oj) (by simpa using hr) (.inr fun _ => trivial) a w (.inl ⟨hw, fun w _ => hy w⟩) (fun _ => hS) (hd ▸ h)

/-- One operation alone may come up: behind it S is to be shown. -/
theorem AnyT.one {i : Nat} {o : Oper} {n : Nat} {listed : Array Bool} {a : Go.Act} {w : World} (hr : Region.ready md l.toArray listed = [i]) (ho : l[i]? = some o)
    (h : ∀ K' : Go.Act → World → Prop, Shut (∀ a w, S w → (S w → AnyT P md l.toArray Q S z n (listed.setIfInBounds i true) a w) → K' a w) → if Region.wanted o (yielded l.toArray a.tmps) = true then Oper.wp P o a w K' Q else K' (a.put o.dst undef) w) :
    AnyT P md l.toArray Q S z (n + 1) listed a w := by
  refine ⟨fun h0 => (by rw [hr] at h0; cases h0), fun j hj => ?_⟩
  rw [hr] at hj
  obtain rfl : j = i := by simpa using hj
  exact wpOp_step (by simpa using ho) (fun K' hK => h K' (fun a w hS hW => hK a w ⟨fun _ => hS, hW hS⟩))
/-- One operation alone may come up, and the tail has begun with it at the latest. -/
theorem AnyT.last {i : Nat} {o : Oper} {n : Nat} {listed : Array Bool} {a : Go.Act} {w : World} (hr : Region.ready md l.toArray listed = [i]) (ho : l[i]? = some o) (ht : tailBegun z (listed.setIfInBounds i true) = true)
    (h : ∀ K' : Go.Act → World → Prop, Shut (∀ a w, AnyT P md l.toArray Q S z n (listed.setIfInBounds i true) a w → K' a w) → if Region.wanted o (yielded l.toArray a.tmps) = true then Oper.wp P o a w K' Q else K' (a.put o.dst undef) w) :
    AnyT P md l.toArray Q S z (n + 1) listed a w := by
  refine ⟨fun h0 => (by rw [hr] at h0; cases h0), fun j hj => ?_⟩
  rw [hr] at hj
  obtain rfl : j = i := by simpa using hj
  exact wpOp_step (by simpa using ho) (fun K' hK => h K' (fun a w hW => hK a w ⟨fun h0 => (by rw [ht] at h0; cases h0), hW⟩))

end

end Go.Proofs.YtlodlplfmpikjaaGreat
