/- A region that draws its order and ends in stores that hit what it loaded: the loads are taken first; what is held need not stand behind the stores ('tail operations', which wait for every load). Over any program. -/
import Derived.Test.YtfibjcaidnofmaaGreatDoorJoinEXAe
import Derived.Test.YtfibjcaidnofmaaGreatDoorJoinEXAb
import Derived.IntWalk
namespace Go.Proofs.YtfibjcaidnofmaaGreatDoor

/-- Some tail operation has come up. -/
def tailBegun (z : Nat → Bool) (listed : Array Bool) : Bool := (List.range listed.size).any fun j => z j && listed.getD j false
theorem tailBegun_set {z : Nat → Bool} {listed : Array Bool} {i : Nat} (hz : z i = false) : tailBegun z (listed.setIfInBounds i true) = tailBegun z listed := by
  unfold tailBegun
  rw [Array.size_setIfInBounds]
  congr 1
  funext j
  by_cases h : i = j
  · subst h; rw [hz]; rfl
  · rw [getD_set_ne false h]
theorem tailBegun_mono {z : Nat → Bool} {listed : Array Bool} {i : Nat} (h : tailBegun z (listed.setIfInBounds i true) = false) : tailBegun z listed = false := by
  unfold tailBegun at h ⊢
  rw [Array.size_setIfInBounds] at h
  rw [List.any_eq_false] at h ⊢
  intro j hj hc
  refine h j hj ?_
  rw [Bool.and_eq_true] at hc ⊢
  exact ⟨hc.1, getD_set_true hc.2⟩

section
variable {P : Program} {ops : Array Oper} {Q : Exit → Go.Act → World → Prop} {md : Region.Mode} {S : World → Prop} {z : Nat → Bool}

/-- Whatever order is picked: S stands as long as no tail operation has come up. -/
def AnyT (P : Program) (md : Region.Mode) (ops : Array Oper) (Q : Exit → Go.Act → World → Prop) (S : World → Prop) (z : Nat → Bool) : Nat → Array Bool → Go.Act → World → Prop
  | 0, listed, a, w => Region.ready md ops listed = [] ∧ Q .normal a w
  | n + 1, listed, a, w => (Region.ready md ops listed = [] → Q .normal a w) ∧
    ∀ i ∈ Region.ready md ops listed, wpOp P ops Q i (fun a' w' => (tailBegun z (listed.setIfInBounds i true) = false → S w') ∧ AnyT P md ops Q S z n (listed.setIfInBounds i true) a' w') a w

theorem AnyT.any : ∀ (n : Nat) (listed : Array Bool) (a : Go.Act) (w : World), AnyT P md ops Q S z n listed a w → wpAny P md ops Q n listed a w
  | 0, _, _, _, h => h
  | n + 1, _, _, _, h => ⟨h.1, fun i hi => wpOp_mono (fun a' w' h' => AnyT.any n _ a' w' h'.2) (h.2 i hi)⟩

/-- An operation that yields under S comes first, if all tail operations wait for it; one that yields in whatever world comes first anyhow. -/
theorem AnyT.first {S' : World → Prop} {i : Nat} {oi : Oper} {v : Value} (hi : ops[i]? = some oi) (hs : Region.noSelect ops = true) (hQ : ∀ c a w, Q (.panic c) (a.put oi.dst v) w → Q (.panic c) a w) (hzi : z i = false)
    (hz : (∀ w, S w → S' w) ∧ (∀ j oj, ops[j]? = some oj → z j = true → ∃ e ∈ oj.after, Region.binds md e = true ∧ e.on = i) ∨ ∀ w, S' w) :
    ∀ (n : Nat) (listed : Array Bool), (∀ j oj, ops[j]? = some oj → j ≠ i → listed.getD j true = false → (∀ e ∈ oj.after, Region.binds md e = true → e.on ≠ i) → oi.apart ops oj = true) →
      i ∈ Region.ready md ops listed → (tailBegun z listed = false ∨ ∀ w, S' w) → ∀ (a : Go.Act) (w : World), YieldsIf P ops S' oi v a → (tailBegun z listed = false → S w) → AnyT P md ops Q S z n (listed.setIfInBounds i true) (a.put oi.dst v) w → AnyT P md ops Q S z (n + 1) listed a w := by
  have hSS : ∀ (listed : Array Bool) (w : World), (tailBegun z listed = false ∨ ∀ w, S' w) → (tailBegun z listed = false → S w) → S' w := by
    intro listed w ht hS
    rcases hz with hz | hz
    · rcases ht with ht | ht
      · exact hz.1 w (hS ht)
      · exact ht w
    · exact hz w
  intro n
  induction n with
  | zero =>
    intro listed hfree hr ht a w hy hS H
    constructor
    · intro h0; rw [h0] at hr; cases hr
    · intro j hj
      rcases Nat.decEq j i with hne | heq
      · have hm := ready_mono hj hne
        rw [H.1] at hm
        cases hm
      · subst heq
        exact hy.wpOp hi (hSS listed w ht hS) ⟨fun h => hS (tailBegun_mono h), H⟩
  | succ n ih =>
    intro listed hfree hr ht a w hy hS H
    constructor
    · intro h0; rw [h0] at hr; cases hr
    · intro j hj
      rcases Nat.decEq j i with hne | heq
      · have hnext := H.2 j (ready_mono hj hne)
        obtain ⟨hun, oj, hoj, hdone⟩ := mem_ready.1 hj
        have hwait : ∀ e ∈ oj.after, Region.binds md e = true → e.on ≠ i := by
          intro e he hb hon
          have hl := hdone e he hb
          have hu := (mem_ready.1 hr).1
          rw [hon] at hl
          by_cases hlt : i < listed.size
          · simp [hlt] at hl hu; rw [hl] at hu; cases hu
          · simp [Array.getElem?_eq_none (Nat.le_of_not_lt hlt)] at hl
        have ht' : tailBegun z (listed.setIfInBounds j true) = false ∨ ∀ w, S' w := by
          rcases hz with hz | hz
          · rcases ht with ht | ht
            · left
              have hzj : z j = false := by
                cases hzz : z j with
                | false => rfl
                | true =>
                  obtain ⟨e, he, hb, hon⟩ := hz.2 j oj hoj hzz
                  exact absurd hon (hwait e he hb)
              rw [tailBegun_set hzj]; exact ht
            · exact .inr ht
          · exact .inr hz
        have hstep := wpOp_putIf hoj (hfree j oj hoj hne hun hwait) (fun cs b => Region.noSelect_spec hs i oi cs b hi) (fun cs b => Region.noSelect_spec hs j oj cs b hoj) hQ hy hnext
        refine wpOp_mono (fun a' w' h3 => ?_) hstep
        obtain ⟨hy', hS', hrest⟩ := h3
        have hcom : (listed.setIfInBounds i true).setIfInBounds j true = (listed.setIfInBounds j true).setIfInBounds i true := Array.setIfInBounds_comm _ _ (Ne.symm hne)
        rw [hcom, tailBegun_set hzi] at hS'
        refine ⟨hS', ih (listed.setIfInBounds j true) (fun k ok hok hki huk hnk => hfree k ok hok hki ?_ hnk) (ready_mono hr (Ne.symm hne)) ht' a' w' hy' hS' ?_⟩
        · by_cases hjk : j = k
          · subst hjk; exact hun
          · rw [getD_set_ne true hjk] at huk; exact huk
        · rw [← hcom]
          exact hrest
      · subst heq
        exact hy.wpOp hi (hSS listed w ht hS) ⟨fun h => hS (tailBegun_mono h), H⟩

/-- Every tail operation waits for number i. -/
def tailWaits (md : Region.Mode) (ops : Array Oper) (z : Nat → Bool) (i : Nat) : Bool :=
  (List.range ops.size).all fun j => !z j || match ops[j]? with | some oj => oj.after.any (fun e => Region.binds md e && e.on == i) | none => true
theorem tailWaits_spec {i : Nat} (h : tailWaits md ops z i = true) (j : Nat) (oj : Oper) (hj : ops[j]? = some oj) (hz : z j = true) : ∃ e ∈ oj.after, Region.binds md e = true ∧ e.on = i := by
  unfold tailWaits at h
  have h1 := List.all_eq_true.1 h j (List.mem_range.2 (Array.getElem?_eq_some_iff.1 hj).1)
  rw [hz, hj] at h1
  simp only [Bool.not_true, Bool.false_or] at h1
  obtain ⟨e, he, hb⟩ := Array.any_eq_true'.1 h1
  rw [Bool.and_eq_true] at hb
  exact ⟨e, he, hb.1, by simpa using hb.2⟩

theorem AnyT.done {listed : Array Bool} {a : Go.Act} {w : World} (hr : Region.ready md ops listed = []) (h : Q .normal a w) : ∀ n, AnyT P md ops Q S z n listed a w
  | 0 => ⟨hr, h⟩
  | _ + 1 => ⟨fun _ => h, fun i hi => by rw [hr] at hi; cases hi⟩

/-- The beginning. -/
theorem AnyT.region {id : Nat} {a : Go.Act} {w : World} (z : Nat → Bool) (S : World → Prop) (hm : P.follows .mixedOrders = true) (hS : S w.drew) (h : S w.drew → AnyT P .any ops Q S z ops.size (Array.replicate ops.size false) a w.drew) : (Code.region id ops true).wp P Q a w :=
  wp_region_any hm (AnyT.any _ _ _ _ (h hS))

end

section
variable {P : Program} {l : List Oper} {Q : Exit → Go.Act → World → Prop} {md : Region.Mode} {S : World → Prop} {z : Nat → Bool}

/-- A load, or what hangs on S otherwise. -/
theorem AnyT.take (i d : Nat) (v : Value) {oi : Oper} {n : Nat} {listed : Array Bool} {a : Go.Act} {w : World} (hi : l[i]? = some oi) (hs : Region.noSelect l.toArray = true) (hf : Region.free md l.toArray listed i = true)
    (hr : (Region.ready md l.toArray listed).contains i = true) (hz : tailWaits md l.toArray z i = true) (hzi : z i = false) (ht : tailBegun z listed = false) (hd : oi.dst = some d) (hQ : ∀ c (a : Go.Act) v w, Q (.panic c) (a.put (some d) v) w → Q (.panic c) a w)
    (hw : Region.wanted oi (yielded l.toArray a.tmps) = true) (hy : ∀ w, S w → (execOp a.eval oi).run P w = .ok (.value v) w) (hS : S w)
    (h : AnyT P md l.toArray Q S z n (listed.setIfInBounds i true) (a.put (some d) v) w) : AnyT P md l.toArray Q S z (n + 1) listed a w :=
  AnyT.first (i := i) (oi := oi) (v := v) (by simpa using hi) hs (fun c a w h => hQ c a v w (hd ▸ h)) hzi (.inl ⟨fun _ h => h, fun j oj hj hzj => tailWaits_spec hz j oj hj hzj⟩) n listed (fun j oj => Region.free_spec (by simpa using hi) hf j oj) (by simpa using hr) (.inl ht) a w (.inl ⟨hw, hy⟩) (fun _ => hS) (hd ▸ h)
/-- What yields in whatever world. -/
theorem AnyT.takeAny (i d : Nat) (v : Value) {oi : Oper} {n : Nat} {listed : Array Bool} {a : Go.Act} {w : World} (hi : l[i]? = some oi) (hs : Region.noSelect l.toArray = true) (hf : Region.free md l.toArray listed i = true)
    (hr : (Region.ready md l.toArray listed).contains i = true) (hzi : z i = false) (hd : oi.dst = some d) (hQ : ∀ c (a : Go.Act) v w, Q (.panic c) (a.put (some d) v) w → Q (.panic c) a w)
    (hw : Region.wanted oi (yielded l.toArray a.tmps) = true) (hy : ∀ w, (execOp a.eval oi).run P w = .ok (.value v) w) (hS : S w)
    (h : AnyT P md l.toArray Q S z n (listed.setIfInBounds i true) (a.put (some d) v) w) : AnyT P md l.toArray Q S z (n + 1) listed a w :=
  AnyT.first (S' := fun _ => True) (i := i) (oi := oi) (v := v) (by simpa using hi) hs (fun c a w h => hQ c a v w (hd ▸ h)) hzi (.inr fun _ => trivial) n listed (fun j oj => Region.free_spec (by simpa using hi) hf j oj) (by simpa using hr) (.inr fun _ => trivial) a w (.inl ⟨hw, fun w _ => hy w⟩) (fun _ => hS) (hd ▸ h)

/-- One operation alone may come up: behind it S is to be shown. -/
theorem AnyT.one {i : Nat} {o : Oper} {n : Nat} {listed : Array Bool} {a : Go.Act} {w : World} (hr : Region.ready md l.toArray listed = [i]) (ho : l[i]? = some o)
    (h : ∀ K' : Go.Act → World → Prop, Shut (∀ a w, S w → (S w → AnyT P md l.toArray Q S z n (listed.setIfInBounds i true) a w) → K' a w) → if Region.wanted o (yielded l.toArray a.tmps) = true then Oper.wp P o a w K' Q else K' (a.put o.dst undef) w) :
    AnyT P md l.toArray Q S z (n + 1) listed a w := by
  refine ⟨fun h0 => (by rw [hr] at h0; cases h0), fun j hj => ?_⟩
  rw [hr] at hj
  obtain rfl : j = i := by simpa using hj
  exact wpOp_step (by simpa using ho) (fun K' hK => h K' (fun a w hS hW => hK a w ⟨fun _ => hS, hW hS⟩))
/-- One operation alone may come up, and the tail has begun with it at the latest. -/
theorem AnyT.last {i : Nat} {o : Oper} {n : Nat} {listed : Array Bool} {a : Go.Act} {w : World} (hr : Region.ready md l.toArray listed = [i]) (ho : l[i]? = some o) (ht : tailBegun z (listed.setIfInBounds i true) = true)
    (h : ∀ K' : Go.Act → World → Prop, Shut (∀ a w, AnyT P md l.toArray Q S z n (listed.setIfInBounds i true) a w → K' a w) → if Region.wanted o (yielded l.toArray a.tmps) = true then Oper.wp P o a w K' Q else K' (a.put o.dst undef) w) :
    AnyT P md l.toArray Q S z (n + 1) listed a w := by
  refine ⟨fun h0 => (by rw [hr] at h0; cases h0), fun j hj => ?_⟩
  rw [hr] at hj
  obtain rfl : j = i := by simpa using hj
  exact wpOp_step (by simpa using ho) (fun K' hK => h K' (fun a w hW => hK a w ⟨fun h0 => (by rw [ht] at h0; cases h0), hW⟩))

/-! Short forms (the closed facts come of themselves). -/
theorem za {α : Type} (l : List α) (i : Nat) (a : α) : l.toArray.setIfInBounds i a = (l.set i a).toArray := by simp
theorem zb {α : Type} (a b : α) (l : List α) : (a :: l).set 0 b = b :: l := rfl
theorem zc {α : Type} (a b : α) (n : Nat) (l : List α) : (a :: l).set (n + 1) b = a :: l.set n b := rfl
theorem AnyT.sk (i d : Nat) {oi : Oper} {n : Nat} {listed : Array Bool} {a : Go.Act} {w : World}
    (h : AnyT P md l.toArray Q S z n (listed.setIfInBounds i true) (a.put (some d) undef) w) (hi : l[i]? = some oi := by rfl) (hs : Region.noSelect l.toArray = true := by kernel_rfl) (hf : Region.free md l.toArray listed i = true := by kernel_rfl)
    (hr : (Region.ready md l.toArray listed).contains i = true := by kernel_rfl) (hzi : z i = false := by rfl) (hd : oi.dst = some d := by rfl)
    (hQ : ∀ c (a : Go.Act) v w, Q (.panic c) (a.put (some d) v) w → Q (.panic c) a w := by exact fun _ _ _ _ h => h) (hw : Region.wanted oi (yielded l.toArray a.tmps) = false := by rfl) (hS : S w := by assumption) : AnyT P md l.toArray Q S z (n + 1) listed a w :=
  AnyT.first (S' := fun _ => True) (i := i) (oi := oi) (v := undef) (by simpa using hi) hs (fun c a w h => hQ c a undef w (hd ▸ h)) hzi (.inr fun _ => trivial) n listed (fun j oj => Region.free_spec (by simpa using hi) hf j oj) (by simpa using hr) (.inr fun _ => trivial) a w (.inr ⟨hw, rfl⟩) (fun _ => hS) (hd ▸ h)
end

end Go.Proofs.YtfibjcaidnofmaaGreatDoor

/- The reference's texts of numbers walked: l01Whole. -/
namespace Go.Proofs.YtfibjcaidnofmaaGreatDoor
open Go.RowKit

section
variable {P : Program} {l : List Oper} {Q : Exit → Go.Act → World → Prop} {md : Region.Mode} {S : World → Prop} {z : Nat → Bool}
/-- Two operations may come up: behind each S is to be shown. -/
theorem AnyT.two {i j : Nat} {oi oj : Oper} {n : Nat} {listed : Array Bool} {a : Go.Act} {w : World} (hr : Region.ready md l.toArray listed = [i, j]) (hi : l[i]? = some oi) (hj : l[j]? = some oj)
    (h1 : ∀ K' : Go.Act → World → Prop, Shut (∀ a w, S w → (S w → AnyT P md l.toArray Q S z n (listed.setIfInBounds i true) a w) → K' a w) → if Region.wanted oi (yielded l.toArray a.tmps) = true then Oper.wp P oi a w K' Q else K' (a.put oi.dst undef) w)
    (h2 : ∀ K' : Go.Act → World → Prop, Shut (∀ a w, S w → (S w → AnyT P md l.toArray Q S z n (listed.setIfInBounds j true) a w) → K' a w) → if Region.wanted oj (yielded l.toArray a.tmps) = true then Oper.wp P oj a w K' Q else K' (a.put oj.dst undef) w) :
    AnyT P md l.toArray Q S z (n + 1) listed a w := by
  refine ⟨fun h0 => (by rw [hr] at h0; cases h0), fun k hk => ?_⟩
  rw [hr] at hk
  rcases List.mem_cons.1 hk with rfl | hk
  · exact wpOp_step (by simpa using hi) (fun K' hK => h1 K' (fun a w hS hW => hK a w ⟨fun _ => hS, hW hS⟩))
  · obtain rfl : k = j := by simpa using hk
    exact wpOp_step (by simpa using hj) (fun K' hK => h2 K' (fun a w hS hW => hK a w ⟨fun _ => hS, hW hS⟩))
end

theorem bytes_snoc (l : List UInt8) (c : UInt8) : (⟨l.toArray⟩ : ByteArray) ++ (⟨#[c]⟩ : ByteArray) = ⟨(l ++ [c]).toArray⟩ := ByteArray.ext (by simp [ByteArray.data_append])

set_option maxHeartbeats 4000000 in
set_option maxRecDepth 100000 in
theorem l01Whole_step (k : Nat) (hk0 : k ≠ 0) (hk : k ≤ 9000000000000) (w : World) (ih : ∀ W, Calls Tryz.prog 227 #[.int .i64 ((k / 10 : Nat) : Int)] W fun e w' => e = .returned (.string ⟨(wholeT (k / 10)).toArray⟩) ∧ Below W.heap.size W w') :
    Calls Tryz.prog 227 #[.int .i64 (k : Int)] w fun e w' => e = .returned (.string ⟨(wholeT k).toArray⟩) ∧ Below w.heap.size w w' := by
  have HIH := Lib.hid ih; clear ih
  have k0 : ((k : Int) == 0) = false := by rw [beq_eq_false_iff_ne]; omega
  have HW := Lib.hid (wholeT_step k hk0)
  have hq : (k : Int) / 10 = ((k / 10 : Nat) : Int) := by omega
  have hr : (k : Int) % 10 = ((k % 10 : Nat) : Int) := by omega
  have hrt : ((k : Int)).tmod 10 = ((k % 10 : Nat) : Int) := rfl
  have hr9 : k % 10 ≤ 9 := by omega
  have hq9 : k / 10 ≤ 900000000000 := by omega
  have hql : (wholeT (k / 10)).length ≤ 13 := by unfold wholeT; split; exact Nat.zero_le _; exact decDigits_len 12 _ (by omega)
  generalize k / 10 = q at *
  generalize k % 10 = r at *
  have hbig : ¬ (9223372036854775807 < (wholeT q).length + 1) := by omega
  have wq : IntKind.i64.wrap (q : Int) = (q : Int) := IntWalk.i64_in _ (by omega)
  have wr1 : IntKind.i64.wrap (48 + (r : Int)) = 48 + (r : Int) := IntWalk.i64_in _ (by omega)
  have wr2 : IntKind.u8.wrap (48 + (r : Int)) = 48 + (r : Int) := by simp [IntKind.wrap, IntKind.bits, IntKind.signed]; omega
  go_enter Tryz.func227, Tryz.ntmps227
  go_wp2_with fail
  refine AnyT.region (fun _ => false) (fun _ => True) (by kernel_rfl) trivial (fun hHeld => ?_)
  ((refine AnyT.takeAny 0 5 ?_ rfl (by kernel_rfl) (by kernel_rfl) (by kernel_rfl) rfl rfl (fun _ _ _ _ h => h) rfl ?_ (by assumption) ?_); rotate_left; (intro w; go_simp; (try (with_reducible rfl))); simp only [Act.put, List.setIfInBounds_toArray, List.set_cons_zero, List.set_cons_succ])
  ((refine AnyT.takeAny 1 6 ?_ rfl (by kernel_rfl) (by kernel_rfl) (by kernel_rfl) rfl rfl (fun _ _ _ _ h => h) rfl ?_ (by assumption) ?_); rotate_left; (intro w; go_simp; (try (with_reducible rfl))); simp only [Act.put, List.setIfInBounds_toArray, List.set_cons_zero, List.set_cons_succ])
  ((refine AnyT.takeAny 3 8 ?_ rfl (by kernel_rfl) (by kernel_rfl) (by kernel_rfl) rfl rfl (fun _ _ _ _ h => h) rfl ?_ (by assumption) ?_); rotate_left; (intro w; go_simp; (try (with_reducible rfl))); simp only [Act.put, List.setIfInBounds_toArray, List.set_cons_zero, List.set_cons_succ])
  ((refine AnyT.takeAny 4 9 ?_ rfl (by kernel_rfl) (by kernel_rfl) (by kernel_rfl) rfl rfl (fun _ _ _ _ h => h) rfl ?_ (by assumption) ?_); rotate_left; (intro w; go_simp; (try (with_reducible rfl))); simp only [Act.put, List.setIfInBounds_toArray, List.set_cons_zero, List.set_cons_succ])
  ((refine AnyT.takeAny 5 10 ?_ rfl (by kernel_rfl) (by kernel_rfl) (by kernel_rfl) rfl rfl (fun _ _ _ _ h => h) rfl ?_ (by assumption) ?_); rotate_left; (intro w; go_simp; (try (with_reducible rfl))); simp only [Act.put, List.setIfInBounds_toArray, List.set_cons_zero, List.set_cons_succ])
  ((refine AnyT.takeAny 6 11 ?_ rfl (by kernel_rfl) (by kernel_rfl) (by kernel_rfl) rfl rfl (fun _ _ _ _ h => h) rfl ?_ (by assumption) ?_); rotate_left; (intro w; go_simp; (try (with_reducible rfl))); simp only [Act.put, List.setIfInBounds_toArray, List.set_cons_zero, List.set_cons_succ])
  refine AnyT.two (i := 2) (j := 7) (by kernel_rfl) rfl rfl (fun K hK => ?_) (fun K hK => ?_)
  · go_simp
    refine (HIH.out w.drew).mono ?_
    rintro e1 w1 ⟨rfl, hb1⟩
    refine hK.out _ _ trivial (fun hHeld => ?_)
    clear hK K
    (try simp only [Act.put, List.setIfInBounds_toArray, List.set_cons_zero, List.set_cons_succ])
    have hcv := run_one_byte (P := Tryz.prog) 22 9 5 Tryz.underlying22 Tryz.underlying5 Tryz.underlying9 w1 (48 + (r : Int)) 1
    rw [show ((48 : Int) + (r : Int)).toNat = 48 + r by omega] at hcv
    have HBX := Lib.hid (show Below w.heap.size w (w1.alloc (.cells #[.int .u8 (48 + (r : Int))] 5)) from (((Below.refl w.heap.size w).drew).trans hb1).alloc (by have := hb1.size; exact this) _)
    clear hb1
    ((refine AnyT.one (i := 7) (by kernel_rfl) rfl (fun K hK => ?_)))
    go_simp
    refine hK.out _ _ trivial (fun hHeld => ?_)
    clear hK K
    (try simp only [Act.put, List.setIfInBounds_toArray, List.set_cons_zero, List.set_cons_succ])
    ((refine AnyT.one (i := 8) (by kernel_rfl) rfl (fun K hK => ?_)))
    go_simp
    refine hK.out _ _ trivial (fun hHeld => ?_)
    clear hK K
    (try simp only [Act.put, List.setIfInBounds_toArray, List.set_cons_zero, List.set_cons_succ])
    ((refine AnyT.takeAny 9 14 ?_ rfl (by kernel_rfl) (by kernel_rfl) (by kernel_rfl) rfl rfl (fun _ _ _ _ h => h) rfl ?_ (by assumption) ?_); rotate_left; (intro w; go_simp; (try (with_reducible rfl))); simp only [Act.put, List.setIfInBounds_toArray, List.set_cons_zero, List.set_cons_succ])
    ((refine AnyT.takeAny 10 2 ?_ rfl (by kernel_rfl) (by kernel_rfl) (by kernel_rfl) rfl rfl (fun _ _ _ _ h => h) rfl ?_ (by assumption) ?_); rotate_left; (intro w; go_simp; (try (with_reducible rfl))); simp only [Act.put, List.setIfInBounds_toArray, List.set_cons_zero, List.set_cons_succ])
    refine AnyT.done (by kernel_rfl) ?_ _
    go_wp2_with fail
    go_ret
    exact ⟨by rw [HW.out]; simp; exact bytes_snoc _ _, HBX.out⟩
  · go_simp
    refine hK.out _ _ trivial (fun hHeld => ?_)
    clear hK K
    (try simp only [Act.put, List.setIfInBounds_toArray, List.set_cons_zero, List.set_cons_succ])
    have hu8 : (UInt8.ofNat (48 + r)).toNat = 48 + r := by rw [UInt8.toNat_ofNat']; omega
    have HCV := Lib.hid (show ∀ W : World, W.cell? ⟨w.heap.size, 0, none⟩ = some (.int .u8 (48 + (r : Int))) → (convert 22 9 (.slice (some ⟨w.heap.size, 0, none⟩) 1 1)).run Tryz.prog W = .ok (.string ⟨#[UInt8.ofNat (48 + r)]⟩) W from fun W hW =>
      run_convert_bytes_back (P := Tryz.prog) W 22 9 5 ⟨w.heap.size, 0, none⟩ 1 [UInt8.ofNat (48 + r)] Tryz.underlying22 Tryz.underlying5 Tryz.underlying9 (fun j hj => by
        obtain rfl : j = 0 := by simpa using hj
        show W.cell? ⟨w.heap.size, 0, none⟩ = _
        rw [hW]
        show _ = some (Value.int .u8 ((UInt8.ofNat (48 + r)).toNat : Int))
        rw [hu8]; push_cast; rfl))
    have hcell : (w.alloc (.cells #[.int .u8 (48 + (r : Int))] 5)).drew.cell? ⟨w.heap.size, 0, none⟩ = some (.int .u8 (48 + (r : Int))) := (Blk.new w 5 #[.int .u8 (48 + (r : Int))]).cell 0
    have HAL := Lib.hid (show Below w.heap.size w (w.alloc (.cells #[.int .u8 (48 + (r : Int))] 5)).drew from ((Below.refl w.heap.size w).alloc (Nat.le_refl _) (.cells #[.int .u8 (48 + (r : Int))] 5)).drew)
    have HLT := Lib.hid (show w.heap.size < (w.alloc (.cells #[.int .u8 (48 + (r : Int))] 5)).drew.heap.size by show w.heap.size < (w.alloc _).heap.size; simp)
    clear hu8
    generalize (w.alloc (.cells #[.int .u8 (48 + (r : Int))] 5)).drew = wa at *
    have HI := Lib.hid (HIH.out wa)
    refine AnyT.two (i := 2) (j := 8) (by kernel_rfl) rfl rfl (fun K hK => ?_) (fun K hK => ?_)
    · go_simp
      refine HI.out.mono ?_
      rintro e1 w1 ⟨rfl, hb1⟩
      have hcv := HCV.out w1 ((hb1.cell (p := ⟨w.heap.size, 0, none⟩) HLT.out).trans hcell)
      have HBX := Lib.hid (HAL.out.trans (hb1.mono HAL.out.size))
      clear hb1
      refine hK.out _ _ trivial (fun hHeld => ?_)
      clear hK K
      (try simp only [Act.put, List.setIfInBounds_toArray, List.set_cons_zero, List.set_cons_succ])
      ((refine AnyT.one (i := 8) (by kernel_rfl) rfl (fun K hK => ?_)))
      go_simp
      refine hK.out _ _ trivial (fun hHeld => ?_)
      clear hK K
      (try simp only [Act.put, List.setIfInBounds_toArray, List.set_cons_zero, List.set_cons_succ])
      ((refine AnyT.takeAny 9 14 ?_ rfl (by kernel_rfl) (by kernel_rfl) (by kernel_rfl) rfl rfl (fun _ _ _ _ h => h) rfl ?_ (by assumption) ?_); rotate_left; (intro w; go_simp; (try (with_reducible rfl))); simp only [Act.put, List.setIfInBounds_toArray, List.set_cons_zero, List.set_cons_succ])
      ((refine AnyT.takeAny 10 2 ?_ rfl (by kernel_rfl) (by kernel_rfl) (by kernel_rfl) rfl rfl (fun _ _ _ _ h => h) rfl ?_ (by assumption) ?_); rotate_left; (intro w; go_simp; (try (with_reducible rfl))); simp only [Act.put, List.setIfInBounds_toArray, List.set_cons_zero, List.set_cons_succ])
      refine AnyT.done (by kernel_rfl) ?_ _
      go_wp2_with fail
      go_ret
      exact ⟨by rw [HW.out]; simp; exact bytes_snoc _ _, HBX.out⟩
    · have hcv := HCV.out wa hcell
      go_simp
      refine hK.out _ _ trivial (fun hHeld => ?_)
      clear hK K
      (try simp only [Act.put, List.setIfInBounds_toArray, List.set_cons_zero, List.set_cons_succ])
      ((refine AnyT.one (i := 2) (by kernel_rfl) rfl (fun K hK => ?_)))
      go_simp
      refine HI.out.mono ?_
      rintro e1 w1 ⟨rfl, hb1⟩
      have HBX := Lib.hid (HAL.out.trans (hb1.mono HAL.out.size))
      clear hb1
      refine hK.out _ _ trivial (fun hHeld => ?_)
      clear hK K
      (try simp only [Act.put, List.setIfInBounds_toArray, List.set_cons_zero, List.set_cons_succ])
      ((refine AnyT.takeAny 9 14 ?_ rfl (by kernel_rfl) (by kernel_rfl) (by kernel_rfl) rfl rfl (fun _ _ _ _ h => h) rfl ?_ (by assumption) ?_); rotate_left; (intro w; go_simp; (try (with_reducible rfl))); simp only [Act.put, List.setIfInBounds_toArray, List.set_cons_zero, List.set_cons_succ])
      ((refine AnyT.takeAny 10 2 ?_ rfl (by kernel_rfl) (by kernel_rfl) (by kernel_rfl) rfl rfl (fun _ _ _ _ h => h) rfl ?_ (by assumption) ?_); rotate_left; (intro w; go_simp; (try (with_reducible rfl))); simp only [Act.put, List.setIfInBounds_toArray, List.set_cons_zero, List.set_cons_succ])
      refine AnyT.done (by kernel_rfl) ?_ _
      go_wp2_with fail
      go_ret
      exact ⟨by rw [HW.out]; simp; exact bytes_snoc _ _, HBX.out⟩

set_option maxHeartbeats 4000000 in
theorem l01Whole_zero (w : World) : Calls Tryz.prog 227 #[.int .i64 0] w fun e w' => e = .returned (.string ⟨(wholeT 0).toArray⟩) ∧ Below w.heap.size w w' := by
  go_enter Tryz.func227, Tryz.ntmps227
  go_wp2_with fail
  go_ret
  exact ⟨rfl, Below.refl _ _⟩
theorem l01Whole_any : ∀ (k : Nat), k ≤ 9000000000000 → ∀ (w : World), Calls Tryz.prog 227 #[.int .i64 (k : Int)] w fun e w' => e = .returned (.string ⟨(wholeT k).toArray⟩) ∧ Below w.heap.size w w' := by
  intro k
  induction k using Nat.strongRecOn with
  | _ k ih =>
    intro hk w
    by_cases h0 : k = 0
    · subst h0; exact l01Whole_zero w
    · exact l01Whole_step k h0 hk w (fun W => ih (k / 10) (by omega) (by omega) W)
end Go.Proofs.YtfibjcaidnofmaaGreatDoor
