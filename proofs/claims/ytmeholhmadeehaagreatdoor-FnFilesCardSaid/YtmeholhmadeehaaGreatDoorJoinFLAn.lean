/- How large devices may be: what the laws of devices lean on. -/
import Derived.Test.YtmeholhmadeehaaGreatDoorJoinFLAj
import Derived.Test.YtmeholhmadeehaaGreatDoorJoinFLAm
import Derived.Test.YtmeholhmadeehaaGreatDoorJoinFLAk
namespace Go.Proofs.YtmeholhmadeehaaGreatDoor
open Go.RowKit

theorem markAt_cost (a : Int) (fs : List Fil) : ∀ n, n ≤ fs.length → markAt a fs n ≤ a + 3 * n + costFilTo fs n
  | 0, _ => by simp [markAt, costFilTo]
  | n + 1, h => by
    have ih := markAt_cost a fs n (by omega)
    have hs := costFilTo_succ (fs := fs) (k := n) (by omega)
    have hc : (fs.getD n filD).lines.length ≤ costFil (fs.getD n filD) := by unfold costFil costStrs; omega
    unfold markAt
    omega
theorem costFilTo_all (fs : List Fil) : costFilTo fs fs.length = (fs.map costFil).sum := by unfold costFilTo; rw [List.take_length]
theorem DevFew.of_cost {d : Dev} (h : costDev d ≤ 1048576) : DevFew d := by
  unfold costDev costFils at h
  have h1 : d.scr.rows.length ≤ costStrs d.scr.rows := by unfold costStrs; omega
  have h2 : d.keys.length ≤ costStrs d.keys := by unfold costStrs; omega
  have h3 := markAt_cost (1 + d.scr.rows.length) d.files d.files.length (Nat.le_refl _)
  rw [costFilTo_all] at h3
  exact ⟨by omega, by omega, by omega, by omega⟩

def FilLow (f : Fil) : Prop := f.name.size ≤ 1000 ∧ f.part.size ≤ 1000 ∧ f.lines.length ≤ 1000 ∧ ∀ y ∈ f.lines, y.size ≤ 1000
structure DevLow (d : Dev) : Prop where
  rows : d.scr.rows.length ≤ 1000
  row : ∀ r ∈ d.scr.rows, r.size ≤ 1000
  files : d.files.length ≤ 1000
  file : ∀ f ∈ d.files, FilLow f
  keys : d.keys.length ≤ 1000
  key : ∀ r ∈ d.keys, r.size ≤ 1000
theorem DevLow.small {d : Dev} (h : DevLow d) : DevSmall d :=
  ⟨⟨by have := h.rows; omega, fun r hr => by have := h.row r hr; omega⟩, ⟨by have := h.files; omega, fun f hf => by
    obtain ⟨a, b, c, e⟩ := h.file f hf
    exact ⟨by omega, by omega, by omega, fun y hy => by have := e y hy; omega⟩⟩, by have := h.keys; omega, fun r hr => by have := h.key r hr; omega⟩
theorem markAt_low (a : Int) (fs : List Fil) (h : ∀ f ∈ fs, FilLow f) : ∀ n, n ≤ fs.length → markAt a fs n ≤ a + 1003 * n
  | 0, _ => by simp [markAt]
  | n + 1, hn => by
    have ih := markAt_low a fs h n (by omega)
    have := (h _ (getD_mem (d := filD) (show n < fs.length by omega))).2.2.1
    unfold markAt
    omega
theorem DevLow.few {d : Dev} (h : DevLow d) : DevFew d := by
  have h1 := h.rows; have h2 := h.files; have h3 := h.keys
  have h4 := markAt_low (1 + d.scr.rows.length) d.files h.file d.files.length (Nat.le_refl _)
  exact ⟨by omega, by omega, by omega, by omega⟩
theorem noDev_low : DevLow noDev := ⟨by simp [noDev, noScr], by simp [noDev, noScr], by simp [noDev], by simp [noDev], by simp [noDev], by simp [noDev]⟩

theorem FilLow.of_ok {f : Fil} (h : filB f = true) : FilLow f := by
  unfold filB nameB at h
  simp only [Bool.and_eq_true, decide_eq_true_eq] at h
  obtain ⟨⟨⟨⟨⟨⟨_, h1⟩, _⟩, h2⟩, h3⟩, _⟩, h5⟩ := h
  have hl : ∀ s, lineB s = true → s.size ≤ 80 := fun s hs => by
    unfold lineB at hs
    simp only [Bool.and_eq_true, decide_eq_true_eq] at hs
    exact hs.1
  refine ⟨by omega, by have := hl _ h3; omega, by omega, fun y hy => ?_⟩
  have := hl _ (List.all_eq_true.1 h5 y hy)
  omega
theorem DevGood.low {d : Dev} (h : DevGood d) : DevLow d := by
  refine ⟨by have := h.fine.len; omega, fun r hr => by have := h.fine.size r hr; omega, by have := h.n3; omega, fun f hf => FilLow.of_ok (h.files f hf), by have := h.k20; omega, fun r hr => ?_⟩
  have h2 := h.keys
  unfold keysB at h2
  have := List.all_eq_true.1 h2 r hr
  unfold keyB at this
  simp only [decide_eq_true_eq] at this
  omega
theorem closeP_low (d : Dev) (nm : ByteArray) : DevLow (closeP d nm).1 := by
  unfold closeP
  split
  · rename_i h
    have hl := (DevGood.of h).low
    split
    · have hs := List.eraseIdx_sublist d.files (place d.files nm)
      exact ⟨hl.rows, hl.row, by have := hs.length_le; have := hl.files; simp only [closeDev]; omega, fun f hf => hl.file f (hs.subset hf), hl.keys, hl.key⟩
    · exact noDev_low
  · exact noDev_low

end Go.Proofs.YtmeholhmadeehaaGreatDoor

/- A region that draws its order and ends in stores that hit what it loaded: the loads are taken first; what is held need not stand behind the stores ('tail operations', which wait for every load). Over any program. -/
namespace Go.Proofs.YtmeholhmadeehaaGreatDoor

/-- Some tail operation has come up. -/
def tailBegun (z : Nat → Bool) (listed : Array Bool) : Bool := (List.range listed.size).any fun j => z j && listed.getD j false
theorem tailBegun_set {z : Nat → Bool} {listed : Array Bool} {i : Nat} (hz : z i = false) : tailBegun z (listed.setIfInBounds i true) = tailBegun z listed := by
  unfold tailBegun
  rw [Array.size_setIfInBounds]
  congr 1
  funext j
  by_cases h : i = j
  · subst h; rw [hz]; rfl
  · rw [getD_set_ne false h]
theorem tailBegun_mono {z : Nat → Bool} {listed : Array Bool} {i : Nat} (h : tailBegun z (listed.setIfInBounds i true) = false) : tailBegun z listed = false := by
  unfold tailBegun at h ⊢
  rw [Array.size_setIfInBounds] at h
  rw [List.any_eq_false] at h ⊢
  intro j hj hc
  refine h j hj ?_
  rw [Bool.and_eq_true] at hc ⊢
  exact ⟨hc.1, getD_set_true hc.2⟩

section
variable {P : Program} {ops : Array Oper} {Q : Exit → Go.Act → World → Prop} {md : Region.Mode} {S : World → Prop} {z : Nat → Bool}

/-- Whatever order is picked: S stands as long as no tail operation has come up. -/
def AnyT (P : Program) (md : Region.Mode) (ops : Array Oper) (Q : Exit → Go.Act → World → Prop) (S : World → Prop) (z : Nat → Bool) : Nat → Array Bool → Go.Act → World → Prop
  | 0, listed, a, w => Region.ready md ops listed = [] ∧ Q .normal a w
  | n + 1, listed, a, w => (Region.ready md ops listed = [] → Q .normal a w) ∧
    ∀ i ∈ Region.ready md ops listed, wpOp P ops Q i (fun a' w' => (tailBegun z (listed.setIfInBounds i true) = false → S w') ∧ AnyT P md ops Q S z n (listed.setIfInBounds i true) a' w') a w

theorem AnyT.any : ∀ (n : Nat) (listed : Array Bool) (a : Go.Act) (w : World), AnyT P md ops Q S z n listed a w → wpAny P md ops Q n listed a w
  | 0, _, _, _, h => h
  | n + 1, _, _, _, h => ⟨h.1, fun i hi => wpOp_mono (fun a' w' h' => AnyT.any n _ a' w' h'.2) (h.2 i hi)⟩

/-- An operation that yields under S comes first, if all tail operations wait for it; one that yields in whatever world comes first anyhow. -/
theorem AnyT.first {S' : World → Prop} {i : Nat} {oi : Oper} {v : Value} (hi : ops[i]? = some oi) (hs : Region.noSelect ops = true) (hQ : ∀ c a w, Q (.panic c) (a.put oi.dst v) w → Q (.panic c) a w) (hzi : z i = false)
    (hz : (∀ w, S w → S' w) ∧ (∀ j oj, ops[j]? = some oj → z j = true → ∃ e ∈ oj.after, Region.binds md e = true ∧ e.on = i) ∨ ∀ w, S' w) :
    ∀ (n : Nat) (listed : Array Bool), (∀ j oj, ops[j]? = some oj → j ≠ i → listed.getD j true = false → (∀ e ∈ oj.after, Region.binds md e = true → e.on ≠ i) → oi.apart ops oj = true) →
      i ∈ Region.ready md ops listed → (tailBegun z listed = false ∨ ∀ w, S' w) → ∀ (a : Go.Act) (w : World), YieldsIf P ops S' oi v a → (tailBegun z listed = false → S w) → AnyT P md ops Q S z n (listed.setIfInBounds i true) (a.put oi.dst v) w → AnyT P md ops Q S z (n + 1) listed a w := by
  have hSS : ∀ (listed : Array Bool) (w : World), (tailBegun z listed = false ∨ ∀ w, S' w) → (tailBegun z listed = false → S w) → S' w := by
    intro listed w ht hS
    rcases hz with hz | hz
    · rcases ht with ht | ht
      · exact hz.1 w (hS ht)
      · exact ht w
    · exact hz w
  intro n
  induction n with
  | zero =>
    intro listed hfree hr ht a w hy hS H
    constructor
    · intro h0; rw [h0] at hr; cases hr
    · intro j hj
      rcases Nat.decEq j i with hne | heq
      · have hm := ready_mono hj hne
        rw [H.1] at hm
        cases hm
      · subst heq
        exact hy.wpOp hi (hSS listed w ht hS) ⟨fun h => hS (tailBegun_mono h), H⟩
  | succ n ih =>
    intro listed hfree hr ht a w hy hS H
    constructor
    · intro h0; rw [h0] at hr; cases hr
    · intro j hj
      rcases Nat.decEq j i with hne | heq
      · have hnext := H.2 j (ready_mono hj hne)
        obtain ⟨hun, oj, hoj, hdone⟩ := mem_ready.1 hj
        have hwait : ∀ e ∈ oj.after, Region.binds md e = true → e.on ≠ i := by
          intro e he hb hon
          have hl := hdone e he hb
          have hu := (mem_ready.1 hr).1
          rw [hon] at hl
          by_cases hlt : i < listed.size
          · simp [hlt] at hl hu; rw [hl] at hu; cases hu
          · simp [Array.getElem?_eq_none (Nat.le_of_not_lt hlt)] at hl
        have ht' : tailBegun z (listed.setIfInBounds j true) = false ∨ ∀ w, S' w := by
          rcases hz with hz | hz
          · rcases ht with ht | ht
            · left
              have hzj : z j = false := by
                cases hzz : z j with
                | false => rfl
                | true =>
                  obtain ⟨e, he, hb, hon⟩ := hz.2 j oj hoj hzz
                  exact absurd hon (hwait e he hb)
              rw [tailBegun_set hzj]; exact ht
            · exact .inr ht
          · exact .inr hz
        have hstep := wpOp_putIf hoj (hfree j oj hoj hne hun hwait) (fun cs b => Region.noSelect_spec hs i oi cs b hi) (fun cs b => Region.noSelect_spec hs j oj cs b hoj) hQ hy hnext
        refine wpOp_mono (fun a' w' h3 => ?_) hstep
        obtain ⟨hy', hS', hrest⟩ := h3
        have hcom : (listed.setIfInBounds i true).setIfInBounds j true = (listed.setIfInBounds j true).setIfInBounds i true := Array.setIfInBounds_comm _ _ (Ne.symm hne)
        rw [hcom, tailBegun_set hzi] at hS'
        refine ⟨hS', ih (listed.setIfInBounds j true) (fun k ok hok hki huk hnk => hfree k ok hok hki ?_ hnk) (ready_mono hr (Ne.symm hne)) ht' a' w' hy' hS' ?_⟩
        · by_cases hjk : j = k
          · subst hjk; exact hun
          · rw [getD_set_ne true hjk] at huk; exact huk
        · rw [← hcom]
          exact hrest
      · subst heq
        exact hy.wpOp hi (hSS listed w ht hS) ⟨fun h => hS (tailBegun_mono h), H⟩

/-- Every tail operation waits for number i. -/
def tailWaits (md : Region.Mode) (ops : Array Oper) (z : Nat → Bool) (i : Nat) : Bool :=
  (List.range ops.size).all fun j => !z j || match ops[j]? with | some oj => oj.after.any (fun e => Region.binds md e && e.on == i) | none => true
theorem tailWaits_spec {i : Nat} (h : tailWaits md ops z i = true) (j : Nat) (oj : Oper) (hj : ops[j]? = some oj) (hz : z j = true) : ∃ e ∈ oj.after, Region.binds md e = true ∧ e.on = i := by
  unfold tailWaits at h
  have h1 := List.all_eq_true.1 h j (List.mem_range.2 (Array.getElem?_eq_some_iff.1 hj).1)
  rw [hz, hj] at h1
  simp only [Bool.not_true, Bool.false_or] at h1
  obtain ⟨e, he, hb⟩ := Array.any_eq_true'.1 h1
  rw [Bool.and_eq_true] at hb
  exact ⟨e, he, hb.1, by simpa using hb.2⟩

theorem AnyT.done {listed : Array Bool} {a : Go.Act} {w : World} (hr : Region.ready md ops listed = []) (h : Q .normal a w) : ∀ n, AnyT P md ops Q S z n listed a w
  | 0 => ⟨hr, h⟩
  | _ + 1 => ⟨fun _ => h, fun i hi => by rw [hr] at hi; cases hi⟩

/-- The beginning. -/
theorem AnyT.region {id : Nat} {a : Go.Act} {w : World} (z : Nat → Bool) (S : World → Prop) (hm : P.follows .mixedOrders = true) (hS : S w.drew) (h : S w.drew → AnyT P .any ops Q S z ops.size (Array.replicate ops.size false) a w.drew) : (Code.region id ops true).wp P Q a w :=
  wp_region_any hm (AnyT.any _ _ _ _ (h hS))

end

section
variable {P : Program} {l : List Oper} {Q : Exit → Go.Act → World → Prop} {md : Region.Mode} {S : World → Prop} {z : Nat → Bool}

/-- A load, or what hangs on S otherwise. -/
theorem AnyT.take (i d : Nat) (v : Value) {oi : Oper} {n : Nat} {listed : Array Bool} {a : Go.Act} {w : World} (hi : l[i]? = some oi) (hs : Region.noSelect l.toArray = true) (hf : Region.free md l.toArray listed i = true)
    (hr : (Region.ready md l.toArray listed).contains i = true) (hz : tailWaits md l.toArray z i = true) (hzi : z i = false) (ht : tailBegun z listed = false) (hd : oi.dst = some d) (hQ : ∀ c (a : Go.Act) v w, Q (.panic c) (a.put (some d) v) w → Q (.panic c) a w)
    (hw : Region.wanted oi (yielded l.toArray a.tmps) = true) (hy : ∀ w, S w → (execOp a.eval oi).run P w = .ok (.value v) w) (hS : S w)
    (h : AnyT P md l.toArray Q S z n (listed.setIfInBounds i true) (a.put (some d) v) w) : AnyT P md l.toArray Q S z (n + 1) listed a w :=
  AnyT.first (i := i) (oi := oi) (v := v) (by simpa using hi) hs (fun c a w h => hQ c a v w (hd ▸ h)) hzi (.inl ⟨fun _ h => h, fun j oj hj hzj => tailWaits_spec hz j oj hj hzj⟩) n listed (fun j oj => Region.free_spec (by simpa using hi) hf j oj) (by simpa using hr) (.inl ht) a w (.inl ⟨hw, hy⟩) (fun _ => hS) (hd ▸ h)
/-- What yields in whatever world. -/
theorem AnyT.takeAny (i d : Nat) (v : Value) {oi : Oper} {n : Nat} {listed : Array Bool} {a : Go.Act} {w : World} (hi : l[i]? = some oi) (hs : Region.noSelect l.toArray = true) (hf : Region.free md l.toArray listed i = true)
    (hr : (Region.ready md l.toArray listed).contains i = true) (hzi : z i = false) (hd : oi.dst = some d) (hQ : ∀ c (a : Go.Act) v w, Q (.panic c) (a.put (some d) v) w → Q (.panic c) a w)
    (hw : Region.wanted oi (yielded l.toArray a.tmps) = true) (hy : ∀ w, (execOp a.eval oi).run P w = .ok (.value v) w) (hS : S w)
    (h : AnyT P md l.toArray Q S z n (listed.setIfInBounds i true) (a.put (some d) v) w) : AnyT P md l.toArray Q S z (n + 1) listed a w :=
  AnyT.first (S' := fun _ => True) (i := i) (oi := oi) (v := v) (by simpa using hi) hs (fun c a w h => hQ c a v w (hd ▸ h)) hzi (.inr fun _ => trivial) n listed (fun j oj => Region.free_spec (by simpa using hi) hf j oj) (by simpa using hr) (.inr fun _ => trivial) a w (.inl ⟨hw, fun w _ => hy w⟩) (fun _ => hS) (hd ▸ h)

/-- One operation alone may come up: behind it S is to be shown. -/
theorem AnyT.one {i : Nat} {o : Oper} {n : Nat} {listed : Array Bool} {a : Go.Act} {w : World} (hr : Region.ready md l.toArray listed = [i]) (ho : l[i]? = some o)
    (h : ∀ K' : Go.Act → World → Prop, Shut (∀ a w, S w → (S w → AnyT P md l.toArray Q S z n (listed.setIfInBounds i true) a w) → K' a w) → if Region.wanted o (yielded l.toArray a.tmps) = true then Oper.wp P o a w K' Q else K' (a.put o.dst undef) w) :
    AnyT P md l.toArray Q S z (n + 1) listed a w := by
  refine ⟨fun h0 => (by rw [hr] at h0; cases h0), fun j hj => ?_⟩
  rw [hr] at hj
  obtain rfl : j = i := by simpa using hj
  exact wpOp_step (by simpa using ho) (fun K' hK => h K' (fun a w hS hW => hK a w ⟨fun _ => hS, hW hS⟩))
/-- One operation alone may come up, and the tail has begun with it at the latest. -/
theorem AnyT.last {i : Nat} {o : Oper} {n : Nat} {listed : Array Bool} {a : Go.Act} {w : World} (hr : Region.ready md l.toArray listed = [i]) (ho : l[i]? = some o) (ht : tailBegun z (listed.setIfInBounds i true) = true)
    (h : ∀ K' : Go.Act → World → Prop, Shut (∀ a w, AnyT P md l.toArray Q S z n (listed.setIfInBounds i true) a w → K' a w) → if Region.wanted o (yielded l.toArray a.tmps) = true then Oper.wp P o a w K' Q else K' (a.put o.dst undef) w) :
    AnyT P md l.toArray Q S z (n + 1) listed a w := by
  refine ⟨fun h0 => (by rw [hr] at h0; cases h0), fun j hj => ?_⟩
  rw [hr] at hj
  obtain rfl : j = i := by simpa using hj
  exact wpOp_step (by simpa using ho) (fun K' hK => h K' (fun a w hW => hK a w ⟨fun h0 => (by rw [ht] at h0; cases h0), hW⟩))

end

end Go.Proofs.YtmeholhmadeehaaGreatDoor

/- append of files to a row of files; files read off a row. -/
namespace Go.Proofs.YtmeholhmadeehaaGreatDoor
open Go.RowKit

/-- The cells from A on are those of the files ys. -/
def FlatR (w : World) (A : Option Addr) (ys : List Fx) : Prop := ys = [] ∨ ∃ b off, A = some ⟨b, off, none⟩ ∧ ∀ j u, (flat ys)[j]? = some u → w.cell? ⟨b, off + j, none⟩ = some u
theorem FlatR.keep {w w' : World} {A : Option Addr} {ys : List Fx} (h : FlatR w A ys) (hk : ∀ b off, A = some ⟨b, off, none⟩ → w'.heap[b]? = w.heap[b]?) : FlatR w' A ys := by
  rcases h with h | ⟨b, off, e, h⟩
  · exact .inl h
  · exact .inr ⟨b, off, e, fun j u hj => (World.cell?_of_block (hk b off e)).trans (h j u hj)⟩

/-- A row's cells. -/
theorem row_flat {w : World} {lo : Nat} {A : Option Addr} {n c : Nat} {xs : List Fx} (h : w.ownsRow lo 55 4 (.slice A n c) n (flat xs)) (hn : 0 < n) :
    ∃ g, A = some ⟨g, 0, none⟩ ∧ lo ≤ g ∧ g < w.heap.size ∧ n ≤ c ∧ c ≤ maxLen ∧ ∀ j u, (flat xs)[j]? = some u → w.cell? ⟨g, j, none⟩ = some u := by
  rcases h.2 with ⟨_, h0⟩ | ⟨g, cap, cur, hv, hg, hh, hnc, hm, hsz, htk⟩
  · omega
  · injection hv with hA _ hc
    subst hc
    have hB : Blk w g 55 cur := hh
    refine ⟨g, hA, hg, hB.lt, hnc, hm, fun j u hj => ?_⟩
    rw [hB.cell, ← Array.getElem?_toList]
    rw [← htk, List.getElem?_take] at hj
    split at hj
    · exact hj
    · cases hj

theorem row_cases {w : World} {lo : Nat} {A : Option Addr} {n c : Nat} {xs : List Fx} (h : w.ownsRow lo 55 4 (.slice A n c) n (flat xs)) :
    (A = none ∧ n = 0 ∧ c = 0) ∨ ∃ g, A = some ⟨g, 0, none⟩ ∧ lo ≤ g ∧ g < w.heap.size ∧ n ≤ c ∧ c ≤ maxLen ∧ ∀ j u, (flat xs)[j]? = some u → w.cell? ⟨g, j, none⟩ = some u := by
  rcases h.2 with ⟨h1, h0⟩ | ⟨g, cap, cur, hv, hg, hh, hnc, hm, hsz, htk⟩
  · injection h1 with h1 _ h2
    exact .inl ⟨h1, h0, h2⟩
  · injection hv with hA _ hc
    subst hc
    have hB : Blk w g 55 cur := hh
    refine .inr ⟨g, hA, hg, hB.lt, hnc, hm, fun j u hj => ?_⟩
    rw [hB.cell, ← Array.getElem?_toList]
    rw [← htk, List.getElem?_take] at hj
    split at hj
    · exact hj
    · cases hj

theorem flat_take (k : Nat) (xs : List Fx) : flat (xs.take k) = (flat xs).take (k * 4) ∧ flat (xs.drop k) = (flat xs).drop (k * 4) := by
  induction k generalizing xs with
  | zero => simp [flat]
  | succ k ih =>
    cases xs with
    | nil => simp [flat]
    | cons x xs =>
      have hc : x.cells.length = 4 := rfl
      have e : flat (x :: xs) = x.cells ++ flat xs := by simp [flat]
      rw [e, List.take_succ_cons, List.drop_succ_cons, (ih xs).2]
      have e2 : flat (x :: xs.take k) = x.cells ++ flat (xs.take k) := by simp [flat]
      rw [e2, (ih xs).1]
      have e3 : (k + 1) * 4 = x.cells.length + k * 4 := by rw [hc]; omega
      rw [e3, List.take_length_add_append, List.drop_length_add_append]
      exact ⟨rfl, rfl⟩

theorem flatR_take {w : World} {g : Nat} {xs : List Fx} (h : ∀ j u, (flat xs)[j]? = some u → w.cell? ⟨g, j, none⟩ = some u) (k : Nat) : FlatR w (some ⟨g, 0, none⟩) (xs.take k) :=
  .inr ⟨g, 0, rfl, fun j u hj => by
    rw [(flat_take k xs).1, List.getElem?_take] at hj
    rw [Nat.zero_add]
    split at hj
    · exact h j u hj
    · cases hj⟩
theorem flatR_drop {w : World} {g : Nat} {xs : List Fx} (h : ∀ j u, (flat xs)[j]? = some u → w.cell? ⟨g, j, none⟩ = some u) (k : Nat) : FlatR w (some ⟨g, k * 4, none⟩) (xs.drop k) :=
  .inr ⟨g, k * 4, rfl, fun j u hj => by
    rw [(flat_take k xs).2, List.getElem?_drop] at hj
    exact h _ u hj⟩

/-- append(v, files...) at a row of files of the call's own. -/
theorem wp_appFx {o : Oper} {a : Go.Act} {K : Go.Act → World → Prop} {Q : Exit → Go.Act → World → Prop} (s x : Operand) (t : TypeId)
    (ho : o.op = .call { callee := .builtin .append, args := #[s, x], argTypes := #[t, t] }) (ht : Tryz.prog.underlying t = some (.slice 55))
    (w : World) (base : Nat) (v : Value) (xs ys : List Fx) (n m : Nat) (hs : a.eval s = v) (hown : w.ownsRow base 55 4 v n (flat xs)) (hn : xs.length = n)
    (A : Option Addr) (c : Nat) (hx : a.eval x = .slice A m c) (hm : ys.length = m) (hsrc : FlatR w A ys) (hA : A = none → m = 0 ∧ c = 0) (hlen : n + m ≤ 1000000) (hbase : base ≤ w.heap.size)
    (h : ∀ A' c' w', w'.ownsRow base 55 4 (.slice A' (n + m) c') (n + m) (flat (xs ++ ys)) → w.grownBy w' v.ownBlock → Below base w w' → K (a.put o.dst (.slice A' (n + m) c')) w') : o.wp Tryz.prog a w K Q := by
  obtain ⟨i0, hi0, hz0, hz1, hz2⟩ := info_parts infoFile
  have hform : ∀ {W : World} {u : Value} {k : Nat} {cs : List Value}, W.ownsRow base 55 4 u k cs → ∃ A' c', u = .slice A' k c' := fun hr => by
    rcases hr.2 with ⟨e1, e2⟩ | ⟨g, cap, cur, e1, _⟩
    · subst e2; exact ⟨none, 0, e1⟩
    · exact ⟨_, _, e1⟩
  have hlt : ∀ k, v.ownBlock = some k → base ≤ k := fun k hk => (hown.lt k hk).1
  cases A with
  | none =>
    obtain ⟨rfl, rfl⟩ := hA rfl
    have hy : ys = [] := List.eq_nil_of_length_eq_zero hm
    subst hy
    have hrun := run_append_owned_none (P := Tryz.prog) (w := w) base t o.type 55 i0 4 ht hi0 v n (flat xs) hown
    obtain ⟨A', c', rfl⟩ := hform hown
    unfold Oper.wp
    simp [execOp, ho, resolve, invoke, builtin, hs, hx, hrun, Result.andThen]
    refine h A' c' w ?_ ⟨rfl, rfl, rfl, Nat.le_refl _, fun _ _ _ => rfl⟩ (Below.refl _ _)
    rw [List.append_nil]
    exact hown
  | some ad =>
    have hc : ∀ j u, (flat ys)[j]? = some u → w.cell? (ad.add j) = some u := by
      rcases hsrc with rfl | ⟨b, off, e, hc⟩
      · intro j u hj; simp [flat] at hj
      · injection e with e
        subst e
        intro j u hj
        rw [Addr.add_lit]
        exact hc j u hj
    refine wp_append_own w s x t ho base 55 i0 _ 4 64 ht hi0 hz0 hz1 hz2 rfl (by decide) v n (flat xs) hs hown ad m c (flat ys) hx (by rw [flat_len, hm]) hc (flat_one ys) (by unfold maxLen; omega) (by omega) hbase fun v' w' h1 h2 _ => ?_
    obtain ⟨A', c', rfl⟩ := hform h1
    refine h A' c' w' (by rw [flat_append]; exact h1) h2 (Below.of_grown h2 hbase hlt)

theorem step_appFx {ops : Array Oper} {o : Oper} {a : Go.Act} {K : Go.Act → World → Prop} {Q : Exit → Go.Act → World → Prop} {E : Prop} (hgd : o.guard = none) (s x : Operand) (t : TypeId)
    (ho : o.op = .call { callee := .builtin .append, args := #[s, x], argTypes := #[t, t] }) (ht : Tryz.prog.underlying t = some (.slice 55))
    (w : World) (base : Nat) (v : Value) (xs ys : List Fx) (n m : Nat) (hs : a.eval s = v) (hown : w.ownsRow base 55 4 v n (flat xs)) (hn : xs.length = n)
    (A : Option Addr) (c : Nat) (hx : a.eval x = .slice A m c) (hm : ys.length = m) (hsrc : FlatR w A ys) (hA : A = none → m = 0 ∧ c = 0) (hlen : n + m ≤ 1000000) (hbase : base ≤ w.heap.size)
    (h : ∀ A' c' w', w'.ownsRow base 55 4 (.slice A' (n + m) c') (n + m) (flat (xs ++ ys)) → w.grownBy w' v.ownBlock → Below base w w' → K (a.put o.dst (.slice A' (n + m) c')) w') :
    if Region.wanted o (yielded ops a.tmps) = true then Oper.wp Tryz.prog o a w K Q else E := by
  have hw : Region.wanted o (yielded ops a.tmps) = true := by simp [Region.wanted, hgd]
  rw [if_pos hw]
  exact wp_appFx s x t ho ht w base v xs ys n m hs hown hn A c hx hm hsrc hA hlen hbase h

theorem wpList_appFx {ops : Array Oper} {rest : List Oper} {o : Oper} {a : Go.Act} {Q : Exit → Go.Act → World → Prop} (hgd : o.guard = none) (s x : Operand) (t : TypeId)
    (ho : o.op = .call { callee := .builtin .append, args := #[s, x], argTypes := #[t, t] }) (ht : Tryz.prog.underlying t = some (.slice 55))
    (w : World) (base : Nat) (v : Value) (xs ys : List Fx) (n m : Nat) (hs : a.eval s = v) (hown : w.ownsRow base 55 4 v n (flat xs)) (hn : xs.length = n)
    (A : Option Addr) (c : Nat) (hx : a.eval x = .slice A m c) (hm : ys.length = m) (hsrc : FlatR w A ys) (hA : A = none → m = 0 ∧ c = 0) (hlen : n + m ≤ 1000000) (hbase : base ≤ w.heap.size)
    (h : ∀ A' c' w', w'.ownsRow base 55 4 (.slice A' (n + m) c') (n + m) (flat (xs ++ ys)) → w.grownBy w' v.ownBlock → Below base w w' → wpList Tryz.prog ops Q rest (a.put o.dst (.slice A' (n + m) c')) w') : wpList Tryz.prog ops Q (o :: rest) a w :=
  wpList_plain hgd fun _ hK => wp_appFx s x t ho ht w base v xs ys n m hs hown hn A c hx hm hsrc hA hlen hbase fun A' c' w' h1 h2 h3 => hK _ _ (h A' c' w' h1 h2 h3)

/-- A literal []File{}. -/
theorem litFx (w : World) (base : Nat) (hb : base ≤ w.heap.size) : (w.alloc (.cells #[] 55)).ownsRow base 55 4 (.slice (some ⟨w.heap.size, 0, none⟩) 0 0) 0 (flat []) := by
  simpa [flat] using World.ownsRow_lit (base := base) (e := 55) (size := 4) w #[] 0 hb (by simp) rfl

/-- Files read off a row whose lines lie where they lie. -/
theorem filesR_row {w : World} {lo hi base : Nat} {A : Option Addr} {n c : Nat} {xs : List Fx} (h : w.ownsRow base 55 4 (.slice A n c) n (flat xs)) (hn : xs.length = n) (hb : lo ≤ base) (hh : w.heap.size ≤ hi)
    (hl : ∀ x ∈ xs, StrR w lo hi x.L x.f.lines.length x.f.lines) : FilesR w lo hi A n (xs.map Fx.f) := by
  refine ⟨by rw [List.length_map, hn], fun h0 => ?_⟩
  obtain ⟨g, hA, hg, hgl, _, _, hc⟩ := row_flat h h0
  refine ⟨g, 0, hA, by omega, by omega, fun j hj => ?_⟩
  have hjx : j < xs.length := by omega
  have hgd : (xs.map Fx.f).getD j filD = (xs[j]).f := by
    rw [List.getD_eq_getElem?_getD, List.getElem?_map, List.getElem?_eq_getElem hjx]; rfl
  have hcell : ∀ i u, i < 4 → (xs[j]).cells[i]? = some u → w.cell? ⟨g, 0 + j * 4 + i, none⟩ = some u := fun i u hi hu => by
    rw [Nat.zero_add]
    exact hc _ u (by rw [flat_at xs j hjx i hi]; exact hu)
  rw [hgd]
  exact ⟨(xs[j]).L, (xs[j]).c, hcell 0 _ (by omega) rfl, hcell 1 _ (by omega) rfl, hcell 2 _ (by omega) rfl, hcell 3 _ (by omega) rfl, hl _ (List.getElem_mem _)⟩

theorem OwnFx.lines {w : World} {lo hi : Nat} {v : Value} {xs : List Fx} (h : OwnFx w lo hi v xs) : ∀ x ∈ xs, StrR w lo hi x.L x.f.lines.length x.f.lines := fun x hx =>
  own_reads (h.own x hx).1 (h.own x hx).2

end Go.Proofs.YtmeholhmadeehaaGreatDoor
