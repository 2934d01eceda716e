/- A range over a function that keeps what is left in a box of its own. Over any program. -/
import Derived.Test.YtfibjcaidnofmaaGreatDoorJoinEXAa
import Derived.RangeFuncBox
import Derived.RangeFuncCalls
import Derived.RangeFuncLeaves
import Derived.RangeFuncFrom
import Derived.RangeFuncBound
import Derived.Test.YtfibjcaidnofmaaGreatDoorJoinEXAx
import Derived.Test.YtfibjcaidnofmaaGreatDoorJoinEXAr
import Derived.Test.YtfibjcaidnofmaaGreatDoorShelfI
import Derived.Test.YtfibjcaidnofmaaGreatDoorJoinEXAi
import Derived.WalkKit
import Derived.OwnWalkIn
import Derived.TacticsInMore
import Derived.LoopNIn
import Derived.LoopIn
namespace Go.Proofs.YtfibjcaidnofmaaGreatDoor
open Go.RowKit

/-- How a round may be left: on, with the box as it was; or out of the loop. -/
def boxPost {α : Type} (I : List α → World → Prop) (Ix : Code → List α → World → Prop) (Bx : Nat) (t : TypeId) (v : Value) (xs : List α) (W : World) : Exit → Go.Act → World → Prop
  | .normal, _, W' => KeepsOthers W W' ∧ Boxed W' Bx t v ∧ I xs W'
  | .ret, _, W' => KeepsOthers W W' ∧ Ix .ret xs W'
  | .exit id, _, W' => KeepsOthers W W' ∧ Ix (.exit id) xs W'
  | .goto t, _, W' => KeepsOthers W W' ∧ Ix (.goto t) xs W'
  | .panic _, _, _ => False
  | .outgrown, _, _ => False

/-- The iterator's word: its box holds v0 at first; J does not look into the box; all has come in the end, or a round has said no. -/
def SeqBox {α : Type} (n : Nat) (P : Program) (gf Bx : Nat) (t : TypeId) (v0 : Value) (encs : α → Array Value) (S : List α → Prop) (PX : List α → α → Prop) : Prop :=
  ∀ (l : Nat) (J Jx : List α → World → Prop) (W : World), (∀ pre W v v', J pre W → Boxed W Bx t v → J pre (W.setCell ⟨Bx, 0, none⟩ v')) → (∀ pre W k, J pre W → J pre (W.drewN k)) → Boxed W Bx t v0 →
    (∀ pre x W1 v, J pre W1 → Boxed W1 Bx t v → PX pre x → YieldAt Fence.wide n P l (encs x) W1 fun e W' => (e = .returned (.bool true) ∧ J (pre ++ [x]) W' ∧ Boxed W' Bx t v) ∨ (e = .returned (.bool false) ∧ Jx (pre ++ [x]) W')) → J [] W →
    CallsIn Fence.wide n P gf (#[.func (.yield l) #[] #[]] ++ #[.pointer (some ⟨Bx, 0, none⟩)]) W fun e W' => (∃ v, e = .returned v) ∧ ((∃ xs, S xs ∧ J xs W') ∨ (∃ pre, Jx pre W'))

theorem box_other {W : World} {B l : Nat} {t : TypeId} {v : Value} {o : Obj} (h : Boxed W B t v) (hl : l ≠ B) : Boxed (W.putObj l o) B t v := (World.putObj_heap_other (fun e => hl e.symm)).trans h

theorem wpIn_range_box {α : Type} {P : Program} {n m : Nat} {g : Operand} {ps : Array Tmp} {assign body : Code} {Q : Exit → Go.Act → World → Prop} {a : Go.Act} {w : World} {gf Bx : Nat} {t : TypeId} {v0 : Value}
    (hg : a.eval g = .func (.func gf) #[] #[.pointer (some ⟨Bx, 0, none⟩)]) (eg : ∀ args w, (callFunc gf args).run P w = .ok (.enter gf args) w)
    {encs : α → Array Value} (hps : ∀ x, (encs x).size = ps.size) {S : List α → Prop} {PX : List α → α → Prop} (hbox : Boxed w Bx t v0) (hseq : SeqBox m P gf Bx t v0 encs S PX)
    (I : List α → World → Prop) (Ix : Code → List α → World → Prop)
    (hIa : ∀ pre W o, I pre W → I pre (W.alloc o)) (hIp : ∀ pre W o', w.heap.size + 1 < W.heap.size → I pre W → I pre (W.putObj (w.heap.size + 1) o'))
    (hIs : ∀ pre W v v', I pre W → Boxed W Bx t v → I pre (W.setCell ⟨Bx, 0, none⟩ v')) (hId : ∀ pre W k, I pre W → I pre (W.drewN k))
    (hXp : ∀ c pre W o', w.heap.size + 1 < W.heap.size → Ix c pre W → Ix c pre (W.putObj (w.heap.size + 1) o')) (h0 : I [] w) (a₁ : α → Go.Act)
    (hassign : ∀ (l : Nat) (x : α) (W : World) (K : Go.Act → World → Prop), K (a₁ x) W →
      assign.wpIn (Fence.wide.inRound l) m P (Exit.then K (fun _ _ _ => False)) { tmps := (ps.zip (encs x)).foldl (fun t (p, v) => t.setIfInBounds p v) a.tmps, defers := [] } W)
    (hbody : ∀ (l : Nat) (pre : List α) (x : α) (W : World) (v : Value), w.heap.size + 1 < W.heap.size → I pre W → Boxed W Bx t v → PX pre x → body.wpIn (Fence.wide.inRound l) m P (boxPost I Ix Bx t v (pre ++ [x]) W) (a₁ x) W)
    (hdone : ∀ (xs : List α) (W : World), w.heap.size + 1 < W.heap.size → S xs → I xs W → W.heap[w.heap.size]? = some (.deferred (some [])) → Q .normal { a with defers := { target := .collected w.heap.size, args := #[] } :: a.defers } W)
    (hstop : ∀ (c : Code) (pre : List α) (W : World), w.heap.size + 1 < W.heap.size → Ix c pre W → W.heap[w.heap.size]? = some (.deferred (some [])) → c.wpIn Fence.wide n P Q { a with defers := { target := .collected w.heap.size, args := #[] } :: a.defers } W) :
    (Code.rangeFunc g ps assign body).wpIn Fence.wide n P Q a w := by
  refine wpIn_rangeFunc fun fn hfn => ?_
  rw [show Fence.wide.round = none from rfl]
  obtain ⟨rc, hrc⟩ : ∃ rc : LoopState → Option Code → Loop, rc = fun st pe => { state := st, pending := pe, fn, tmps := a.tmps, params := ps, assign, body, defers := w.heap.size } := ⟨_, rfl⟩
  have hltB := hbox.lt
  have hlt1 : Bx ≠ w.heap.size + 1 := by omega
  have hlt0 : Bx ≠ w.heap.size := by omega
  have hlts : w.heap.size + 1 ≠ Bx := by omega
  obtain ⟨W1, hW1⟩ : ∃ W1, (w.alloc (.deferred (some []))).alloc (.loop (rc .ready none)) = W1 := ⟨_, rfl⟩
  have hrec : W1.heap[w.heap.size + 1]? = some (.loop (rc .ready none)) := by
    have h := World.alloc_heap_new (w.alloc (.deferred (some []))) (.loop (rc .ready none))
    rw [World.size_alloc, hW1] at h; exact h
  have hdef : W1.heap[w.heap.size]? = some (.deferred (some [])) := by rw [← hW1]; exact (Below.heap_alloc _ _ _ (by simp)).trans (World.alloc_heap_new w _)
  have hbx1 : Boxed W1 Bx t v0 := by rw [← hW1]; exact (hbox.alloc _).alloc _
  have hI1 : I [] W1 := by rw [← hW1]; exact hIa _ _ _ (hIa _ _ _ h0)
  refine ⟨w.heap.size + 1, [{ target := .collected w.heap.size, args := #[] }], W1, { target := .fn (.func gf) #[.pointer (some ⟨Bx, 0, none⟩)], args := #[.func (.yield (w.heap.size + 1)) #[] #[]] }, W1, gf,
    #[.func (.yield (w.heap.size + 1)) #[] #[]] ++ #[.pointer (some ⟨Bx, 0, none⟩)], W1, ?_, ?_, ?_, ?_, (fun h => by cases h), ?_⟩
  · rw [← hW1, hrc]; exact run_enterLoop_outer _ _ _ _ _
  · simp only [resolve, hg]
    simp [go_sem]
  · intro f' _; trivial
  · simp [invoke, go_sem, eg]
  have hcall := hseq (w.heap.size + 1)
    (fun pre W => I pre W ∧ W.heap[w.heap.size + 1]? = some (.loop (rc .ready none)) ∧ W.heap[w.heap.size]? = some (.deferred (some [])))
    (fun pre W => ∃ c, Ix c pre W ∧ W.heap[w.heap.size + 1]? = some (.loop (rc .done (some c))) ∧ W.heap[w.heap.size]? = some (.deferred (some [])))
    W1
    (fun pre W v v' hj hb => ⟨hIs pre W v v' hj.1 hb, (Below.heap_setCell _ ⟨Bx, 0, none⟩ _ _ (fun e => hlt1 e.symm)).trans hj.2.1, (Below.heap_setCell _ ⟨Bx, 0, none⟩ _ _ (fun e => hlt0 e.symm)).trans hj.2.2⟩)
    (fun pre W k hj => ⟨hId pre W k hj.1, hj.2.1, hj.2.2⟩) hbx1 ?_ ⟨hI1, hrec, hdef⟩
  · refine callsIn_wide.2 ((callsIn_wide.1 hcall).mono ?_)
    rintro e W2 ⟨⟨v, rfl⟩, (⟨xs, hS, hi, hl, hk⟩ | ⟨pre, c, hi, hl, hk⟩)⟩
    · exact ⟨none, _, by have h := run_endLoop (P := P) hl (by rw [hrc]; simp); rw [hrc] at h; exact h, hdone xs _ (by have h := (Array.getElem?_eq_some_iff.1 hl).1; simpa using h) hS (hIp _ _ _ (Array.getElem?_eq_some_iff.1 hl).1 hi) ((World.putObj_heap_other (by omega)).trans hk)⟩
    · exact ⟨some c, _, by have h := run_endLoop (P := P) hl (by rw [hrc]; simp); rw [hrc] at h; exact h, hstop c pre _ (by have h := (Array.getElem?_eq_some_iff.1 hl).1; simpa using h) (hXp _ _ _ _ (Array.getElem?_eq_some_iff.1 hl).1 hi) ((World.putObj_heap_other (by omega)).trans hk)⟩
  · rintro pre x W v ⟨hi, hl, hk⟩ hbw hlen
    have hlt : w.heap.size + 1 < W.heap.size := (Array.getElem?_eq_some_iff.1 hl).1
    have hy := run_yield (P := P) (args := encs x) hl (by rw [hrc]; exact hps x)
    rw [hrc] at hy
    obtain ⟨Wb, hWb⟩ : ∃ Wb, W.putObj (w.heap.size + 1) (.loop { rc .ready none with state := .busy }) = Wb := ⟨_, rfl⟩
    have hbusy : Wb.heap[w.heap.size + 1]? = some (.loop { rc .ready none with state := .busy }) := by rw [← hWb]; exact World.putObj_heap_same hlt
    have hdefb : Wb.heap[w.heap.size]? = some (.deferred (some [])) := by rw [← hWb]; exact (World.putObj_heap_other (by omega)).trans hk
    have hib : I pre Wb := by rw [← hWb]; exact hIp _ _ _ hlt hi
    have hbb : Boxed Wb Bx t v := by rw [← hWb]; exact box_other hbw hlts
    refine ⟨fn, _, assign, body, hy, roundIn_of_wpIn hfn (hassign _ x W _ ⟨Wb, ?_, ?_⟩)⟩
    · rw [← hWb]; exact run_beginRound hl (by rw [hrc])
    refine wpIn_mono (hbody _ pre x _ v (by rw [← hWb]; simpa using hlt) hib hbb hlen) ?_
    have fin : ∀ (jump : Option Code) (W3 : World), KeepsOthers Wb W3 →
        (Instr.endRound (w.heap.size + 1) jump).run P W3 = .ok (.bool jump.isNone) (W3.putObj (w.heap.size + 1) (.loop (rc (if jump.isNone then .ready else .done) jump))) ∧
        W3.heap[w.heap.size + 1]? = some (.loop { rc .ready none with state := .busy }) ∧
        (W3.putObj (w.heap.size + 1) (.loop (rc (if jump.isNone then .ready else .done) jump))).heap[w.heap.size + 1]? = some (.loop (rc (if jump.isNone then .ready else .done) jump)) ∧
        (W3.putObj (w.heap.size + 1) (.loop (rc (if jump.isNone then .ready else .done) jump))).heap[w.heap.size]? = some (.deferred (some [])) := fun jump W3 hk3 => by
      have hl3 := hk3.same _ _ hbusy rfl
      have h := run_endRound (P := P) jump hl3
      rw [hrc] at h ⊢
      exact ⟨h, by rw [hrc] at hl3; exact hl3, World.putObj_heap_same (Array.getElem?_eq_some_iff.1 hl3).1, (World.putObj_heap_other (by omega)).trans (hk3.same _ _ hdefb rfl)⟩
    have out : ∀ (c : Code) (W3 : World), KeepsOthers Wb W3 → Ix c (pre ++ [x]) W3 → ∃ v' W', (Instr.endRound (w.heap.size + 1) (some c)).run P W3 = .ok v' W' ∧
        ((Ending.returned v' = .returned (.bool true) ∧ (I (pre ++ [x]) W' ∧ W'.heap[w.heap.size + 1]? = some (.loop (rc .ready none)) ∧ W'.heap[w.heap.size]? = some (.deferred (some []))) ∧ Boxed W' Bx t v) ∨
          (Ending.returned v' = .returned (.bool false) ∧ ∃ c, Ix c (pre ++ [x]) W' ∧ W'.heap[w.heap.size + 1]? = some (.loop (rc .done (some c))) ∧ W'.heap[w.heap.size]? = some (.deferred (some [])))) := fun c W3 hk3 hx3 => by
      obtain ⟨hr, hl3, hl4, hk4⟩ := fin (some c) W3 hk3
      exact ⟨_, _, hr, .inr ⟨rfl, c, hXp _ _ _ _ (Array.getElem?_eq_some_iff.1 hl3).1 hx3, hl4, hk4⟩⟩
    rintro e a3 W3 hp
    cases e with
    | normal =>
      obtain ⟨hk3, hb3, hi3⟩ := hp
      obtain ⟨hr, hl3, hl4, hk4⟩ := fin none W3 hk3
      exact ⟨_, _, hr, .inl ⟨rfl, ⟨hIp _ _ _ (Array.getElem?_eq_some_iff.1 hl3).1 hi3, hl4, hk4⟩, box_other hb3 hlts⟩⟩
    | ret => exact out .ret W3 hp.1 hp.2
    | exit id => exact out (.exit id) W3 hp.1 hp.2
    | goto t => exact out (.goto t) W3 hp.1 hp.2
    | panic ch => exact hp.elim
    | outgrown => exact hp.elim

end Go.Proofs.YtfibjcaidnofmaaGreatDoor

/- strings.Lines, walked: an iterator that keeps what is left in its box. -/
namespace Go.Proofs.YtfibjcaidnofmaaGreatDoor
open Go.RowKit
attribute [local go_sem] Oper.semAt_some

/-- What strings.Lines hands out: each line with its end; what stands behind the last end. -/
def chunksP (l : List UInt8) : List (List UInt8) := (linesP l).1.map (· ++ [10]) ++ (if (linesP l).2 = [] then [] else [(linesP l).2])
theorem chunks_nil : chunksP [] = [] := rfl
theorem chunks_line (a z : List UInt8) (h : ∀ c ∈ a, c ≠ 10) : chunksP (a ++ 10 :: z) = (a ++ [10]) :: chunksP z := by
  unfold chunksP
  rw [linesP_line a z h]; rfl
theorem chunks_none (a : List UInt8) (h : ∀ c ∈ a, c ≠ 10) (hn : a ≠ []) : chunksP a = [a] := by
  unfold chunksP
  rw [linesP_none a h]
  show [] ++ (if a = [] then [] else [a]) = [a]
  rw [if_neg hn]; rfl
theorem idx_cases : ∀ l : List UInt8, (∃ a z, l = a ++ 10 :: z ∧ (∀ c ∈ a, c ≠ 10) ∧ Lib.indexByte l 10 = (a.length : Nat)) ∨ ((∀ c ∈ l, c ≠ 10) ∧ Lib.indexByte l 10 = -1)
  | [] => .inr ⟨(fun c hc => by cases hc), rfl⟩
  | b :: l => by
    by_cases hb : b = 10
    · subst hb
      exact .inl ⟨[], l, rfl, (fun c hc => by cases hc), rfl⟩
    · have hbb : (b == 10) = false := beq_eq_false_iff_ne.2 hb
      rcases idx_cases l with ⟨a, z, e, h1, h2⟩ | ⟨h1, h2⟩
      · refine .inl ⟨b :: a, z, by rw [e]; rfl, fun c hc => ?_, ?_⟩
        · rcases List.mem_cons.1 hc with rfl | hc
          · exact hb
          · exact h1 c hc
        · unfold Lib.indexByte
          rw [hbb, h2]
          have : (((a.length : Nat) : Int) == -1) = false := by rw [beq_eq_false_iff_ne]; omega
          simp [this]
      · refine .inr ⟨fun c hc => ?_, ?_⟩
        · rcases List.mem_cons.1 hc with rfl | hc
          · exact hb
          · exact h1 c hc
        · unfold Lib.indexByte
          rw [hbb, h2]; rfl
def boxLen (w : World) (B : Nat) : Nat := match w.cell? ⟨B, 0, none⟩ with
  | some (.string r) => r.size
  | _ => 0
theorem boxLen_is {w : World} {B : Nat} {t : TypeId} {r : ByteArray} (h : Boxed w B t (.string r)) : boxLen w B = r.size := by unfold boxLen; rw [h.cell]

set_option maxHeartbeats 8000000 in
set_option maxRecDepth 100000 in
theorem lines1_box (m : Nat) (s : ByteArray) (hs : s.size ≤ 1048576) (Bx : Nat) :
    SeqBox m Tryz.prog 102 Bx 9 (.string s) (fun x : ByteArray => #[.string x]) (fun xs => xs.map (fun x => x.data.toList) = chunksP s.data.toList) (fun pre x => ∃ z, pre.map (fun x => x.data.toList) ++ x.data.toList :: z = chunksP s.data.toList) := by
  intro l J Jx W hJs hJd hbx hY h0
  refine callsIn_wide.2 ?_
  show Calls Tryz.prog 102 #[.func (.yield l) #[] #[], .pointer (some ⟨Bx, 0, none⟩)] W _
  have HJS := Lib.hid hJs; have HJD := Lib.hid hJd; have HY := Lib.hid hY; have HB := Lib.hid hbx; have H0 := Lib.hid h0
  clear hJs hJd hY hbx h0
  go_enter Tryz.func102, Tryz.ntmps102
  go_wp2_with fail
  go_loopw [3, 4] (fun _ _ wr => ∃ (pre : List ByteArray) (r : ByteArray), Boxed wr Bx 9 (.string r) ∧ J pre wr ∧ r.size ≤ 1048576 ∧ Hid (pre.map (fun x => x.data.toList) ++ chunksP r.data.toList = chunksP s.data.toList)) (fun _ _ wr => boxLen wr Bx)
  case atStart => exact ⟨[], s, HB.out, H0.out, hs, rfl⟩
  case round =>
    obtain ⟨pre, r, hbx, hj, hrs, HC⟩ := hrel
    have HBX := Lib.hid hbx
    have HJ := Lib.hid hj
    have hrl : r.data.toList.length = r.size := by simp
    have fB := hbx.cell
    have zB := hbx.frozen
    clear hj hbx
    by_cases h0 : r.size = 0
    · have i1 : ¬ (0 : Int) < (r.size : Int) := by omega
      have HE := Lib.hid (show pre.map (fun x => x.data.toList) = chunksP s.data.toList by
        rw [← HC.out, List.eq_nil_of_length_eq_zero (hrl.trans h0), chunks_nil, List.append_nil])
      clear hrl
      go_wp2_with fail
      go_end0
      exact ⟨⟨_, rfl⟩, .inl ⟨pre, HE.out, HJ.out⟩⟩
    · have i1 : (0 : Int) < (r.size : Int) := by omega
      have HX := Lib.hid (fun W => Tryz.strings_IndexByte r 10 W)
      have hten : (10 : Int).toNat.toUInt8 = 10 := rfl
      rw [hten] at HX
      rcases idx_cases r.data.toList with ⟨a, z, er, ha, hi⟩ | ⟨ha, hi⟩
      · rw [hi] at HX
        obtain ⟨k, hk⟩ : ∃ k, k = a.length + 1 := ⟨_, rfl⟩
        have hkz : ((a.length : Nat) : Int) + 1 = (k : Int) := by omega
        have hrs2 : r.size = a.length + (z.length + 1) := by rw [← hrl, er]; simp
        have hkr : k ≤ r.size := by omega
        have e1 : (r.extract 0 k).data.toList = a ++ [10] := by
          rw [ByteArray.data_extract, Array.toList_extract, List.extract_eq_take_drop, er, hk]
          rw [show a ++ 10 :: z = (a ++ [10]) ++ z by simp]
          rw [List.drop_zero, Nat.sub_zero, show a.length + 1 = (a ++ [10]).length by simp, List.take_append_of_le_length (Nat.le_refl _), List.take_length]
        have e2 : (r.extract k r.size).data.toList = z := by
          rw [ByteArray.data_extract, Array.toList_extract, List.extract_eq_take_drop, er, hk, hrs2]
          rw [show a ++ 10 :: z = (a ++ [10]) ++ z by simp]
          rw [show a.length + 1 = (a ++ [10]).length by simp, List.drop_append_of_le_length (Nat.le_refl _), List.drop_length, List.nil_append]
          exact List.take_of_length_le (by simp; omega)
        have e3 : (r.extract k r.size).size = z.length := by
          have h1 : (r.extract k r.size).data.toList.length = z.length := by rw [e2]
          rw [Array.length_toList] at h1; exact h1
        have HC2 := Lib.hid (show (pre ++ [r.extract 0 k]).map (fun x => x.data.toList) ++ chunksP (r.extract k r.size).data.toList = chunksP s.data.toList by
          rw [← HC.out, er, chunks_line a z ha, e2, List.map_append, List.map_cons, List.map_nil, e1, List.append_assoc]; rfl)
        have hpl : ∃ z', pre.map (fun x => x.data.toList) ++ (r.extract 0 k).data.toList :: z' = chunksP s.data.toList := ⟨chunksP z, by rw [e1, ← chunks_line a z ha, ← er]; exact HC.out⟩
        have hz3 : (r.extract k r.size).size < r.size := by omega
        have HZ3 := Lib.hid hz3
        have HS3 := Lib.hid (show (r.extract k r.size).size ≤ 1048576 by omega)
        have HPL := Lib.hid hpl
        clear hk er ha hi hrs2 e1 e2 e3 hpl hz3 hrl
        have i0 : (0 : Int) ≤ (a.length : Int) := by omega
        have ik1 : ¬ (r.size : Int) < (k : Int) := by omega
        have ik0 : ¬ (k : Int) < 0 := by omega
        go_wp2_with fail
        refine (HX.out _).mono ?_
        rintro e1 w1 ⟨rfl, rfl⟩
        have hbd := Lib.hid (show Boxed w1.drew Bx 9 (.string r) from HBX.out)
        have hjd := Lib.hid (show J pre w1.drew from HJD.out pre w1 1 HJ.out)
        go_upto_region 4 with fail
        refine AnyT.region (fun i => i == 9) (fun W => W.cell? ⟨Bx, 0, none⟩ = some (.string r)) (by kernel_rfl) hbd.out.cell (fun hHeld => ?_)
        generalize w1.drew = w4 at *
        ((refine AnyT.take 0 12 ?_ rfl (by kernel_rfl) (by kernel_rfl) (by kernel_rfl) (by kernel_rfl) rfl (by kernel_rfl) rfl (fun _ _ _ _ h => h) rfl ?_ (by assumption) ?_); rotate_left; (intro w hSw; (try dsimp only at hSw); go_simp; (try (with_reducible rfl))); simp only [Act.put, List.setIfInBounds_toArray, List.set_cons_zero, List.set_cons_succ])
        ((refine AnyT.takeAny 1 13 ?_ rfl (by kernel_rfl) (by kernel_rfl) (by kernel_rfl) rfl rfl (fun _ _ _ _ h => h) rfl ?_ (by assumption) ?_); rotate_left; (intro w; go_simp; (try (with_reducible rfl))); simp only [Act.put, List.setIfInBounds_toArray, List.set_cons_zero, List.set_cons_succ])
        refine AnyT.takeAny 2 14 (.int .i64 (k : Int)) rfl (by kernel_rfl) (by kernel_rfl) (by kernel_rfl) rfl rfl (fun _ _ _ _ h => h) rfl (fun W => by go_simp; rw [IntKind.wrap_i64]; omega) (by assumption) ?_
        simp only [Act.put, List.setIfInBounds_toArray, List.set_cons_zero, List.set_cons_succ]
        refine AnyT.takeAny 3 15 (.string (r.extract 0 k)) rfl (by kernel_rfl) (by kernel_rfl) (by kernel_rfl) rfl rfl (fun _ _ _ _ h => h) rfl (fun W => by go_simp) (by assumption) ?_
        simp only [Act.put, List.setIfInBounds_toArray, List.set_cons_zero, List.set_cons_succ]
        ((refine AnyT.take 4 16 ?_ rfl (by kernel_rfl) (by kernel_rfl) (by kernel_rfl) (by kernel_rfl) rfl (by kernel_rfl) rfl (fun _ _ _ _ h => h) rfl ?_ (by assumption) ?_); rotate_left; (intro w hSw; (try dsimp only at hSw); go_simp; (try (with_reducible rfl))); simp only [Act.put, List.setIfInBounds_toArray, List.set_cons_zero, List.set_cons_succ])
        ((refine AnyT.takeAny 5 17 ?_ rfl (by kernel_rfl) (by kernel_rfl) (by kernel_rfl) rfl rfl (fun _ _ _ _ h => h) rfl ?_ (by assumption) ?_); rotate_left; (intro w; go_simp; (try (with_reducible rfl))); simp only [Act.put, List.setIfInBounds_toArray, List.set_cons_zero, List.set_cons_succ])
        refine AnyT.takeAny 6 18 (.int .i64 (k : Int)) rfl (by kernel_rfl) (by kernel_rfl) (by kernel_rfl) rfl rfl (fun _ _ _ _ h => h) rfl (fun W => by go_simp; rw [IntKind.wrap_i64]; omega) (by assumption) ?_
        simp only [Act.put, List.setIfInBounds_toArray, List.set_cons_zero, List.set_cons_succ]
        refine AnyT.takeAny 7 19 (.string (r.extract k r.size)) rfl (by kernel_rfl) (by kernel_rfl) (by kernel_rfl) rfl rfl (fun _ _ _ _ h => h) rfl (fun W => by go_simp) (by assumption) ?_
        simp only [Act.put, List.setIfInBounds_toArray, List.set_cons_zero, List.set_cons_succ]
        ((refine AnyT.takeAny 8 3 ?_ rfl (by kernel_rfl) (by kernel_rfl) (by kernel_rfl) rfl rfl (fun _ _ _ _ h => h) rfl ?_ (by assumption) ?_); rotate_left; (intro w; go_simp; (try (with_reducible rfl))); simp only [Act.put, List.setIfInBounds_toArray, List.set_cons_zero, List.set_cons_succ])
        have zB := hbd.out.frozen
        ((refine AnyT.last (i := 9) (by kernel_rfl) rfl (by kernel_rfl) (fun K hK => ?_)))
        go_simp
        refine hK.out _ _ ?_
        clear hK K
        (try simp only [Act.put, List.setIfInBounds_toArray, List.set_cons_zero, List.set_cons_succ])
        refine AnyT.done (by kernel_rfl) ?_ _
        have HJ5 := Lib.hid (HJS.out pre w4 _ (.string (r.extract k r.size)) hjd.out hbd.out)
        have HB5 := Lib.hid (hbd.out.set (.string (r.extract k r.size)))
        clear hHeld zB
        generalize w4.setCell ⟨Bx, 0, none⟩ (.string (r.extract k r.size)) = w5 at *
        go_upto_region 6 with fail
        obtain ⟨fn, tmps, assign, body, hy, hR⟩ := HY.out pre (r.extract 0 k) w5 _ HJ5.out HB5.out HPL.out
        refine (wpIn_wide (n := m + 1)).1 ?_
        gi_wp2
        refine hR.mono ?_
        rintro e6 w6 (⟨rfl, hJ6, hb6⟩ | ⟨rfl, hJx6⟩)
        · have HJ6 := Lib.hid hJ6; have HB6 := Lib.hid hb6
          clear hJ6 hb6
          gi_wp2
          go_wp2_with fail
          go_roundw
          case rel => exact ⟨_, _, HB6.out, HJ6.out, HS3.out, HC2⟩
          case measure => rw [boxLen_is HB6.out, boxLen_is HBX.out]; exact HZ3.out
        · have HJ6 := Lib.hid hJx6
          clear hJx6
          gi_wp2
          go_wp2_with fail
          refine bodyPost_ret (results_none rfl _ _ _) rfl ⟨⟨_, rfl⟩, .inr ⟨_, HJ6.out⟩⟩
      · rw [hi] at HX
        have hne : r.data.toList ≠ [] := fun h => by rw [h] at hrl; simp at hrl; omega
        have HC2 := Lib.hid (show (pre ++ [r]).map (fun x => x.data.toList) ++ chunksP (⟨#[]⟩ : ByteArray).data.toList = chunksP s.data.toList by
          rw [← HC.out, chunks_none _ ha hne, List.map_append, List.map_cons, List.map_nil, List.append_assoc]; rfl)
        have hpl : ∃ z', pre.map (fun x => x.data.toList) ++ r.data.toList :: z' = chunksP s.data.toList := ⟨[], by rw [← chunks_none _ ha hne]; exact HC.out⟩
        have HZ3 := Lib.hid (show (⟨#[]⟩ : ByteArray).size < r.size by show 0 < r.size; omega)
        have HS3 := Lib.hid (show (⟨#[]⟩ : ByteArray).size ≤ 1048576 by show 0 ≤ 1048576; omega)
        have HPL := Lib.hid hpl
        clear ha hi hpl hne hrl
        go_wp2_with fail
        refine (HX.out _).mono ?_
        rintro e1 w1 ⟨rfl, rfl⟩
        have HJ5 := Lib.hid (HJS.out pre w1 _ (.string ⟨#[]⟩) HJ.out HBX.out)
        have HB5 := Lib.hid (HBX.out.set (.string ⟨#[]⟩))
        go_upto_region 6 with fail
        generalize w1.setCell ⟨Bx, 0, none⟩ (.string ⟨#[]⟩) = w5 at *
        obtain ⟨fn, tmps, assign, body, hy, hR⟩ := HY.out pre r w5 _ HJ5.out HB5.out HPL.out
        refine (wpIn_wide (n := m + 1)).1 ?_
        gi_wp2
        refine hR.mono ?_
        rintro e6 w6 (⟨rfl, hJ6, hb6⟩ | ⟨rfl, hJx6⟩)
        · have HJ6 := Lib.hid hJ6; have HB6 := Lib.hid hb6
          clear hJ6 hb6
          gi_wp2
          go_wp2_with fail
          go_roundw
          case rel => exact ⟨_, _, HB6.out, HJ6.out, HS3.out, HC2⟩
          case measure => rw [boxLen_is HB6.out, boxLen_is HBX.out]; exact HZ3.out
        · have HJ6 := Lib.hid hJx6
          clear hJx6
          gi_wp2
          go_wp2_with fail
          refine bodyPost_ret (results_none rfl _ _ _) rfl ⟨⟨_, rfl⟩, .inr ⟨_, HJ6.out⟩⟩

end Go.Proofs.YtfibjcaidnofmaaGreatDoor
