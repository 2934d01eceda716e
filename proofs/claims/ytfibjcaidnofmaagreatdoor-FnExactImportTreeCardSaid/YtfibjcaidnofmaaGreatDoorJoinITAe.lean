/- Rows of bytes of the call's own: one byte more, a text more, their text; decimal digits of the reference. -/
import Derived.Test.YtfibjcaidnofmaaGreatDoorProg
import Derived.Test.YtfibjcaidnofmaaGreatDoorJoinITAa
import Derived.Lib.AppendStr
import Derived.Lib.ConvBytes
import Derived.Lib.ItoaNum
import Derived.IntWalk
import Derived.RangeFuncBox
import Derived.RangeFuncCalls
import Derived.RangeFuncLeaves
import Derived.RangeFuncFrom
import Derived.RangeFuncBound
namespace Go.Proofs.YtfibjcaidnofmaaGreatDoor
open Go.RowKit

theorem infoByte : (Tryz.prog.info? 5).map (fun i => (i.zero, i.size, i.bytes)) = some (some (.int .u8 0), 1, 1) := by kernel_rfl

abbrev encB : UInt8 → Value := fun c => .int .u8 (c.toNat : Int)

theorem convert_own {w : World} {base : Nat} {v : Value} {xs : List UInt8} (h : OwnR encB w base 5 v xs) :
    (convert 22 9 v).run Tryz.prog w = .ok (.string ⟨xs.toArray⟩) w := by
  obtain ⟨⟨A, c, rfl⟩, ho⟩ := h
  by_cases h0 : 0 < xs.length
  · obtain ⟨b, off, rfl, _, _, hc⟩ := (RowR.of_own (enc := encB) (d := 0) ho).2 h0
    have := run_convert_bytes_arg (P := Tryz.prog) w 22 5 Tryz.underlying22 Tryz.underlying5 b off xs.length c (xs.map fun c => (c.toNat : Int)) (by simp) (fun i hi => by
      rw [hc i hi]
      simp [List.getD_eq_getElem?_getD, List.getElem?_eq_getElem hi]) 9 Tryz.underlying9
    have e : strOfNums (xs.map fun c => (c.toNat : Int)) = ⟨xs.toArray⟩ := by
      unfold strOfNums
      rw [List.map_map]
      have : ((fun n : Int => UInt8.ofNat n.toNat) ∘ fun c : UInt8 => (c.toNat : Int)) = id := by
        funext c
        simp
      rw [this, List.map_id]
    rw [this, e]
  · have hx : xs = [] := List.eq_nil_of_length_eq_zero (by omega)
    subst hx
    cases A with
    | none => exact run_convert_bytes_nil (P := Tryz.prog) w 22 5 Tryz.underlying22 Tryz.underlying5 _ _ 9 Tryz.underlying9
    | some a =>
      rw [run_convert_bytes_string w 22 9 5 _ _ _ Tryz.underlying22 Tryz.underlying5 Tryz.underlying9, run_bytesToString w a _ _ [] (by simp [loadCells, loadCellsFrom])]
      rfl

/-- []byte(s): a row of bytes in a new block. -/
theorem rowBytes (w : World) (s : ByteArray) : ∃ cap w', (convert 9 22 (.string s)).run Tryz.prog w = .ok (.slice (some ⟨w.heap.size, 0, none⟩) s.size cap) w' ∧
    (∀ j (hj : j < s.size), w'.cell? ⟨w.heap.size, j, none⟩ = some (.int .u8 (s[j].toNat : Int))) ∧ Below w.heap.size w w' ∧ w'.heap.size = w.heap.size + 1 := by
  refine ⟨_, _, Lib.run_convert_string_bytes w _ _ 5 s Tryz.underlying9 Tryz.underlying22 Tryz.underlying5, fun j hj => ?_, ?_, Lib.bytesWorld_size _ _ _⟩
  · rw [Lib.bytesWorld_cell w 5 s j hj]
    have : s.data.toList.getD j 0 = s[j] := by
      have h : j < s.data.toList.length := by simpa using hj
      rw [List.getD_eq_getElem?_getD, List.getElem?_eq_getElem h]
      rfl
    rw [this]
  · exact ⟨rfl, rfl, rfl, by rw [Lib.bytesWorld_size]; omega, fun k hk => Lib.bytesWorld_at_old w _ s k hk⟩

theorem strCells_enc (s : ByteArray) : Lib.strCells s = s.data.toList.map encB := rfl

/-- append(b, t...): a text more at a row of bytes of the call's own. -/
theorem wpList_appS {ops : Array Oper} {rest : List Oper} {o : Oper} {a : Go.Act} {Q : Exit → Go.Act → World → Prop} (hgd : o.guard = none) (s x : Operand)
    (ho : o.op = .call { callee := .builtin .append, args := #[s, x], argTypes := #[22, 9] })
    (w : World) (base : Nat) (v : Value) (xs : List UInt8) (t : ByteArray) (hs : a.eval s = v) (hown : OwnR encB w base 5 v xs)
    (hx : a.eval x = .string t) (hlen : xs.length ≤ 1000000000) (hlt : t.size ≤ 1000000000) (hbase : base ≤ w.heap.size)
    (h : ∀ v' w', OwnR encB w' base 5 v' (xs ++ t.data.toList) → Below base w w' → wpList Tryz.prog ops Q rest (a.put o.dst v') w') : wpList Tryz.prog ops Q (o :: rest) a w := by
  obtain ⟨i0, hi0, hz0, hz1, hz2⟩ := info_parts infoByte
  refine Lib.wpList_append_own_string w hgd s x 22 9 ho base 5 i0 Tryz.underlying22 Tryz.underlying9 hi0 hz0 hz1 hz2 v xs.length (xs.map encB) hs hown.2 t hx (by unfold maxLen; omega) (by omega) hbase ?_
  intro v' w' h1 h2 h3
  have hB : Below base w w' := (Below.refl base w).grown h2 hbase (fun k hk => (hown.2.lt k hk).1)
  refine h v' w' ⟨?_, ?_⟩ hB
  · rcases h1.2 with ⟨e1, e2⟩ | ⟨g, cap, cur, e1, _⟩
    · refine ⟨none, 0, ?_⟩
      have := Array.length_toList (xs := t.data)
      have h4 : t.size = t.data.size := rfl
      have h5 : xs.length + t.data.toList.length = 0 := by omega
      rw [e1, List.length_append, h5]
    · refine ⟨some ⟨g, 0, none⟩, cap, ?_⟩
      rw [e1, List.length_append, Array.length_toList]
      rfl
  · rw [List.length_append, List.map_append, Array.length_toList, ← strCells_enc]
    exact h1

def decT (c : Nat) : ByteArray := ⟨(Lib.decDigits c).toArray⟩
theorem decT_small {c : Nat} (h : c < 10) : decT c = ⟨#[UInt8.ofNat (48 + c)]⟩ := by
  unfold decT; rw [Lib.decDigits, dif_pos h]
theorem decT_big {c : Nat} (h : ¬ c < 10) : decT c = decT (c / 10) ++ (⟨#[UInt8.ofNat (48 + c % 10)]⟩ : ByteArray) := by
  unfold decT; rw [Lib.decDigits, dif_neg h]
  apply ByteArray.ext
  simp [ByteArray.data_append]
theorem decT_size : ∀ (k c : Nat), c < 10 ^ (k + 1) → (decT c).size ≤ k + 1
  | 0, c, h => by rw [decT_small (by simpa using h)]; show (1 : Nat) ≤ _; omega
  | k + 1, c, h => by
    by_cases hc : c < 10
    · rw [decT_small hc]; show (1 : Nat) ≤ _; omega
    · rw [decT_big hc, ByteArray.size_append]
      have := decT_size k (c / 10) (by rw [Nat.pow_succ] at h; omega)
      show _ + 1 ≤ _; omega

set_option maxHeartbeats 4000000 in
set_option maxRecDepth 100000 in
theorem l21Below_step (c : Nat) (hc : c ≤ 9223372036854775807) (n : Int) (hn : n = -(c : Int)) (w : World) (ih : 10 ≤ c → ∀ W, Calls Tryz.prog 94 #[.int .i64 (-((c / 10 : Nat) : Int))] W fun e w' => e = .returned (.string (decT (c / 10))) ∧ Below W.heap.size W w') :
    Calls Tryz.prog 94 #[.int .i64 n] w fun e w' => e = .returned (.string (decT c)) ∧ Below w.heap.size w w' := by
  have hrem : n.tmod 10 = -((c % 10 : Nat) : Int) := by subst hn; rw [Int.neg_tmod]; rfl
  have hquo : n.tdiv 10 = -((c / 10 : Nat) : Int) := by subst hn; rw [Int.neg_tdiv]; rfl
  have HIH := Lib.hid ih; clear ih
  have HC := Lib.hid hn; have HCC := Lib.hid hc
  have hn1 : -9223372036854775807 ≤ n := by omega
  have hn2 : n ≤ 0 := by omega
  clear hn hc
  generalize hr : c % 10 = r at *
  have hr10 : r ≤ 9 := by omega
  have HRC := Lib.hid hr
  generalize hq : c / 10 = q at *
  have HQ := Lib.hid hq
  have hq99 : q ≤ 922337203685477580 := by have := HCC.out; omega
  clear hr hq
  have hcv := run_one_byte (P := Tryz.prog) 22 9 5 Tryz.underlying22 Tryz.underlying5 Tryz.underlying9 w (48 + (r : Int)) 1
  rw [show ((48 : Int) + (r : Int)).toNat = 48 + r by omega] at hcv
  have hba := (Below.refl w.heap.size w).alloc (Nat.le_refl _) (.cells #[.int .u8 (48 + (r : Int))] 5)
  have HBA := Lib.hid hba
  by_cases h10 : c < 10
  · have HR := Lib.hid (show decT c = ⟨#[UInt8.ofNat (48 + r)]⟩ by rw [decT_small h10]; have := HRC.out; rw [show r = c by omega])
    have hg : (-10 : Int) < n := by have := HC.out; omega
    clear hba h10
    go_enter Tryz.func94, Tryz.ntmps94
    go_wp2_with fail
    go_ret
    exact ⟨by rw [HR.out]; simp, HBA.out⟩
  · have HR := Lib.hid (show decT c = decT q ++ (⟨#[UInt8.ofNat (48 + r)]⟩ : ByteArray) by rw [decT_big h10, HRC.out, HQ.out])
    have hg : ¬ (-10 : Int) < n := by have := HC.out; omega
    have HI := Lib.hid (HIH.out (by omega) (w.alloc (.cells #[.int .u8 (48 + (r : Int))] 5)))
    have hsz : (decT q).size ≤ 18 := decT_size 17 q (by omega)
    have hs1 : (decT q ++ (⟨#[UInt8.ofNat (48 + r)]⟩ : ByteArray)).size = (decT q).size + 1 := by rw [ByteArray.size_append]; rfl
    clear hba h10 HIH
    go_enter Tryz.func94, Tryz.ntmps94
    go_wp2_with fail
    refine HI.out.mono ?_
    rintro e1 w1 ⟨rfl, hb1⟩
    have HB := Lib.hid (HBA.out.trans (hb1.mono (by simp)))
    clear hb1
    go_wp2_with fail
    go_ret
    exact ⟨by rw [HR.out]; simp, HB.out⟩

theorem l21Below_any : ∀ (c : Nat), c ≤ 9223372036854775807 → ∀ (w : World), Calls Tryz.prog 94 #[.int .i64 (-(c : Int))] w fun e w' => e = .returned (.string (decT c)) ∧ Below w.heap.size w w' := by
  intro c
  induction c using Nat.strongRecOn with
  | _ c ih =>
    intro hc w
    exact l21Below_step c hc _ rfl w (fun h W => ih (c / 10) (by omega) (by omega) W)

set_option maxHeartbeats 4000000 in
theorem l21Dec_any (c : Nat) (hc : c ≤ 9223372036854775807) (w : World) : Calls Tryz.prog 37 #[.int .i64 (c : Int)] w fun e w' => e = .returned (.string (decT c)) ∧ Below w.heap.size w w' := by
  have HI := Lib.hid (l21Below_any c hc w)
  have h0 : ¬ ((c : Int) < 0) := by omega
  go_enter Tryz.func37, Tryz.ntmps37
  go_wp2_with fail
  refine HI.out.mono ?_
  rintro e1 w1 ⟨rfl, hb1⟩
  have HB := Lib.hid hb1; clear hb1
  go_wp2_with fail
  go_ret
  exact ⟨rfl, HB.out⟩
end Go.Proofs.YtfibjcaidnofmaaGreatDoor

/- A range over a function that keeps what is left in a box of its own. Over any program. -/
namespace Go.Proofs.YtfibjcaidnofmaaGreatDoor
open Go.RowKit

/-- How a round may be left: on, with the box as it was; or out of the loop. -/
def boxPost {α : Type} (I : List α → World → Prop) (Ix : Code → List α → World → Prop) (Bx : Nat) (t : TypeId) (v : Value) (xs : List α) (W : World) : Exit → Go.Act → World → Prop
  | .normal, _, W' => KeepsOthers W W' ∧ Boxed W' Bx t v ∧ I xs W'
  | .ret, _, W' => KeepsOthers W W' ∧ Ix .ret xs W'
  | .exit id, _, W' => KeepsOthers W W' ∧ Ix (.exit id) xs W'
  | .goto t, _, W' => KeepsOthers W W' ∧ Ix (.goto t) xs W'
  | .panic _, _, _ => False
  | .outgrown, _, _ => False

/-- The iterator's word: its box holds v0 at first; J does not look into the box; all has come in the end, or a round has said no. -/
def SeqBox {α : Type} (n : Nat) (P : Program) (gf Bx : Nat) (t : TypeId) (v0 : Value) (encs : α → Array Value) (S : List α → Prop) (PX : List α → α → Prop) : Prop :=
  ∀ (l : Nat) (J Jx : List α → World → Prop) (W : World), (∀ pre W v v', J pre W → Boxed W Bx t v → J pre (W.setCell ⟨Bx, 0, none⟩ v')) → (∀ pre W k, J pre W → J pre (W.drewN k)) → Boxed W Bx t v0 →
    (∀ pre x W1 v, J pre W1 → Boxed W1 Bx t v → PX pre x → YieldAt Fence.wide n P l (encs x) W1 fun e W' => (e = .returned (.bool true) ∧ J (pre ++ [x]) W' ∧ Boxed W' Bx t v) ∨ (e = .returned (.bool false) ∧ Jx (pre ++ [x]) W')) → J [] W →
    CallsIn Fence.wide n P gf (#[.func (.yield l) #[] #[]] ++ #[.pointer (some ⟨Bx, 0, none⟩)]) W fun e W' => (∃ v, e = .returned v) ∧ ((∃ xs, S xs ∧ J xs W') ∨ (∃ pre, Jx pre W'))

theorem box_other {W : World} {B l : Nat} {t : TypeId} {v : Value} {o : Obj} (h : Boxed W B t v) (hl : l ≠ B) : Boxed (W.putObj l o) B t v := (World.putObj_heap_other (fun e => hl e.symm)).trans h

theorem wpIn_range_box {α : Type} {P : Program} {n m : Nat} {g : Operand} {ps : Array Tmp} {assign body : Code} {Q : Exit → Go.Act → World → Prop} {a : Go.Act} {w : World} {gf Bx : Nat} {t : TypeId} {v0 : Value}
    (hg : a.eval g = .func (.func gf) #[] #[.pointer (some ⟨Bx, 0, none⟩)]) (eg : ∀ args w, (callFunc gf args).run P w = .ok (.enter gf args) w)
    {encs : α → Array Value} (hps : ∀ x, (encs x).size = ps.size) {S : List α → Prop} {PX : List α → α → Prop} (hbox : Boxed w Bx t v0) (hseq : SeqBox m P gf Bx t v0 encs S PX)
    (I : List α → World → Prop) (Ix : Code → List α → World → Prop)
    (hIa : ∀ pre W o, I pre W → I pre (W.alloc o)) (hIp : ∀ pre W o', w.heap.size + 1 < W.heap.size → I pre W → I pre (W.putObj (w.heap.size + 1) o'))
    (hIs : ∀ pre W v v', I pre W → Boxed W Bx t v → I pre (W.setCell ⟨Bx, 0, none⟩ v')) (hId : ∀ pre W k, I pre W → I pre (W.drewN k))
    (hXp : ∀ c pre W o', w.heap.size + 1 < W.heap.size → Ix c pre W → Ix c pre (W.putObj (w.heap.size + 1) o')) (h0 : I [] w) (a₁ : α → Go.Act)
    (hassign : ∀ (l : Nat) (x : α) (W : World) (K : Go.Act → World → Prop), K (a₁ x) W →
      assign.wpIn (Fence.wide.inRound l) m P (Exit.then K (fun _ _ _ => False)) { tmps := (ps.zip (encs x)).foldl (fun t (p, v) => t.setIfInBounds p v) a.tmps, defers := [] } W)
    (hbody : ∀ (l : Nat) (pre : List α) (x : α) (W : World) (v : Value), w.heap.size + 1 < W.heap.size → I pre W → Boxed W Bx t v → PX pre x → body.wpIn (Fence.wide.inRound l) m P (boxPost I Ix Bx t v (pre ++ [x]) W) (a₁ x) W)
    (hdone : ∀ (xs : List α) (W : World), w.heap.size + 1 < W.heap.size → S xs → I xs W → W.heap[w.heap.size]? = some (.deferred (some [])) → Q .normal { a with defers := { target := .collected w.heap.size, args := #[] } :: a.defers } W)
    (hstop : ∀ (c : Code) (pre : List α) (W : World), w.heap.size + 1 < W.heap.size → Ix c pre W → W.heap[w.heap.size]? = some (.deferred (some [])) → c.wpIn Fence.wide n P Q { a with defers := { target := .collected w.heap.size, args := #[] } :: a.defers } W) :
    (Code.rangeFunc g ps assign body).wpIn Fence.wide n P Q a w := by
  refine wpIn_rangeFunc fun fn hfn => ?_
  rw [show Fence.wide.round = none from rfl]
  obtain ⟨rc, hrc⟩ : ∃ rc : LoopState → Option Code → Loop, rc = fun st pe => { state := st, pending := pe, fn, tmps := a.tmps, params := ps, assign, body, defers := w.heap.size } := ⟨_, rfl⟩
  have hltB := hbox.lt
  have hlt1 : Bx ≠ w.heap.size + 1 := by omega
  have hlt0 : Bx ≠ w.heap.size := by omega
  have hlts : w.heap.size + 1 ≠ Bx := by omega
  obtain ⟨W1, hW1⟩ : ∃ W1, (w.alloc (.deferred (some []))).alloc (.loop (rc .ready none)) = W1 := ⟨_, rfl⟩
  have hrec : W1.heap[w.heap.size + 1]? = some (.loop (rc .ready none)) := by
    have h := World.alloc_heap_new (w.alloc (.deferred (some []))) (.loop (rc .ready none))
    rw [World.size_alloc, hW1] at h; exact h
  have hdef : W1.heap[w.heap.size]? = some (.deferred (some [])) := by rw [← hW1]; exact (Below.heap_alloc _ _ _ (by simp)).trans (World.alloc_heap_new w _)
  have hbx1 : Boxed W1 Bx t v0 := by rw [← hW1]; exact (hbox.alloc _).alloc _
  have hI1 : I [] W1 := by rw [← hW1]; exact hIa _ _ _ (hIa _ _ _ h0)
  refine ⟨w.heap.size + 1, [{ target := .collected w.heap.size, args := #[] }], W1, { target := .fn (.func gf) #[.pointer (some ⟨Bx, 0, none⟩)], args := #[.func (.yield (w.heap.size + 1)) #[] #[]] }, W1, gf,
    #[.func (.yield (w.heap.size + 1)) #[] #[]] ++ #[.pointer (some ⟨Bx, 0, none⟩)], W1, ?_, ?_, ?_, ?_, (fun h => by cases h), ?_⟩
  · rw [← hW1, hrc]; exact run_enterLoop_outer _ _ _ _ _
  · simp only [resolve, hg]
    simp [go_sem]
  · intro f' _; trivial
  · simp [invoke, go_sem, eg]
  have hcall := hseq (w.heap.size + 1)
    (fun pre W => I pre W ∧ W.heap[w.heap.size + 1]? = some (.loop (rc .ready none)) ∧ W.heap[w.heap.size]? = some (.deferred (some [])))
    (fun pre W => ∃ c, Ix c pre W ∧ W.heap[w.heap.size + 1]? = some (.loop (rc .done (some c))) ∧ W.heap[w.heap.size]? = some (.deferred (some [])))
    W1
    (fun pre W v v' hj hb => ⟨hIs pre W v v' hj.1 hb, (Below.heap_setCell _ ⟨Bx, 0, none⟩ _ _ (fun e => hlt1 e.symm)).trans hj.2.1, (Below.heap_setCell _ ⟨Bx, 0, none⟩ _ _ (fun e => hlt0 e.symm)).trans hj.2.2⟩)
    (fun pre W k hj => ⟨hId pre W k hj.1, hj.2.1, hj.2.2⟩) hbx1 ?_ ⟨hI1, hrec, hdef⟩
  · refine callsIn_wide.2 ((callsIn_wide.1 hcall).mono ?_)
    rintro e W2 ⟨⟨v, rfl⟩, (⟨xs, hS, hi, hl, hk⟩ | ⟨pre, c, hi, hl, hk⟩)⟩
    · exact ⟨none, _, by have h := run_endLoop (P := P) hl (by rw [hrc]; simp); rw [hrc] at h; exact h, hdone xs _ (by have h := (Array.getElem?_eq_some_iff.1 hl).1; simpa using h) hS (hIp _ _ _ (Array.getElem?_eq_some_iff.1 hl).1 hi) ((World.putObj_heap_other (by omega)).trans hk)⟩
    · exact ⟨some c, _, by have h := run_endLoop (P := P) hl (by rw [hrc]; simp); rw [hrc] at h; exact h, hstop c pre _ (by have h := (Array.getElem?_eq_some_iff.1 hl).1; simpa using h) (hXp _ _ _ _ (Array.getElem?_eq_some_iff.1 hl).1 hi) ((World.putObj_heap_other (by omega)).trans hk)⟩
  · rintro pre x W v ⟨hi, hl, hk⟩ hbw hlen
    have hlt : w.heap.size + 1 < W.heap.size := (Array.getElem?_eq_some_iff.1 hl).1
    have hy := run_yield (P := P) (args := encs x) hl (by rw [hrc]; exact hps x)
    rw [hrc] at hy
    obtain ⟨Wb, hWb⟩ : ∃ Wb, W.putObj (w.heap.size + 1) (.loop { rc .ready none with state := .busy }) = Wb := ⟨_, rfl⟩
    have hbusy : Wb.heap[w.heap.size + 1]? = some (.loop { rc .ready none with state := .busy }) := by rw [← hWb]; exact World.putObj_heap_same hlt
    have hdefb : Wb.heap[w.heap.size]? = some (.deferred (some [])) := by rw [← hWb]; exact (World.putObj_heap_other (by omega)).trans hk
    have hib : I pre Wb := by rw [← hWb]; exact hIp _ _ _ hlt hi
    have hbb : Boxed Wb Bx t v := by rw [← hWb]; exact box_other hbw hlts
    refine ⟨fn, _, assign, body, hy, roundIn_of_wpIn hfn (hassign _ x W _ ⟨Wb, ?_, ?_⟩)⟩
    · rw [← hWb]; exact run_beginRound hl (by rw [hrc])
    refine wpIn_mono (hbody _ pre x _ v (by rw [← hWb]; simpa using hlt) hib hbb hlen) ?_
    have fin : ∀ (jump : Option Code) (W3 : World), KeepsOthers Wb W3 →
        (Instr.endRound (w.heap.size + 1) jump).run P W3 = .ok (.bool jump.isNone) (W3.putObj (w.heap.size + 1) (.loop (rc (if jump.isNone then .ready else .done) jump))) ∧
        W3.heap[w.heap.size + 1]? = some (.loop { rc .ready none with state := .busy }) ∧
        (W3.putObj (w.heap.size + 1) (.loop (rc (if jump.isNone then .ready else .done) jump))).heap[w.heap.size + 1]? = some (.loop (rc (if jump.isNone then .ready else .done) jump)) ∧
        (W3.putObj (w.heap.size + 1) (.loop (rc (if jump.isNone then .ready else .done) jump))).heap[w.heap.size]? = some (.deferred (some [])) := fun jump W3 hk3 => by
      have hl3 := hk3.same _ _ hbusy rfl
      have h := run_endRound (P := P) jump hl3
      rw [hrc] at h ⊢
      exact ⟨h, by rw [hrc] at hl3; exact hl3, World.putObj_heap_same (Array.getElem?_eq_some_iff.1 hl3).1, (World.putObj_heap_other (by omega)).trans (hk3.same _ _ hdefb rfl)⟩
    have out : ∀ (c : Code) (W3 : World), KeepsOthers Wb W3 → Ix c (pre ++ [x]) W3 → ∃ v' W', (Instr.endRound (w.heap.size + 1) (some c)).run P W3 = .ok v' W' ∧
        ((Ending.returned v' = .returned (.bool true) ∧ (I (pre ++ [x]) W' ∧ W'.heap[w.heap.size + 1]? = some (.loop (rc .ready none)) ∧ W'.heap[w.heap.size]? = some (.deferred (some []))) ∧ Boxed W' Bx t v) ∨
          (Ending.returned v' = .returned (.bool false) ∧ ∃ c, Ix c (pre ++ [x]) W' ∧ W'.heap[w.heap.size + 1]? = some (.loop (rc .done (some c))) ∧ W'.heap[w.heap.size]? = some (.deferred (some [])))) := fun c W3 hk3 hx3 => by
      obtain ⟨hr, hl3, hl4, hk4⟩ := fin (some c) W3 hk3
      exact ⟨_, _, hr, .inr ⟨rfl, c, hXp _ _ _ _ (Array.getElem?_eq_some_iff.1 hl3).1 hx3, hl4, hk4⟩⟩
    rintro e a3 W3 hp
    cases e with
    | normal =>
      obtain ⟨hk3, hb3, hi3⟩ := hp
      obtain ⟨hr, hl3, hl4, hk4⟩ := fin none W3 hk3
      exact ⟨_, _, hr, .inl ⟨rfl, ⟨hIp _ _ _ (Array.getElem?_eq_some_iff.1 hl3).1 hi3, hl4, hk4⟩, box_other hb3 hlts⟩⟩
    | ret => exact out .ret W3 hp.1 hp.2
    | exit id => exact out (.exit id) W3 hp.1 hp.2
    | goto t => exact out (.goto t) W3 hp.1 hp.2
    | panic ch => exact hp.elim
    | outgrown => exact hp.elim

end Go.Proofs.YtfibjcaidnofmaaGreatDoor
