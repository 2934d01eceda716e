/- Walks of the helpers on slices of strings: eqStringS, markText, markStringS, heldStringS. -/
import Derived.Test.YtgnmollbnopigaaGreatProg
import Derived.Test.YtgnmollbnopigaaGreatJoinSSAa
import Derived.Test.YtgnmollbnopigaaGreatRows
import Derived.WalkKit
import Derived.ProofKit
import Derived.OpenShut
import Derived.ShutString
import Derived.Deep.Slices
import Derived.Deep.Fields
import Derived.ChangeSame
import Derived.SizedLaws
import Derived.SliceStrings
namespace Go.Proofs.YtgnmollbnopigaaGreat
open Go.RowKit
theorem take_eq_succ {xs ys : List ByteArray} {k n : Nat} (hx : xs.length = n) (hy : ys.length = n) (hk : k < n) (h : xs.take k = ys.take k) (he : xs.getD k ByteArray.empty = ys.getD k ByteArray.empty) :
  xs.take (k + 1) = ys.take (k + 1) := by
 rw [List.take_succ_eq_append_getElem (by omega), List.take_succ_eq_append_getElem (by omega), h]
 simp only [List.getD_eq_getElem?_getD, List.getElem?_eq_getElem (show k < xs.length by omega), List.getElem?_eq_getElem (show k < ys.length by omega), Option.getD_some] at he
 rw [he]
theorem ne_of_getD {xs ys : List ByteArray} {k : Nat} (he : xs.getD k ByteArray.empty ≠ ys.getD k ByteArray.empty) : xs ≠ ys := fun h => he (by rw [h])
set_option maxHeartbeats 400000 in
theorem eqStringS_any (A B : Option Addr) (n m c d lo hi lo' hi' : Nat) (xs ys : List ByteArray) (w : World) (ha : StrR w lo hi A n xs) (hb : StrR w lo' hi' B m ys)
  (hn : n ≤ 4294967296) (hm : m ≤ 4294967296) :
  Calls Tryz.prog 44 #[.slice A n c, .slice B m d] w fun e w' => e = .returned (.bool (decide (xs = ys))) ∧ ∃ q, w' = w.drewN q := by
 by_cases hne : n = m
 ·subst hne
  have hab : ((n : Int) != (n : Int)) = false := by simp
  go_enter Tryz.func44, Tryz.ntmps44
  go_wp2
  go_loopw [5] (fun i wr => ∃ k q : Nat, k ≤ n ∧ i = .int .i64 k ∧ wr = w.drewN q ∧ xs.take k = ys.take k) (fun i _ => n - (intOf i).toNat)
  case atStart => exact ⟨0, 0, Nat.zero_le _, rfl, rfl, rfl⟩
  case round =>
   obtain ⟨k, q, hk, rfl, rfl, ht⟩ := hrel
   have HT := Lib.hid ht; clear ht
   by_cases hlt : k < n
   ·obtain ⟨b, off, rfl, _, _, hc⟩ := ha.at_ hlt
    obtain ⟨b', off', rfl, _, _, hc'⟩ := hb.at_ hlt
    generalize hX : xs.getD k ByteArray.empty = X at *
    generalize hY : ys.getD k ByteArray.empty = Y at *
    have HX := Lib.hid hX; clear hX
    have HY := Lib.hid hY; clear hY
    have hi1 : (k : Int) < (n : Int) := by omega
    go_wp2
    go_quiet (fail)
    go_wp2
    ·have hq : (!X.toList == Y.toList) = true := by assumption
     go_ret
     refine ⟨?_, _, World.drewN_drewN _ _ _⟩
     have hne : X ≠ Y := beq_bytes_false (by simpa using hq)
     have : xs ≠ ys := ne_of_getD (k := k) (by rw [HX.out, HY.out]; exact hne)
     simp [this]
    ·have hq : (!X.toList == Y.toList) = false := by assumption
     have he : X = Y := beq_bytes_true (by simpa using hq)
     go_roundw
     case rel => exact ⟨k + 1, _, by omega, by go_num, rfl, take_eq_succ ha.1 hb.1 hlt HT.out (by rw [HX.out, HY.out]; exact he)⟩
     case measure => simp [intOf]; omega
   ·go_wp2
    go_ret
    obtain rfl : k = n := by omega
    refine ⟨?_, _, rfl⟩
    have hxy : xs = ys := by
     have := HT.out
     rwa [List.take_of_length_le (by rw [ha.1]; omega), List.take_of_length_le (by rw [hb.1]; omega)] at this
    simp [hxy]
 ·have hab : ((n : Int) != (m : Int)) = true := by simp; omega
  go_enter Tryz.func44, Tryz.ntmps44
  go_wp2
  go_ret
  refine ⟨?_, 0, rfl⟩
  have : xs ≠ ys := fun h => hne (by rw [← ha.1, ← hb.1, h])
  simp [this]
theorem eqStringS_b (A B : Option Addr) (n m c d lo hi lo' hi' : Nat) (xs ys : List ByteArray) (w : World) (ha : StrR w lo hi A n xs) (hb : StrR w lo' hi' B m ys)
  (hn : n ≤ 4294967296) (hm : m ≤ 4294967296) :
  Calls Tryz.prog 44 #[.slice A n c, .slice B m d] w fun e w' => e = .returned (.bool (decide (xs = ys))) ∧ Below w.heap.size w w' :=
 (eqStringS_any A B n m c d lo hi lo' hi' xs ys w ha hb hn hm).mono fun _ _ ⟨he, q, hq⟩ => ⟨he, by rw [hq]; exact below_drewN' w q⟩
def digitsOn : Nat → Nat → ByteArray → ByteArray
 | 0, _, out => out
 | f + 1, k, out => if 0 < k then digitsOn f (k / 10) (⟨#[48 + UInt8.ofNat (k % 10)]⟩ ++ out) else out
def markT (k : Nat) : ByteArray := ⟨#[109]⟩ ++ digitsOn k k ByteArray.empty
end Go.Proofs.YtgnmollbnopigaaGreat
/- From the walk of a law to its row: a law that returns true and leaves what was there as it was. -/
namespace Go.Proofs.YtgnmollbnopigaaGreat
open Go.ChangeShapes Go.WideShapes Go.ChangeAt Go.RowKit
theorem own_knob : ownKnob Tryz.prog.godebug = none := by kernel_rfl
theorem laid_out : laidOutB Tryz.prog = true := by kernel_rfl
theorem trodAll_below {H : Type} {enc : TypeId × Value → H} {P : Program} (hl : laidOutB P = true) {W W' : World} (hb : Below W.heap.size W W') :
  ∀ (ts : List TypeId) (vs : List Value) (ds : List (DataW H)) (ps : List MemPlace), (∀ t ∈ ts, P.readableRec t = true ∧ t < P.types.size) → (∀ x ∈ ps, x.block < W.heap.size) →
  DataW.TrodAll enc P W 0 (fun _ => true) true ts vs ds ps → DataW.TrodAll enc P W' 0 (fun b => decide (b < W.heap.size)) true ts vs ds ps
 | [], [], [], _, _, _, h => h
 | t :: ts, v :: vs, d :: ds, ps, hr, hlt, h => by
  obtain ⟨p, q, h1, h2, rfl⟩ := h
  exact ⟨p, q, Below.trod hl (hr t (by simp)).1 (hr t (by simp)).2 h1 hb (fun x hx => hlt x (by simp [hx])),
   trodAll_below hl hb ts vs ds q (fun t ht => hr t (by simp [ht])) (fun x hx => hlt x (by simp [hx])) h2, rfl⟩
 | [], [], _ :: _, _, _, _, h => h.elim
 | [], _ :: _, _, _, _, _, h => h.elim
 | _ :: _, [], _, _, _, _, h => h.elim
 | _ :: _, _ :: _, [], _, _, _, h => h.elim
theorem law_post {H : Type} {enc : TypeId × Value → H} {P : Program} {f : Func} {s : ChangeSpec} {W W' : World} {args : Array Value} {ds gs : List (DataW H)} {before : List MemPlace} {tb : TypeId}
  (hvars : s.vars = []) (hW : DataW.Whole enc P f.params.toList s.vars false W args.toList ds gs before)
  (hfn : s.fn H (ds ++ gs) = { results := [.lit (.bool true)], args := ds }) (hl : laidOutB P = true) (hr : ∀ t ∈ f.params.toList, P.readableRec t = true ∧ t < P.types.size)
  (hrt : f.resultTypes = #[tb]) (htb : P.underlying tb = some .bool) (hb : Below W.heap.size W W') :
  s.post enc P f false true false false W args (.bool true) W' := by
 have hW' := hW
 have hlt : ∀ p ∈ before, p.block < W.heap.size := fun p hp => hW.lt p hp
 obtain ⟨p, q, hA, hV, rfl, hfz, hnd⟩ := hW
 rw [hvars] at hV
 obtain ⟨rfl, rfl⟩ := trodVars_none hV
 refine ⟨ds, [], p ++ [], [], p, [], hW', ?_, ?_, ?_, hb.frame _, fun h => by cases h⟩
 ·rw [hfn, hrt]
  exact trodAll_cons_mk (shut_bool htb _) trodAll_mk0
 ·rw [hfn]
  exact trodAll_below hl hb _ _ _ _ hr (fun x hx => hlt x (by simp [hx])) hA
 ·rw [hfn, hvars]; rfl
end Go.Proofs.YtgnmollbnopigaaGreat
/- From the row's reading of an argument to the words of Mem: texts, lists of texts, lists of numbers, structs. -/
namespace Go.Proofs.YtgnmollbnopigaaGreat
open Go.ChangeShapes Go.WideShapes Go.ChangeAt Go.RowKit
theorem block_of_cell {w : World} {a : Addr} {v : Value} (h : w.cell? a = some v) : a.block < w.heap.size ∧ a.spot = none := by
 unfold World.cell? at h
 split at h
 ·rename_i c t f heq
  constructor
  ·rcases Nat.lt_or_ge a.block w.heap.size with hlt | hge
   ·exact hlt
   ·rw [Array.getElem?_eq_none hge] at heq; cases heq
  ·split at h
   ·cases h
   ·rename_i hs; simpa using hs
 ·cases h
section
variable {H : Type} {enc : TypeId × Value → H} {P : Program} {w : World} {base : Nat} {held : Bool}
theorem open_str {t : TypeId} {fuel : Nat} {cs : List Value} {x : DataW H × List MemPlace} (ht : P.underlying t = some .string) (h : DataW.trod enc P w base (fun _ => true) held fuel t cs = some x) :
  ∃ s : ByteArray, cs = [.string s] ∧ s.size ≤ 9223372036854775807 := by
 obtain ⟨s, h1, _, h2⟩ := DataW.trod_string ht h
 exact ⟨s, h1, by unfold maxLen at h2; exact h2⟩
theorem open_i64 {t : TypeId} {fuel : Nat} {cs : List Value} {x : DataW H × List MemPlace} (ht : P.underlying t = some (.int .i64)) (h : DataW.trod enc P w base (fun _ => true) held fuel t cs = some x) :
  ∃ n : Int, cs = [.int .i64 n] ∧ -9223372036854775808 ≤ n ∧ n ≤ 9223372036854775807 := by
 obtain ⟨n, h1, _, h2⟩ := DataW.trod_int ht h
 refine ⟨n, h1, ?_⟩
 simp [Lit.wf, IntKind.min, IntKind.max, IntKind.signed, IntKind.bits] at h2
 exact ⟨by omega, by omega⟩
end
end Go.Proofs.YtgnmollbnopigaaGreat
/- A field of a struct that came in; how many cells the plain types have. -/
namespace Go.Proofs.YtgnmollbnopigaaGreat
open Go.ChangeShapes Go.WideShapes Go.ChangeAt Go.RowKit
theorem field_of {H : Type} {enc : TypeId × Value → H} {P : Program} {w : World} {base : Nat} {spare : Nat → Bool} {held : Bool} {n : Nat} {cs : List Value} {xs : List (DataW H × List MemPlace)} {fs : Array Field} {l : List (TypeId × Nat)}
  (hl : fs.toList.map (fun f => (f.type, f.offset)) = l) (hx : xs.length = fs.size)
  (hg : ∀ (i : Nat) (f : Field), fs[i]? = some f → DataW.trod enc P w base spare held n f.type ((cs.drop f.offset).take (P.cellsOf f.type)) = xs[i]?) (i : Nat) (t : TypeId) (o : Nat) (hi : l[i]? = some (t, o)) :
  ∃ y, DataW.trod enc P w base spare held n t ((cs.drop o).take (P.cellsOf t)) = some y := by
 rw [← hl, List.getElem?_map] at hi
 cases hf : fs.toList[i]? with
 | none => rw [hf] at hi; cases hi
 | some f =>
  rw [hf] at hi
  simp only [Option.map_some, Option.some.injEq, Prod.mk.injEq] at hi
  obtain ⟨rfl, rfl⟩ := hi
  have hf' : fs[i]? = some f := by rw [← hf, Array.getElem?_toList]
  have := hg i f hf'
  have hlt : i < xs.length := by
   rw [hx]
   rcases Nat.lt_or_ge i fs.size with h | h
   ·exact h
   ·rw [Array.getElem?_eq_none h] at hf'; cases hf'
  exact ⟨_, this.trans (List.getElem?_eq_getElem hlt)⟩
end Go.Proofs.YtgnmollbnopigaaGreat
