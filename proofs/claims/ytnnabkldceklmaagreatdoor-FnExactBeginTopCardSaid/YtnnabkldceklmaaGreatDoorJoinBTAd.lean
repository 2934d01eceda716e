/- Words for the walk of a law: facts that lie in a range of blocks, and how they are kept. Over any program. -/
import Derived.Test.YtnnabkldceklmaaGreatDoorJoinBTAb
import Derived.Test.YtnnabkldceklmaaGreatDoorJoinBTAc
import Derived.Test.YtnnabkldceklmaaGreatDoorShelfM
set_option maxHeartbeats 16000000
set_option maxRecDepth 100000
namespace Go.Proofs.YtnnabkldceklmaaGreatDoor
open Go.RowKit
structure Within (lo hi : Nat) (w w' : World) : Prop where
 os : w'.os = w.os
 tape : w'.tape = w.tape
 output : w'.output = w.output
 size : w.heap.size ≤ w'.heap.size
 block : ∀ k, k < w.heap.size → (k < lo ∨ hi ≤ k) → w'.heap[k]? = w.heap[k]?
theorem Within.below {lo hi : Nat} {w w' : World} (h : Within lo hi w w') (hlo : lo ≤ w.heap.size) : Below lo w w' := ⟨h.os, h.tape, h.output, h.size, fun k hk => h.block k (by omega) (.inl hk)⟩
theorem Within.of_grown {w w' : World} {row : Option Nat} {lo hi : Nat} (hg : w.grownBy w' row) (hr : ∀ g, row = some g → lo ≤ g ∧ g < hi) : Within lo hi w w' :=
 ⟨hg.os, hg.tape, hg.output, hg.size, fun k hk h => hg.block k hk (fun e => by have := hr k e.symm; omega)⟩
theorem Within.trans {lo hi : Nat} {w w1 w2 : World} (h : Within lo hi w w1) (k : Within lo hi w1 w2) : Within lo hi w w2 :=
 ⟨k.os.trans h.os, k.tape.trans h.tape, k.output.trans h.output, Nat.le_trans h.size k.size, fun i hi h' => (k.block i (Nat.lt_of_lt_of_le hi h.size) h').trans (h.block i hi h')⟩
theorem Within.more {lo hi lo' hi' : Nat} {w w' : World} (h : Within lo hi w w') (h1 : lo' ≤ lo) (h2 : hi ≤ hi') : Within lo' hi' w w' :=
 ⟨h.os, h.tape, h.output, h.size, fun k hk hd => h.block k hk (by omega)⟩
def Loc (lo hi : Nat) (F : World → Prop) : Prop := ∀ w w' : World, (∀ b, lo ≤ b → b < hi → w'.heap[b]? = w.heap[b]?) → F w → F w'
theorem loc_blk (g : Nat) (t : TypeId) (cs : Array Value) : Loc g (g + 1) (fun w => Blk w g t cs) := fun _ _ hk h => (hk g (Nat.le_refl _) (by omega)).trans h
abbrev Facts := List (Nat × Nat × (World → Prop))
def Stand (w0 : World) (Fs : Facts) (w : World) : Prop := Below w0.heap.size w0 w ∧ ∀ f ∈ Fs, Loc f.1 f.2.1 f.2.2 ∧ f.2.1 ≤ w.heap.size ∧ f.2.2 w
section
variable {w0 w w' : World} {Fs : Facts}
theorem Stand.nil (w : World) : Stand w [] w := ⟨Below.refl _ _, fun f hf => by simp at hf⟩
theorem Stand.below (h : Stand w0 Fs w) (hb : Below w.heap.size w w') : Stand w0 Fs w' := ⟨h.1.trans (hb.mono h.1.size), fun f hf => by
 obtain ⟨h1, h2, h3⟩ := h.2 f hf
 exact ⟨h1, Nat.le_trans h2 hb.size, h1 w w' (fun b _ hb' => hb.block b (by omega)) h3⟩⟩
theorem Stand.alloc (h : Stand w0 Fs w) (o : Obj) : Stand w0 Fs (w.alloc o) := h.below ((Below.refl _ _).alloc (Nat.le_refl _) o)
theorem Stand.drew (h : Stand w0 Fs w) : Stand w0 Fs w.drew := h.below (below_drewN' w 1)
theorem Stand.within {a b : Nat} (h : Stand w0 Fs w) (hw : Within a b w w') (h0 : w0.heap.size ≤ a) (hd : ∀ f ∈ Fs, f.2.1 ≤ a ∨ b ≤ f.1) : Stand w0 Fs w' :=
 ⟨h.1.trans ⟨hw.os, hw.tape, hw.output, hw.size, fun k hk => hw.block k (by have := h.1.size; omega) (.inl (by omega))⟩, fun f hf => by
  obtain ⟨h1, h2, h3⟩ := h.2 f hf
  have := hd f hf
  exact ⟨h1, Nat.le_trans h2 hw.size, h1 w w' (fun k hk1 hk2 => hw.block k (by omega) (by omega)) h3⟩⟩
theorem Stand.add (h : Stand w0 Fs w) (lo hi : Nat) (F : World → Prop) (L : Loc lo hi F) (hh : hi ≤ w.heap.size) (hF : F w) : Stand w0 ((lo, hi, F) :: Fs) w := ⟨h.1, fun f hf => by
 rcases List.mem_cons.1 hf with rfl | hf
 ·exact ⟨L, hh, hF⟩
 ·exact h.2 f hf⟩
theorem Stand.get (h : Stand w0 Fs w) (i : Nat) {lo hi : Nat} {F : World → Prop} (hi' : Fs[i]? = some (lo, hi, F)) : F w :=
 (h.2 (lo, hi, F) (List.mem_of_getElem? hi')).2.2
theorem Stand.le (h : Stand w0 Fs w) (i : Nat) {lo hi : Nat} {F : World → Prop} (hi' : Fs[i]? = some (lo, hi, F)) : hi ≤ w.heap.size :=
 (h.2 (lo, hi, F) (List.mem_of_getElem? hi')).2.1
theorem Stand.only (h : Stand w0 Fs w) (ks : List Nat) : Stand w0 (ks.filterMap (Fs[·]?)) w := ⟨h.1, fun f hf => by
 obtain ⟨k, _, hk⟩ := List.mem_filterMap.1 hf
 exact h.2 f (List.mem_of_getElem? hk)⟩
theorem Stand.box (h : Stand w0 Fs w) (t : TypeId) (cs : Array Value) : Stand w0 ((w.heap.size, w.heap.size + 1, fun W => Blk W w.heap.size t cs) :: Fs) (w.alloc (.cells cs t)) :=
 (h.alloc _).add _ _ _ (loc_blk _ _ _) (by simp) (Blk.new w t cs)
end
end Go.Proofs.YtnnabkldceklmaaGreatDoor
/- Marks of an operation of two sites: rows of texts and of numbers. -/
namespace Go.Proofs.YtnnabkldceklmaaGreatDoor
open Go.RowKit
def marksI (k n : Nat) : List Int := (List.range n).map fun i => ((k + i : Nat) : Int)
def markedI (k j : Nat) (xs : List Int) : List Int := marksI k j ++ xs.drop j
theorem marksI_len (k n : Nat) : (marksI k n).length = n := by simp [marksI]
theorem markedI_zero (k : Nat) (xs : List Int) : markedI k 0 xs = xs := by simp [markedI, marksI]
theorem markedI_all (k n : Nat) (xs : List Int) (h : xs.length = n) : markedI k n xs = marksI k n := by simp [markedI, ← h]
theorem markedI_succ (k j : Nat) (xs : List Int) (h : j < xs.length) : (markedI k j xs).set j ((k + j : Nat) : Int) = markedI k (j + 1) xs := by
 unfold markedI
 rw [List.set_append, if_neg (by rw [marksI_len]; omega), marksI_len, Nat.sub_self, List.drop_eq_getElem_cons h, List.set_cons_zero]
 simp [marksI, List.range_succ]
theorem markInt64S_any (base : Nat) (A : Option Addr) (n c k : Nat) (xs : List Int) (w : World) (h : w.ownsRow base 2 1 (.slice A n c) n (xs.map (Value.int .i64)))
  (h1 : 1 ≤ k) (h2 : k + n ≤ 4294967296) :
  Calls Tryz.prog 63 #[.slice A n c, .int .i64 k] w fun e w' => e = .returned (.int .i64 (k + n : Nat)) ∧
   w'.ownsRow base 2 1 (.slice A n c) n ((marksI k n).map (Value.int .i64)) ∧ w.grownBy w' (Value.slice A n c).ownBlock := by
 have hl : xs.length = n := by have := h.1; simpa using this
 go_enter Tryz.func63, Tryz.ntmps63
 go_wp2
 go_loopw [1, 5] (fun s i wr => ∃ j : Nat, j ≤ n ∧ i = .int .i64 j ∧ s = .int .i64 (k + j : Nat) ∧ wr.ownsRow base 2 1 (.slice A n c) n ((markedI k j xs).map (Value.int .i64)) ∧ w.grownBy wr (Value.slice A n c).ownBlock) (fun _ i _ => n - (intOf i).toNat)
 case atStart => exact ⟨0, Nat.zero_le _, rfl, rfl, by rw [markedI_zero]; exact h, World.grownBy.refl _ _⟩
 case round =>
  obtain ⟨j, hj, rfl, rfl, hown, hgr⟩ := hrel
  by_cases hlt : j < n
  ·obtain ⟨g, rfl, hbg, hglt⟩ := own_head hown (by omega)
   have hc := hown.cellAt j (by omega)
   have hf := hown.frozenAt j
   rw [List.getElem?_map, List.getElem?_eq_getElem (by simp [markedI, marksI_len]; omega)] at hc
   simp only [Option.map_some] at hc
   have hst := hown.stored j (.int .i64 ((k : Int) + (j : Int)))
   have hj1 : (j : Int) < (n : Int) := by omega
   clear hown h
   go_wp2
   go_roundw
   case rel =>
    refine ⟨j + 1, by omega, by go_num, by go_num, ?_, grown_trans' hgr hst.2⟩
    rw [← markedI_succ k j xs (by omega), List.map_set, Int.natCast_add]
    exact hst.1
   case measure => simp [intOf]; omega
  ·go_wp2
   go_ret
   obtain rfl : j = n := by omega
   exact ⟨rfl, by rw [markedI_all k j xs hl] at hown; exact hown, hgr⟩
theorem heldInt64S_any (A : Option Addr) (n c k lo hi : Nat) (w : World) (h : IntR w lo hi A n (marksI k n)) (_ : hi ≤ w.heap.size)
  (h1 : 1 ≤ k) (h2 : k + n ≤ 4294967296) :
  Calls Tryz.prog 68 #[.slice A n c, .int .i64 k] w fun e w' => e = .returned (.int .i64 (k + n : Nat)) ∧ Below w.heap.size w w' := by
 go_enter Tryz.func68, Tryz.ntmps68
 go_wp2
 go_loop [1, 5] (fun s i => ∃ j : Nat, j ≤ n ∧ i = .int .i64 j ∧ s = .int .i64 (k + j : Nat)) (fun _ i => n - (intOf i).toNat)
 case atStart => exact ⟨0, Nat.zero_le _, rfl, rfl⟩
 case round =>
  obtain ⟨j, hj, rfl, rfl⟩ := hrel
  by_cases hlt : j < n
  ·obtain ⟨b, off, rfl, _, hblt, hc⟩ := h.at_ hlt
   have hg : (marksI k n).getD j 0 = ((k + j : Nat) : Int) := by simp [marksI, List.getD_eq_getElem?_getD, hlt]
   rw [hg] at hc
   clear hg
   have hi1 : (j : Int) < (n : Int) := by omega
   have hne : (((k + j : Nat) : Int) == ((k + j : Nat) : Int)) = true := by simp
   go_wp2_with fail
   go_round
   case rel => exact ⟨j + 1, by omega, by go_num, by go_num⟩
   case measure => simp [intOf]; omega
  ·go_wp2
   go_ret
   obtain rfl : j = n := by omega
   exact ⟨rfl, Below.refl _ _⟩
end Go.Proofs.YtnnabkldceklmaaGreatDoor
/- Nodes: their values; walks of szNode, toNode, eqNode. -/
namespace Go.Proofs.YtnnabkldceklmaaGreatDoor
open Go.RowKit
structure Nod where
 name : ByteArray
 subs : List ByteArray
 value : ByteArray
def NodR (w : World) (lo hi : Nat) (v : Value) (x : Nod) : Prop :=
 ∃ A c, v = .agg #[.string x.name, .slice A x.subs.length c, .string x.value] ∧ StrR w lo hi A x.subs.length x.subs
theorem NodR.keep {w w' : World} {lo hi : Nat} {v : Value} {x : Nod} (h : NodR w lo hi v x) (hk : ∀ b, lo ≤ b → b < hi → w'.heap[b]? = w.heap[b]?) : NodR w' lo hi v x := by
 obtain ⟨A, c, hv, h1⟩ := h
 exact ⟨A, c, hv, h1.keep hk⟩
theorem NodR.below {w w' : World} {lo hi B : Nat} {v : Value} {x : Nod} (h : NodR w lo hi v x) (hb : Below B w w') (hB : hi ≤ B) : NodR w' lo hi v x :=
 h.keep fun b _ h2 => hb.block b (by omega)
theorem NodR.more {w : World} {lo hi lo' hi' : Nat} {v : Value} {x : Nod} (h : NodR w lo hi v x) (h1 : lo' ≤ lo) (h2 : hi ≤ hi') : NodR w lo' hi' v x := by
 obtain ⟨A, c, hv, h3⟩ := h
 exact ⟨A, c, hv, h3.more h1 h2⟩
theorem NodR.of_own {w : World} {base : Nat} {x : Nod} {A : Option Addr} {c : Nat} (h : w.ownsRow base 9 1 (.slice A x.subs.length c) x.subs.length (x.subs.map Value.string)) :
  NodR w base w.heap.size (.agg #[.string x.name, .slice A x.subs.length c, .string x.value]) x := ⟨A, c, rfl, StrR.of_own h⟩
end Go.Proofs.YtnnabkldceklmaaGreatDoor
/- What says that a node is right: walks of both. -/
namespace Go.Proofs.YtnnabkldceklmaaGreatDoor
open Go.RowKit Go.Shelf
def subB (x : ByteArray) : Bool := decide (1 ≤ x.size) && decide (x.size ≤ 24)
def subsB (l : List ByteArray) : Bool := decide (l.length ≤ 4) && l.all subB
theorem all_take_next {α : Type} (p : α → Bool) (d : α) (l : List α) (k : Nat) (h : k < l.length) : (l.take (k + 1)).all p = ((l.take k).all p && p (l.getD k d)) := by
 rw [List.take_succ_eq_append_getElem h, List.all_append, List.getD_eq_getElem?_getD, List.getElem?_eq_getElem h]
 simp
theorem all_no_at {α : Type} (p : α → Bool) (d : α) (l : List α) (k : Nat) (h : k < l.length) (hp : p (l.getD k d) = false) : l.all p = false := by
 rw [List.all_eq_false]
 refine ⟨l.getD k d, ?_, by rw [hp]; simp⟩
 rw [List.getD_eq_getElem?_getD, List.getElem?_eq_getElem h]
 exact List.getElem_mem _
theorem subB_cases (x : ByteArray) : (x.size = 0 ∧ subB x = false) ∨ (1 ≤ x.size ∧ x.size ≤ 24 ∧ subB x = true) ∨ (1 ≤ x.size ∧ ¬ x.size ≤ 24 ∧ subB x = false) := by
 unfold subB
 by_cases h1 : 1 ≤ x.size
 ·by_cases h2 : x.size ≤ 24
  ·right; left; exact ⟨h1, h2, by rw [decide_eq_true h1, decide_eq_true h2]; rfl⟩
  ·right; right; exact ⟨h1, h2, by rw [decide_eq_false h2, Bool.and_false]⟩
 ·left; exact ⟨by omega, by rw [decide_eq_false h1]; rfl⟩
theorem l02Sub_any (x : ByteArray) (w : World) : Calls Tryz.prog 237 #[.string x] w fun e w' => e = .returned (.bool (subB x)) ∧ w = w' := by
 rcases subB_cases x with ⟨h1, hb⟩ | ⟨h1, h2, hb⟩ | ⟨h1, h2, hb⟩
 ·have i1 : ¬ (1 : Int) ≤ (x.size : Int) := by omega
  have HB := hd_ hb; clear hb
  have HH := hd_ h1; clear h1
  go_enter Tryz.func237, Tryz.ntmps237
  go_wp2_with fail
  go_ret
  exact ⟨by rw [HB.out]; rfl, rfl⟩
 ·have i1 : (1 : Int) ≤ (x.size : Int) := by omega
  have i2 : (x.size : Int) ≤ 24 := by omega
  have HB := hd_ hb; clear hb
  go_enter Tryz.func237, Tryz.ntmps237
  go_wp2_with fail
  go_ret
  exact ⟨by rw [HB.out]; rfl, rfl⟩
 ·have i1 : (1 : Int) ≤ (x.size : Int) := by omega
  have i2 : ¬ (x.size : Int) ≤ 24 := by omega
  have HB := hd_ hb; clear hb
  go_enter Tryz.func237, Tryz.ntmps237
  go_wp2_with fail
  go_ret
  exact ⟨by rw [HB.out]; rfl, rfl⟩
theorem implSubOk_any (x : ByteArray) (w : World) : Calls Tryz.prog 258 #[.string x] w fun e w' => e = .returned (.bool (subB x)) ∧ w = w' := by
 rcases subB_cases x with ⟨h1, hb⟩ | ⟨h1, h2, hb⟩ | ⟨h1, h2, hb⟩
 ·have i1 : ¬ (1 : Int) ≤ (x.size : Int) := by omega
  have HB := hd_ hb; clear hb
  have HH := hd_ h1; clear h1
  go_enter Tryz.func258, Tryz.ntmps258
  go_wp2_with fail
  go_ret
  exact ⟨by rw [HB.out]; rfl, rfl⟩
 ·have i1 : (1 : Int) ≤ (x.size : Int) := by omega
  have i2 : (x.size : Int) ≤ 24 := by omega
  have HB := hd_ hb; clear hb
  go_enter Tryz.func258, Tryz.ntmps258
  go_wp2_with fail
  go_ret
  exact ⟨by rw [HB.out]; rfl, rfl⟩
 ·have i1 : (1 : Int) ≤ (x.size : Int) := by omega
  have i2 : ¬ (x.size : Int) ≤ 24 := by omega
  have HB := hd_ hb; clear hb
  go_enter Tryz.func258, Tryz.ntmps258
  go_wp2_with fail
  go_ret
  exact ⟨by rw [HB.out]; rfl, rfl⟩
theorem l02Subs_any (A : Option Addr) (n c lo hi : Nat) (xs : List ByteArray) (w : World) (ha : StrR w lo hi A n xs) (hn : n ≤ 1048576) :
  Calls Tryz.prog 223 #[.slice A n c] w fun e w' => e = .returned (.bool (subsB xs)) ∧ w = w' := by
 have hl := ha.1
 by_cases hfit : n ≤ 4
 ·have hd : ¬ ((4 : Int) < (n : Int)) := by omega
  go_enter Tryz.func223, Tryz.ntmps223
  have HL := hd_ hl; clear hl
  go_wp2_with fail
  go_loop [3] (fun i => ∃ k : Nat, k ≤ n ∧ i = .int .i64 k ∧ (xs.take k).all subB = true) (fun i => n - (intOf i).toNat)
  case atStart => exact ⟨0, Nat.zero_le _, rfl, rfl⟩
  case round =>
   obtain ⟨k, hk, rfl, ht⟩ := hrel
   have HT := hd_ ht; clear ht
   by_cases hlt : k < n
   ·obtain ⟨b, off, rfl, _, _, hcell⟩ := ha.at_ hlt
    have hkl : k < xs.length := by rw [HL.out]; exact hlt
    have HS := hd_ (all_take_next subB ByteArray.empty xs k hkl)
    have HF := hd_ (all_no_at subB ByteArray.empty xs k hkl)
    generalize xs.getD k ByteArray.empty = X at *
    have HC := hd_ (fun W => l02Sub_any X W)
    clear ha
    cases hX : subB X
    ·rw [hX] at HC
     have HX := hd_ hX; clear hX
     go_wp2_with fail
     refine (HC.out _).mono ?_; rintro e1 w1 ⟨rfl, rfl⟩
     go_wp2_with fail
     go_ret
     refine ⟨?_, rfl⟩
     unfold subsB
     rw [HF.out HX.out, Bool.and_false]
     rfl
    ·rw [hX] at HC
     have HX := hd_ hX; clear hX
     go_wp2_with fail
     refine (HC.out _).mono ?_; rintro e1 w1 ⟨rfl, rfl⟩
     go_wp2_with fail
     go_round
     case rel => exact ⟨k + 1, by omega, by go_num, by rw [HS.out, HT.out, HX.out]; rfl⟩
     case measure => simp [intOf]; omega
   ·go_wp2_with fail
    go_ret
    obtain rfl : k = n := by omega
    refine ⟨?_, rfl⟩
    have h1 := HT.out
    rw [List.take_of_length_le (by rw [HL.out]; omega)] at h1
    unfold subsB
    rw [h1, HL.out, decide_eq_true hfit]
    rfl
 ·have hd : (4 : Int) < (n : Int) := by omega
  go_enter Tryz.func223, Tryz.ntmps223
  go_wp2_with fail
  go_ret
  refine ⟨?_, rfl⟩
  unfold subsB
  rw [hl, decide_eq_false hfit]
  rfl
theorem specSubsOk_any (A : Option Addr) (n c lo hi : Nat) (xs : List ByteArray) (w : World) (ha : StrR w lo hi A n xs) (hn : n ≤ 1048576) :
  Calls Tryz.prog 226 #[.slice A n c] w fun e w' => e = .returned (.bool (subsB xs)) ∧ w = w' := by
 have HC := hd_ (l02Subs_any A n c lo hi xs w ha hn)
 go_enter Tryz.func226, Tryz.ntmps226
 go_wp2_with fail
 refine HC.out.mono ?_; rintro e1 w1 ⟨rfl, rfl⟩
 go_wp2_with fail
 go_ret
 exact ⟨rfl, rfl⟩
theorem specPlace_any (name : ByteArray) (A : Option Addr) (n c lo hi : Nat) (xs : List ByteArray) (w : World) (hs : name.size ≤ 9223372036854775807) (ha : StrR w lo hi A n xs) (hn : n ≤ 1048576) :
  Calls Tryz.prog 212 #[.string name, .slice A n c] w fun e w' => e = .returned (.bool (nameB name && subsB xs)) ∧ w = w' := by
 have HN := hd_ (specNameOk_any name w hs)
 have HC := hd_ (specSubsOk_any A n c lo hi xs w ha hn)
 clear ha
 generalize subsB xs = S at *
 cases hB : nameB name
 ·rw [hB] at HN
  clear hB
  go_enter Tryz.func212, Tryz.ntmps212
  go_wp2_with fail
  refine HN.out.mono ?_; rintro e1 w1 ⟨rfl, rfl⟩
  go_wp2_with fail
  go_ret
  exact ⟨rfl, rfl⟩
 ·rw [hB] at HN
  clear hB
  go_enter Tryz.func212, Tryz.ntmps212
  go_wp2_with fail
  refine HN.out.mono ?_; rintro e1 w1 ⟨rfl, rfl⟩
  go_wp2_with fail
  refine HC.out.mono ?_; rintro e1 w1 ⟨rfl, rfl⟩
  go_wp2_with fail
  go_ret
  exact ⟨rfl, rfl⟩
theorem subsOk1_pays (w : World) : PredAt Tryz.prog 257 #[] Value.string (fun x : ByteArray => !subB x) w := by
 intro W x hb
 unfold FnGives
 have HC := hd_ (fun W => implSubOk_any x W)
 dsimp only
 cases h : subB x
 ·rw [h] at HC
  clear h
  go_enter Tryz.func257, Tryz.ntmps257
  go_wp2_with fail
  refine (HC.out _).mono ?_; rintro e1 w1 ⟨rfl, rfl⟩
  go_wp2_with fail
  go_ret
  exact ⟨rfl, 0, rfl⟩
 ·rw [h] at HC
  clear h
  go_enter Tryz.func257, Tryz.ntmps257
  go_wp2_with fail
  refine (HC.out _).mono ?_; rintro e1 w1 ⟨rfl, rfl⟩
  go_wp2_with fail
  go_ret
  exact ⟨rfl, 0, rfl⟩
theorem any_not_all (xs : List ByteArray) : (xs.any fun x => !subB x) = !xs.all subB := by
 induction xs with
 | nil => rfl
 | cons x xs ih => simp only [List.any_cons, List.all_cons, ih, Bool.not_and]
theorem implSubsOk_any (A : Option Addr) (n c lo hi : Nat) (xs : List ByteArray) (w : World) (ha : StrR w lo hi A n xs) (hn : n ≤ 1048576) :
  Calls Tryz.prog 243 #[.slice A n c] w fun e w' => e = .returned (.bool (subsB xs)) ∧ ∃ q, w' = w.drewN q := by
 have hl := ha.1
 subst hl
 by_cases hfit : xs.length ≤ 4
 ·have hd : (xs.length : Int) ≤ 4 := by omega
  have HR := hd_ (show subsB xs = !(xs.any fun x => !subB x) by unfold subsB; rw [decide_eq_true hfit, any_not_all]; simp)
  by_cases h0 : 0 < xs.length
  ·obtain ⟨b, off, rfl, _, _, hc⟩ := ha.2 h0
   have HC := hd_ (fun (W : World) (hW : ∀ j, j < xs.length → W.cell? ⟨b, off + j, none⟩ = some (Value.string (xs.getD j ByteArray.empty))) =>
    Tryz.slices_ContainsFunc Value.string (fun x : ByteArray => !subB x) 257 #[] (enters_of Tryz.func257 (by kernel_rfl) rfl) b off xs.length c xs W (subsOk1_pays W) (Nat.le_refl _) (by omega)
     (fun j hj => by rw [hW j hj, List.getD_eq_getElem?_getD, List.getElem?_eq_getElem hj]; simp [hj]))
   clear ha
   have HH := hd_ hc; clear hc
   rw [HR.out]
   go_enter Tryz.func243, Tryz.ntmps243
   go_wp2_with fail
   refine (HC.out _ HH.out).mono ?_
   rintro e w1 ⟨rfl, q, rfl⟩
   go_wp2_with fail
   go_ret
   exact ⟨rfl, q, rfl⟩
  ·have hx : xs = [] := List.eq_nil_of_length_eq_zero (by omega)
   subst hx
   have HC := hd_ (Tryz.slices_ContainsFunc_empty (α := ByteArray) A c (.func (.func 257) #[] #[]) w)
   clear ha h0
   go_enter Tryz.func243, Tryz.ntmps243
   go_wp2_with fail
   refine HC.out.mono ?_
   rintro e w1 ⟨rfl, rfl⟩
   go_wp2_with fail
   go_ret
   exact ⟨rfl, 0, rfl⟩
 ·have hd : ¬ (xs.length : Int) ≤ 4 := by omega
  have HR := hd_ (show subsB xs = false by unfold subsB; rw [decide_eq_false hfit]; rfl)
  rw [HR.out]
  clear ha
  go_enter Tryz.func243, Tryz.ntmps243
  go_wp2_with fail
  go_ret
  exact ⟨rfl, 0, rfl⟩
end Go.Proofs.YtnnabkldceklmaaGreatDoor
