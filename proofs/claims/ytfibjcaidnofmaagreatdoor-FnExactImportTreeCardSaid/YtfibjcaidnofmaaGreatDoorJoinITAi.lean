/- An operation of a site: its plain form, and how its value lies in memory. -/
import Derived.Test.YtfibjcaidnofmaaGreatDoorJoinITAa
import Derived.Test.YtfibjcaidnofmaaGreatDoorJoinITAf
import Derived.Test.YtfibjcaidnofmaaGreatDoorJoinITAg
import Derived.StillTailTactics
import Derived.Deep.RegionHeld3
import Derived.Test.YtfibjcaidnofmaaGreatDoorShelfM
import Derived.Test.YtfibjcaidnofmaaGreatDoorShelfB
import Derived.Shelf.Strings.BuilderK
namespace Go.Proofs.YtfibjcaidnofmaaGreatDoor
open Go.RowKit

structure Act where
  k : Int
  a : Int
  r : ByteArray
  l : ByteArray
  args : List ByteArray
  input : List ByteArray
  keep : List Int

/-- The value of an operation of a site, and where its lists lie. -/
def ActR (w : World) (lo hi : Nat) (v : Value) (x : Act) : Prop :=
  ∃ A c B d C e, v = .agg #[.int .i64 x.k, .int .i64 x.a, .string x.r, .string x.l, .slice A x.args.length c, .slice B x.input.length d, .slice C x.keep.length e] ∧
    StrR w lo hi A x.args.length x.args ∧ StrR w lo hi B x.input.length x.input ∧ IntR w lo hi C x.keep.length x.keep

theorem ActR.below {w w' : World} {lo hi B : Nat} {v : Value} {x : Act} (h : ActR w lo hi v x) (hb : Below B w w') (hB : hi ≤ B) : ActR w' lo hi v x := by
  obtain ⟨A, c, B', d, C, e, hv, h1, h2, h3⟩ := h
  exact ⟨A, c, B', d, C, e, hv, h1.below hb hB, h2.below hb hB, h3.below hb hB⟩


end Go.Proofs.YtfibjcaidnofmaaGreatDoor

/- Walks: toSiteAct, szSiteAct, eqSiteAct. -/
namespace Go.Proofs.YtfibjcaidnofmaaGreatDoor
open Go.RowKit
end Go.Proofs.YtfibjcaidnofmaaGreatDoor

/- Shapes of texts, numbers, truth values; the walks of the slices of texts and numbers in these words. -/
namespace Go.Proofs.YtfibjcaidnofmaaGreatDoor
open Go.RowKit

abbrev shS : Sh ByteArray := Sh.one Value.string ByteArray.empty markT ByteArray.size (fun _ => rfl)
section
variable {α : Type} {enc : α → Value} {d : α} {m : Nat → α} {co : α → Nat} {h1 : ∀ x, (enc x).oneCell' = true} {w : World} {lo hi : Nat} {A : Option Addr} {xs : List α} {t : TypeId} {n c : Nat} {F : List Nat}

theorem rowR_of_G (h : RowG (Sh.one enc d m co h1) w lo hi A xs) : RowR enc d w lo hi A xs.length xs :=
  ⟨rfl, fun hn => by
    obtain ⟨b, off, e, a1, a2, hc⟩ := h hn
    refine ⟨b, off, e, a1, a2, fun j hj => ?_⟩
    obtain ⟨us, h3, h4⟩ := hc j hj
    obtain rfl : us = [enc (xs.getD j d)] := h4
    have := h3 0 (by simp)
    simpa [Sh.one] using this⟩
theorem rowG_of_R (h : RowR enc d w lo hi A xs.length xs) : RowG (Sh.one enc d m co h1) w lo hi A xs := fun hn => by
  obtain ⟨b, off, e, a1, a2, hc⟩ := h.2 hn
  refine ⟨b, off, e, a1, a2, fun j hj => ⟨[enc (xs.getD j d)], fun i hi => ?_, rfl⟩⟩
  obtain rfl : i = 0 := by simpa using hi
  have hq := hc j hj
  simp only [Nat.add_zero, Sh.one, Nat.mul_one]
  exact hq
theorem rowR_of (h : (Sh.row t (Sh.one enc d m co h1)).R w lo hi [.slice A n c] xs) : RowR enc d w lo hi A n xs := by
  obtain ⟨A', c', e, h⟩ := h
  injection e with e _
  injection e with e1 e2 e3
  subst e1 e2
  exact rowR_of_G h
theorem of_rowR (h : RowR enc d w lo hi A n xs) : (Sh.row t (Sh.one enc d m co h1)).R w lo hi [.slice A n c] xs := by
  obtain rfl : xs.length = n := h.1
  exact ⟨A, c, rfl, rowG_of_R h⟩

theorem flat_one (xs : List α) (j : Nat) (hj : j < xs.length) : elemAt 1 (xs.map enc) j = [enc (xs.getD j d)] := by
  have h1 : (xs.map enc).length = xs.length * 1 := by simp
  refine elemAt_ext h1 hj rfl fun i hi => ?_
  obtain rfl : i = 0 := by omega
  simp [List.getD_eq_getElem?_getD, hj]
theorem flat_nil (n : Nat) : (List.range n).flatMap (fun _ => ([] : List Nat)) = [] := by
  induction n with
  | zero => rfl
  | succ n ih => rw [List.range_succ, List.flatMap_append, ih]; rfl
theorem ownsRow_base {base : Nat} {size : Nat} {v : Value} {ys : List Value} (h : w.ownsRow base t size v n ys) {base' : Nat} (hb : ∀ g, v.ownBlock = some g → base' ≤ g) : w.ownsRow base' t size v n ys := by
  refine ⟨h.1, ?_⟩
  rcases h.2 with h2 | ⟨g, cap, cur, e, _, r⟩
  · exact .inl h2
  · exact .inr ⟨g, cap, cur, e, hb g (by rw [e]; rfl), r⟩
theorem O_of_own {base : Nat} (h : w.ownsRow base t 1 (.slice A n c) n (xs.map enc)) : (Sh.row t (Sh.one enc d m co h1)).O w (Value.slice A n c).ownBlock.toList [.slice A n c] xs := by
  obtain rfl : xs.length = n := by have := h.1; simpa using this
  exact ⟨A, c, xs.map enc, fun _ => [], rfl, ownsRow_base h (fun _ _ => Nat.zero_le _), by rw [flat_nil, List.append_nil], fun j hj => ⟨rfl, flat_one xs j hj⟩⟩
theorem own_of_O (h : (Sh.row t (Sh.one enc d m co h1)).O w F [.slice A n c] xs) : w.ownsRow 0 t 1 (.slice A n c) n (xs.map enc) ∧ F = (Value.slice A n c).ownBlock.toList := by
  obtain ⟨A', c', cs, Fs, e, ho, eF, hel⟩ := h
  injection e with e _
  injection e with e1 e2 e3
  subst e1 e2 e3
  have hcs : cs = xs.map enc := by
    have hl : cs.length = xs.length := by have := ho.1; simpa [Sh.one] using this
    apply List.ext_getElem?
    intro j
    by_cases hj : j < xs.length
    · have h2 : elemAt 1 cs j = [enc (xs.getD j d)] := (hel j hj).2
      have h3 := elemAt_get (k := 1) (cs := cs) (j := j) (i := 0) (by omega)
      rw [h2] at h3
      simp only [Nat.mul_one, Nat.add_zero] at h3
      rw [← h3]
      simp [List.getD_eq_getElem?_getD, hj]
    · rw [List.getElem?_eq_none (by omega), List.getElem?_eq_none (by simp; omega)]
  subst hcs
  refine ⟨ho, ?_⟩
  rw [eF, flat_congr (Gs := fun _ => []) fun j hj => (hel j hj).1, flat_nil, List.append_nil]
theorem Own_of_own {base hi : Nat} (h : w.ownsRow base t 1 (.slice A n c) n (xs.map enc)) (hh : w.heap.size ≤ hi) : Own (Sh.row t (Sh.one enc d m co h1)) w base hi [.slice A n c] xs := by
  refine ⟨_, O_of_own h, ?_, fun b hb => ?_⟩
  · cases (Value.slice A n c).ownBlock <;> simp
  · have := h.lt b (by simpa using hb)
    omega
theorem Own_of_ownR {base hi : Nat} {v : Value} (h : OwnR enc w base t v xs) (hh : w.heap.size ≤ hi) : ∃ A c, v = .slice A xs.length c ∧ Own (Sh.row t (Sh.one enc d m co h1)) w base hi [.slice A xs.length c] xs := by
  obtain ⟨⟨A, c, rfl⟩, h2⟩ := h
  exact ⟨A, c, rfl, Own_of_own h2 hh⟩
end

theorem Out.of_grown {w w' : World} {row : Option Nat} (h : w.grownBy w' row) : Out row.toList w w' :=
  ⟨h.os, h.tape, h.output, h.size, fun b h1 h2 => h.block b h1 (fun e => h2 (by rw [← e]; simp))⟩

theorem marksFrom_eq (k : Nat) (xs : List ByteArray) : mkAll shS k xs = marksFrom k xs.length := by
  induction xs generalizing k with
  | nil => rfl
  | cons x xs ih =>
    have e : marksFrom k (x :: xs).length = markT k :: marksFrom (k + 1) xs.length := by
      simp only [marksFrom, List.length_cons, List.range_succ_eq_map, List.map_cons, List.map_map, Nat.add_zero]
      rw [show (fun i => markT (k + i)) ∘ Nat.succ = fun i => markT (k + 1 + i) from funext fun i => by show markT (k + (i + 1)) = _; rw [show k + (i + 1) = k + 1 + i by omega]]
    rw [e, mkAll, ih]
    rfl
theorem cntAll_one {α : Type} {enc : α → Value} {d : α} {m : Nat → α} {co : α → Nat} {h1 : ∀ x, (enc x).oneCell' = true} (xs : List α) : cntAll (Sh.one enc d m co h1) xs = xs.length := by
  induction xs with
  | nil => rfl
  | cons x xs ih => simp only [cntAll, List.map_cons, List.sum_cons, List.length_cons] at ih ⊢; rw [ih]; simp [Sh.one]; omega
theorem markText_f (a : Int) (k : Nat) (w : World) (ha : a = (k : Int)) (h1 : 1 ≤ k) (h2 : k ≤ 4294967296) :
    Calls Tryz.prog 114 #[.int .i64 a] w fun e w' => e = .returned (.string (markT k)) ∧ Below w.heap.size w w' := by
  subst ha
  exact markText_any k w h1 h2

theorem eqStringS_f (A B : Option Addr) (c d : Nat) (xs : List ByteArray) (lo hi lo' hi' : Nat) (w : World) (h : (Sh.row 9 shS).R w lo hi [.slice A xs.length c] xs) (h' : (Sh.row 9 shS).R w lo' hi' [.slice B xs.length d] xs) (_ : hi ≤ w.heap.size) (_ : hi' ≤ w.heap.size) (hf : (Sh.row 9 shS).fit 4294967296 xs) :
    Calls Tryz.prog 162 #[.slice A xs.length c, .slice B xs.length d] w fun e w' => e = .returned (.bool true) ∧ Below w.heap.size w w' :=
  (eqStringS_b A B xs.length xs.length c d lo hi lo' hi' xs xs w (rowR_of h) (rowR_of h') hf.1 hf.1).mono fun e w' ⟨e1, e2⟩ => ⟨by rw [e1]; simp, e2⟩
theorem markStringS_f (A : Option Addr) (c k : Nat) (a : Int) (xs : List ByteArray) (F : List Nat) (w : World) (h : (Sh.row 9 shS).O w F [.slice A xs.length c] xs) (_ : F.Nodup) (ha : a = (k : Int)) (h1 : 1 ≤ k) (h2 : k + (Sh.row 9 shS).cnt xs ≤ 4294967000) :
    Calls Tryz.prog 115 #[.slice A xs.length c, .int .i64 a] w fun e w' => ∃ r : Int, e = .returned (.int .i64 r) ∧ r = ((k + (Sh.row 9 shS).cnt xs : Nat) : Int) ∧ (Sh.row 9 shS).O w' F [.slice A xs.length c] ((Sh.row 9 shS).mark k xs) ∧ Out F w w' := by
  subst ha
  obtain ⟨ho, rfl⟩ := own_of_O h
  have hc : (Sh.row 9 shS).cnt xs = xs.length := cntAll_one xs
  rw [hc] at h2 ⊢
  refine (markStringS_any 0 A xs.length c k xs w ho h1 (by omega)).mono fun e w' ⟨e1, e2, e3⟩ => ⟨_, e1, rfl, ?_, Out.of_grown e3⟩
  rw [← marksFrom_eq] at e2
  exact O_of_own e2
theorem heldStringS_f (A : Option Addr) (n c k : Nat) (a : Int) (xs : List ByteArray) (lo hi : Nat) (w : World) (h : (Sh.row 9 shS).R w lo hi [.slice A n c] ((Sh.row 9 shS).mark k xs)) (hn : n = xs.length) (hhi : hi ≤ w.heap.size) (_ : (Sh.row 9 shS).fit 4294967296 xs) (ha : a = (k : Int)) (h1 : 1 ≤ k) (h2 : k + (Sh.row 9 shS).cnt xs ≤ 4294967000) :
    Calls Tryz.prog 116 #[.slice A n c, .int .i64 a] w fun e w' => ∃ r : Int, e = .returned (.int .i64 r) ∧ r = ((k + (Sh.row 9 shS).cnt xs : Nat) : Int) ∧ Below w.heap.size w w' := by
  subst ha hn
  have hc : (Sh.row 9 shS).cnt xs = xs.length := cntAll_one xs
  rw [hc] at h2 ⊢
  have hR := rowR_of h
  rw [show (Sh.row 9 shS).mark k xs = marksFrom k xs.length from marksFrom_eq k xs] at hR
  exact (heldStringS_any A xs.length c k lo hi w hR hhi h1 (by omega)).mono fun e w' ⟨e1, e2⟩ => ⟨_, e1, rfl, e2⟩
end Go.Proofs.YtfibjcaidnofmaaGreatDoor

/- Shapes: stores behind what is owned; a row filled element by element from what a call gave. -/
namespace Go.Proofs.YtfibjcaidnofmaaGreatDoor
open Go.RowKit

section
variable {α : Type} {s : Sh α} {w W : World} {lo hi : Nat} {vs : List Value} {x : α}
theorem Own.setCell (h : Own s w lo hi vs x) {p : Addr} (hp : p.block < lo) (u : Value) : Own s (w.setCell p u) lo hi vs x := h.above ((Above.refl lo w).setCell hp u) (Nat.le_refl _)

theorem Fill.room {t : TypeId} {g : Nat} {cs : Array Value} {Fs : Nat → List Nat} {xs : List α} {j : Nat} (h : Fill s t w g cs Fs xs j) (hj : j < xs.length) : j * s.k + s.k ≤ cs.size := by
  have h1 : (j + 1) * s.k ≤ xs.length * s.k := Nat.mul_le_mul_right _ hj
  rw [Nat.add_mul] at h1
  rw [h.size]; omega
theorem Out.alloc_ (F : List Nat) (w : World) (o : Obj) : Out F w (w.alloc o) := (Out.refl F w).below ((Below.refl w.heap.size w).alloc (Nat.le_refl _) o)
theorem Blk.out_ {w w' : World} {g : Nat} {t : TypeId} {cs : Array Value} {F : List Nat} (h : Blk w g t cs) (ho : Out F w w') (hg : g ∉ F) : Blk w' g t cs := (ho.block g h.lt hg).trans h
end

end Go.Proofs.YtfibjcaidnofmaaGreatDoor

/- Moves of a region that draws its order: an operation whose guard says no is passed over; one that yields is taken first. Over any program. -/
namespace Go.Proofs.YtfibjcaidnofmaaGreatDoor

section
variable {P : Program} {l : List Oper} {Q : Exit → Go.Act → World → Prop} {md : Region.Mode} {S : World → Prop}

theorem held_skip (i d : Nat) {oi : Oper} {fuel : Nat} {listed : Array Bool} {a : Go.Act} {w : World} (hi : l[i]? = some oi) (hs : Region.noSelect l.toArray = true) (hf : Region.free md l.toArray listed i = true)
    (hr : (Region.ready md l.toArray listed).contains i = true) (hd : oi.dst = some d) (hQ : ∀ c (a : Go.Act) v w, Q (.panic c) (a.put (some d) v) w → Q (.panic c) a w)
    (hw : Region.wanted oi (yielded l.toArray a.tmps) = false) (hS : S w) (h : wpAnyH P md l.toArray Q S fuel (listed.setIfInBounds i true) (a.put (some d) undef) w) : wpAnyH P md l.toArray Q S (fuel + 1) listed a w :=
  wpAnyH_take (i := i) (oi := oi) (v := undef) (by simpa using hi) hs hf hr (fun c a w h => hQ c a undef w (hd ▸ h)) (.inr ⟨hw, rfl⟩) hS (hd ▸ h)

theorem held_take (i d : Nat) (v : Value) {oi : Oper} {fuel : Nat} {listed : Array Bool} {a : Go.Act} {w : World} (hi : l[i]? = some oi) (hs : Region.noSelect l.toArray = true) (hf : Region.free md l.toArray listed i = true)
    (hr : (Region.ready md l.toArray listed).contains i = true) (hd : oi.dst = some d) (hQ : ∀ c (a : Go.Act) v w, Q (.panic c) (a.put (some d) v) w → Q (.panic c) a w)
    (hw : Region.wanted oi (yielded l.toArray a.tmps) = true) (hy : ∀ w, S w → (execOp a.eval oi).run P w = .ok (.value v) w) (hS : S w)
    (h : wpAnyH P md l.toArray Q S fuel (listed.setIfInBounds i true) (a.put (some d) v) w) : wpAnyH P md l.toArray Q S (fuel + 1) listed a w :=
  wpAnyH_take (i := i) (oi := oi) (v := v) (by simpa using hi) hs hf hr (fun c a w h => hQ c a v w (hd ▸ h)) (.inl ⟨hw, hy⟩) hS (hd ▸ h)

end

end Go.Proofs.YtfibjcaidnofmaaGreatDoor

/- strings.Builder: WriteByte, WriteString, String, at builders of the call's own. -/
namespace Go.Proofs.YtfibjcaidnofmaaGreatDoor
open Go.RowKit

theorem bld_below {T e : TypeId} {B b : Nat} {bs : List Value} {w w' : World} (h : Lib.IsBuilder T e B b bs w) (hb : Below w.heap.size w w') : Lib.IsBuilder T e B b bs w' := by
  have one : ∀ p, Lib.BuilderAt T e B b p bs w → Lib.BuilderAt T e B b p bs w' := by
    intro p hp
    have hlt := hp.lt
    obtain ⟨h1, v, h2, h3, h4⟩ := hp
    exact ⟨h1, v, (hb.block b hlt).trans h2, own_below h3 hb, h4⟩
  rcases h with h | h
  · exact .inl (one _ h)
  · exact .inr (one _ h)

/-- A builder of the call's own in block b that holds the bytes l; from B on. -/
abbrev Bld (w : World) (b : Nat) (l : List UInt8) : Prop := Lib.IsBuilder 82 5 b b (Lib.byteCells l) w
theorem bld_new (w : World) : Bld (w.alloc (.cells #[.pointer none, .slice none 0 0] 82)) w.heap.size [] := Lib.fresh_isBuilder _ _ w

theorem bldString (b : Nat) (bs : List UInt8) (s : ByteArray) (w : World) (h : Bld w b bs) (hlen : bs.length + s.size ≤ 140737488355328) (hBw : b ≤ w.heap.size) :
    Calls Tryz.prog 58 #[.pointer (some ⟨b, 0, none⟩), .string s] w fun e w' => e = .returned (.tuple #[.int .i64 s.size, .nilIface]) ∧ Bld w' b (bs ++ s.data.toList) ∧ Below b w w' := by
  have H : Calls Tryz.prog 58 #[.pointer (some ⟨b, 0, none⟩), .string s] w fun e w' => e = .returned (.tuple #[.int .i64 s.size, .nilIface]) ∧ (Lib.BuilderAt 82 5 b b (.pointer (some ⟨b, 0, none⟩)) (Lib.byteCells bs ++ Lib.strCells s) w' ∧ Below b w w') :=
    Any.Builder_WriteString { Tryz.lays156 with } Tryz.Builder_Extra_156 b b (Lib.byteCells bs) s w h (by rw [Lib.byteCells_length]; exact hlen) hBw
  refine H.mono ?_
  rintro e w' ⟨h1, h2, h3⟩
  refine ⟨h1, .inr ?_, h3⟩
  rw [Lib.byteCells_append, ← Lib.strCells_eq]
  exact h2

def renB : Go.Shelf.Ren := ⟨fun n => match n with
  | 167 => 147
  | n => Tryz.lays156_ren.f n, Tryz.lays156_ren.t, Tryz.lays156_ren.g⟩
theorem laysB : Lays.n167 Tryz.prog renB := {
  mixed := Tryz.lays156.mixed
  f167 := Tryz.func147.trans (congrArg some (by kernel_rfl))
  f240 := Tryz.func117.trans (congrArg some (by kernel_rfl))
  f276 := Tryz.func163.trans (congrArg some (by kernel_rfl))
  t0 := Tryz.lays156.t0
  a0 := Tryz.lays156.a0
  z0 := Tryz.lays156.z0
  v0 := Tryz.lays156.v0
  t4 := Tryz.lays156.t4
  a4 := Tryz.lays156.a4
  z4 := Tryz.lays156.z4
  v4 := Tryz.lays156.v4
  t5 := Tryz.underlying5
  a5 := Tryz.isAgg5
  z5 := Tryz.sizeOf5
  v5 := Tryz.zeroValue5
  t9 := Tryz.lays156.t9
  a9 := Tryz.lays156.a9
  z9 := Tryz.lays156.z9
  v9 := Tryz.lays156.v9
  t20 := Tryz.lays156.t20
  a20 := Tryz.lays156.a20
  z20 := Tryz.lays156.z20
  v20 := Tryz.lays156.v20
  t37 := Tryz.lays156.t37
  a37 := Tryz.lays156.a37
  z37 := Tryz.lays156.z37
  v37 := Tryz.lays156.v37
  t70 := Tryz.lays156.t70
  a70 := Tryz.lays156.a70
  z70 := Tryz.lays156.z70
  v70 := Tryz.lays156.v70
  t72 := Tryz.lays156.t72
  a72 := Tryz.lays156.a72
  z72 := Tryz.lays156.z72
  v72 := Tryz.lays156.v72
  t75 := Tryz.lays156.t75
  a75 := Tryz.lays156.a75
  z75 := Tryz.lays156.z75
  v75 := Tryz.lays156.v75
  t164 := Tryz.lays156.t164
  a164 := Tryz.lays156.a164
  z164 := Tryz.lays156.z164
  v164 := Tryz.lays156.v164 }
set_option maxRecDepth 100000 in
theorem bldByte (b : Nat) (bs : List UInt8) (c : UInt8) (w : World) (h : Bld w b bs) (hlen : bs.length + 1 ≤ 140737488355328) (hBw : b ≤ w.heap.size) :
    Calls Tryz.prog 147 #[.pointer (some ⟨b, 0, none⟩), .int .u8 (c.toNat : Int)] w fun e w' => e = .returned .nilIface ∧ Bld w' b (bs ++ [c]) ∧ Below b w w' := by
  have H : Calls Tryz.prog 147 #[.pointer (some ⟨b, 0, none⟩), .int .u8 (c.toNat : Int)] w fun e w' => e = .returned .nilIface ∧ (Lib.BuilderAt 82 5 b b (.pointer (some ⟨b, 0, none⟩)) (Lib.byteCells bs ++ [.int .u8 (c.toNat : Int)]) w' ∧ Below b w w') :=
    Any.Builder_WriteByte laysB { Tryz.Builder_Extra_156 with } b b (Lib.byteCells bs) (c.toNat : Int) w h (by rw [Lib.byteCells_length]; exact hlen) hBw
  refine H.mono ?_
  rintro e w' ⟨h1, h2, h3⟩
  refine ⟨h1, .inr ?_, h3⟩
  rw [Lib.byteCells_append]
  exact h2
set_option maxRecDepth 100000 in
theorem bldText (b : Nat) (bs : List UInt8) (w : World) (h : Bld w b bs) (hBw : b ≤ w.heap.size) :
    Calls Tryz.prog 60 #[.pointer (some ⟨b, 0, none⟩)] w fun e w' => e = .returned (.string ⟨bs.toArray⟩) ∧ Below b w w' := Tryz.Builder_String_any b b bs w h hBw
end Go.Proofs.YtfibjcaidnofmaaGreatDoor
