/- What writing to a file gives, plainly; what it does to a row of files in memory. -/
import Derived.Test.YtmeholhmadeehaaGreatDoorJoinFLAn
import Derived.Test.YtmeholhmadeehaaGreatDoorJoinFLAh
import Derived.Lib.ConvBytes
namespace Go.Proofs.YtmeholhmadeehaaGreatDoor
open Go.RowKit

def wrB (f : Fil) (c : UInt8) : Fil := if c = 10 then ⟨f.name, f.lines ++ [f.part], ⟨#[]⟩, f.at_⟩ else ⟨f.name, f.lines, f.part ++ ⟨#[c]⟩, f.at_⟩
def fitsB (f : Fil) : Bool := decide (f.part.size ≤ 80) && decide (f.lines.length ≤ 20)
def wrF (f : Fil) (l : List UInt8) : Fil := l.foldl wrB f
def wrOk (f : Fil) : List UInt8 → Bool
  | [] => true
  | c :: l => fitsB (wrB f c) && wrOk (wrB f c) l
theorem wrF_snoc (f : Fil) (l : List UInt8) (c : UInt8) : wrF f (l ++ [c]) = wrB (wrF f l) c := by unfold wrF; rw [List.foldl_append]; rfl
theorem wrOk_append (f : Fil) (l m : List UInt8) : wrOk f (l ++ m) = (wrOk f l && wrOk (wrF f l) m) := by
  induction l generalizing f with
  | nil => simp [wrOk, wrF]
  | cons c l ih => simp only [List.cons_append, wrOk]; rw [ih, Bool.and_assoc]; rfl
theorem wrOk_snoc (f : Fil) (l : List UInt8) (c : UInt8) : wrOk f (l ++ [c]) = (wrOk f l && fitsB (wrB (wrF f l) c)) := by rw [wrOk_append]; simp [wrOk]

/-- A file within the bounds of what may be written. -/
def FilW (f : Fil) : Prop := f.part.size ≤ 80 ∧ f.lines.length ≤ 20 ∧ (∀ y ∈ f.lines, y.size ≤ 80) ∧ f.name.size ≤ 8
theorem FilW.step {f : Fil} (h : FilW f) (c : UInt8) (hf : fitsB (wrB f c) = true) : FilW (wrB f c) := by
  unfold fitsB at hf
  simp only [Bool.and_eq_true, decide_eq_true_eq] at hf
  refine ⟨hf.1, hf.2, ?_, ?_⟩
  · unfold wrB
    split
    · intro y hy
      rcases List.mem_append.1 hy with hy | hy
      · exact h.2.2.1 y hy
      · obtain rfl : y = f.part := by simpa using hy
        exact h.1
    · exact h.2.2.1
  · unfold wrB; split <;> exact h.2.2.2
theorem FilW.all {f : Fil} (h : FilW f) (l : List UInt8) (hok : wrOk f l = true) : FilW (wrF f l) := by
  induction l generalizing f with
  | nil => exact h
  | cons c l ih =>
    unfold wrOk at hok
    rw [Bool.and_eq_true] at hok
    exact ih (h.step c hok.1) hok.2
theorem FilW.low {f : Fil} (h : FilW f) : FilLow f := ⟨by have := h.2.2.2; omega, by have := h.1; omega, by have := h.2.1; omega, fun y hy => by have := h.2.2.1 y hy; omega⟩
theorem FilW.of_ok {f : Fil} (h : filB f = true) : FilW f := by
  unfold filB nameB at h
  simp only [Bool.and_eq_true, decide_eq_true_eq] at h
  obtain ⟨⟨⟨⟨⟨⟨_, h1⟩, _⟩, h2⟩, h3⟩, _⟩, h5⟩ := h
  have hl : ∀ s, lineB s = true → s.size ≤ 80 := fun s hs => by
    unfold lineB at hs
    simp only [Bool.and_eq_true, decide_eq_true_eq] at hs
    exact hs.1
  exact ⟨hl _ h3, h2, fun y hy => hl _ (List.all_eq_true.1 h5 y hy), h1⟩

def writeFil (d : Dev) (l : List UInt8) : Dev × Int :=
  if wrOk (d.files.getD (d.use - 1).toNat filD) l then (⟨d.use, d.scr, d.files.set (d.use - 1).toNat (wrF (d.files.getD (d.use - 1).toNat filD) l), d.keys⟩, 0) else (noDev, 4)
def writeP (d : Dev) (text : ByteArray) : Dev × Int :=
  if devB d then (if d.use = 0 then (⟨d.use, showTo d.scr text text.size, d.files, d.keys⟩, 0) else writeFil d text.data.toList) else (noDev, 1)
theorem writeP_low (d : Dev) (text : ByteArray) : DevLow (writeP d text).1 := by
  unfold writeP
  split
  · rename_i h
    have hg := DevGood.of h
    have hl := hg.low
    split
    · have hf := showTo_fine hg.fine text text.size
      exact ⟨by show (showTo _ _ _).rows.length ≤ 1000; have := hf.len; omega, fun r hr => by have := hf.size r hr; omega, hl.files, hl.file, hl.keys, hl.key⟩
    · rename_i h0
      unfold writeFil
      split
      · rename_i hok
        have hj : (d.use - 1).toNat < d.files.length := by have := hg.use0; have := hg.usen; omega
        refine ⟨hl.rows, hl.row, by show (d.files.set _ _).length ≤ 1000; rw [List.length_set]; exact hl.files, fun f hf => ?_, hl.keys, hl.key⟩
        rcases List.mem_or_eq_of_mem_set hf with hf | rfl
        · exact hl.file f hf
        · exact (FilW.all (FilW.of_ok (hg.files _ (getD_mem hj))) _ hok).low
      · exact noDev_low
  · exact noDev_low

theorem flat_get (xs : List Fx) (q : Nat) : (flat xs)[q]? = (xs[q / 4]?).bind fun x => x.cells[q % 4]? := by
  by_cases h : q / 4 < xs.length
  · have := flat_at xs (q / 4) h (q % 4) (by omega)
    rw [show q / 4 * 4 + q % 4 = q by omega] at this
    rw [this, List.getElem?_eq_getElem h]; rfl
  · rw [List.getElem?_eq_none (by rw [flat_len]; omega), List.getElem?_eq_none (by omega)]; rfl
/-- One cell of one file turned. -/
theorem flat_set (xs : List Fx) (j i : Nat) (y : Fx) (u : Value) (hj : j < xs.length) (hi : i < 4) (hy : y.cells = (xs[j]).cells.set i u) : flat (xs.set j y) = (flat xs).set (j * 4 + i) u := by
  apply List.ext_getElem?
  intro q
  rw [flat_get, List.getElem?_set, List.getElem?_set, flat_get, flat_len]
  by_cases hq : q / 4 = j
  · subst hq
    rw [if_pos rfl, if_pos hj, List.getElem?_eq_getElem hj]
    simp only [Option.bind_some, hy, List.getElem?_set]
    have hc4 : (xs[q / 4]).cells.length = 4 := rfl
    by_cases hqi : i = q % 4
    · subst hqi
      rw [if_pos rfl, if_pos (by rw [hc4]; omega), if_pos (by omega), if_pos (by omega)]
    · rw [if_neg hqi, if_neg (by omega)]
  · rw [if_neg (fun e => hq e.symm), if_neg (by omega)]

theorem own_same {w w' : World} {base : Nat} {e : TypeId} {size : Nat} {v : Value} {n : Nat} {xs : List Value} (h : w.ownsRow base e size v n xs) (hk : ∀ b, v.ownBlock = some b → w'.heap[b]? = w.heap[b]?) : w'.ownsRow base e size v n xs := by
  refine ⟨h.1, ?_⟩
  rcases h.2 with h2 | ⟨g, cap, cur, h1, hg, hc, r⟩
  · exact .inl h2
  · refine .inr ⟨g, cap, cur, h1, hg, ?_, r⟩
    rw [hk g (by rw [h1]; rfl)]
    exact hc

theorem OwnFx.parts {w : World} {lo hi : Nat} {v : Value} {xs : List Fx} (h : OwnFx w lo hi v xs) {i j : Nat} (hi' : i < xs.length) (hj : j < xs.length) (hne : i ≠ j) : ∀ b, (xs[i]).sl.ownBlock = some b → (xs[j]).sl.ownBlock ≠ some b := by
  intro b hb hc
  have hp := List.pairwise_iff_getElem.1 h.apart
  rcases Nat.lt_or_gt_of_ne hne with hlt | hlt
  · exact hp i j hi' hj hlt b hb hc
  · exact hp j i hj hi' hlt b hc hb

/-- File j is turned: the row's cells and its lines; all other blocks stand. -/
theorem OwnFx.swap {w w' : World} {lo hi g cap n j : Nat} {xs : List Fx} {y : Fx} (h : OwnFx w lo hi (.slice (some ⟨g, 0, none⟩) n cap) xs) (hn : xs.length = n) (hh : hi ≤ w.heap.size) (hj : j < xs.length)
    (hrow : w'.ownsRow lo 55 4 (.slice (some ⟨g, 0, none⟩) n cap) n (flat (xs.set j y)))
    (hy : w'.ownsRow lo 9 1 y.sl y.f.lines.length (y.f.lines.map Value.string))
    (hat : ∀ b, y.sl.ownBlock = some b → (xs[j]).sl.ownBlock = some b ∨ w.heap.size ≤ b)
    (hk : ∀ b, b < w.heap.size → b ≠ g → (xs[j]).sl.ownBlock ≠ some b → w'.heap[b]? = w.heap[b]?) (hsz : w.heap.size ≤ w'.heap.size) :
    OwnFx w' lo w'.heap.size (.slice (some ⟨g, 0, none⟩) n cap) (xs.set j y) := by
  subst hn
  have hgb : (Value.slice (some ⟨g, 0, none⟩) xs.length cap).ownBlock = some g := rfl
  have hgt := h.top g hgb
  have hl : (xs.set j y).length = xs.length := List.length_set
  have hbl : ∀ i (hi' : i < xs.length) b, (xs[i]).sl.ownBlock = some b → b < w.heap.size := fun i hi' b hb => by have := (h.own _ (List.getElem_mem hi')).2 b hb; omega
  have hnew : ∀ i (hi' : i < xs.length), i ≠ j → ∀ b, (xs[i]).sl.ownBlock = some b → y.sl.ownBlock ≠ some b := fun i hi' hne b hb hc => by
    rcases hat b hc with h1 | h1
    · exact h.parts hi' hj hne b hb h1
    · have := hbl i hi' b hb; omega
  refine ⟨⟨_, _, by rw [hl]⟩, by rw [hl]; exact hrow, fun b hb => (hrow.lt b hb).2, fun x hx => ?_, fun x hx b hb => ?_, ?_⟩
  · obtain ⟨i, hi', rfl⟩ := List.getElem_of_mem hx
    rw [hl] at hi'
    rw [List.getElem_set]
    split
    · exact ⟨hy, fun b hb => (hy.lt b hb).2⟩
    · rename_i hne
      have ho := (h.own _ (List.getElem_mem hi')).1
      have := own_same (w' := w') ho (fun b hb => hk b (hbl i hi' b hb) (fun e => h.far _ (List.getElem_mem hi') b hb (by rw [hgb, e])) (h.parts hi' hj (fun e => hne e.symm) b hb))
      exact ⟨this, fun b hb => (this.lt b hb).2⟩
  · obtain ⟨i, hi', rfl⟩ := List.getElem_of_mem hx
    rw [hl] at hi'
    rw [List.getElem_set] at hb
    split at hb
    · rw [hgb]
      intro e
      injection e with e
      subst e
      rcases hat g hb with h1 | h1
      · exact h.far _ (List.getElem_mem hj) g h1 hgb
      · omega
    · exact h.far _ (List.getElem_mem hi') b hb
  · rw [List.pairwise_iff_getElem]
    intro a b ha hb hab c hc
    rw [hl] at ha hb
    rw [List.getElem_set] at hc ⊢
    split at hc
    · rename_i e
      rw [if_neg (by omega)]
      intro hd
      exact hnew b hb (by omega) c hd hc
    · rename_i e
      split
      · exact hnew a ha (fun e' => e e'.symm) c hc
      · exact h.parts ha hb (by omega) c hc

/-- The part of file j is stored. -/
theorem OwnFx.setP {w : World} {lo hi g cap n j : Nat} {xs : List Fx} (h : OwnFx w lo hi (.slice (some ⟨g, 0, none⟩) n cap) xs) (hn : xs.length = n) (hh : hi ≤ w.heap.size) (hj : j < xs.length) (s : ByteArray) :
    OwnFx (w.setCell ⟨g, j * 4 + 2, none⟩ (.string s)) lo w.heap.size (.slice (some ⟨g, 0, none⟩) n cap) (xs.set j ⟨⟨(xs[j]).f.name, (xs[j]).f.lines, s, (xs[j]).f.at_⟩, (xs[j]).L, (xs[j]).c⟩) := by
  have hs := (show w.ownsRow lo 55 4 (.slice (some ⟨g, 0, none⟩) n cap) n (flat xs) by have := h.row; rwa [hn] at this).stored (j * 4 + 2) (.string s)
  have hz : (w.setCell ⟨g, j * 4 + 2, none⟩ (.string s)).heap.size = w.heap.size := by simp [World.setCell]
  have hk : ∀ b, b ≠ g → (w.setCell ⟨g, j * 4 + 2, none⟩ (.string s)).heap[b]? = w.heap[b]? := fun b hb => Below.heap_setCell w ⟨g, j * 4 + 2, none⟩ _ b hb
  have := h.swap (w' := w.setCell ⟨g, j * 4 + 2, none⟩ (.string s)) (y := ⟨⟨(xs[j]).f.name, (xs[j]).f.lines, s, (xs[j]).f.at_⟩, (xs[j]).L, (xs[j]).c⟩) hn hh hj
    (by rw [flat_set xs j 2 _ (.string s) hj (by omega) rfl]; exact hs.1)
    (own_same (h.own _ (List.getElem_mem hj)).1 (fun b hb => hk b (fun e => h.far _ (List.getElem_mem hj) b hb (by rw [e]; rfl))))
    (fun b hb => .inl hb) (fun b _ hb _ => hk b hb) (Nat.le_of_eq hz.symm)
  rwa [hz] at this

/-- The lines of file j are stored: one line more, by an append. -/
theorem OwnFx.setL {w w1 : World} {lo hi g cap n j : Nat} {xs : List Fx} {A : Option Addr} {c : Nat} {s : ByteArray} (h : OwnFx w lo hi (.slice (some ⟨g, 0, none⟩) n cap) xs) (hn : xs.length = n) (hh : hi ≤ w.heap.size) (hj : j < xs.length)
    (ho : w1.ownsRow lo 9 1 (.slice A ((xs[j]).f.lines.length + 1) c) ((xs[j]).f.lines.length + 1) (((xs[j]).f.lines ++ [s]).map Value.string))
    (hat : ∀ b, (Value.slice A ((xs[j]).f.lines.length + 1) c).ownBlock = some b → (xs[j]).sl.ownBlock = some b ∨ w.heap.size ≤ b) (hsz : w.heap.size ≤ w1.heap.size)
    (hk : ∀ b, b < w.heap.size → (xs[j]).sl.ownBlock ≠ some b → w1.heap[b]? = w.heap[b]?) :
    OwnFx (w1.setCell ⟨g, j * 4 + 1, none⟩ (.slice A ((xs[j]).f.lines.length + 1) c)) lo w1.heap.size (.slice (some ⟨g, 0, none⟩) n cap) (xs.set j ⟨⟨(xs[j]).f.name, (xs[j]).f.lines ++ [s], (xs[j]).f.part, (xs[j]).f.at_⟩, A, c⟩) := by
  obtain ⟨SL, hSL⟩ : ∃ SL, SL = Value.slice A ((xs[j]).f.lines.length + 1) c := ⟨_, rfl⟩
  have hgt := h.top g rfl
  have hgj : (xs[j]).sl.ownBlock ≠ some g := fun e => h.far _ (List.getElem_mem hj) g e rfl
  have hr1 : w1.ownsRow lo 55 4 (.slice (some ⟨g, 0, none⟩) n cap) n (flat xs) := own_same (by have := h.row; rwa [hn] at this) (fun b hb => by
    have : g = b := by simpa [Value.ownBlock] using hb
    subst this
    exact hk g (by omega) hgj)
  have hs := hr1.stored (j * 4 + 1) SL
  have hz : (w1.setCell ⟨g, j * 4 + 1, none⟩ SL).heap.size = w1.heap.size := by simp [World.setCell]
  have hk2 : ∀ b, b ≠ g → (w1.setCell ⟨g, j * 4 + 1, none⟩ SL).heap[b]? = w1.heap[b]? := fun b hb => Below.heap_setCell w1 ⟨g, j * 4 + 1, none⟩ _ b hb
  have hl : ((xs[j]).f.lines ++ [s]).length = (xs[j]).f.lines.length + 1 := by simp
  have hysl : (Fx.mk ⟨(xs[j]).f.name, (xs[j]).f.lines ++ [s], (xs[j]).f.part, (xs[j]).f.at_⟩ A c).sl = SL := by rw [hSL]; unfold Fx.sl; dsimp only; rw [hl]
  have := h.swap (w' := w1.setCell ⟨g, j * 4 + 1, none⟩ SL) (y := ⟨⟨(xs[j]).f.name, (xs[j]).f.lines ++ [s], (xs[j]).f.part, (xs[j]).f.at_⟩, A, c⟩) hn hh hj
    (by rw [flat_set xs j 1 _ SL hj (by omega) (by unfold Fx.cells; rw [hysl]; rfl)]; exact hs.1)
    (by
      rw [hysl]
      dsimp only
      rw [hl]
      rw [← hSL] at ho
      refine own_same ho (fun b hb => hk2 b (fun e => ?_))
      subst e
      rcases hat b (by rw [← hSL]; exact hb) with h1 | h1
      · exact hgj h1
      · omega)
    (fun b hb => hat b (by rw [← hSL, ← hysl]; exact hb)) (fun b hb hbg hbj => (hk2 b hbg).trans (hk b hb hbj)) (by rw [hz]; exact hsz)
  rw [hz] at this
  rw [← hSL]
  exact this

theorem step_appStr {ops : Array Oper} {o : Oper} {a : Go.Act} {K : Go.Act → World → Prop} {Q : Exit → Go.Act → World → Prop} {E : Prop} (hgd : o.guard = none) (s x : Operand) (t : TypeId)
    (ho : o.op = .call { callee := .builtin .append, args := #[s, x], argTypes := #[t, t] }) (ht : Tryz.prog.underlying t = some (.slice 9))
    (w : World) (base : Nat) (v : Value) (xs : List ByteArray) (y : ByteArray) (n : Nat) (hs : a.eval s = v) (hown : w.ownsRow base 9 1 v n (xs.map Value.string))
    (b : Nat) (hx : a.eval x = .slice (some ⟨b, 0, none⟩) 1 1) (hb : w.cell? ⟨b, 0, none⟩ = some (.string y)) (hlen : n ≤ 1000000) (hbase : base ≤ w.heap.size)
    (h : ∀ A' c' w', w'.ownsRow base 9 1 (.slice A' (n + 1) c') (n + 1) ((xs ++ [y]).map Value.string) → w.grownBy w' v.ownBlock → (∀ b, (Value.slice A' (n + 1) c').ownBlock = some b → v.ownBlock = some b ∨ w.heap.size ≤ b) → K (a.put o.dst (.slice A' (n + 1) c')) w') :
    if Region.wanted o (yielded ops a.tmps) = true then Oper.wp Tryz.prog o a w K Q else E := by
  have hw : Region.wanted o (yielded ops a.tmps) = true := by simp [Region.wanted, hgd]
  rw [if_pos hw]
  obtain ⟨i0, hi0, hz0, hz1, hz2⟩ := info_parts infoString
  refine wp_append_lies w s x t ho base 9 i0 _ 1 16 ht hi0 hz0 hz1 hz2 rfl (by decide) v n (xs.map Value.string) hs hown ⟨b, 0, none⟩ 1 1 [.string y] hx rfl ?_ (by intro u hu; simp at hu; subst hu; rfl) (by omega) (by unfold maxLen; omega) (by omega) hbase _ rfl fun g cap w' h1 h2 h3 h4 => ?_
  · intro j u hj
    match j, hj with
    | 0, hj => simp at hj; subst hj; rw [Addr.add_lit]; exact hb
  · refine h (some ⟨g, 0, none⟩) cap w' ?_ h2 (fun b hb => ?_)
    · rw [List.map_append]; exact h1
    · have : g = b := by simpa [Value.ownBlock] using hb
      subst this
      exact h3.imp id (fun e => Nat.le_of_eq e.symm)

end Go.Proofs.YtmeholhmadeehaaGreatDoor

/- Walks of the program's write and ShowOn. -/
namespace Go.Proofs.YtmeholhmadeehaaGreatDoor
open Go.RowKit

/-- []byte(s): a row of bytes in a new block. -/
theorem bytes_of (w : World) (s : ByteArray) : ∃ cap w', (convert 9 39 (.string s)).run Tryz.prog w = .ok (.slice (some ⟨w.heap.size, 0, none⟩) s.size cap) w' ∧
    (∀ j (hj : j < s.size), w'.cell? ⟨w.heap.size, j, none⟩ = some (.int .u8 (s[j].toNat : Int))) ∧ Below w.heap.size w w' ∧ w'.heap.size = w.heap.size + 1 := by
  refine ⟨_, _, Lib.run_convert_string_bytes w _ _ 5 s Tryz.underlying9 Tryz.underlying39 Tryz.underlying5, fun j hj => ?_, ?_, Lib.bytesWorld_size _ _ _⟩
  · rw [Lib.bytesWorld_cell w 5 s j hj]
    have : s.data.toList.getD j 0 = s[j] := by
      have h : j < s.data.toList.length := by simpa using hj
      rw [List.getD_eq_getElem?_getD, List.getElem?_eq_getElem h]
      rfl
    rw [this]
  · exact ⟨rfl, rfl, rfl, by rw [Lib.bytesWorld_size]; omega, fun k hk => Lib.bytesWorld_at_old w _ s k hk⟩

/-- A whole screen stored. -/
theorem ScrX.store {w : World} {base g o : Nat} {t : TypeId} {cs : Array Value} {b off cap : Nat} {s : Scr} (h : ScrX w base g o t cs b off cap s) {B : Nat} {A : Option Addr} {n c : Nat} {s' : Scr} (hn : n = s'.rows.length) (h0 : 0 < n) (hgB : g < B) (hB : base ≤ B)
    (ho : w.ownsRow B 9 1 (.slice A n c) n (s'.rows.map Value.string)) :
    ∃ b', B ≤ b' ∧ ScrX (((w.setCell ⟨g, o, none⟩ (.int .i64 s'.row)).setCell ⟨g, o + 1, none⟩ (.int .i64 s'.col)).setCell ⟨g, o + 2, none⟩ (.slice A n c)) base g o t cs b' 0 c s' := by
  obtain ⟨b1, rfl, hO1⟩ := OwnO.of_own ho h0
  have h1 := hO1.1
  subst hn
  have hne : g ≠ b1 := by omega
  have hO2 : OwnO w base b1 0 c s'.rows := ⟨by omega, hO1.2⟩
  exact ⟨b1, h1, ((h.row_ s'.row).col_ s'.col).rows_ hne ((hO2.far (p := ⟨g, o, none⟩) (fun e => hne e.symm) _).far (p := ⟨g, o + 1, none⟩) (fun e => hne e.symm) _)⟩

/-- What stands at the head of each round of write: the screen, the text's bytes, what else was there. -/
def WrSt (w0 : World) (base g o : Nat) (t : TypeId) (cs : Array Value) (b : Nat) (text : ByteArray) (w : World) (s : Scr) : Prop :=
  (∃ b' off' cap', ScrX w base g o t cs b' off' cap' s ∧ (b' = b ∨ w0.heap.size < b')) ∧ (∀ j (hj : j < text.size), w.cell? ⟨w0.heap.size, j, none⟩ = some (.int .u8 (text[j].toNat : Int))) ∧ w0.heap.size < w.heap.size ∧ Touch g b w0 w

theorem WrSt.next {w0 : World} {base g o : Nat} {t : TypeId} {cs : Array Value} {b b1 : Nat} {text : ByteArray} {w w' : World} {s' : Scr}
    (hbb : b1 = b ∨ w0.heap.size < b1) (hg : g < w0.heap.size) (hb0 : b < w0.heap.size) (hT : ∀ j (hj : j < text.size), w.cell? ⟨w0.heap.size, j, none⟩ = some (.int .u8 (text[j].toNat : Int))) (hs : w0.heap.size < w.heap.size) (ht : Touch g b w0 w) (h : ScrStep w base g o t cs b1 w' s') : WrSt w0 base g o t cs b text w' s' := by
  obtain ⟨b2, o2, c2, hp, hb2, ht2⟩ := h
  refine ⟨⟨b2, o2, c2, hp, by omega⟩, fun j hj => ?_, by have := ht2.size; omega, ht.trans ht2 (by omega)⟩
  exact (World.cell?_of_block (ht2.block w0.heap.size hs (by omega) (by omega))).trans (hT j hj)

def colOfO (w : World) (g o : Nat) : Nat := match w.cell? ⟨g, o + 1, none⟩ with
  | some (.int _ n) => ((8 - n % 8) % 8).toNat
  | _ => 0
theorem ScrX.colOfO {w : World} {base g o : Nat} {t : TypeId} {cs : Array Value} {b off cap : Nat} {s : Scr} (h : ScrX w base g o t cs b off cap s) : colOfO w g o = ((8 - s.col % 8) % 8).toNat := by
  unfold Go.Proofs.YtmeholhmadeehaaGreatDoor.colOfO
  rw [h.f1]

-- PRINTED by wip/gen_write.py
set_option maxHeartbeats 4000000 in
set_option maxRecDepth 100000 in
theorem write_any (s : Scr) (text : ByteArray) (base g o : Nat) (t : TypeId) (cs : Array Value) (b off cap : Nat) (w : World) (hp : ScrX w base g o t cs b off cap s) (hb : base ≤ w.heap.size) (hf : Fine s) (ht : text.size ≤ 1048576) :
    Calls Tryz.prog 36 #[.pointer (some ⟨g, o, none⟩), .string text] w fun e w' => e = .returned (.tuple #[]) ∧ ScrStep w base g o t cs b w' (showTo s text text.size) := by
  obtain ⟨cap1, w1, hr, hcells, hbw, hsz⟩ := bytes_of w text
  have hgl := hp.blk.lt
  have hbl := hp.own.lt
  have HF := Lib.hid hf
  have HST : Hid (WrSt w base g o t cs b text w1 s) := ⟨⟨b, off, cap, hp.call hbw, .inl rfl⟩, hcells, by omega, (Touch.refl g b w).call hbw⟩
  clear hp hf hcells hbw hsz
  go_enter Tryz.func36, Tryz.ntmps36
  go_wp2_with fail
  clear hr
  go_loopw [9] (fun i wr => ∃ k : Nat, k ≤ text.size ∧ i = .int .i64 k ∧ WrSt w base g o t cs b text wr (showTo s text k)) (fun i _ => text.size - (intOf i).toNat)
  case atStart => exact ⟨0, Nat.zero_le _, rfl, HST.out⟩
  case round =>
    obtain ⟨k, hk, rfl, hSt⟩ := hrel
    have hFk := showTo_fine HF.out text k
    by_cases hlt : k < text.size
    · have h255 := byte_le text[k]
      have HSC := Lib.hid (show showTo s text (k + 1) = showCh (showTo s text k) text[k] by rw [showTo_succ, byte_at hlt])
      obtain ⟨S1, hS1⟩ : ∃ S1, S1 = showTo s text (k + 1) := ⟨_, rfl⟩
      rw [← hS1] at HSC
      have HT := Lib.hid hS1.symm
      clear hS1
      generalize showTo s text k = S0 at *
      obtain ⟨⟨b0, o0, cap0, hp, hbb⟩, hcl, hsw, htc⟩ := hSt
      have hcell := hcl k hlt
      have c0 := hFk.col0; have c19 := hFk.col19
      have hgl0 := hp.blk.lt
      have hbw0 : base ≤ wr.heap.size := by omega
      have HN := Lib.hid (fun (W : World) (S' : Scr) (h : ScrStep wr base g o t cs b0 W S') => WrSt.next hbb hgl hbl hcl hsw htc h)
      have HFK := Lib.hid hFk; have HP := Lib.hid hp; have HBB := Lib.hid hbb; have HCL := Lib.hid hcl
      have f1 := hp.f1
      have z := hp.blk.frozen
      clear hFk hp hcl htc HST
      by_cases hsh : 32 ≤ text[k].toNat ∧ text[k].toNat ≤ 126
      · have HS1 := Lib.hid (show S1 = putCh S0 text[k] by rw [HSC.out]; unfold showCh; rw [if_pos hsh])
        obtain ⟨h32, h126⟩ := hsh
        go_wp2_with fail
        refine (show_any S0 text[k].toNat base g o t cs b0 o0 cap0 _ HP.out hbw0 HFK.out (by omega)).mono ?_
        rintro e1 w1 ⟨rfl, hp1⟩
        rw [UInt8.ofNat_toNat] at hp1
        have HST1 := Lib.hid (HN.out _ _ hp1)
        clear f1 z hp1 hcell
        go_wp2_with fail
        go_roundw
        case rel => exact ⟨k + 1, by omega, by go_num, by rw [HT.out, HS1.out]; exact HST1.out⟩
        case measure => simp [intOf]; omega
      have hor : text[k].toNat < 32 ∨ 126 < text[k].toNat := by omega
      have HW : Hid (text[k].toNat < 32 ∨ 126 < text[k].toNat) := Lib.hid hor
      clear hor
      by_cases hq10 : text[k].toNat = 10
      · have HS1 := Lib.hid (show S1 = newRow S0 by rw [HSC.out]; unfold showCh; rw [if_neg hsh, if_pos (by omega)])
        have t10 : ((text[k].toNat : Int) == 10) = true := by rw [beq_iff_eq]; omega
        have hlo : text[k].toNat < 32 := by omega
        clear HW hsh hq10
        go_wp2_with fail
        refine (begin_any S0 base g o t cs b0 o0 cap0 _ HP.out hbw0 HFK.out.len HFK.out.row0 HFK.out.row5).mono ?_
        rintro e1 w1 ⟨rfl, hp1⟩
        have HST1 := Lib.hid (HN.out _ _ hp1)
        clear f1 z hp1 hcell
        go_wp2_with fail
        go_roundw
        case rel => exact ⟨k + 1, by omega, by go_num, by rw [HT.out, HS1.out]; exact HST1.out⟩
        case measure => simp [intOf]; omega
      by_cases hq13 : text[k].toNat = 13
      · have HS1 := Lib.hid (show S1 = ⟨S0.row, 0, S0.rows⟩ by rw [HSC.out]; unfold showCh; rw [if_neg hsh, if_neg (by omega), if_pos (by omega)])
        have t10 : ((text[k].toNat : Int) == 10) = false := by rw [beq_eq_false_iff_ne]; omega
        have t13 : ((text[k].toNat : Int) == 13) = true := by rw [beq_iff_eq]; omega
        have hlo : text[k].toNat < 32 := by omega
        clear HW hsh hq10 hq13
        have HST1 := Lib.hid (HN.out _ _ ⟨b0, o0, cap0, HP.out.col_ 0, .inl rfl, (Touch.refl _ _ _).set (p := ⟨g, o + 1, none⟩) (.inl rfl) _⟩)
        go_wp2_with fail
        go_roundw
        case rel => exact ⟨k + 1, by omega, by go_num, by rw [HT.out, HS1.out]; exact HST1.out⟩
        case measure => simp [intOf]; omega
      by_cases hq8 : text[k].toNat = 8
      · have HS1 := Lib.hid (show S1 = ⟨S0.row, if 0 < S0.col then S0.col - 1 else 0, S0.rows⟩ by rw [HSC.out]; unfold showCh; rw [if_neg hsh, if_neg (by omega), if_neg (by omega), if_pos (by omega)])
        have t10 : ((text[k].toNat : Int) == 10) = false := by rw [beq_eq_false_iff_ne]; omega
        have t13 : ((text[k].toNat : Int) == 13) = false := by rw [beq_eq_false_iff_ne]; omega
        have t8 : ((text[k].toNat : Int) == 8) = true := by rw [beq_iff_eq]; omega
        have hlo : text[k].toNat < 32 := by omega
        clear HW hsh hq10 hq13 hq8
        have HST1 := Lib.hid (HN.out _ _ ⟨b0, o0, cap0, HP.out.col_ (if 0 < S0.col then S0.col - 1 else 0), .inl rfl, (Touch.refl _ _ _).set (p := ⟨g, o + 1, none⟩) (.inl rfl) _⟩)
        have hmx : max 0 (S0.col - 1) = (if 0 < S0.col then S0.col - 1 else 0) := by split <;> omega
        generalize (if 0 < S0.col then S0.col - 1 else 0) = M at *
        go_wp2_with fail
        go_roundw
        case rel => exact ⟨k + 1, by omega, by go_num, by rw [HT.out, HS1.out]; exact HST1.out⟩
        case measure => simp [intOf]; omega
      by_cases hq9 : text[k].toNat = 9
      · have HS1 := Lib.hid (show S1 = tabTo 8 (putCh S0 32) by rw [HSC.out]; unfold showCh; rw [if_neg hsh, if_neg (by omega), if_neg (by omega), if_neg (by omega), if_pos (by omega)])
        have t10 : ((text[k].toNat : Int) == 10) = false := by rw [beq_eq_false_iff_ne]; omega
        have t13 : ((text[k].toNat : Int) == 13) = false := by rw [beq_eq_false_iff_ne]; omega
        have t8 : ((text[k].toNat : Int) == 8) = false := by rw [beq_eq_false_iff_ne]; omega
        have t9 : ((text[k].toNat : Int) == 9) = true := by rw [beq_iff_eq]; omega
        have hlo : text[k].toNat < 32 := by omega
        clear HW hsh hq10 hq13 hq8 hq9
        have HFP := Lib.hid (putCh_fine HFK.out 32)
        go_wp2_with fail
        refine (show_any S0 32 base g o t cs b0 o0 cap0 _ HP.out hbw0 HFK.out (by omega)).mono ?_
        rintro e1 w1 ⟨rfl, hp1⟩
        rw [show UInt8.ofNat 32 = 32 from rfl] at hp1
        have HEX := Lib.hid (⟨8, putCh S0 32, HN.out _ _ hp1, HFP.out, rfl, by have := HFP.out.col0; omega⟩ : ∃ (f : Nat) (S' : Scr), WrSt w base g o t cs b text w1 S' ∧ Fine S' ∧ tabTo f S' = tabTo 8 (putCh S0 32) ∧ (8 - S'.col % 8 ≤ f ∨ S'.col % 8 = 0))
        clear hp1 f1 z hcell HFP
        generalize tabTo 8 (putCh S0 32) = T8 at *
        go_wp2_with fail
        go_loopw [55] (fun _ wq => ∃ (f : Nat) (S' : Scr), WrSt w base g o t cs b text wq S' ∧ Fine S' ∧ tabTo f S' = T8 ∧ (8 - S'.col % 8 ≤ f ∨ S'.col % 8 = 0)) (fun _ wq => colOfO wq g o)
        case atStart => exact HEX.out
        case round =>
          obtain ⟨f, S', hS', hF', hT', hc'⟩ := hrel
          have d0 := hF'.col0; have d19 := hF'.col19
          obtain ⟨⟨b', o', cap', hp', hbb'⟩, hcl', hsw', htc'⟩ := id hS'
          have f' := hp'.f1
          have hbw' : base ≤ wr.heap.size := by omega
          have HS' := Lib.hid hS'; have HF' := Lib.hid hF'; have HT' := Lib.hid hT'; have HC' := Lib.hid hc'; have HPP := Lib.hid hp'
          have HN' := Lib.hid (fun (W : World) (S' : Scr) (h : ScrStep wr base g o t cs b' W S') => WrSt.next hbb' hgl hbl hcl' hsw' htc' h)
          clear hS' hF' hT' hc' hp' hcl' htc'
          by_cases h8 : S'.col % 8 = 0
          · have HST1 : Hid (WrSt w base g o t cs b text wr T8) := by
                have : tabTo f S' = S' := by
                  cases f with
                  | zero => rfl
                  | succ n => unfold tabTo; rw [if_pos h8]
                rw [← HT'.out, this]
                exact HS'
            have n8 : (S'.col % 8 != 0) = false := by rw [h8]; rfl
            clear h8
            go_wp2_with fail
            go_roundw
            case rel => exact ⟨k + 1, by omega, by go_num, by rw [HT.out, HS1.out]; exact HST1.out⟩
            case measure => simp [intOf]; omega
          · have n8 : (S'.col % 8 != 0) = true := by rw [bne_iff_ne]; exact h8
            have H8 := Lib.hid h8
            clear h8
            go_wp2_with fail
            refine (show_any S' 32 base g o t cs b' o' cap' _ HPP.out hbw' HF'.out (by omega)).mono ?_
            rintro e2 w2 ⟨rfl, hp2⟩
            rw [show UInt8.ofNat 32 = 32 from rfl] at hp2
            have HST2 := Lib.hid (HN'.out _ _ hp2)
            have HM2 := Lib.hid (show colOfO w2 g o < colOfO wr g o by obtain ⟨_, _, _, hq, _⟩ := hp2; rw [hq.colOfO, HPP.out.colOfO]; exact putCh_col HF'.out 32 H8.out)
            have HR2 : Hid (∃ (f : Nat) (S' : Scr), WrSt w base g o t cs b text w2 S' ∧ Fine S' ∧ tabTo f S' = T8 ∧ (8 - S'.col % 8 ≤ f ∨ S'.col % 8 = 0)) := by
              have e0 := putCh_col HF'.out 32 H8.out
              have h8 := H8.out
              have e1 := (putCh_fine HF'.out 32).col0
              cases f with
              | zero => exfalso; rcases HC'.out with h | h <;> omega
              | succ n =>
                refine ⟨n, putCh S' 32, HST2.out, putCh_fine HF'.out 32, ?_, ?_⟩
                · rw [← HT'.out]
                  show _ = tabTo (n + 1) S'
                  rw [tabTo, if_neg h8]
                · rcases HC'.out with h | h <;> omega
            clear hp2 f'
            go_wp2_with fail
            go_roundw
            case rel => exact HR2.out
            case measure => exact HM2.out
      by_cases hq12 : text[k].toNat = 12
      · have HS1 := Lib.hid (show S1 = blankScr by rw [HSC.out]; unfold showCh; rw [if_neg hsh, if_neg (by omega), if_neg (by omega), if_neg (by omega), if_neg (by omega), if_pos (by omega)])
        have t10 : ((text[k].toNat : Int) == 10) = false := by rw [beq_eq_false_iff_ne]; omega
        have t13 : ((text[k].toNat : Int) == 13) = false := by rw [beq_eq_false_iff_ne]; omega
        have t8 : ((text[k].toNat : Int) == 8) = false := by rw [beq_eq_false_iff_ne]; omega
        have t9 : ((text[k].toNat : Int) == 9) = false := by rw [beq_eq_false_iff_ne]; omega
        have t12 : ((text[k].toNat : Int) == 12) = true := by rw [beq_iff_eq]; omega
        have hlo : text[k].toNat < 32 := by omega
        clear HW hsh hq10 hq13 hq8 hq9 hq12
        go_wp2_with fail
        refine (implNewScreen_any _).mono ?_
        rintro e1 w1 ⟨v1, rfl, ⟨A1, c1, rfl, ho1⟩, hb1⟩
        have hp1 := HP.out.call hb1
        obtain ⟨b5, hb5, hp5⟩ := hp1.store (s' := blankScr) rfl (by simp [blankScr]) hgl0 hbw0 ho1
        have HST1 := Lib.hid (HN.out _ _ ⟨b5, 0, c1, hp5, .inr hb5, ((((Touch.refl _ _ _).call hb1).set (p := ⟨g, o, none⟩) (.inl rfl) _).set (p := ⟨g, o + 1, none⟩) (.inl rfl) _).set (p := ⟨g, o + 2, none⟩) (.inl rfl) _⟩)
        clear f1 z hcell
        have f0 := hp1.f0; have f1 := hp1.f1; have f2 := hp1.f2; have z := hp1.blk.frozen
        clear hp1 ho1 hp5
        generalize hbs : blankScr = BS at *
        clear hbs
        go_wp2_with fail
        go_roundw
        case rel => exact ⟨k + 1, by omega, by go_num, by rw [HT.out, HS1.out]; exact HST1.out⟩
        case measure => simp [intOf]; omega
      have HS1 := Lib.hid (show S1 = S0 by rw [HSC.out]; unfold showCh; rw [if_neg hsh, if_neg (by omega), if_neg (by omega), if_neg (by omega), if_neg (by omega), if_neg (by omega)])
      have t10 : ((text[k].toNat : Int) == 10) = false := by rw [beq_eq_false_iff_ne]; omega
      have t13 : ((text[k].toNat : Int) == 13) = false := by rw [beq_eq_false_iff_ne]; omega
      have t8 : ((text[k].toNat : Int) == 8) = false := by rw [beq_eq_false_iff_ne]; omega
      have t9 : ((text[k].toNat : Int) == 9) = false := by rw [beq_eq_false_iff_ne]; omega
      have t12 : ((text[k].toNat : Int) == 12) = false := by rw [beq_eq_false_iff_ne]; omega
      rcases HW.out with hlo | hhi
      all_goals
        clear HW hsh hq10 hq13 hq8 hq9 hq12
        have HST1 : Hid (WrSt w base g o t cs b text wr S0) := HN.out _ _ ⟨b0, o0, cap0, HP.out, .inl rfl, Touch.refl _ _ _⟩
        clear f1 z
        go_wp2_with fail
        go_roundw
        case rel => exact ⟨k + 1, by omega, by go_num, by rw [HT.out, HS1.out]; exact HST1.out⟩
        case measure => simp [intOf]; omega
    · obtain rfl : k = text.size := by omega
      obtain ⟨⟨b0, o0, cap0, hp, hbb⟩, hcl, hsw, htc⟩ := hSt
      have HE := Lib.hid (⟨b0, o0, cap0, hp, by omega, htc⟩ : ScrStep w base g o t cs b wr (showTo s text text.size))
      clear hFk hp hcl htc HST
      go_wp2_with fail
      go_end0
      exact ⟨rfl, HE.out⟩

theorem showOnP_small (s : Scr) (text : ByteArray) : (showOnP s text).rows.length ≤ 1048576 := by
  unfold showOnP
  split
  · rename_i h
    have := (showTo_fine (Fine.of_scrB h) text text.size).len
    omega
  · simp [noScr]

end Go.Proofs.YtmeholhmadeehaaGreatDoor

/- The program's write to a file walked. -/
namespace Go.Proofs.YtmeholhmadeehaaGreatDoor
open Go.RowKit

section
variable {w w1 : World} {lo hi g cap n j : Nat} {xs : List Fx} {y : Fx}
theorem OwnFx.at_ (h : OwnFx w lo hi (.slice (some ⟨g, 0, none⟩) n cap) (xs.set j y)) (hn : xs.length = n) (hj : j < xs.length) (i : Nat) (hi' : i < 4) (u : Value) (hu : y.cells[i]? = some u) :
    w.cell? ⟨g, j * 4 + i, none⟩ = some u ∧ w.frozen? ⟨g, j * 4 + i, none⟩ = false := by
  have hl : (xs.set j y).length = n := by rw [List.length_set, hn]
  have hr := h.row
  rw [hl] at hr
  have hc : (flat (xs.set j y))[j * 4 + i]? = some u := by
    rw [flat_at _ j (by omega) i hi', List.getElem_set_self]; exact hu
  rcases hr.2 with ⟨hv, _⟩ | ⟨g', cap', cur, hv, hg, hh, hnc, hm, hsz, htk⟩
  · cases hv
  · injection hv with hA _ _
    injection hA with hA; injection hA with hA
    subst hA
    have hB : Blk w g 55 cur := hh
    refine ⟨?_, hB.frozen _⟩
    rw [hB.cell, ← Array.getElem?_toList]
    rw [← htk, List.getElem?_take] at hc
    split at hc
    · exact hc
    · cases hc
theorem OwnFx.setP' (h : OwnFx w lo hi (.slice (some ⟨g, 0, none⟩) n cap) (xs.set j y)) (hn : xs.length = n) (hh : hi ≤ w.heap.size) (hj : j < xs.length) (s : ByteArray) :
    OwnFx (w.setCell ⟨g, j * 4 + 2, none⟩ (.string s)) lo w.heap.size (.slice (some ⟨g, 0, none⟩) n cap) (xs.set j ⟨⟨y.f.name, y.f.lines, s, y.f.at_⟩, y.L, y.c⟩) := by
  have := h.setP (by rw [List.length_set]; exact hn) hh (by rw [List.length_set]; exact hj) s
  simp only [List.getElem_set_self, List.set_set] at this
  exact this
theorem OwnFx.setL' {A : Option Addr} {c : Nat} {s : ByteArray} (h : OwnFx w lo hi (.slice (some ⟨g, 0, none⟩) n cap) (xs.set j y)) (hn : xs.length = n) (hh : hi ≤ w.heap.size) (hj : j < xs.length)
    (ho : w1.ownsRow lo 9 1 (.slice A (y.f.lines.length + 1) c) (y.f.lines.length + 1) ((y.f.lines ++ [s]).map Value.string))
    (hat : ∀ b, (Value.slice A (y.f.lines.length + 1) c).ownBlock = some b → y.sl.ownBlock = some b ∨ w.heap.size ≤ b) (hsz : w.heap.size ≤ w1.heap.size)
    (hk : ∀ b, b < w.heap.size → y.sl.ownBlock ≠ some b → w1.heap[b]? = w.heap[b]?) :
    OwnFx (w1.setCell ⟨g, j * 4 + 1, none⟩ (.slice A (y.f.lines.length + 1) c)) lo w1.heap.size (.slice (some ⟨g, 0, none⟩) n cap) (xs.set j ⟨⟨y.f.name, y.f.lines ++ [s], y.f.part, y.f.at_⟩, A, c⟩) := by
  have := h.setL (A := A) (c := c) (s := s) (w1 := w1) (by rw [List.length_set]; exact hn) hh (by rw [List.length_set]; exact hj) (by simp only [List.getElem_set_self]; exact ho) (by simp only [List.getElem_set_self]; exact hat) hsz (by simp only [List.getElem_set_self]; exact hk)
  simp only [List.getElem_set_self, List.set_set] at this
  exact this
end

/-- What stands while a file is written: the file y at place j of the row; block m is none of the row's; what lies below lo is as it was. -/
structure WrF (w0 : World) (lo g cap n j m : Nat) (xs : List Fx) (y : Fx) (w : World) : Prop where
  own : OwnFx w lo w.heap.size (.slice (some ⟨g, 0, none⟩) n cap) (xs.set j y)
  far : ∀ b, y.sl.ownBlock = some b → b ≠ m
  keep : w.heap[m]? = w0.heap[m]?
  lt : m < w.heap.size
  low : Below lo w0 w

section
variable {w0 wr w6 : World} {lo g cap n j m : Nat} {xs : List Fx} {y : Fx}
theorem WrF.below {w1 : World} (h : WrF w0 lo g cap n j m xs y wr) (hl : lo ≤ wr.heap.size) (hb : Below wr.heap.size wr w1) : WrF w0 lo g cap n j m xs y w1 :=
  ⟨(loc_ownFx _ _ _ _ wr w1 (fun b _ h2 => hb.block b h2) h.own).more hb.size, h.far, (hb.block m h.lt).trans h.keep, Nat.lt_of_lt_of_le h.lt hb.size, h.low.trans (hb.mono hl)⟩
/-- The part is stored. -/
theorem WrF.part (h : WrF w0 lo g cap n j m xs y wr) (hn : xs.length = n) (hj : j < xs.length) (hgm : g ≠ m) (hlg : lo ≤ g) (s : ByteArray) :
    WrF w0 lo g cap n j m xs ⟨⟨y.f.name, y.f.lines, s, y.f.at_⟩, y.L, y.c⟩ (wr.setCell ⟨g, j * 4 + 2, none⟩ (.string s)) := by
  have hz : (wr.setCell ⟨g, j * 4 + 2, none⟩ (.string s)).heap.size = wr.heap.size := by simp [World.setCell]
  refine ⟨?_, h.far, (Below.heap_setCell wr ⟨g, j * 4 + 2, none⟩ _ m (fun e => hgm e.symm)).trans h.keep, by rw [hz]; exact h.lt, h.low.setCell hlg _⟩
  rw [hz]
  exact h.own.setP' hn (Nat.le_refl _) hj s
/-- One line more is stored, by an append. -/
theorem WrF.line {A : Option Addr} {c : Nat} {s : ByteArray} {wa : World} (h : WrF w0 lo g cap n j m xs y wr) (hn : xs.length = n) (hj : j < xs.length) (hgm : g ≠ m) (hlg : lo ≤ g) (hlr : lo ≤ wr.heap.size)
    (hba : Below wr.heap.size wr wa)
    (ho : w6.ownsRow lo 9 1 (.slice A (y.f.lines.length + 1) c) (y.f.lines.length + 1) ((y.f.lines ++ [s]).map Value.string)) (hg : wa.grownBy w6 y.sl.ownBlock)
    (hat : ∀ b, (Value.slice A (y.f.lines.length + 1) c).ownBlock = some b → y.sl.ownBlock = some b ∨ wa.heap.size ≤ b) :
    WrF w0 lo g cap n j m xs ⟨⟨y.f.name, y.f.lines ++ [s], y.f.part, y.f.at_⟩, A, c⟩ (w6.setCell ⟨g, j * 4 + 1, none⟩ (.slice A (y.f.lines.length + 1) c)) := by
  obtain ⟨SL, hSL⟩ : ∃ SL, SL = Value.slice A (y.f.lines.length + 1) c := ⟨_, rfl⟩
  have hz : (w6.setCell ⟨g, j * 4 + 1, none⟩ SL).heap.size = w6.heap.size := by simp [World.setCell]
  have hsa := hba.size
  have hs6 := hg.size
  have hyl : (Fx.mk ⟨y.f.name, y.f.lines ++ [s], y.f.part, y.f.at_⟩ A c).sl = SL := by rw [hSL]; unfold Fx.sl; simp
  have hyb : ∀ b, y.sl.ownBlock = some b → lo ≤ b := fun b hb => by
    have := (h.own.own y (List.mem_of_getElem (by rw [List.getElem_set_self] : (xs.set j y)[j]'(by rw [List.length_set]; exact hj) = y))).1
    exact (this.lt b hb).1
  have hm6 : w6.heap[m]? = wr.heap[m]? := (hg.block m (by have := h.lt; omega) (fun e => h.far m e.symm rfl)).trans (hba.block m h.lt)
  rw [← hSL] at hat ⊢
  refine ⟨?_, fun b hb => ?_, (Below.heap_setCell w6 ⟨g, j * 4 + 1, none⟩ _ m (fun e => hgm e.symm)).trans (hm6.trans h.keep), by rw [hz]; have := h.lt; omega, ?_⟩
  · rw [hz, hSL]
    exact h.own.setL' hn (Nat.le_refl _) hj ho (fun b hb => (hat b (by rw [hSL]; exact hb)).imp id (fun e => by omega)) (by omega) (fun b hb hne => (hg.block b (by omega) (fun e => hne e.symm)).trans (hba.block b hb))
  · rw [hyl] at hb
    rcases hat b hb with h1 | h1
    · exact h.far b h1
    · have := h.lt; omega
  · have hb6 : Below lo w0 w6 := (h.low.trans (hba.mono hlr)).grown hg (by omega) (fun k hk => hyb k hk)
    exact hb6.setCell hlg _
end

end Go.Proofs.YtmeholhmadeehaaGreatDoor
