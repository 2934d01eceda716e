/- Screens, plainly: what showing a byte does; when a row is right. No program in sight. -/
import Derived.Shelf.GgClosure.StringsIndexFunc
namespace Go.Proofs.YtbpopkaafellgaaDoor
open Go.Lib

structure Scr where
  row : Int
  col : Int
  rows : List ByteArray

def blanks (n : Nat) : ByteArray := ⟨(List.replicate n (32 : UInt8)).toArray⟩
theorem blanks_size (n : Nat) : (blanks n).size = n := by simp [blanks, ByteArray.size]

/-- A byte that shows. -/
def showsB (c : Nat) : Bool := decide (32 ≤ c ∧ c ≤ 126)
def rowTo (s : ByteArray) (k : Nat) : Bool := (List.range k).all fun j => showsB (s.get! j).toNat
def rowB (s : ByteArray) : Bool := decide (s.size = 20) && rowTo s s.size
def scrB (s : Scr) : Bool := decide (s.rows.length = 6) && decide (0 ≤ s.row ∧ s.row ≤ 5) && decide (0 ≤ s.col ∧ s.col ≤ 19) && s.rows.all rowB

theorem rowTo_succ (s : ByteArray) (k : Nat) : rowTo s (k + 1) = (rowTo s k && showsB (s.get! k).toNat) := by
  unfold rowTo
  rw [List.range_succ, List.all_append]
  simp
theorem rowTo_false {s : ByteArray} {k n : Nat} (hk : k < n) (h : showsB (s.get! k).toNat = false) : rowTo s n = false := by
  unfold rowTo
  rw [List.all_eq_false]
  exact ⟨k, by simpa using hk, by simp [h]⟩
theorem rowTo_at {s : ByteArray} {k n : Nat} (hk : k < n) (h : rowTo s n = true) : showsB (s.get! k).toNat = true := by
  unfold rowTo at h
  rw [List.all_eq_true] at h
  exact h k (by simpa using hk)

/-- A rune that does not show. -/
def hidesP (c : Nat) : Bool := decide (c < 32 ∨ 126 < c)

theorem decode_hides (s : ByteArray) (i : Nat) (_hi : i < s.size) :
    (showsB (s.get! i).toNat = true ∧ hidesP (Utf8.decode s i).1 = false ∧ (Utf8.decode s i).2 = 1) ∨ (showsB (s.get! i).toNat = false ∧ hidesP (Utf8.decode s i).1 = true) := by
  have key : ∀ (c n : Nat), 126 < c → hidesP (c, n).1 = true := fun c n h => by simp [hidesP, h]
  have err : 126 < Utf8.runeError := by decide
  by_cases h0 : (s.get! i).toNat < 128
  · have hd : Utf8.decode s i = ((s.get! i).toNat, 1) := by
      unfold Utf8.decode
      simp only [Nat.add_zero]
      rw [if_pos h0]
    rw [hd]
    by_cases h1 : 32 ≤ (s.get! i).toNat ∧ (s.get! i).toNat ≤ 126
    · left; exact ⟨by simp [showsB, h1], by simp [hidesP]; omega, rfl⟩
    · right; exact ⟨by simp [showsB]; omega, by simp [hidesP]; omega⟩
  · right
    refine ⟨by simp [showsB]; omega, ?_⟩
    unfold Utf8.decode
    simp only [Nat.add_zero]
    rw [if_neg h0]
    split
    · rename_i h2
      simp only [Bool.and_eq_true, beq_iff_eq, decide_eq_true_eq] at h2
      split
      · exact key _ _ (by omega)
      · exact key _ _ err
    · split
      · rename_i h2
        simp only [Bool.and_eq_true, beq_iff_eq, decide_eq_true_eq] at h2
        split
        · rename_i h3
          simp only [Bool.and_eq_true, decide_eq_true_eq, ge_iff_le] at h3
          exact key _ _ (by omega)
        · exact key _ _ err
      · split
        · rename_i h2
          simp only [Bool.and_eq_true, beq_iff_eq, decide_eq_true_eq] at h2
          split
          · rename_i h3
            simp only [Bool.and_eq_true, decide_eq_true_eq, ge_iff_le] at h3
            exact key _ _ (by omega)
          · exact key _ _ err
        · exact key _ _ err

theorem idx_hides (s : ByteArray) : ∀ (f pos : Nat), s.size ≤ pos + f → pos ≤ s.size → rowTo s pos = true → decide (0 ≤ idxFuncFrom hidesP true s f pos) = !rowTo s s.size
  | 0, pos, hf, hp, h => by
    obtain rfl : pos = s.size := by omega
    rw [h]
    rfl
  | f + 1, pos, hf, hp, h => by
    unfold idxFuncFrom
    by_cases hlt : pos < s.size
    · rw [if_pos hlt]
      rcases decode_hides s pos hlt with ⟨h1, h2, h3⟩ | ⟨h1, h2⟩
      · rw [h2, h3, if_neg (by simp)]
        exact idx_hides s f (pos + 1) (by omega) (by omega) (by rw [rowTo_succ, h, h1]; rfl)
      · rw [h2, if_pos rfl, rowTo_false hlt h1]
        simp
    · rw [if_neg hlt]
      obtain rfl : pos = s.size := by omega
      rw [h]
      rfl

/-- strings.ContainsFunc at 'does not show': some byte does not show. -/
theorem contains_hides (s : ByteArray) : decide (0 ≤ idxFunc hidesP true s) = !rowTo s s.size := idx_hides s s.size 0 (by omega) (by omega) rfl

/-- A row with a byte put at a column. -/
def putAt (r : ByteArray) (col : Nat) (c : UInt8) : ByteArray := r.extract 0 col ++ ⟨#[c]⟩ ++ r.extract (col + 1) r.size

/-- A new row begins. -/
def newRow (s : Scr) : Scr := if s.row < 5 then ⟨s.row + 1, 0, s.rows⟩ else ⟨5, 0, s.rows.drop 1 ++ [blanks 20]⟩

def setRow (s : Scr) (c : UInt8) : List ByteArray := s.rows.set s.row.toNat (putAt (s.rows.getD s.row.toNat ByteArray.empty) s.col.toNat c)
/-- A byte is shown. -/
def putCh (s : Scr) (c : UInt8) : Scr := if s.col + 1 = 20 then newRow ⟨s.row, 20, setRow s c⟩ else ⟨s.row, s.col + 1, setRow s c⟩

/-- Blanks up to the next stop. -/
def tabTo : Nat → Scr → Scr
  | 0, s => s
  | f + 1, s => if s.col % 8 = 0 then s else tabTo f (putCh s 32)

def blankScr : Scr := ⟨0, 0, List.replicate 6 (blanks 20)⟩

/-- What one byte of a text does. -/
def showCh (s : Scr) (c : UInt8) : Scr :=
  if 32 ≤ c.toNat ∧ c.toNat ≤ 126 then putCh s c
  else if c.toNat = 10 then newRow s
  else if c.toNat = 13 then ⟨s.row, 0, s.rows⟩
  else if c.toNat = 8 then ⟨s.row, if 0 < s.col then s.col - 1 else 0, s.rows⟩
  else if c.toNat = 9 then tabTo 8 (putCh s 32)
  else if c.toNat = 12 then blankScr
  else s

def showTo (s : Scr) (text : ByteArray) : Nat → Scr
  | 0 => s
  | k + 1 => showCh (showTo s text k) (text.get! k)

/-- A screen that is right, as far as the walks need it. -/
structure Fine (s : Scr) : Prop where
  len : s.rows.length = 6
  row0 : 0 ≤ s.row
  row5 : s.row ≤ 5
  col0 : 0 ≤ s.col
  col19 : s.col ≤ 19
  size : ∀ r ∈ s.rows, r.size = 20

theorem Fine.of_scrB {s : Scr} (h : scrB s = true) : Fine s := by
  unfold scrB at h
  simp only [Bool.and_eq_true, decide_eq_true_eq] at h
  obtain ⟨⟨⟨h1, h2, h3⟩, h4, h5⟩, h6⟩ := h
  refine ⟨h1, h2, h3, h4, h5, fun r hr => ?_⟩
  rw [List.all_eq_true] at h6
  have := h6 r hr
  unfold rowB at this
  simp only [Bool.and_eq_true, decide_eq_true_eq] at this
  exact this.1

theorem putAt_size {r : ByteArray} {col : Nat} {c : UInt8} (hr : r.size = 20) (hc : col ≤ 19) : (putAt r col c).size = 20 := by
  unfold putAt
  rw [ByteArray.size_append, ByteArray.size_append, ByteArray.size_extract, ByteArray.size_extract, hr]
  show min col 20 - 0 + 1 + (min 20 20 - (col + 1)) = 20
  omega

theorem row_mem {s : Scr} (h : Fine s) : s.rows.getD s.row.toNat ByteArray.empty ∈ s.rows := by
  have h1 := h.len; have h2 := h.row0; have h3 := h.row5
  rw [List.getD_eq_getElem?_getD, List.getElem?_eq_getElem (by omega)]
  exact List.getElem_mem _

theorem setRow_fine {s : Scr} (h : Fine s) (c : UInt8) : (setRow s c).length = 6 ∧ ∀ r ∈ setRow s c, r.size = 20 := by
  unfold setRow
  refine ⟨by rw [List.length_set]; exact h.len, fun r hr => ?_⟩
  rcases List.mem_or_eq_of_mem_set hr with hr | hr
  · exact h.size r hr
  · rw [hr]
    have h4 := h.col0; have h5 := h.col19
    exact putAt_size (h.size _ (row_mem h)) (by omega)

theorem newRow_fine {s : Scr} (hl : s.rows.length = 6) (h0 : 0 ≤ s.row) (h5 : s.row ≤ 5) (hs : ∀ r ∈ s.rows, r.size = 20) : Fine (newRow s) := by
  unfold newRow
  split
  · exact ⟨hl, by simp; omega, by simp; omega, by simp, by simp, hs⟩
  · refine ⟨by simp [hl], by simp, by simp, by simp, by simp, fun r hr => ?_⟩
    rcases List.mem_append.1 hr with hr | hr
    · exact hs r (List.mem_of_mem_drop hr)
    · rw [List.mem_singleton.1 hr]; exact blanks_size 20

theorem putCh_fine {s : Scr} (h : Fine s) (c : UInt8) : Fine (putCh s c) := by
  obtain ⟨h1, h2⟩ := setRow_fine h c
  have hc0 := h.col0; have hc := h.col19
  unfold putCh
  split
  · exact newRow_fine h1 h.row0 h.row5 h2
  · exact ⟨h1, h.row0, h.row5, by simp; omega, by simp; omega, h2⟩

theorem tabTo_fine : ∀ (f : Nat) {s : Scr}, Fine s → Fine (tabTo f s)
  | 0, _, h => h
  | f + 1, s, h => by
    unfold tabTo
    split
    · exact h
    · exact tabTo_fine f (putCh_fine h 32)

theorem blank_fine : Fine blankScr := ⟨by simp [blankScr], by simp [blankScr], by simp [blankScr], by simp [blankScr], by simp [blankScr], fun r hr => by
  rw [(List.mem_replicate.1 hr).2]; exact blanks_size 20⟩

theorem showCh_fine {s : Scr} (h : Fine s) (c : UInt8) : Fine (showCh s c) := by
  unfold showCh
  have h1 := h.col0; have h2 := h.col19
  split
  · exact putCh_fine h c
  split
  · exact newRow_fine h.len h.row0 h.row5 h.size
  split
  · exact ⟨h.len, h.row0, h.row5, by simp, by simp, h.size⟩
  split
  · exact ⟨h.len, h.row0, h.row5, by simp only; split <;> omega, by simp only; split <;> omega, h.size⟩
  split
  · exact tabTo_fine 8 (putCh_fine h 32)
  split
  · exact blank_fine
  · exact h

theorem showTo_fine {s : Scr} (h : Fine s) (text : ByteArray) : ∀ k, Fine (showTo s text k)
  | 0 => h
  | k + 1 => showCh_fine (showTo_fine h text k) _

/-- Blanks, k of them, in a row that has room. -/
def putsTo (s : Scr) : Nat → Scr
  | 0 => s
  | k + 1 => putCh (putsTo s k) 32

theorem putsTo_col {s : Scr} (h : Fine s) : ∀ (k : Nat), s.col + k ≤ 19 → (putsTo s k).col = s.col + k ∧ Fine (putsTo s k)
  | 0, _ => ⟨by simp [putsTo], h⟩
  | k + 1, hk => by
    obtain ⟨h1, h2⟩ := putsTo_col h k (by omega)
    refine ⟨?_, putCh_fine h2 32⟩
    show (putCh (putsTo s k) 32).col = _
    unfold putCh
    rw [if_neg (by rw [h1]; omega), h1]
    simp
    omega

theorem blanks_get {n k : Nat} (h : k < n) : (blanks n).get! k = 32 := by
  have hs : k < (blanks n).data.size := by simp [blanks, h]
  show (blanks n).data[k]! = 32
  rw [getElem!_pos _ k hs]
  simp [blanks]

/-- Showing blanks is putting blanks. -/
theorem show_blanks {s : Scr} {n : Nat} : ∀ k, k ≤ n → showTo s (blanks n) k = putsTo s k
  | 0, _ => rfl
  | k + 1, h => by
    show showCh (showTo s (blanks n) k) ((blanks n).get! k) = putCh (putsTo s k) 32
    rw [show_blanks k (by omega), blanks_get (by omega)]
    unfold showCh
    rw [if_pos (by decide)]

/-- The tab's loop ends within eight rounds. -/
theorem tabTo_end : ∀ (f : Nat) {s : Scr}, Fine s → (8 - s.col % 8 ≤ f ∨ s.col % 8 = 0) → (tabTo f s).col % 8 = 0
  | 0, s, h, hf => by
    have := h.col0
    rcases hf with hf | hf
    · have := Int.emod_lt_of_pos s.col (show (0 : Int) < 8 by decide); omega
    · exact hf
  | f + 1, s, h, hf => by
    unfold tabTo
    split
    · assumption
    · rename_i hne
      refine tabTo_end f (putCh_fine h 32) ?_
      have h0 := h.col0; have h9 := h.col19
      unfold putCh
      split
      · right
        unfold newRow
        split <;> rfl
      · simp only
        rcases hf with hf | hf
        · by_cases h8 : (s.col + 1) % 8 = 0
          · exact .inr h8
          · left; omega
        · exact absurd hf hne

end Go.Proofs.YtbpopkaafellgaaDoor
