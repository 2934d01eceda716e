/- The law of screens, plainly: a text in two parts; what shows stays; blanks up to a column. -/
import Derived.Test.YtbpopkaafellgaaDoorScreenPlain
namespace Go.Proofs.YtbpopkaafellgaaDoor

theorem get_extract {s : ByteArray} {a b j : Nat} (hb : b ≤ s.size) (hj : a + j < b) : (s.extract a b).get! j = s.get! (a + j) := by
  have h1 : j < (s.extract a b).size := by rw [ByteArray.size_extract]; omega
  have h2 : a + j < s.size := by omega
  show (s.extract a b).data[j]! = s.data[a + j]!
  rw [getElem!_pos _ j h1, getElem!_pos _ (a + j) h2]
  simp only [ByteArray.data_extract, Array.getElem_extract]

/-- A text in two parts has the same effect. -/
theorem showTo_first (s : Scr) (text : ByteArray) (k : Nat) (hk : k ≤ text.size) : ∀ j, j ≤ k → showTo s (text.extract 0 k) j = showTo s text j
  | 0, _ => rfl
  | j + 1, h => by
    show showCh (showTo s (text.extract 0 k) j) _ = showCh (showTo s text j) _
    rw [showTo_first s text k hk j (by omega), get_extract hk (by omega), Nat.zero_add]
theorem showTo_second (s : Scr) (text : ByteArray) (k : Nat) : ∀ j, k + j ≤ text.size → showTo (showTo s text k) (text.extract k text.size) j = showTo s text (k + j)
  | 0, _ => rfl
  | j + 1, h => by
    show showCh (showTo (showTo s text k) (text.extract k text.size) j) _ = showCh (showTo s text (k + j)) _
    rw [showTo_second s text k j (by omega), get_extract (Nat.le_refl _) (by omega)]
    rfl
theorem showTo_parts (s : Scr) (text : ByteArray) (k : Nat) (hk : k ≤ text.size) :
    showTo (showTo s (text.extract 0 k) (text.extract 0 k).size) (text.extract k text.size) (text.extract k text.size).size = showTo s text text.size := by
  have e1 : (text.extract 0 k).size = k := by rw [ByteArray.size_extract]; omega
  have e2 : (text.extract k text.size).size = text.size - k := by rw [ByteArray.size_extract]; omega
  rw [e1, showTo_first s text k hk k (Nat.le_refl _), e2, showTo_second s text k _ (by omega)]
  congr 1; omega

/-- All rows show. -/
def Shows (s : Scr) : Prop := ∀ r ∈ s.rows, rowB r = true
theorem scrB_of {s : Scr} (h : Fine s) (hs : Shows s) : scrB s = true := by
  unfold scrB
  simp only [Bool.and_eq_true, decide_eq_true_eq, List.all_eq_true]
  exact ⟨⟨⟨h.len, h.row0, h.row5⟩, h.col0, h.col19⟩, hs⟩
theorem shows_of {s : Scr} (h : scrB s = true) : Shows s := by
  unfold scrB at h
  simp only [Bool.and_eq_true, List.all_eq_true] at h
  exact h.2

theorem rowB_iff (r : ByteArray) : rowB r = true ↔ r.size = 20 ∧ ∀ j, j < r.size → showsB (r.get! j).toNat = true := by
  unfold rowB
  simp only [Bool.and_eq_true, decide_eq_true_eq]
  constructor
  · exact fun ⟨h1, h2⟩ => ⟨h1, fun j hj => rowTo_at hj h2⟩
  · refine fun ⟨h1, h2⟩ => ⟨h1, ?_⟩
    unfold rowTo
    rw [List.all_eq_true]
    exact fun j hj => h2 j (by simpa using hj)
theorem get_append (a b : ByteArray) (j : Nat) : (a ++ b).get! j = if j < a.size then a.get! j else b.get! (j - a.size) := by
  show (a ++ b).data[j]! = if j < a.size then a.data[j]! else b.data[j - a.size]!
  rw [ByteArray.data_append, getElem!_def, getElem!_def, getElem!_def, Array.getElem?_append]
  by_cases h : j < a.data.size
  · rw [if_pos h, if_pos (show j < a.size from h)]
  · rw [if_neg h, if_neg (show ¬ j < a.size from h)]; rfl
theorem putAt_shows {r : ByteArray} {col : Nat} {c : UInt8} (hr : rowB r = true) (hc : col ≤ 19) (hs : showsB c.toNat = true) : rowB (putAt r col c) = true := by
  rw [rowB_iff] at hr ⊢
  refine ⟨putAt_size hr.1 hc, fun j hj => ?_⟩
  rw [putAt_size hr.1 hc] at hj
  have e1 : (r.extract 0 col).size = col := by rw [ByteArray.size_extract, hr.1]; omega
  have e2 : (r.extract 0 col ++ (⟨#[c]⟩ : ByteArray)).size = col + 1 := by rw [ByteArray.size_append, e1]; rfl
  unfold putAt
  rw [get_append, e2]
  by_cases h1 : j < col + 1
  · rw [if_pos h1, get_append, e1]
    by_cases h2 : j < col
    · rw [if_pos h2, get_extract (by rw [hr.1]; omega) (by omega), Nat.zero_add]
      exact hr.2 j (by rw [hr.1]; omega)
    · rw [if_neg h2]
      obtain rfl : j = col := by omega
      rw [Nat.sub_self]
      exact hs
  · rw [if_neg h1, get_extract (Nat.le_refl _) (by rw [hr.1]; omega)]
    exact hr.2 _ (by rw [hr.1]; omega)
theorem blanks_rowB : rowB (blanks 20) = true := by
  rw [rowB_iff]
  refine ⟨blanks_size 20, fun j hj => ?_⟩
  rw [blanks_size] at hj
  rw [blanks_get hj]; rfl

theorem newRow_shows {s : Scr} (h : Shows s) : Shows (newRow s) := by
  unfold newRow
  split
  · exact h
  · intro r hr
    rcases List.mem_append.1 hr with hr | hr
    · exact h r (List.mem_of_mem_drop hr)
    · rw [List.mem_singleton.1 hr]; exact blanks_rowB
theorem setRow_shows {s : Scr} (hf : Fine s) (h : Shows s) {c : UInt8} (hc : showsB c.toNat = true) : ∀ r ∈ setRow s c, rowB r = true := by
  intro r hr
  unfold setRow at hr
  rcases List.mem_or_eq_of_mem_set hr with hr | rfl
  · exact h r hr
  · have h4 := hf.col0; have h5 := hf.col19
    exact putAt_shows (h _ (row_mem hf)) (by omega) hc
theorem putCh_shows {s : Scr} (hf : Fine s) (h : Shows s) {c : UInt8} (hc : showsB c.toNat = true) : Shows (putCh s c) := by
  unfold putCh
  split
  · exact newRow_shows (s := ⟨s.row, 20, setRow s c⟩) (setRow_shows hf h hc)
  · exact setRow_shows hf h hc
theorem tabTo_shows : ∀ (f : Nat) {s : Scr}, Fine s → Shows s → Shows (tabTo f s)
  | 0, _, _, h => h
  | f + 1, s, hf, h => by
    unfold tabTo
    split
    · exact h
    · exact tabTo_shows f (putCh_fine hf 32) (putCh_shows hf h rfl)
theorem showCh_shows {s : Scr} (hf : Fine s) (h : Shows s) (c : UInt8) : Shows (showCh s c) := by
  unfold showCh
  split
  · rename_i hc
    exact putCh_shows hf h (by unfold showsB; exact decide_eq_true hc)
  split
  · exact newRow_shows h
  split
  · exact h
  split
  · exact h
  split
  · exact tabTo_shows 8 (putCh_fine hf 32) (putCh_shows hf h rfl)
  split
  · intro r hr
    rw [(List.mem_replicate.1 hr).2]; exact blanks_rowB
  · exact h
theorem showTo_shows {s : Scr} (hf : Fine s) (h : Shows s) (text : ByteArray) : ∀ k, Shows (showTo s text k)
  | 0 => h
  | k + 1 => showCh_shows (showTo_fine hf text k) (showTo_shows hf h text k) _
theorem showTo_scrB {s : Scr} (h : scrB s = true) (text : ByteArray) (k : Nat) : scrB (showTo s text k) = true :=
  scrB_of (showTo_fine (Fine.of_scrB h) text k) (showTo_shows (Fine.of_scrB h) (shows_of h) text k)

theorem putsTo_row {s : Scr} (h : Fine s) : ∀ (k : Nat), s.col + k ≤ 19 → (putsTo s k).row = s.row
  | 0, _ => rfl
  | k + 1, hk => by
    obtain ⟨h1, h2⟩ := putsTo_col h k (by omega)
    show (putCh (putsTo s k) 32).row = _
    unfold putCh
    rw [if_neg (by rw [h1]; omega)]
    exact putsTo_row h k (by omega)
theorem putsTo_shows {s : Scr} (hf : Fine s) (h : Shows s) : ∀ (k : Nat), s.col + k ≤ 19 → Shows (putsTo s k)
  | 0, _ => h
  | k + 1, hk => putCh_shows (putsTo_col hf k (by omega)).2 (putsTo_shows hf h k (by omega)) rfl

/-- What the law asks of TabTo: s is right, 0 ≤ col ≤ 19. -/
theorem tab_law {s : Scr} (h : scrB s = true) {col : Int} (h0 : 0 ≤ col) (h19 : col ≤ 19) :
    let t := if 20 ≤ col ∨ col ≤ s.col then s else putsTo s (col - s.col).toNat
    scrB t = true ∧ (col < s.col ∨ t.col = col) ∧ t.row = s.row := by
  have hf := Fine.of_scrB h
  have hc := hf.col0
  dsimp only
  split
  · rename_i hcase
    refine ⟨h, ?_, rfl⟩
    rcases hcase with h1 | h1
    · omega
    · rcases Int.lt_or_eq_of_le h1 with h2 | h2
      · exact .inl h2
      · exact .inr h2.symm
  · rename_i hcase
    have hk : s.col + ((col - s.col).toNat : Int) ≤ 19 := by omega
    obtain ⟨h1, h2⟩ := putsTo_col hf _ hk
    exact ⟨scrB_of h2 (putsTo_shows hf (shows_of h) _ hk), .inr (by rw [h1]; omega), putsTo_row hf _ hk⟩

end Go.Proofs.YtbpopkaafellgaaDoor
