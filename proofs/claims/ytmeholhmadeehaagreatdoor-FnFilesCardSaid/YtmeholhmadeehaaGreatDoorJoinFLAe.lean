/- Screens, plainly: what showing a byte does; when a row is right. No program in sight. -/
import Derived.Shelf.GgClosure.StringsIndexFunc
import Derived.Test.YtmeholhmadeehaaGreatDoorJoinFLAd
import Derived.Test.YtmeholhmadeehaaGreatDoorShelfS
import Derived.Test.YtmeholhmadeehaaGreatDoorJoinFLAb
namespace Go.Proofs.YtmeholhmadeehaaGreatDoor
open Go.Lib

structure Scr where
  row : Int
  col : Int
  rows : List ByteArray

def blanks (n : Nat) : ByteArray := ⟨(List.replicate n (32 : UInt8)).toArray⟩
theorem blanks_size (n : Nat) : (blanks n).size = n := by simp [blanks, ByteArray.size]

/-- A byte that shows. -/
def showsB (c : Nat) : Bool := decide (32 ≤ c ∧ c ≤ 126)
def rowTo (s : ByteArray) (k : Nat) : Bool := (List.range k).all fun j => showsB (s.get! j).toNat
def rowB (s : ByteArray) : Bool := decide (s.size = 20) && rowTo s s.size
def scrB (s : Scr) : Bool := decide (s.rows.length = 6) && decide (0 ≤ s.row ∧ s.row ≤ 5) && decide (0 ≤ s.col ∧ s.col ≤ 19) && s.rows.all rowB

theorem rowTo_succ (s : ByteArray) (k : Nat) : rowTo s (k + 1) = (rowTo s k && showsB (s.get! k).toNat) := by
  unfold rowTo
  rw [List.range_succ, List.all_append]
  simp
theorem rowTo_false {s : ByteArray} {k n : Nat} (hk : k < n) (h : showsB (s.get! k).toNat = false) : rowTo s n = false := by
  unfold rowTo
  rw [List.all_eq_false]
  exact ⟨k, by simpa using hk, by simp [h]⟩
theorem rowTo_at {s : ByteArray} {k n : Nat} (hk : k < n) (h : rowTo s n = true) : showsB (s.get! k).toNat = true := by
  unfold rowTo at h
  rw [List.all_eq_true] at h
  exact h k (by simpa using hk)

/-- A rune that does not show. -/
def hidesP (c : Nat) : Bool := decide (c < 32 ∨ 126 < c)

theorem decode_hides (s : ByteArray) (i : Nat) (_hi : i < s.size) :
    (showsB (s.get! i).toNat = true ∧ hidesP (Utf8.decode s i).1 = false ∧ (Utf8.decode s i).2 = 1) ∨ (showsB (s.get! i).toNat = false ∧ hidesP (Utf8.decode s i).1 = true) := by
  have key : ∀ (c n : Nat), 126 < c → hidesP (c, n).1 = true := fun c n h => by simp [hidesP, h]
  have err : 126 < Utf8.runeError := by decide
  by_cases h0 : (s.get! i).toNat < 128
  · have hd : Utf8.decode s i = ((s.get! i).toNat, 1) := by
      unfold Utf8.decode
      simp only [Nat.add_zero]
      rw [if_pos h0]
    rw [hd]
    by_cases h1 : 32 ≤ (s.get! i).toNat ∧ (s.get! i).toNat ≤ 126
    · left; exact ⟨by simp [showsB, h1], by simp [hidesP]; omega, rfl⟩
    · right; exact ⟨by simp [showsB]; omega, by simp [hidesP]; omega⟩
  · right
    refine ⟨by simp [showsB]; omega, ?_⟩
    unfold Utf8.decode
    simp only [Nat.add_zero]
    rw [if_neg h0]
    split
    · rename_i h2
      simp only [Bool.and_eq_true, beq_iff_eq, decide_eq_true_eq] at h2
      split
      · exact key _ _ (by omega)
      · exact key _ _ err
    · split
      · rename_i h2
        simp only [Bool.and_eq_true, beq_iff_eq, decide_eq_true_eq] at h2
        split
        · rename_i h3
          simp only [Bool.and_eq_true, decide_eq_true_eq, ge_iff_le] at h3
          exact key _ _ (by omega)
        · exact key _ _ err
      · split
        · rename_i h2
          simp only [Bool.and_eq_true, beq_iff_eq, decide_eq_true_eq] at h2
          split
          · rename_i h3
            simp only [Bool.and_eq_true, decide_eq_true_eq, ge_iff_le] at h3
            exact key _ _ (by omega)
          · exact key _ _ err
        · exact key _ _ err

theorem idx_hides (s : ByteArray) : ∀ (f pos : Nat), s.size ≤ pos + f → pos ≤ s.size → rowTo s pos = true → decide (0 ≤ idxFuncFrom hidesP true s f pos) = !rowTo s s.size
  | 0, pos, hf, hp, h => by
    obtain rfl : pos = s.size := by omega
    rw [h]
    rfl
  | f + 1, pos, hf, hp, h => by
    unfold idxFuncFrom
    by_cases hlt : pos < s.size
    · rw [if_pos hlt]
      rcases decode_hides s pos hlt with ⟨h1, h2, h3⟩ | ⟨h1, h2⟩
      · rw [h2, h3, if_neg (by simp)]
        exact idx_hides s f (pos + 1) (by omega) (by omega) (by rw [rowTo_succ, h, h1]; rfl)
      · rw [h2, if_pos rfl, rowTo_false hlt h1]
        simp
    · rw [if_neg hlt]
      obtain rfl : pos = s.size := by omega
      rw [h]
      rfl

/-- strings.ContainsFunc at 'does not show': some byte does not show. -/
theorem contains_hides (s : ByteArray) : decide (0 ≤ idxFunc hidesP true s) = !rowTo s s.size := idx_hides s s.size 0 (by omega) (by omega) rfl

/-- A row with a byte put at a column. -/
def putAt (r : ByteArray) (col : Nat) (c : UInt8) : ByteArray := r.extract 0 col ++ ⟨#[c]⟩ ++ r.extract (col + 1) r.size

/-- A new row begins. -/
def newRow (s : Scr) : Scr := if s.row < 5 then ⟨s.row + 1, 0, s.rows⟩ else ⟨5, 0, s.rows.drop 1 ++ [blanks 20]⟩

def setRow (s : Scr) (c : UInt8) : List ByteArray := s.rows.set s.row.toNat (putAt (s.rows.getD s.row.toNat ByteArray.empty) s.col.toNat c)
/-- A byte is shown. -/
def putCh (s : Scr) (c : UInt8) : Scr := if s.col + 1 = 20 then newRow ⟨s.row, 20, setRow s c⟩ else ⟨s.row, s.col + 1, setRow s c⟩

/-- Blanks up to the next stop. -/
def tabTo : Nat → Scr → Scr
  | 0, s => s
  | f + 1, s => if s.col % 8 = 0 then s else tabTo f (putCh s 32)

def blankScr : Scr := ⟨0, 0, List.replicate 6 (blanks 20)⟩

/-- What one byte of a text does. -/
def showCh (s : Scr) (c : UInt8) : Scr :=
  if 32 ≤ c.toNat ∧ c.toNat ≤ 126 then putCh s c
  else if c.toNat = 10 then newRow s
  else if c.toNat = 13 then ⟨s.row, 0, s.rows⟩
  else if c.toNat = 8 then ⟨s.row, if 0 < s.col then s.col - 1 else 0, s.rows⟩
  else if c.toNat = 9 then tabTo 8 (putCh s 32)
  else if c.toNat = 12 then blankScr
  else s

def showTo (s : Scr) (text : ByteArray) : Nat → Scr
  | 0 => s
  | k + 1 => showCh (showTo s text k) (text.get! k)

/-- A screen that is right, as far as the walks need it. -/
structure Fine (s : Scr) : Prop where
  len : s.rows.length = 6
  row0 : 0 ≤ s.row
  row5 : s.row ≤ 5
  col0 : 0 ≤ s.col
  col19 : s.col ≤ 19
  size : ∀ r ∈ s.rows, r.size = 20

theorem Fine.of_scrB {s : Scr} (h : scrB s = true) : Fine s := by
  unfold scrB at h
  simp only [Bool.and_eq_true, decide_eq_true_eq] at h
  obtain ⟨⟨⟨h1, h2, h3⟩, h4, h5⟩, h6⟩ := h
  refine ⟨h1, h2, h3, h4, h5, fun r hr => ?_⟩
  rw [List.all_eq_true] at h6
  have := h6 r hr
  unfold rowB at this
  simp only [Bool.and_eq_true, decide_eq_true_eq] at this
  exact this.1

theorem putAt_size {r : ByteArray} {col : Nat} {c : UInt8} (hr : r.size = 20) (hc : col ≤ 19) : (putAt r col c).size = 20 := by
  unfold putAt
  rw [ByteArray.size_append, ByteArray.size_append, ByteArray.size_extract, ByteArray.size_extract, hr]
  show min col 20 - 0 + 1 + (min 20 20 - (col + 1)) = 20
  omega

theorem row_mem {s : Scr} (h : Fine s) : s.rows.getD s.row.toNat ByteArray.empty ∈ s.rows := by
  have h1 := h.len; have h2 := h.row0; have h3 := h.row5
  rw [List.getD_eq_getElem?_getD, List.getElem?_eq_getElem (by omega)]
  exact List.getElem_mem _

theorem setRow_fine {s : Scr} (h : Fine s) (c : UInt8) : (setRow s c).length = 6 ∧ ∀ r ∈ setRow s c, r.size = 20 := by
  unfold setRow
  refine ⟨by rw [List.length_set]; exact h.len, fun r hr => ?_⟩
  rcases List.mem_or_eq_of_mem_set hr with hr | hr
  · exact h.size r hr
  · rw [hr]
    have h4 := h.col0; have h5 := h.col19
    exact putAt_size (h.size _ (row_mem h)) (by omega)

theorem newRow_fine {s : Scr} (hl : s.rows.length = 6) (h0 : 0 ≤ s.row) (h5 : s.row ≤ 5) (hs : ∀ r ∈ s.rows, r.size = 20) : Fine (newRow s) := by
  unfold newRow
  split
  · exact ⟨hl, by simp; omega, by simp; omega, by simp, by simp, hs⟩
  · refine ⟨by simp [hl], by simp, by simp, by simp, by simp, fun r hr => ?_⟩
    rcases List.mem_append.1 hr with hr | hr
    · exact hs r (List.mem_of_mem_drop hr)
    · rw [List.mem_singleton.1 hr]; exact blanks_size 20

theorem putCh_fine {s : Scr} (h : Fine s) (c : UInt8) : Fine (putCh s c) := by
  obtain ⟨h1, h2⟩ := setRow_fine h c
  have hc0 := h.col0; have hc := h.col19
  unfold putCh
  split
  · exact newRow_fine h1 h.row0 h.row5 h2
  · exact ⟨h1, h.row0, h.row5, by simp; omega, by simp; omega, h2⟩

theorem tabTo_fine : ∀ (f : Nat) {s : Scr}, Fine s → Fine (tabTo f s)
  | 0, _, h => h
  | f + 1, s, h => by
    unfold tabTo
    split
    · exact h
    · exact tabTo_fine f (putCh_fine h 32)

theorem blank_fine : Fine blankScr := ⟨by simp [blankScr], by simp [blankScr], by simp [blankScr], by simp [blankScr], by simp [blankScr], fun r hr => by
  rw [(List.mem_replicate.1 hr).2]; exact blanks_size 20⟩

theorem showCh_fine {s : Scr} (h : Fine s) (c : UInt8) : Fine (showCh s c) := by
  unfold showCh
  have h1 := h.col0; have h2 := h.col19
  split
  · exact putCh_fine h c
  split
  · exact newRow_fine h.len h.row0 h.row5 h.size
  split
  · exact ⟨h.len, h.row0, h.row5, by simp, by simp, h.size⟩
  split
  · exact ⟨h.len, h.row0, h.row5, by simp only; split <;> omega, by simp only; split <;> omega, h.size⟩
  split
  · exact tabTo_fine 8 (putCh_fine h 32)
  split
  · exact blank_fine
  · exact h

theorem showTo_fine {s : Scr} (h : Fine s) (text : ByteArray) : ∀ k, Fine (showTo s text k)
  | 0 => h
  | k + 1 => showCh_fine (showTo_fine h text k) _

/-- Blanks, k of them, in a row that has room. -/
def putsTo (s : Scr) : Nat → Scr
  | 0 => s
  | k + 1 => putCh (putsTo s k) 32

theorem putsTo_col {s : Scr} (h : Fine s) : ∀ (k : Nat), s.col + k ≤ 19 → (putsTo s k).col = s.col + k ∧ Fine (putsTo s k)
  | 0, _ => ⟨by simp [putsTo], h⟩
  | k + 1, hk => by
    obtain ⟨h1, h2⟩ := putsTo_col h k (by omega)
    refine ⟨?_, putCh_fine h2 32⟩
    show (putCh (putsTo s k) 32).col = _
    unfold putCh
    rw [if_neg (by rw [h1]; omega), h1]
    simp
    omega

theorem blanks_get {n k : Nat} (h : k < n) : (blanks n).get! k = 32 := by
  have hs : k < (blanks n).data.size := by simp [blanks, h]
  show (blanks n).data[k]! = 32
  rw [getElem!_pos _ k hs]
  simp [blanks]

/-- Showing blanks is putting blanks. -/
theorem show_blanks {s : Scr} {n : Nat} : ∀ k, k ≤ n → showTo s (blanks n) k = putsTo s k
  | 0, _ => rfl
  | k + 1, h => by
    show showCh (showTo s (blanks n) k) ((blanks n).get! k) = putCh (putsTo s k) 32
    rw [show_blanks k (by omega), blanks_get (by omega)]
    unfold showCh
    rw [if_pos (by decide)]

/-- The tab's loop ends within eight rounds. -/
theorem tabTo_end : ∀ (f : Nat) {s : Scr}, Fine s → (8 - s.col % 8 ≤ f ∨ s.col % 8 = 0) → (tabTo f s).col % 8 = 0
  | 0, s, h, hf => by
    have := h.col0
    rcases hf with hf | hf
    · have := Int.emod_lt_of_pos s.col (show (0 : Int) < 8 by decide); omega
    · exact hf
  | f + 1, s, h, hf => by
    unfold tabTo
    split
    · assumption
    · rename_i hne
      refine tabTo_end f (putCh_fine h 32) ?_
      have h0 := h.col0; have h9 := h.col19
      unfold putCh
      split
      · right
        unfold newRow
        split <;> rfl
      · simp only
        rcases hf with hf | hf
        · by_cases h8 : (s.col + 1) % 8 = 0
          · exact .inr h8
          · left; omega
        · exact absurd hf hne

end Go.Proofs.YtmeholhmadeehaaGreatDoor

/- Walks: what a right screen is (both ScreenOk). -/
namespace Go.Proofs.YtmeholhmadeehaaGreatDoor
open Go.RowKit

set_option maxHeartbeats 400000 in
theorem l22Shows_any (c : Nat) (w : World) (hc : c ≤ 255) : Calls Tryz.prog 65 #[.int .u8 c] w fun e w' => e = .returned (.bool (showsB c)) ∧ w = w' := by
  rcases (show (32 ≤ c ∧ c ≤ 126) ∨ 126 < c ∨ c < 32 from by omega) with h | h | h
  all_goals
    go_enter Tryz.func65, Tryz.ntmps65
    go_wp2
    go_ret
    refine ⟨?_, rfl⟩
    refine congrArg (fun b => Ending.returned (.bool b)) ?_
    unfold showsB
    rw [Bool.eq_iff_iff]
    simp
    try omega

/-- The value of a screen, and where its rows lie. -/
def ScrR (w : World) (lo hi : Nat) (v : Value) (s : Scr) : Prop :=
  ∃ A c, v = .agg #[.int .i64 s.row, .int .i64 s.col, .slice A s.rows.length c] ∧ StrR w lo hi A s.rows.length s.rows

theorem ScrR.below {w w' : World} {lo hi B : Nat} {v : Value} {s : Scr} (h : ScrR w lo hi v s) (hb : Below B w w') (hB : hi ≤ B) : ScrR w' lo hi v s := by
  obtain ⟨A, c, hv, h1⟩ := h
  exact ⟨A, c, hv, h1.below hb hB⟩

def ScrSmall (s : Scr) : Prop := s.rows.length ≤ 1048576 ∧ ∀ r ∈ s.rows, r.size ≤ 1048576

theorem rowB_false_size {r : ByteArray} (h : r.size ≠ 20) : rowB r = false := by simp [rowB, h]
theorem rowB_false_at {r : ByteArray} {k : Nat} (hk : k < r.size) (h : showsB (r.get! k).toNat = false) : rowB r = false := by
  unfold rowB; rw [rowTo_false hk h]; simp
theorem scrB_false_row {s : Scr} {k : Nat} (hk : k < s.rows.length) (h : rowB (s.rows.getD k ByteArray.empty) = false) : scrB s = false := by
  unfold scrB
  rw [all_false_at rowB ByteArray.empty s.rows k hk h, Bool.and_false]
theorem scrB_true {s : Scr} (h1 : s.rows.length = 6) (h2 : 0 ≤ s.row) (h3 : s.row ≤ 5) (h4 : 0 ≤ s.col) (h5 : s.col ≤ 19) (h6 : s.rows.all rowB = true) : scrB s = true := by
  simp [scrB, h1, h2, h3, h4, h5, h6]

set_option maxHeartbeats 4000000 in
set_option maxRecDepth 100000 in
theorem specScreenOk_any (s : Scr) (v : Value) (lo hi : Nat) (w : World) (hx : ScrR w lo hi v s) (hhi : hi ≤ w.heap.size) (hs : ScrSmall s) :
    Calls Tryz.prog 60 #[v] w fun e w' => e = .returned (.bool (scrB s)) ∧ Below w.heap.size w w' := by
  obtain ⟨A, c, rfl, hA⟩ := hx
  obtain ⟨hs1, hs2⟩ := hs
  have hbo := fun o => (Below.refl w.heap.size w).alloc (Nat.le_refl _) o
  have HD := Lib.hid hbo
  have hA' := fun o => hA.below (hbo o) hhi
  have HSZ := Lib.hid hs2
  clear hA hbo hs2
  by_cases h6n : s.rows.length ≠ 6
  · have h6 : ¬ (s.rows.length = 6) := h6n
    have n6 : ((s.rows.length : Int) != 6) = true := by rw [bne_iff_ne]; omega
    rw [show scrB s = false by simp [scrB, h6]]
    clear hA'
    go_enter Tryz.func60, Tryz.ntmps60
    go_wp2_with fail
    go_ret
    exact ⟨rfl, HD.out _⟩
  have h6 : s.rows.length = 6 := by omega
  clear h6n
  have n6 : ((s.rows.length : Int) != 6) = false := by simp [h6]
  have H6 := Lib.hid h6
  have l6 : s.rows.length ≤ 6 := by omega
  have g6 : 6 ≤ s.rows.length := by omega
  clear h6
  cases hr : inB s.row 0 5
  · rw [show scrB s = false by have : ¬ (0 ≤ s.row ∧ s.row ≤ 5) := by simpa [inB] using hr
                               simp only [scrB, decide_eq_false this, Bool.and_false, Bool.false_and]]
    clear hA'
    go_enter Tryz.func60, Tryz.ntmps60
    go_wp2_with (go_at_call 23; refine (l00In_any _ _ _ _).mono ?_; rintro e' w' ⟨rfl, rfl⟩)
    go_ret
    exact ⟨rfl, HD.out _⟩
  have hrow : 0 ≤ s.row ∧ s.row ≤ 5 := by simpa [inB] using hr
  cases hcl : inB s.col 0 19
  · rw [show scrB s = false by have : ¬ (0 ≤ s.col ∧ s.col ≤ 19) := by simpa [inB] using hcl
                               simp only [scrB, decide_eq_false this, Bool.and_false, Bool.false_and]]
    clear hA'
    go_enter Tryz.func60, Tryz.ntmps60
    go_wp2_with (go_at_call 23; refine (l00In_any _ _ _ _).mono ?_; rintro e' w' ⟨rfl, rfl⟩)
    go_ret
    exact ⟨rfl, HD.out _⟩
  have hcol : 0 ≤ s.col ∧ s.col ≤ 19 := by simpa [inB] using hcl
  have HT := Lib.hid (show s.rows.all rowB = true → scrB s = true from fun h => scrB_true H6.out hrow.1 hrow.2 hcol.1 hcol.2 h)
  have HF := Lib.hid (fun (k : Nat) (hk : k < s.rows.length) (h : rowB (s.rows.getD k ByteArray.empty) = false) => scrB_false_row hk h)
  have HA := Lib.hid hA'
  clear hA' hrow hcol
  go_enter Tryz.func60, Tryz.ntmps60
  go_wp2_with (go_at_call 23; refine (l00In_any _ _ _ _).mono ?_; rintro e' w' ⟨rfl, rfl⟩)
  go_loop [3] (fun i => ∃ k : Nat, k ≤ s.rows.length ∧ i = .int .i64 k ∧ (s.rows.take k).all rowB = true) (fun i => s.rows.length - (intOf i).toNat)
  case atStart => exact ⟨0, Nat.zero_le _, rfl, rfl⟩
  case round =>
    obtain ⟨k, hk, rfl, ht⟩ := hrel
    have HK := Lib.hid ht; clear ht
    by_cases hlt : k < s.rows.length
    · obtain ⟨b, off, rfl, _, hb, hcell⟩ := (HA.out (.cells #[.int .i64 s.row, .int .i64 s.col, .slice A s.rows.length c] 29)).at_ hlt
      have HN := Lib.hid (HF.out k hlt)
      have HS := Lib.hid (all_take_succ rowB ByteArray.empty s.rows k hlt)
      have hsz : (s.rows.getD k ByteArray.empty).size ≤ 1048576 := by
        rw [List.getD_eq_getElem?_getD, List.getElem?_eq_getElem hlt]
        exact HSZ.out _ (List.getElem_mem _)
      generalize s.rows.getD k ByteArray.empty = X at *
      by_cases h20 : X.size = 20
      · have n20 : ((X.size : Int) != 20) = false := by simp [h20]
        have H20 := Lib.hid h20
        have l20 : X.size ≤ 20 := by omega
        have g20 : 20 ≤ X.size := by omega
        clear h20
        go_wp2_with fail
        go_loop [4] (fun i => ∃ j : Nat, j ≤ X.size ∧ i = .int .i64 j ∧ rowTo X j = true) (fun i => X.size - (intOf i).toNat)
        case atStart => exact ⟨0, Nat.zero_le _, rfl, rfl⟩
        case round =>
          obtain ⟨j, hj, rfl, htj⟩ := hrel
          have HJ := Lib.hid htj; clear htj
          by_cases hjl : j < X.size
          · have HB := Lib.hid (byte_at hjl)
            have h255 := byte_le X[j]
            cases hsh : showsB X[j].toNat
            · have HR := Lib.hid (HN.out (rowB_false_at hjl (by rw [HB.out]; exact hsh)))
              have HSH := Lib.hid hsh; clear hsh
              go_wp2_with (go_at_call 65; refine (l22Shows_any _ _ h255).mono ?_; rintro e' w' ⟨rfl, rfl⟩; rw [HSH.out])
              go_ret
              exact ⟨by rw [HR.out]; rfl, HD.out _⟩
            · have HSH := Lib.hid hsh; clear hsh
              go_wp2_with (go_at_call 65; refine (l22Shows_any _ _ h255).mono ?_; rintro e' w' ⟨rfl, rfl⟩; rw [HSH.out])
              go_round
              case rel => exact ⟨j + 1, by omega, by go_num, by rw [rowTo_succ, HJ.out, HB.out, HSH.out]; rfl⟩
              case measure => simp [intOf]; omega
          · obtain rfl : j = X.size := by omega
            go_wp2_with fail
            go_round
            case rel => exact ⟨k + 1, by omega, by go_num, by rw [HS.out, HK.out]; unfold rowB; rw [HJ.out, decide_eq_true H20.out]; rfl⟩
            case measure => simp [intOf]; omega
      · have n20 : ((X.size : Int) != 20) = true := by rw [bne_iff_ne]; omega
        have HR := Lib.hid (HN.out (rowB_false_size h20))
        clear h20
        go_wp2_with fail
        go_ret
        exact ⟨by rw [HR.out]; rfl, HD.out _⟩
    · obtain rfl : k = s.rows.length := by omega
      have HR := Lib.hid (HT.out (by have := HK.out; rwa [List.take_length] at this))
      go_wp2_with fail
      go_ret
      exact ⟨by rw [HR.out]; rfl, HD.out _⟩

theorem hides_pays (w : World) : PredAtRunes Tryz.prog 102 #[] hidesP w := by
  intro W x hx hb
  unfold FnGives
  rcases (show x < 32 ∨ (32 ≤ x ∧ x ≤ 126) ∨ 126 < x from by omega) with h | h | h
  all_goals
    go_enter Tryz.func102, Tryz.ntmps102
    go_wp2
    go_ret
    refine ⟨?_, 0, rfl⟩
    refine congrArg (fun b => Ending.returned (.bool b)) ?_
    unfold hidesP
    rw [Bool.eq_iff_iff]
    simp
    try omega

set_option maxHeartbeats 4000000 in
set_option maxRecDepth 100000 in
theorem implScreenOk_any (s : Scr) (v : Value) (lo hi : Nat) (w : World) (hx : ScrR w lo hi v s) (hhi : hi ≤ w.heap.size) (hs : ScrSmall s) :
    Calls Tryz.prog 72 #[v] w fun e w' => e = .returned (.bool (scrB s)) ∧ Below w.heap.size w w' := by
  obtain ⟨A, c, rfl, hA⟩ := hx
  obtain ⟨hs1, hs2⟩ := hs
  have hbo := fun o => (Below.refl w.heap.size w).alloc (Nat.le_refl _) o
  have HD := Lib.hid hbo
  have hA' := fun o => hA.below (hbo o) hhi
  have HSZ := Lib.hid hs2
  clear hA hbo hs2
  by_cases h6n : s.rows.length ≠ 6
  · have h6 : ¬ (s.rows.length = 6) := h6n
    have n6 : ((s.rows.length : Int) != 6) = true := by rw [bne_iff_ne]; omega
    rw [show scrB s = false by simp [scrB, h6]]
    clear hA'
    go_enter Tryz.func72, Tryz.ntmps72
    go_wp2_with fail
    go_ret
    exact ⟨rfl, HD.out _⟩
  have h6 : s.rows.length = 6 := by omega
  clear h6n
  have n6 : ((s.rows.length : Int) != 6) = false := by simp [h6]
  have H6 := Lib.hid h6
  have l6 : s.rows.length ≤ 6 := by omega
  have g6 : 6 ≤ s.rows.length := by omega
  clear h6
  cases hr : inB s.row 0 5
  · rw [show scrB s = false by have : ¬ (0 ≤ s.row ∧ s.row ≤ 5) := by simpa [inB] using hr
                               simp only [scrB, decide_eq_false this, Bool.and_false, Bool.false_and]]
    clear hA'
    go_enter Tryz.func72, Tryz.ntmps72
    go_wp2_with (go_at_call 32; refine (within_any _ _ _ _).mono ?_; rintro e' w' ⟨rfl, rfl⟩)
    go_ret
    exact ⟨rfl, HD.out _⟩
  have hrow : 0 ≤ s.row ∧ s.row ≤ 5 := by simpa [inB] using hr
  cases hcl : inB s.col 0 19
  · rw [show scrB s = false by have : ¬ (0 ≤ s.col ∧ s.col ≤ 19) := by simpa [inB] using hcl
                               simp only [scrB, decide_eq_false this, Bool.and_false, Bool.false_and]]
    clear hA'
    go_enter Tryz.func72, Tryz.ntmps72
    go_wp2_with (go_at_call 32; refine (within_any _ _ _ _).mono ?_; rintro e' w' ⟨rfl, rfl⟩)
    go_ret
    exact ⟨rfl, HD.out _⟩
  have hcol : 0 ≤ s.col ∧ s.col ≤ 19 := by simpa [inB] using hcl
  have HT := Lib.hid (show s.rows.all rowB = true → scrB s = true from fun h => scrB_true H6.out hrow.1 hrow.2 hcol.1 hcol.2 h)
  have HF := Lib.hid (fun (k : Nat) (hk : k < s.rows.length) (h : rowB (s.rows.getD k ByteArray.empty) = false) => scrB_false_row hk h)
  have HA := Lib.hid hA'
  clear hA' hrow hcol
  have HP := Lib.hid (fun (X : ByteArray) (W : World) => Tryz.strings_ContainsFunc_runes 102 #[] (enters_of Tryz.func102 (by kernel_rfl) rfl) hidesP X W (hides_pays W))
  go_enter Tryz.func72, Tryz.ntmps72
  go_wp2_with (go_at_call 32; refine (within_any _ _ _ _).mono ?_; rintro e' w' ⟨rfl, rfl⟩)
  go_loopw [24] (fun i wr => ∃ k : Nat, k ≤ s.rows.length ∧ i = .int .i64 k ∧ (s.rows.take k).all rowB = true ∧ Below (w.heap.size + 1) (w.alloc (.cells #[.int .i64 s.row, .int .i64 s.col, .slice A s.rows.length c] 29)) wr) (fun i _ => s.rows.length - (intOf i).toNat)
  case atStart => exact ⟨0, Nat.zero_le _, rfl, rfl, Below.refl _ _⟩
  case round =>
    obtain ⟨k, hk, rfl, ht, hbel⟩ := hrel
    have HK := Lib.hid ht; clear ht
    have HBW := Lib.hid ((HD.out (.cells #[.int .i64 s.row, .int .i64 s.col, .slice A s.rows.length c] 29)).trans (hbel.mono (by omega)))
    by_cases hlt : k < s.rows.length
    · obtain ⟨b, off, rfl, _, hb, hcell⟩ := ((HA.out (.cells #[.int .i64 s.row, .int .i64 s.col, .slice A s.rows.length c] 29)).below hbel (by omega)).at_ hlt
      have HN := Lib.hid (HF.out k hlt)
      have HS := Lib.hid (all_take_succ rowB ByteArray.empty s.rows k hlt)
      have hsz : (s.rows.getD k ByteArray.empty).size ≤ 1048576 := by
        rw [List.getD_eq_getElem?_getD, List.getElem?_eq_getElem hlt]
        exact HSZ.out _ (List.getElem_mem _)
      generalize s.rows.getD k ByteArray.empty = X at *
      have HBEL := Lib.hid hbel; clear hbel
      by_cases h20 : X.size = 20
      · have n20 : ((X.size : Int) != 20) = false := by simp [h20]
        have H20 := Lib.hid h20
        clear h20
        have HPX := Lib.hid (HP.out X wr)
        rw [contains_hides] at HPX
        cases hro : rowTo X X.size
        · have HR := Lib.hid (HN.out (show rowB X = false by unfold rowB; rw [hro]; simp))
          rw [hro] at HPX
          clear hro
          go_wp2_with fail
          refine HPX.out.mono ?_
          rintro e1 w1 ⟨rfl, hb1⟩
          have HB2 := Lib.hid (HBW.out.trans (hb1.mono HBW.out.size)); clear hb1
          go_wp2_with fail
          go_ret
          exact ⟨by rw [HR.out]; rfl, HB2.out⟩
        · have HRO := Lib.hid hro
          rw [hro] at HPX
          clear hro
          go_wp2_with fail
          refine HPX.out.mono ?_
          rintro e1 w1 ⟨rfl, hb1⟩
          have HB2 := Lib.hid (HBEL.out.trans (hb1.mono (by have := HBEL.out.size; simpa using this))); clear hb1
          go_wp2_with fail
          go_roundw
          case rel => exact ⟨k + 1, by omega, by go_num, by rw [HS.out, HK.out]; unfold rowB; rw [HRO.out, decide_eq_true H20.out]; rfl, HB2.out⟩
          case measure => simp [intOf]; omega
      · have n20 : ((X.size : Int) != 20) = true := by rw [bne_iff_ne]; omega
        have HR := Lib.hid (HN.out (rowB_false_size h20))
        clear h20
        go_wp2_with fail
        go_ret
        exact ⟨by rw [HR.out]; rfl, HBW.out⟩
    · obtain rfl : k = s.rows.length := by omega
      have HR := Lib.hid (HT.out (by have := HK.out; rwa [List.take_length] at this))
      clear hbel
      go_wp2_with fail
      go_ret
      exact ⟨by rw [HR.out]; rfl, HBW.out⟩

end Go.Proofs.YtmeholhmadeehaaGreatDoor

/- Walks: szScreen, toScreen, eqScreen, markScreen, heldScreen. -/
namespace Go.Proofs.YtmeholhmadeehaaGreatDoor
open Go.RowKit

/-- A screen whose rows are of the call's own, from base on. -/
def OwnScr (w : World) (base : Nat) (v : Value) (s : Scr) : Prop :=
  ∃ A c, v = .agg #[.int .i64 s.row, .int .i64 s.col, .slice A s.rows.length c] ∧ w.ownsRow base 9 1 (.slice A s.rows.length c) s.rows.length (s.rows.map Value.string)

theorem OwnScr.reads {w : World} {base : Nat} {v : Value} {s : Scr} (h : OwnScr w base v s) : ScrR w base w.heap.size v s := by
  obtain ⟨A, c, hv, h1⟩ := h
  exact ⟨A, c, hv, RowR.of_own h1⟩
theorem OwnScr.below {w w' : World} {base : Nat} {v : Value} {s : Scr} (h : OwnScr w base v s) (hb : Below w.heap.size w w') : OwnScr w' base v s := by
  obtain ⟨A, c, hv, h1⟩ := h
  exact ⟨A, c, hv, own_below h1 hb⟩
theorem OwnScr.mono {w : World} {base base' : Nat} {v : Value} {s : Scr} (h : OwnScr w base v s) (hb : base' ≤ base) : OwnScr w base' v s := by
  obtain ⟨A, c, hv, h1⟩ := h
  exact ⟨A, c, hv, own_mono h1 hb⟩

theorem RowR.grown2 {α : Type} {enc : α → Value} {d : α} {w w' : World} {lo hi : Nat} {A : Option Addr} {n : Nat} {xs : List α} {row : Option Nat} (h : RowR enc d w lo hi A n xs) (hg : w.grownBy w' row) (hhi : hi ≤ w.heap.size) (hr : ∀ g, row = some g → g < lo ∨ hi ≤ g) : RowR enc d w' lo hi A n xs :=
  h.keep fun b h1 h2 => hg.block b (by omega) (fun e => by have := hr b e.symm; omega)
theorem ScrR.grown2 {w w' : World} {lo hi : Nat} {v : Value} {s : Scr} {row : Option Nat} (h : ScrR w lo hi v s) (hg : w.grownBy w' row) (hhi : hi ≤ w.heap.size) (hr : ∀ g, row = some g → g < lo ∨ hi ≤ g) : ScrR w' lo hi v s := by
  obtain ⟨A, c, hv, h1⟩ := h
  exact ⟨A, c, hv, h1.grown2 hg hhi hr⟩

theorem grown_alloc {w w' : World} {o : Obj} {row : Option Nat} (h : (w.alloc o).grownBy w' row) : w.grownBy w' row :=
  ⟨h.os, h.tape, h.output, Nat.le_trans (by simp) h.size, fun i hi hn => (h.block i (by simp; omega) hn).trans (Below.heap_alloc w o i hi)⟩

set_option maxHeartbeats 1000000 in
theorem szScreen_any (s : Scr) (v : Value) (lo hi : Nat) (left : Int) (w : World) (hx : ScrR w lo hi v s) (hhi : hi ≤ w.heap.size) (hr : s.rows.length ≤ 9223372036854775807 ∧ ∀ r ∈ s.rows, r.size ≤ 9223372036854775807) (hl0 : 0 ≤ left) (hl : left ≤ 1048576) :
    Calls Tryz.prog 20 #[v, .int .i64 left] w fun e w' => ∃ m, e = .returned (.int .i64 m) ∧ Left left (costStrs s.rows) m ∧ Below w.heap.size w w' := by
  obtain ⟨A, c, rfl, hA⟩ := hx
  have hbo := fun o => (Below.refl w.heap.size w).alloc (Nat.le_refl _) o
  have HA := Lib.hid (fun o => hA.below (hbo o) hhi)
  have HD := Lib.hid hbo
  have HR := Lib.hid hr
  clear hA hbo hr
  go_enter Tryz.func20, Tryz.ntmps20
  go_wp2_with fail
  refine (szStringS_m _ _ _ lo hi _ s.rows _ (HA.out _) HR.out.1 hl0 hl HR.out.2).mono ?_
  rintro e1 w1 ⟨m, rfl, hm, rfl⟩
  rcases hm with rfl | ⟨hm0, hm1⟩
  · go_wp2_with fail
    go_ret
    exact ⟨_, rfl, .inl rfl, HD.out _⟩
  · have HM := Lib.hid hm1; clear hm1
    have nm : ¬ (m < 0) := by omega
    go_wp2_with fail
    go_ret
    exact ⟨_, rfl, .inr ⟨hm0, HM.out⟩, HD.out _⟩

theorem ScrSmall.of_cost {s : Scr} (h : costStrs s.rows ≤ 1048576) : ScrSmall s := by
  unfold costStrs at h
  exact ⟨by omega, fun y hy => by have := mem_le_sizeAll hy; omega⟩

set_option maxHeartbeats 1000000 in
theorem toScreen_any (s : Scr) (v : Value) (lo hi : Nat) (w : World) (hx : ScrR w lo hi v s) (hhi : hi ≤ w.heap.size) (hs : ScrSmall s) :
    Calls Tryz.prog 28 #[v] w fun e w' => ∃ v', e = .returned v' ∧ OwnScr w' w.heap.size v' s ∧ Below w.heap.size w w' := by
  obtain ⟨A, c, rfl, hA⟩ := hx
  have HA := Lib.hid hA; have HS := Lib.hid hs
  clear hA hs
  go_enter Tryz.func28, Tryz.ntmps28
  go_wp2_with fail
  have T0 := Three.start w 24 29 29 #[.int .i64 s.row, .int .i64 s.col, .slice A s.rows.length c] #[.int .i64 0, .int .i64 0, .slice none 0 0] #[.int .i64 s.row, .int .i64 s.col, .slice none 0 0]
  refine (toStringS_any _ _ _ lo hi s.rows _ (HA.out.below T0.2.2.2 hhi) (Nat.le_trans hhi T0.2.2.2.size) HS.out.1).mono ?_
  rintro e1 w1 ⟨v1, rfl, ⟨⟨A1, c1, rfl⟩, ho1⟩, hb1⟩
  have T1 := T0.call hb1
  have ho1' := own_mono (base' := w.heap.size + 1 + 1 + 1) ho1 (by simp)
  clear T0 hb1 ho1
  have f1 := T1.2.1.cell
  have z1 := T1.2.1.frozen
  have f2 := T1.2.2.1.cell
  have z2 := T1.2.2.1.frozen
  have TT := Lib.hid T1; clear T1
  have O1 := Lib.hid ho1'; clear ho1'
  go_wp2_with fail
  refine bodyPost_ret (v := .agg #[.int .i64 s.row, .int .i64 s.col, .slice A1 s.rows.length c1]) (by simp [results, Tryz.results28, go_sem, f1]) rfl ⟨_, rfl, ⟨A1, c1, rfl, ?_⟩, ?_⟩
  · refine own_mono (base := w.heap.size + 1 + 1 + 1) ?_ (by omega)
    iterate 4 (with_reducible refine ownsRow_setCell_below ?_ (by simp; try omega) _)
    exact O1.out
  · iterate 4 (with_reducible refine Below.setCell ?_ (by simp; try omega) _)
    exact TT.out.2.2.2

set_option maxHeartbeats 1000000 in
theorem eqScreen_same (s : Scr) (v v' : Value) (lo hi lo' hi' : Nat) (w : World) (hx : ScrR w lo hi v s) (hx' : ScrR w lo' hi' v' s) (hhi : hi ≤ w.heap.size) (hhi' : hi' ≤ w.heap.size) (hs : s.rows.length ≤ 1048576) :
    Calls Tryz.prog 38 #[v, v'] w fun e w' => e = .returned (.bool true) ∧ Below w.heap.size w w' := by
  obtain ⟨A, c, rfl, hA⟩ := hx
  obtain ⟨A', c', rfl, hA'⟩ := hx'
  have hb2 := fun o o' => ((Below.refl w.heap.size w).alloc (Nat.le_refl _) o).alloc (by simp) o'
  have HD := Lib.hid (fun o o' w1 (hb1 : Below ((w.alloc o).alloc o').heap.size ((w.alloc o).alloc o') w1) => (hb2 o o').trans (hb1.mono (hb2 o o').size))
  have HA := Lib.hid (fun o o' => And.intro (hA.below (hb2 o o') hhi) (hA'.below (hb2 o o') hhi'))
  clear hA hA' hb2
  go_enter Tryz.func38, Tryz.ntmps38
  go_wp2_with fail
  refine (eqStringS_b _ _ _ _ _ _ lo hi lo' hi' s.rows s.rows _ (HA.out _ _).1 (HA.out _ _).2 (by omega) (by omega)).mono ?_
  rintro e1 w1 ⟨rfl, hb1⟩
  rw [decide_eq_true rfl]
  have HB := Lib.hid (HD.out _ _ _ hb1); clear hb1
  go_wp2_with fail
  go_ret
  exact ⟨rfl, HB.out⟩

set_option maxHeartbeats 1000000 in
theorem markScreen_one (s : Scr) (A : Option Addr) (c base : Nat) (w : World) (hx : w.ownsRow base 9 1 (.slice A s.rows.length c) s.rows.length (s.rows.map Value.string)) (hs : s.rows.length ≤ 1048576) :
    Calls Tryz.prog 41 #[.agg #[.int .i64 s.row, .int .i64 s.col, .slice A s.rows.length c], .int .i64 1] w fun e w' => e = .returned (.int .i64 (1 + s.rows.length : Nat)) ∧
      w'.ownsRow base 9 1 (.slice A s.rows.length c) s.rows.length ((marksFrom 1 s.rows.length).map Value.string) ∧ w.grownBy w' (Value.slice A s.rows.length c).ownBlock := by
  have HX := Lib.hid hx; clear hx
  go_enter Tryz.func41, Tryz.ntmps41
  go_wp2_with fail
  refine (markStringS_one base _ _ _ s.rows _ (HX.out.alloc _) (by omega)).mono ?_
  rintro e1 w1 ⟨rfl, ho, hg⟩
  have HO := Lib.hid ho; have HG := Lib.hid (grown_alloc hg); clear ho hg
  go_wp2_with fail
  go_ret
  exact ⟨rfl, HO.out, HG.out⟩

set_option maxHeartbeats 1000000 in
theorem heldScreen_one (s : Scr) (A : Option Addr) (c lo hi : Nat) (w : World) (hx : StrR w lo hi A s.rows.length (marksFrom 1 s.rows.length)) (hhi : hi ≤ w.heap.size) (hs : s.rows.length ≤ 1048576) :
    Calls Tryz.prog 44 #[.agg #[.int .i64 s.row, .int .i64 s.col, .slice A s.rows.length c], .int .i64 1] w fun e w' => e = .returned (.int .i64 (1 + s.rows.length : Nat)) ∧ Below w.heap.size w w' := by
  have hbo := fun o => (Below.refl w.heap.size w).alloc (Nat.le_refl _) o
  have HD := Lib.hid (fun o w1 (hb1 : Below (w.alloc o).heap.size (w.alloc o) w1) => (hbo o).trans (hb1.mono (hbo o).size))
  have HX := Lib.hid (fun o => hx.below (hbo o) hhi)
  have HH := Lib.hid (fun o => Nat.le_trans hhi (hbo o).size)
  clear hx hbo
  go_enter Tryz.func44, Tryz.ntmps44
  go_wp2_with fail
  refine (heldStringS_one _ _ _ _ _ _ (HX.out _) (HH.out _) (by omega)).mono ?_
  rintro e1 w1 ⟨rfl, hb1⟩
  have HB := Lib.hid (HD.out _ _ hb1); clear hb1
  have hq1 : ¬ (((1 + s.rows.length : Nat) : Int) < 0) := by omega
  go_wp2_with fail
  go_ret
  exact ⟨rfl, HB.out⟩

end Go.Proofs.YtmeholhmadeehaaGreatDoor
