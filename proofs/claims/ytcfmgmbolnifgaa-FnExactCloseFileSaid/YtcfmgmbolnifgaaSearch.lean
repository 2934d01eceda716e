/- The program's search for a file by name: file, slices.BinarySearchFunc at files, walked. -/
import Derived.Test.YtcfmgmbolnifgaaPlace
import Derived.Test.YtcfmgmbolnifgaaShelfP
namespace Go.Proofs.Ytcfmgmbolnifgaa
open Go.RowKit

theorem cmp_less : ∀ (a b : List UInt8), decide (Lib.compareBytes a b < 0) = Op.bytesLess a b
  | [], [] => rfl
  | [], _ :: _ => rfl
  | _ :: _, [] => rfl
  | a :: x, b :: y => by
    have ih := cmp_less x y
    unfold Lib.compareBytes Op.bytesLess
    by_cases h1 : a < b
    · simp [h1]
    · by_cases h2 : b < a
      · have h3 : ¬ a = b := fun e => by subst e; exact h1 h2
        simp [h1, h2, h3]
      · have h3 : a = b := UInt8.le_antisymm (UInt8.not_lt.1 h2) (UInt8.not_lt.1 h1)
        subst h3
        simp [h1, ih]
theorem cmp_zero : ∀ (a b : List UInt8), (Lib.compareBytes a b == 0) = (a == b)
  | [], [] => rfl
  | [], _ :: _ => rfl
  | _ :: _, [] => rfl
  | a :: x, b :: y => by
    have ih := cmp_zero x y
    unfold Lib.compareBytes
    by_cases h1 : a < b
    · have h3 : ¬ a = b := fun e => by subst e; exact UInt8.lt_irrefl _ h1
      simp [h1, h3]
    · by_cases h2 : b < a
      · have h3 : ¬ a = b := fun e => by subst e; exact h1 h2
        simp [h1, h2, h3]
      · have h3 : a = b := UInt8.le_antisymm (UInt8.not_lt.1 h2) (UInt8.not_lt.1 h1)
        subst h3
        simp [h1, ih]
theorem toList_data (s : ByteArray) : s.data.toList = s.toList := (ByteArray.toList_eq s).symm

set_option maxHeartbeats 400000 in
theorem file1_any (f : Fil) (v : Value) (nm : ByteArray) (w : World) (hv : ∃ A c, v = .agg #[.string f.name, .slice A f.lines.length c, .string f.part, .int .i64 f.at_]) :
    Calls Try.prog 131 #[v, .string nm] w fun e w' => e = .returned (.int .i64 (Lib.compareBytes f.name.toList nm.toList)) ∧ Below w.heap.size w w' := by
  obtain ⟨A, c, rfl⟩ := hv
  have HB := Lib.hid ((Below.refl w.heap.size w).alloc (Nat.le_refl _) (.cells #[.string f.name, .slice A f.lines.length c, .string f.part, .int .i64 f.at_] 91))
  have HC := Lib.hid (fun W => Try.strings_Compare f.name nm W)
  rw [toList_data, toList_data] at HC
  go_enter Try.func131, Try.ntmps131
  go_wp2_with fail
  refine (HC.out _).mono ?_
  rintro e1 w1 ⟨rfl, rfl⟩
  go_wp2_with fail
  go_ret
  exact ⟨rfl, HB.out⟩

/-- The names are in order: those before a file less than it. -/
def Sorted (fs : List Fil) : Prop := ∀ i j, i < j → j < fs.length → Op.bytesLess (fs.getD i filD).name.toList (fs.getD j filD).name.toList = true

theorem less_trans : ∀ (a b c : List UInt8), Op.bytesLess a b = true → Op.bytesLess b c = true → Op.bytesLess a c = true
  | _, [], _, h, _ => by rename_i a _; cases a <;> simp [Op.bytesLess] at h
  | _, _ :: _, [], _, h => by simp [Op.bytesLess] at h
  | [], _ :: _, _ :: _, _, _ => rfl
  | a :: x, b :: y, c :: z, h1, h2 => by
    have ih := less_trans x y z
    simp only [Op.bytesLess, Bool.or_eq_true, decide_eq_true_eq, Bool.and_eq_true, beq_iff_eq] at h1 h2 ⊢
    rcases h1 with h1 | ⟨rfl, h1⟩
    · rcases h2 with h2 | ⟨rfl, h2⟩
      · exact .inl (UInt8.lt_trans h1 h2)
      · exact .inl h1
    · rcases h2 with h2 | ⟨rfl, h2⟩
      · exact .inl h2
      · exact .inr ⟨rfl, ih h1 h2⟩

theorem sorted_of {fs : List Fil} (h : ∀ k, 0 < k → k < fs.length → Op.bytesLess (fs.getD (k - 1) filD).name.toList (fs.getD k filD).name.toList = true) : Sorted fs := by
  intro i j hij hj
  obtain ⟨m, rfl⟩ : ∃ m, j = i + 1 + m := ⟨j - i - 1, by omega⟩
  clear hij
  induction m with
  | zero => have := h (i + 1) (by omega) (by omega); simpa using this
  | succ m ih =>
    have h1 := ih (by omega)
    have h2 := h (i + 1 + (m + 1)) (by omega) hj
    rw [show i + 1 + (m + 1) - 1 = i + 1 + m by omega] at h2
    exact less_trans _ _ _ h1 h2

set_option maxHeartbeats 2000000 in
set_option maxRecDepth 100000 in
theorem search_any (A : Option Addr) (n c lo hi : Nat) (fs : List Fil) (nm : ByteArray) (w : World) (hF : FilesR w lo hi A n fs) (hhi : hi ≤ w.heap.size) (hn : n ≤ 1048576) (hs : Sorted fs) :
    Calls Try.prog 130 #[.slice A n c, .string nm, .func (.func 131) #[] #[]] w fun e w' => e = .returned (.tuple #[.int .i64 (place fs nm), .bool (thereB fs nm)]) ∧ Below w.heap.size w w' := by
  have hl := hF.1
  subst hl
  have HT := Lib.hid (show thereB fs nm = (decide (place fs nm < fs.length) && ((fs.getD (place fs nm) filD).name.toList == nm.toList)) from rfl)
  have HP := Lib.hid (place_eq fs nm)
  have HS := Lib.hid hs; have HF := Lib.hid hF
  generalize thereB fs nm = TB at *
  generalize place fs nm = P at *
  clear hs hF
  go_enter Try.func130, Try.ntmps130
  go_wp2_with fail
  go_loopw [9, 10] (fun a b wr => ∃ i j : Nat, i ≤ j ∧ j ≤ fs.length ∧ a = .int .i64 i ∧ b = .int .i64 j ∧ Hid (∀ x, x < i → Op.bytesLess (fs.getD x filD).name.toList nm.toList = true) ∧ Hid (∀ x, j ≤ x → x < fs.length → Op.bytesLess (fs.getD x filD).name.toList nm.toList = false) ∧ Below w.heap.size w wr) (fun a b _ => (intOf b).toNat - (intOf a).toNat)
  case atStart => exact ⟨0, fs.length, Nat.zero_le _, Nat.le_refl _, rfl, rfl, fun x hx => absurd hx (by omega), fun x hx hx' => absurd hx' (by omega), Below.refl _ _⟩
  case round =>
    obtain ⟨i, j, hij, hj, rfl, rfl, HI, HJ, hb⟩ := hrel
    by_cases hlt : i < j
    · obtain ⟨b, off, rfl, hb1, hb2, L1, d1, e0, e1, e2, e3, hL⟩ := (HF.out.below hb hhi).at_ (show (i + j) / 2 < fs.length by omega)
      have HB := Lib.hid hb
      have hbsz := hb.size
      have HLE := Lib.hid (show ∀ h : Op.bytesLess (fs.getD ((i + j) / 2) filD).name.toList nm.toList = true, ∀ x, x < (i + j) / 2 + 1 → Op.bytesLess (fs.getD x filD).name.toList nm.toList = true from fun h x hx => by
        by_cases e : x = (i + j) / 2
        · rw [e]; exact h
        · exact less_trans _ _ _ (HS.out x ((i + j) / 2) (by omega) (by omega)) h)
      have HGE := Lib.hid (show ∀ h : Op.bytesLess (fs.getD ((i + j) / 2) filD).name.toList nm.toList = false, ∀ x, (i + j) / 2 ≤ x → x < fs.length → Op.bytesLess (fs.getD x filD).name.toList nm.toList = false from fun h x hx hx' => by
        by_cases e : x = (i + j) / 2
        · rw [e]; exact h
        · cases hb : Op.bytesLess (fs.getD x filD).name.toList nm.toList with
          | false => rfl
          | true => have := less_trans _ _ _ (HS.out ((i + j) / 2) x (by omega) hx') hb; rw [this] at h; cases h)
      have HC := Lib.hid (cmp_less (fs.getD ((i + j) / 2) filD).name.toList nm.toList)
      generalize fs.getD ((i + j) / 2) filD = X at *
      clear hb hL
      go_wp2_with fail
      refine (file1_any X _ nm _ ⟨L1, d1, rfl⟩).mono ?_
      rintro x5 w5 ⟨rfl, hb5⟩
      have HB5 := Lib.hid (HB.out.trans (hb5.mono hbsz))
      clear hb5 e0 e1 e2 e3
      cases hL : Op.bytesLess X.name.toList nm.toList
      · have HG := Lib.hid (HGE.out hL)
        rw [hL] at HC
        have hc : ¬ (Lib.compareBytes X.name.toList nm.toList < 0) := by have := HC.out; simpa using this
        generalize Lib.compareBytes X.name.toList nm.toList = q at *
        go_wp2_with fail
        go_roundw
        case rel => exact ⟨i, (i + j) / 2, by omega, by omega, rfl, congrArg (Value.int .i64) (by omega), HI, HG.out, HB5.out⟩
        case measure => simp [intOf]; omega
      · have HG := Lib.hid (HLE.out hL)
        rw [hL] at HC
        have hc : Lib.compareBytes X.name.toList nm.toList < 0 := by have := HC.out; simpa using this
        generalize Lib.compareBytes X.name.toList nm.toList = q at *
        go_wp2_with fail
        go_roundw
        case rel => exact ⟨(i + j) / 2 + 1, j, by omega, by omega, congrArg (Value.int .i64) (by omega), rfl, HG.out, HJ, HB5.out⟩
        case measure => simp [intOf]; omega
    · obtain rfl : i = j := by omega
      have HB := Lib.hid hb
      have hbsz := hb.size
      have HPI := Lib.hid (show P = i from HP.out i hj HI.out (fun h => HJ.out i (Nat.le_refl _) h))
      by_cases hin : i < fs.length
      · obtain ⟨b, off, rfl, hb1, hb2, L1, d1, e0, e1, e2, e3, hL⟩ := (HF.out.below hb hhi).at_ hin
        have HTB := Lib.hid (show TB = ((fs.getD i filD).name.toList == nm.toList) by rw [HT.out, HPI.out, decide_eq_true hin, Bool.true_and])
        have HC := Lib.hid (cmp_zero (fs.getD i filD).name.toList nm.toList)
        generalize fs.getD i filD = X at *
        clear hb hL
        go_wp2_with fail
        refine (file1_any X _ nm _ ⟨L1, d1, rfl⟩).mono ?_
        rintro x5 w5 ⟨rfl, hb5⟩
        have HB5 := Lib.hid (HB.out.trans (hb5.mono hbsz))
        clear hb5 e0 e1 e2 e3
        rw [← HC.out] at HTB
        generalize Lib.compareBytes X.name.toList nm.toList = q at *
        go_wp2_with fail
        go_ret2
        exact ⟨by rw [HPI.out, HTB.out]; first | rfl | simp, HB5.out⟩
      · have HTB := Lib.hid (show TB = false by rw [HT.out, HPI.out, decide_eq_false hin, Bool.false_and])
        have nl : decide (i < fs.length) = false := decide_eq_false hin
        clear hb
        go_wp2_with fail
        go_ret2
        exact ⟨by rw [HPI.out, HTB.out]; first | rfl | simp, HB.out⟩

set_option maxHeartbeats 400000 in
theorem file_any (p : Nat) (d : Dev) (A : Option Addr) (c : Nat) (V : Option Addr) (cv : Nat) (K : Option Addr) (ck lo hi : Nat) (nm : ByteArray) (w : World) (hB : Blk w p 61 (devCs d A c V cv K ck)) (hF : FilesR w lo hi V d.files.length d.files) (hhi : hi ≤ w.heap.size) (hn : d.files.length ≤ 1048576) (hs : Sorted d.files) :
    Calls Try.prog 99 #[.pointer (some ⟨p, 0, none⟩), .string nm] w fun e w' => e = .returned (.tuple #[.int .i64 (place d.files nm), .bool (thereB d.files nm)]) ∧ Below w.heap.size w w' := by
  have f := hB.cell
  have HF := Lib.hid hF; have HS := Lib.hid hs
  have HC := Lib.hid (fun c => search_any V d.files.length c lo hi d.files nm w hF hhi hn hs)
  clear hB hF hs
  generalize place d.files nm = P at *
  generalize thereB d.files nm = T at *
  go_enter Try.func99, Try.ntmps99
  go_wp2_with fail
  refine (HC.out _).mono ?_
  rintro e1 w1 ⟨rfl, hb1⟩
  clear f
  go_wp2_with fail
  go_ret2
  exact ⟨rfl, hb1⟩

end Go.Proofs.Ytcfmgmbolnifgaa
