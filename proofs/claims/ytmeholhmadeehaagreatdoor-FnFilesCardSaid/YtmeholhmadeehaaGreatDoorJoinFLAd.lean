/- Walks of the small predicates: ranges, lists of texts, lists of numbers that rise. -/
import Derived.Test.YtmeholhmadeehaaGreatDoorJoinFLAa
import Derived.Test.YtmeholhmadeehaaGreatDoorJoinFLAc
import Derived.Test.YtmeholhmadeehaaGreatDoorShelfC
import Derived.Test.YtmeholhmadeehaaGreatDoorShelfK
import Derived.Laws.EntriesVeiled
namespace Go.Proofs.YtmeholhmadeehaaGreatDoor
open Go.RowKit

def inB (a lo hi : Int) : Bool := decide (lo ≤ a ∧ a ≤ hi)

theorem inB_true {a lo hi : Int} (h1 : lo ≤ a) (h2 : a ≤ hi) : inB a lo hi = true := by simp [inB, h1, h2]
theorem inB_low {a lo hi : Int} (h : a < lo) : inB a lo hi = false := by simp [inB]; omega
theorem inB_high {a lo hi : Int} (h : hi < a) : inB a lo hi = false := by simp [inB]; omega

theorem within_any (a lo hi : Int) (w : World) : Calls Tryz.prog 32 #[.int .i64 a, .int .i64 lo, .int .i64 hi] w fun e w' => e = .returned (.bool (inB a lo hi)) ∧ w = w' := by
  by_cases h1 : lo ≤ a
  · by_cases h2 : a ≤ hi
    · rw [inB_true h1 h2]
      go_enter Tryz.func32, Tryz.ntmps32
      go_wp2
      go_ret
      exact ⟨by simp, rfl⟩
    · rw [inB_high (by omega)]
      go_enter Tryz.func32, Tryz.ntmps32
      go_wp2
      go_ret
      exact ⟨by simp, rfl⟩
  · rw [inB_low (by omega)]
    go_enter Tryz.func32, Tryz.ntmps32
    go_wp2
    go_ret
    exact ⟨by simp, rfl⟩

theorem l00In_any (a lo hi : Int) (w : World) : Calls Tryz.prog 23 #[.int .i64 a, .int .i64 lo, .int .i64 hi] w fun e w' => e = .returned (.bool (inB a lo hi)) ∧ w = w' := by
  by_cases h1 : lo ≤ a
  · by_cases h2 : a ≤ hi
    · rw [inB_true h1 h2]
      go_enter Tryz.func23, Tryz.ntmps23
      go_wp2
      go_ret
      exact ⟨by simp, rfl⟩
    · rw [inB_high (by omega)]
      go_enter Tryz.func23, Tryz.ntmps23
      go_wp2
      go_ret
      exact ⟨by simp, rfl⟩
  · rw [inB_low (by omega)]
    go_enter Tryz.func23, Tryz.ntmps23
    go_wp2
    go_ret
    exact ⟨by simp, rfl⟩

/-- No text of the list is longer than a value. -/
def shortB (x : ByteArray) : Bool := decide (x.size ≤ 64)
def textsB (most : Nat) (l : List ByteArray) : Bool := decide (l.length ≤ most) && l.all shortB

theorem all_take_succ {α : Type} (p : α → Bool) (d : α) (l : List α) (k : Nat) (h : k < l.length) : (l.take (k + 1)).all p = ((l.take k).all p && p (l.getD k d)) := by
  rw [List.take_succ_eq_append_getElem h, List.all_append, List.getD_eq_getElem?_getD, List.getElem?_eq_getElem h]
  simp

theorem all_false_at {α : Type} (p : α → Bool) (d : α) (l : List α) (k : Nat) (h : k < l.length) (hp : p (l.getD k d) = false) : l.all p = false := by
  rw [List.all_eq_false]
  refine ⟨l.getD k d, ?_, by rw [hp]; simp⟩
  rw [List.getD_eq_getElem?_getD, List.getElem?_eq_getElem h]
  exact List.getElem_mem _

theorem any_long (xs : List ByteArray) : (xs.any fun x => decide (64 < x.size)) = !xs.all shortB := by
  induction xs with
  | nil => rfl
  | cons x xs ih =>
    simp only [List.any_cons, List.all_cons, ih, Bool.not_and]
    congr 1
    unfold shortB
    rw [Bool.eq_iff_iff]
    simp

/-- The first k numbers rise. -/
def riseTo (l : List Int) (k : Nat) : Bool := (List.range (k - 1)).all fun j => decide (l.getD j 0 < l.getD (j + 1) 0)
def keepB (l : List Int) : Bool := decide (l.length ≤ 400) && riseTo l l.length && decide (l.length = 0 ∨ 0 ≤ l.getD 0 0)

theorem riseTo_succ (l : List Int) (k : Nat) : riseTo l (k + 2) = (riseTo l (k + 1) && decide (l.getD k 0 < l.getD (k + 1) 0)) := by
  unfold riseTo
  rw [show k + 2 - 1 = k + 1 by omega, show k + 1 - 1 = k by omega, List.range_succ, List.all_append]
  simp

theorem riseTo_false {l : List Int} {k n : Nat} (hk : k + 1 < n) (h : ¬ l.getD k 0 < l.getD (k + 1) 0) : riseTo l n = false := by
  unfold riseTo
  rw [List.all_eq_false]
  exact ⟨k, by simp; omega, by simpa using h⟩

end Go.Proofs.YtmeholhmadeehaaGreatDoor

/- Walks: l31Line, l31File of the reference; fileOk of the program. -/
namespace Go.Proofs.YtmeholhmadeehaaGreatDoor
open Go.RowKit Go.Shelf

def noLf (l : List UInt8) : Bool := l.all (· != 10)
def lineB (s : ByteArray) : Bool := decide (s.size ≤ 80) && noLf s.data.toList
def filB (f : Fil) : Bool := nameB f.name && decide (f.lines.length ≤ 20) && lineB f.part && inB f.at_ 0 f.lines.length && f.lines.all lineB

theorem take_snoc (s : ByteArray) (k : Nat) (h : k < s.size) : s.data.toList.take (k + 1) = s.data.toList.take k ++ [s[k]] := by
  rw [List.take_succ_eq_append_getElem (by simpa using h)]; rfl
theorem noLf_snoc (s : ByteArray) (k : Nat) (h : k < s.size) : noLf (s.data.toList.take (k + 1)) = (noLf (s.data.toList.take k) && (s[k] != 10)) := by
  rw [take_snoc s k h]; simp [noLf]
theorem noLf_at (s : ByteArray) (k : Nat) (h : k < s.size) (h10 : s[k].toNat = 10) : noLf s.data.toList = false := by
  unfold noLf
  rw [List.all_eq_false]
  refine ⟨s[k], ?_, ?_⟩
  · have : s[k] = s.data.toList[k]'(by simpa using h) := rfl
    rw [this]; exact List.getElem_mem _
  · have : s[k] = 10 := by
      apply UInt8.toNat_inj.1; rw [h10]; rfl
    simp [this]
theorem indexByte_lf (l : List UInt8) : decide (0 ≤ Lib.indexByte l 10) = !noLf l := by
  induction l with
  | nil => rfl
  | cons b l ih =>
    have h1 : ∀ m : List UInt8, -1 ≤ Lib.indexByte m 10 := by
      intro m
      induction m with
      | nil => simp [Lib.indexByte]
      | cons b m ihm => unfold Lib.indexByte; split <;> (try split) <;> omega
    have h2 := h1 l
    have e : noLf (b :: l) = ((b != 10) && noLf l) := by simp [noLf]
    rw [e, Bool.not_and, ← ih]
    have eq : Lib.indexByte (b :: l) 10 = if b == 10 then 0 else if Lib.indexByte l 10 == -1 then -1 else Lib.indexByte l 10 + 1 := rfl
    rw [eq]
    by_cases hb : b = 10
    · subst hb; simp
    · rw [if_neg (by simpa using hb)]
      have hb' : (b != 10) = true := by simpa using hb
      rw [hb', Bool.not_true, Bool.false_or]
      split
      · rename_i h3
        have : Lib.indexByte l 10 = -1 := by simpa using h3
        rw [this]
      · rename_i h3
        have : Lib.indexByte l 10 ≠ -1 := by simpa using h3
        rw [decide_eq_decide]; omega

set_option maxHeartbeats 1000000 in
theorem l31Line_any (s : ByteArray) (w : World) (hs : s.size ≤ 9223372036854775807) :
    Calls Tryz.prog 97 #[.string s] w fun e w' => e = .returned (.bool (lineB s)) ∧ w = w' := by
  go_enter Tryz.func97, Tryz.ntmps97
  go_wp2
  go_loop [3] (fun i => ∃ k : Nat, k ≤ s.size ∧ i = .int .i64 k ∧ noLf (s.data.toList.take k) = true) (fun i => s.size - (intOf i).toNat)
  case atStart => exact ⟨0, Nat.zero_le _, rfl, rfl⟩
  case round =>
    obtain ⟨k, hk, rfl, ht⟩ := hrel
    have HT := Lib.hid ht; clear ht
    by_cases hlt : k < s.size
    · have HS := Lib.hid (noLf_snoc s k hlt)
      have HN := Lib.hid (noLf_at s k hlt)
      by_cases h10 : s[k].toNat = 10
      · have h10b : ((s[k].toNat : Int) == 10) = true := by rw [beq_iff_eq]; omega
        have H10 := Lib.hid h10; clear h10
        go_wp2
        go_ret
        exact ⟨by rw [show lineB s = false by unfold lineB; rw [HN.out H10.out, Bool.and_false]]; rfl, rfl⟩
      · have h10b : ((s[k].toNat : Int) == 10) = false := by rw [beq_eq_false_iff_ne]; omega
        have hne : (s[k] != 10) = true := by
          rw [bne_iff_ne]; intro e; rw [e] at h10; exact h10 rfl
        have HNE := Lib.hid hne; clear hne
        go_wp2
        go_round
        case rel => exact ⟨k + 1, by omega, by go_num, by rw [HS.out, HT.out, HNE.out]; rfl⟩
        case measure => simp [intOf]; omega
    · obtain rfl : k = s.size := by omega
      have hall : noLf s.data.toList = true := by
        have := HT.out
        rwa [List.take_of_length_le (by simp)] at this
      have HA := Lib.hid hall; clear hall
      by_cases h80 : s.size ≤ 80
      · go_wp2
        go_ret
        refine ⟨congrArg (fun b => Ending.returned (.bool b)) ?_, rfl⟩
        rw [show lineB s = true by unfold lineB; rw [HA.out, Bool.and_true]; simp [h80]]
        first | rfl | (simp; omega)
      · go_wp2
        go_ret
        refine ⟨congrArg (fun b => Ending.returned (.bool b)) ?_, rfl⟩
        rw [show lineB s = false by unfold lineB; rw [HA.out, Bool.and_true]; simp [h80]]
        first | rfl | (simp; omega)

set_option maxHeartbeats 4000000 in
theorem l31File_any (f : Fil) (v : Value) (lo hi : Nat) (w : World) (hx : FilR w lo hi v f) (hhi : hi ≤ w.heap.size) (hs : FilSmall f) :
    Calls Tryz.prog 61 #[v] w fun e w' => e = .returned (.bool (filB f)) ∧ Below w.heap.size w w' := by
  obtain ⟨name, lines, part, at_⟩ := f
  obtain ⟨A, c, rfl, hA⟩ := hx
  obtain ⟨h1, h2, h3, h4⟩ := hs
  dsimp only at *
  have hbo := (Below.refl w.heap.size w).alloc (Nat.le_refl _) (.cells #[.string name, .slice A lines.length c, .string part, .int .i64 at_] 55)
  have HA := Lib.hid (hA.below hbo hhi)
  have HD := Lib.hid hbo
  have H4 := Lib.hid h4
  clear hA hbo h4
  go_enter Tryz.func61, Tryz.ntmps61
  go_wp2_with fail
  go_loop [3] (fun i => ∃ k : Nat, k ≤ lines.length ∧ k ≤ 21 ∧ i = .int .i64 k ∧ (lines.take k).all lineB = true) (fun i => lines.length - (intOf i).toNat)
  case atStart => exact ⟨0, Nat.zero_le _, by omega, rfl, rfl⟩
  case round =>
    obtain ⟨k, hk, hk21, rfl, ht⟩ := hrel
    have HT := Lib.hid ht; clear ht
    by_cases hlt : k < lines.length ∧ k ≤ 20
    · obtain ⟨hlt, hk20⟩ := hlt
      obtain ⟨b, off, rfl, _, hb, hcell⟩ := HA.out.at_ hlt
      have HS := Lib.hid (all_take_succ lineB ByteArray.empty lines k hlt)
      have HF := Lib.hid (all_false_at lineB ByteArray.empty lines k hlt)
      have hsz := H4.out _ (getD_mem (d := ByteArray.empty) hlt)
      generalize lines.getD k ByteArray.empty = X at *
      cases hX : lineB X
      · have HX := Lib.hid hX; clear hX
        go_wp2_with fail
        refine (l31Line_any X _ (by omega)).mono ?_
        rintro e1 w1 ⟨rfl, rfl⟩
        rw [HX.out]
        go_wp2_with fail
        go_ret
        exact ⟨by rw [show filB ⟨name, lines, part, at_⟩ = false by unfold filB; dsimp only; rw [HF.out HX.out, Bool.and_false]]; rfl, HD.out⟩
      · have HX := Lib.hid hX; clear hX
        go_wp2_with fail
        refine (l31Line_any X _ (by omega)).mono ?_
        rintro e1 w1 ⟨rfl, rfl⟩
        rw [HX.out]
        go_wp2_with fail
        go_round
        case rel => exact ⟨k + 1, by omega, by omega, by go_num, by rw [HS.out, HT.out, HX.out]; rfl⟩
        case measure => simp [intOf]; omega
    · have hres : filB ⟨name, lines, part, at_⟩ = (nameB name && decide (lines.length ≤ 20) && lineB part && inB at_ 0 lines.length) := by
        unfold filB
        dsimp only
        by_cases h20 : lines.length ≤ 20
        · obtain rfl : k = lines.length := by omega
          have := HT.out
          rw [List.take_length] at this
          rw [this, Bool.and_true]
        · simp [h20]
      have HRES := Lib.hid hres; clear hres
      have hcond : (k < lines.length ∧ 20 < k) ∨ (lines.length ≤ k) := by omega
      clear hlt
      cases hN : nameB name <;> cases hP : lineB part <;> cases hI : inB at_ 0 lines.length <;> (by_cases h20 : lines.length ≤ 20) <;> rcases hcond with ⟨hc1, hc2⟩ | hc
      all_goals (try (exfalso; omega))
      all_goals
        go_wp2_with (first | (go_at_call 98; refine (specNameOk_any name _ (by omega)).mono ?_; rintro e1 w1 ⟨rfl, rfl⟩) | (go_at_call 97; refine (l31Line_any part _ (by omega)).mono ?_; rintro e1 w1 ⟨rfl, rfl⟩) | (go_at_call 23; refine (l00In_any at_ 0 lines.length _).mono ?_; rintro e1 w1 ⟨rfl, rfl⟩))
        go_ret
        refine ⟨congrArg (fun b => Ending.returned (.bool b)) ?_, HD.out⟩
        rw [HRES.out, hN, hP, hI]
        first | rfl | (simp; done) | (simp; omega)

end Go.Proofs.YtmeholhmadeehaaGreatDoor

/- Walks: fileOk of the program. -/
namespace Go.Proofs.YtmeholhmadeehaaGreatDoor
open Go.RowKit Go.Shelf

theorem swap_same {P : Program} {f : FuncId} {args : Array Value} {w : World} {r : Ending} (h : Calls P f args w fun e w' => e = r ∧ w = w') : Calls P f args w fun e w' => e = r ∧ w' = w := h.mono fun _ _ ⟨he, hw⟩ => ⟨he, hw.symm⟩

theorem Stand.boxset {w0 w : World} {Fs : Facts} (h : Stand w0 Fs w) (t : TypeId) (x u : Value) :
    Stand w0 ((w.heap.size, w.heap.size + 1, fun W => Blk W w.heap.size t #[u]) :: Fs) ((w.alloc (.cells #[x] t)).setCell ⟨w.heap.size, 0, none⟩ u) :=
  (h.below (((Below.refl _ _).alloc (Nat.le_refl _) _).setCell (Nat.le_refl _) u)).add _ _ _ (loc_blk _ _ _) (by simp [World.setCell]) ((Blk.new w t #[x]).set_ 0 u)

set_option maxHeartbeats 1000000 in
theorem fileOk1_any (s : ByteArray) (w : World) : Calls Tryz.prog 103 #[.string s] w fun e w' => e = .returned (.bool (lineB s)) ∧ w = w' := by
  have HC := Lib.hid (fun W => Tryz.strings_Contains_one s 10 W)
  rw [indexByte_lf] at HC
  by_cases h80 : s.size ≤ 80
  · have HR := Lib.hid (show lineB s = noLf s.data.toList by unfold lineB; rw [decide_eq_true h80, Bool.true_and])
    generalize noLf s.data.toList = N at *
    go_enter Tryz.func103, Tryz.ntmps103
    go_wp2_with (go_at_call 104; refine (HC.out _).mono ?_; rintro e1 w1 ⟨rfl, rfl⟩)
    go_ret
    refine ⟨congrArg (fun b => Ending.returned (.bool b)) ?_, rfl⟩
    rw [HR.out]
    try (cases N <;> rfl)
  · have HR := Lib.hid (show lineB s = false by unfold lineB; rw [decide_eq_false h80, Bool.false_and])
    go_enter Tryz.func103, Tryz.ntmps103
    go_wp2_with fail
    go_ret
    refine ⟨congrArg (fun b => Ending.returned (.bool b)) ?_, rfl⟩
    rw [HR.out]
    try (first | rfl | (simp; omega))

set_option maxHeartbeats 1000000 in
theorem fileOk2_pays (g : Nat) (w : World) (hg : g < w.heap.size) (hc : w.cell? ⟨g, 0, none⟩ = some (.func (.func 103) #[] #[])) :
    PredAt Tryz.prog 105 #[.pointer (some ⟨g, 0, none⟩)] Value.string (fun x : ByteArray => !lineB x) w := by
  intro W x hb
  unfold FnGives
  have hc' := (hb.cell (p := ⟨g, 0, none⟩) hg).trans hc
  clear hb hc
  go_enter Tryz.func105, Tryz.ntmps105
  go_wp2_with (go_at_call 103; refine (fileOk1_any x _).mono ?_; rintro e1 w1 ⟨rfl, rfl⟩)
  go_ret
  exact ⟨rfl, 0, rfl⟩

theorem countStr_any (A : Option Addr) (n c : Nat) (w : World) : Calls Tryz.prog 75 #[.slice A n c] w fun e w' => e = .returned (.int .i64 n) ∧ w = w' := by
  go_enter Tryz.func75, Tryz.ntmps75
  go_wp2
  go_ret
  exact ⟨rfl, rfl⟩
theorem countFil_any (A : Option Addr) (n c : Nat) (w : World) : Calls Tryz.prog 71 #[.slice A n c] w fun e w' => e = .returned (.int .i64 n) ∧ w = w' := by
  go_enter Tryz.func71, Tryz.ntmps71
  go_wp2
  go_ret
  exact ⟨rfl, rfl⟩

theorem any_lines (xs : List ByteArray) : (xs.any fun x => !lineB x) = !xs.all lineB := by
  induction xs with
  | nil => rfl
  | cons x xs ih => simp only [List.any_cons, List.all_cons, ih, Bool.not_and]

set_option maxHeartbeats 4000000 in
set_option maxRecDepth 100000 in
theorem fileOk_any (f : Fil) (v : Value) (lo hi : Nat) (w : World) (hx : FilR w lo hi v f) (hhi : hi ≤ w.heap.size) (hs : FilSmall f) :
    Calls Tryz.prog 73 #[v] w fun e w' => e = .returned (.bool (filB f)) ∧ Below w.heap.size w w' := by
  obtain ⟨name, lines, part, at_⟩ := f
  obtain ⟨A, c, rfl, hA⟩ := hx
  obtain ⟨h1, h2, h3, h4⟩ := hs
  dsimp only at *
  have R0 := (((Stand.nil w).add lo hi _ (loc_strR0 lo hi A _ lines) hhi hA).box 55 #[.string name, .slice A lines.length c, .string part, .int .i64 at_])
  have R1 := R0.box 75 #[.func (.func 103) #[] #[]]
  rw [heap_size_alloc1] at R1
  have HR1 := Lib.hid R1
  clear hA R0 R1 h4
  have HRES := Lib.hid (show filB ⟨name, lines, part, at_⟩ = (nameB name && decide (lines.length ≤ 20) && lineB part && inB at_ 0 lines.length && lines.all lineB) from rfl)
  have HN := Lib.hid (fun W => swap_same (implNameOk_any name W (by omega)))
  have HP := Lib.hid (fun W => swap_same (fileOk1_any part W))
  have HI := Lib.hid (fun W => swap_same (within_any at_ 0 lines.length W))
  have HK := Lib.hid (fun W => swap_same (countStr_any A lines.length c W))
  generalize filB ⟨name, lines, part, at_⟩ = RES at *
  have no : ∀ b : Bool, b = false → RES = b → Ending.returned (.bool false) = Ending.returned (.bool RES) := fun b h1 h2 => by rw [h2, h1]
  have NO := Lib.hid no; clear no
  cases hN : nameB name <;> rw [hN] at HN HRES <;> clear hN
  · go_enter Tryz.func73, Tryz.ntmps73
    go_wp2_with fail
    go_quiet ((first | (go_at_call 50; exact Calls.quiet_of_same (HN.out _))))
    go_wp2_with fail
    go_ret
    exact ⟨NO.out _ rfl (by rw [HRES.out]; rfl), HR1.out.1.trans ((below_drewN' _ _).mono HR1.out.1.size)⟩
  by_cases h20 : lines.length ≤ 20
  case neg =>
    have n20 : decide (20 < lines.length) = true := by simp; omega
    have m20 : decide ((20 : Int) < (lines.length : Int)) = true := by simp; omega
    go_enter Tryz.func73, Tryz.ntmps73
    go_wp2_with fail
    go_quiet ((first | (go_at_call 50; exact Calls.quiet_of_same (HN.out _))))
    go_wp2_with fail
    go_ret
    exact ⟨NO.out _ rfl (by rw [HRES.out]; simp [h20]), HR1.out.1.trans ((below_drewN' _ _).mono HR1.out.1.size)⟩
  have n20 : decide (20 < lines.length) = false := by simp; omega
  have m20 : decide ((20 : Int) < (lines.length : Int)) = false := by simp; omega
  cases hP : lineB part <;> rw [hP] at HP HRES <;> clear hP
  · go_enter Tryz.func73, Tryz.ntmps73
    go_wp2_with fail
    go_quiet ((first | (go_at_call 50; exact Calls.quiet_of_same (HN.out _)) | (go_at_call 103; exact Calls.quiet_of_same (HP.out _))))
    go_wp2_with fail
    go_ret
    exact ⟨NO.out _ rfl (by rw [HRES.out]; simp), HR1.out.1.trans ((below_drewN' _ _).mono HR1.out.1.size)⟩
  cases hI : inB at_ 0 lines.length <;> rw [hI] at HI HRES <;> clear hI
  · go_enter Tryz.func73, Tryz.ntmps73
    go_wp2_with fail
    go_quiet ((first | (go_at_call 50; exact Calls.quiet_of_same (HN.out _)) | (go_at_call 103; exact Calls.quiet_of_same (HP.out _)) | (go_at_call 75; exact Calls.quiet_of_same (HK.out _)) | (go_at_call 32; exact Calls.quiet_of_same (HI.out _))))
    go_wp2_with fail
    go_ret
    exact ⟨NO.out _ rfl (by rw [HRES.out]; simp), HR1.out.1.trans ((below_drewN' _ _).mono HR1.out.1.size)⟩
  have HRES2 := Lib.hid (show RES = lines.all lineB by rw [HRES.out]; simp [h20])
  clear HRES NO
  go_enter Tryz.func73, Tryz.ntmps73
  go_wp2_with fail
  go_quiet ((first | (go_at_call 50; exact Calls.quiet_of_same (HN.out _)) | (go_at_call 103; exact Calls.quiet_of_same (HP.out _)) | (go_at_call 75; exact Calls.quiet_of_same (HK.out _)) | (go_at_call 32; exact Calls.quiet_of_same (HI.out _))))
  have HR2 := Lib.hid (HR1.out.below (below_drewN' _ nq))
  generalize World.drewN _ nq = w2 at *
  clear HR1 HN HP HI HK
  have f1 := (HR2.out.get 1 rfl).cell
  by_cases h0 : 0 < lines.length
  · obtain ⟨b, off, rfl, _, hbh, hc⟩ := (HR2.out.get 2 rfl).2 h0
    have HC := Lib.hid (Tryz.slices_ContainsFunc Value.string (fun x : ByteArray => !lineB x) 105 #[.pointer (some ⟨w.heap.size + 1, 0, none⟩)] (enters_of Tryz.func105 (by kernel_rfl) rfl) b off lines.length c lines w2 (fileOk2_pays _ w2 (HR2.out.get 0 rfl).lt ((HR2.out.get 0 rfl).cell 0)) (Nat.le_refl _) (by omega)
        (fun j hj => by rw [hc j hj, List.getD_eq_getElem?_getD, List.getElem?_eq_getElem hj]; simp [hj]))
    clear hc
    go_wp2_with fail
    refine HC.out.mono ?_
    rintro e w3 ⟨rfl, q, rfl⟩
    rw [List.take_length, any_lines, ← HRES2.out]
    go_wp2_with fail
    go_ret
    exact ⟨by simp, HR2.out.1.trans ((below_drewN' _ _).mono HR2.out.1.size)⟩
  · have hx : lines = [] := List.eq_nil_of_length_eq_zero (by omega)
    subst hx
    have HC := Lib.hid (Tryz.slices_ContainsFunc_empty (α := ByteArray) A c (.func (.func 105) #[] #[.pointer (some ⟨w.heap.size + 1, 0, none⟩)]) w2)
    go_wp2_with fail
    refine HC.out.mono ?_
    rintro e w3 ⟨rfl, rfl⟩
    have HR := HRES2.out
    go_wp2_with fail
    go_ret
    exact ⟨by rw [HR]; rfl, HR2.out.1⟩

end Go.Proofs.YtmeholhmadeehaaGreatDoor
