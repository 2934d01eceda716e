/- Where a file stands among the files: l31At of the reference walked. -/
import Derived.Test.YtmeholhmadeehaaGreatDoorJoinFLAk
import Derived.Test.YtmeholhmadeehaaGreatDoorShelfP
import Derived.Deep.RegionLaw
namespace Go.Proofs.YtmeholhmadeehaaGreatDoor
open Go.RowKit

/-- How many files at the front have a name less than nm. -/
def place (fs : List Fil) (nm : ByteArray) : Nat := (fs.takeWhile fun f => Op.bytesLess f.name.toList nm.toList).length
def thereB (fs : List Fil) (nm : ByteArray) : Bool := decide (place fs nm < fs.length) && ((fs.getD (place fs nm) filD).name.toList == nm.toList)
theorem place_le (fs : List Fil) (nm : ByteArray) : place fs nm ≤ fs.length := by
  unfold place
  exact (List.takeWhile_sublist _).length_le
theorem place_eq (fs : List Fil) (nm : ByteArray) : ∀ k, k ≤ fs.length → (∀ j, j < k → Op.bytesLess (fs.getD j filD).name.toList nm.toList = true) → (k < fs.length → Op.bytesLess (fs.getD k filD).name.toList nm.toList = false) → place fs nm = k := by
  induction fs with
  | nil => intro k hk _ _; simp at hk; subst hk; rfl
  | cons f fs ih =>
    intro k hk h1 h2
    cases k with
    | zero =>
      have := h2 (by simp)
      simp only [List.getD_cons_zero] at this
      unfold place
      rw [List.takeWhile_cons_of_neg (by rw [this]; simp)]; rfl
    | succ k =>
      have h0 := h1 0 (by omega)
      simp only [List.getD_cons_zero] at h0
      have hr := ih k (by simpa using hk) (fun j hj => by have := h1 (j + 1) (by omega); simpa using this) (fun hj => by have := h2 (by simpa using hj); simpa using this)
      unfold place at hr ⊢
      rw [List.takeWhile_cons_of_pos (by rw [h0])]
      simp [hr]

set_option maxHeartbeats 2000000 in
set_option maxRecDepth 100000 in
theorem l31At_any (d : Dev) (nm : ByteArray) (v : Value) (lo hi : Nat) (w : World) (hx : DevR w lo hi v d) (hhi : hi ≤ w.heap.size) (hn : d.files.length ≤ 1048576) :
    Calls Tryz.prog 116 #[v, .string nm] w fun e w' => e = .returned (.tuple #[.int .i64 (place d.files nm), .bool (thereB d.files nm)]) ∧ Below w.heap.size w w' := by
  obtain ⟨A, c, F, cf, K, ck, rfl, hA, hF, hK⟩ := hx
  have HT := Lib.hid (show thereB d.files nm = (decide (place d.files nm < d.files.length) && ((d.files.getD (place d.files nm) filD).name.toList == nm.toList)) from rfl)
  have HP := Lib.hid (place_eq d.files nm)
  generalize thereB d.files nm = TB at *
  generalize place d.files nm = P at *
  obtain ⟨use, scr, files, keys⟩ := d
  dsimp only at *
  have R0 := ((Stand.nil w).add lo hi _ (loc_filesR lo hi F _ files) hhi hF).box 32 (devCs ⟨use, scr, files, keys⟩ A c F cf K ck)
  have HR0 := Lib.hid R0
  have f := (R0.get 0 rfl).cell
  clear hA hF hK R0
  go_enter Tryz.func116, Tryz.ntmps116
  go_wp2_with fail
  go_loop [6] (fun i => ∃ k : Nat, k ≤ files.length ∧ i = .int .i64 k ∧ Hid (∀ j, j < k → Op.bytesLess (files.getD j filD).name.toList nm.toList = true)) (fun i => files.length - (intOf i).toNat)
  case atStart => exact ⟨0, Nat.zero_le _, rfl, fun j hj => absurd hj (by omega)⟩
  case round =>
    obtain ⟨k, hk, rfl, HJ⟩ := hrel
    have i0 : (0 : Int) ≤ (k : Int) := by omega
    by_cases hlt : k < files.length
    · obtain ⟨b, off, rfl, hb1, hb2, L1, d1, e0, e1, e2, e3, hL⟩ := (HR0.out.get 1 rfl).at_ hlt
      have i1 : (k : Int) < (files.length : Int) := by omega
      have HE := Lib.hid (show ∀ h : Op.bytesLess (files.getD k filD).name.toList nm.toList = false, P = k from fun h => HP.out k hk HJ.out (fun _ => h))
      have HS := Lib.hid (show ∀ h : Op.bytesLess (files.getD k filD).name.toList nm.toList = true, ∀ j, j < k + 1 → Op.bytesLess (files.getD j filD).name.toList nm.toList = true from fun h j hj => by
        by_cases e : j = k
        · subst e; exact h
        · exact HJ.out j (by omega))
      have HG := Lib.hid (show ∀ h : P = k, TB = ((files.getD k filD).name.toList == nm.toList) from fun h => by rw [HT.out, h, decide_eq_true hlt, Bool.true_and])
      generalize files.getD k filD = X at *
      clear e1 e2 e3 hL
      cases hB : Op.bytesLess X.name.toList nm.toList
      · have HB := Lib.hid (HE.out hB)
        have HTB := Lib.hid (HG.out HB.out)
        have nl : decide (k < files.length) = true := decide_eq_true hlt
        have nl' : decide ((k : Int) < (files.length : Int)) = true := decide_eq_true i1
        go_wp2_with fail
        go_quiet (fail)
        go_wp2_with fail
        go_ret2
        exact ⟨by rw [HB.out, HTB.out]; first | rfl | simp, HR0.out.1.trans ((below_drewN' _ _).mono HR0.out.1.size)⟩
      · have HB := Lib.hid (HS.out hB)
        go_wp2_with fail
        go_round
        case rel => exact ⟨k + 1, by omega, by go_num, HB.out⟩
        case measure => simp [intOf]; omega
    · have HB := Lib.hid (show P = k from HP.out k hk HJ.out (fun h => absurd h hlt))
      have HTB := Lib.hid (show TB = false by rw [HT.out, HB.out, decide_eq_false hlt, Bool.false_and])
      have nl : decide (k < files.length) = false := decide_eq_false hlt
      have nl' : decide ((k : Int) < (files.length : Int)) = false := by rw [decide_eq_false_iff_not]; omega
      go_wp2_with fail
      go_quiet (fail)
      go_wp2_with fail
      go_ret2
      exact ⟨by rw [HB.out, HTB.out]; first | rfl | simp, HR0.out.1.trans ((below_drewN' _ _).mono HR0.out.1.size)⟩

end Go.Proofs.YtmeholhmadeehaaGreatDoor

/- The program's search for a file by name: file, slices.BinarySearchFunc at files, walked. -/
namespace Go.Proofs.YtmeholhmadeehaaGreatDoor
open Go.RowKit

theorem cmp_less : ∀ (a b : List UInt8), decide (Lib.compareBytes a b < 0) = Op.bytesLess a b
  | [], [] => rfl
  | [], _ :: _ => rfl
  | _ :: _, [] => rfl
  | a :: x, b :: y => by
    have ih := cmp_less x y
    unfold Lib.compareBytes Op.bytesLess
    by_cases h1 : a < b
    · simp [h1]
    · by_cases h2 : b < a
      · have h3 : ¬ a = b := fun e => by subst e; exact h1 h2
        simp [h1, h2, h3]
      · have h3 : a = b := UInt8.le_antisymm (UInt8.not_lt.1 h2) (UInt8.not_lt.1 h1)
        subst h3
        simp [h1, ih]
theorem cmp_zero : ∀ (a b : List UInt8), (Lib.compareBytes a b == 0) = (a == b)
  | [], [] => rfl
  | [], _ :: _ => rfl
  | _ :: _, [] => rfl
  | a :: x, b :: y => by
    have ih := cmp_zero x y
    unfold Lib.compareBytes
    by_cases h1 : a < b
    · have h3 : ¬ a = b := fun e => by subst e; exact UInt8.lt_irrefl _ h1
      simp [h1, h3]
    · by_cases h2 : b < a
      · have h3 : ¬ a = b := fun e => by subst e; exact h1 h2
        simp [h1, h2, h3]
      · have h3 : a = b := UInt8.le_antisymm (UInt8.not_lt.1 h2) (UInt8.not_lt.1 h1)
        subst h3
        simp [h1, ih]
theorem toList_data (s : ByteArray) : s.data.toList = s.toList := (ByteArray.toList_eq s).symm

set_option maxHeartbeats 400000 in
theorem file1_any (f : Fil) (v : Value) (nm : ByteArray) (w : World) (hv : ∃ A c, v = .agg #[.string f.name, .slice A f.lines.length c, .string f.part, .int .i64 f.at_]) :
    Calls Tryz.prog 87 #[v, .string nm] w fun e w' => e = .returned (.int .i64 (Lib.compareBytes f.name.toList nm.toList)) ∧ Below w.heap.size w w' := by
  obtain ⟨A, c, rfl⟩ := hv
  have HB := Lib.hid ((Below.refl w.heap.size w).alloc (Nat.le_refl _) (.cells #[.string f.name, .slice A f.lines.length c, .string f.part, .int .i64 f.at_] 55))
  have HC := Lib.hid (fun W => Tryz.strings_Compare f.name nm W)
  rw [toList_data, toList_data] at HC
  go_enter Tryz.func87, Tryz.ntmps87
  go_wp2_with fail
  refine (HC.out _).mono ?_
  rintro e1 w1 ⟨rfl, rfl⟩
  go_wp2_with fail
  go_ret
  exact ⟨rfl, HB.out⟩

/-- The names are in order: those before a file less than it. -/
def Sorted (fs : List Fil) : Prop := ∀ i j, i < j → j < fs.length → Op.bytesLess (fs.getD i filD).name.toList (fs.getD j filD).name.toList = true

theorem less_trans : ∀ (a b c : List UInt8), Op.bytesLess a b = true → Op.bytesLess b c = true → Op.bytesLess a c = true
  | _, [], _, h, _ => by rename_i a _; cases a <;> simp [Op.bytesLess] at h
  | _, _ :: _, [], _, h => by simp [Op.bytesLess] at h
  | [], _ :: _, _ :: _, _, _ => rfl
  | a :: x, b :: y, c :: z, h1, h2 => by
    have ih := less_trans x y z
    simp only [Op.bytesLess, Bool.or_eq_true, decide_eq_true_eq, Bool.and_eq_true, beq_iff_eq] at h1 h2 ⊢
    rcases h1 with h1 | ⟨rfl, h1⟩
    · rcases h2 with h2 | ⟨rfl, h2⟩
      · exact .inl (UInt8.lt_trans h1 h2)
      · exact .inl h1
    · rcases h2 with h2 | ⟨rfl, h2⟩
      · exact .inl h2
      · exact .inr ⟨rfl, ih h1 h2⟩

theorem sorted_of {fs : List Fil} (h : ∀ k, 0 < k → k < fs.length → Op.bytesLess (fs.getD (k - 1) filD).name.toList (fs.getD k filD).name.toList = true) : Sorted fs := by
  intro i j hij hj
  obtain ⟨m, rfl⟩ : ∃ m, j = i + 1 + m := ⟨j - i - 1, by omega⟩
  clear hij
  induction m with
  | zero => have := h (i + 1) (by omega) (by omega); simpa using this
  | succ m ih =>
    have h1 := ih (by omega)
    have h2 := h (i + 1 + (m + 1)) (by omega) hj
    rw [show i + 1 + (m + 1) - 1 = i + 1 + m by omega] at h2
    exact less_trans _ _ _ h1 h2

set_option maxHeartbeats 2000000 in
set_option maxRecDepth 100000 in
theorem search_any (A : Option Addr) (n c lo hi : Nat) (fs : List Fil) (nm : ByteArray) (w : World) (hF : FilesR w lo hi A n fs) (hhi : hi ≤ w.heap.size) (hn : n ≤ 1048576) (hs : Sorted fs) :
    Calls Tryz.prog 86 #[.slice A n c, .string nm, .func (.func 87) #[] #[]] w fun e w' => e = .returned (.tuple #[.int .i64 (place fs nm), .bool (thereB fs nm)]) ∧ Below w.heap.size w w' := by
  have hl := hF.1
  subst hl
  have HT := Lib.hid (show thereB fs nm = (decide (place fs nm < fs.length) && ((fs.getD (place fs nm) filD).name.toList == nm.toList)) from rfl)
  have HP := Lib.hid (place_eq fs nm)
  have HS := Lib.hid hs; have HF := Lib.hid hF
  generalize thereB fs nm = TB at *
  generalize place fs nm = P at *
  clear hs hF
  go_enter Tryz.func86, Tryz.ntmps86
  go_wp2_with fail
  go_loopw [9, 10] (fun a b wr => ∃ i j : Nat, i ≤ j ∧ j ≤ fs.length ∧ a = .int .i64 i ∧ b = .int .i64 j ∧ Hid (∀ x, x < i → Op.bytesLess (fs.getD x filD).name.toList nm.toList = true) ∧ Hid (∀ x, j ≤ x → x < fs.length → Op.bytesLess (fs.getD x filD).name.toList nm.toList = false) ∧ Below w.heap.size w wr) (fun a b _ => (intOf b).toNat - (intOf a).toNat)
  case atStart => exact ⟨0, fs.length, Nat.zero_le _, Nat.le_refl _, rfl, rfl, fun x hx => absurd hx (by omega), fun x hx hx' => absurd hx' (by omega), Below.refl _ _⟩
  case round =>
    obtain ⟨i, j, hij, hj, rfl, rfl, HI, HJ, hb⟩ := hrel
    by_cases hlt : i < j
    · obtain ⟨b, off, rfl, hb1, hb2, L1, d1, e0, e1, e2, e3, hL⟩ := (HF.out.below hb hhi).at_ (show (i + j) / 2 < fs.length by omega)
      have HB := Lib.hid hb
      have hbsz := hb.size
      have HLE := Lib.hid (show ∀ h : Op.bytesLess (fs.getD ((i + j) / 2) filD).name.toList nm.toList = true, ∀ x, x < (i + j) / 2 + 1 → Op.bytesLess (fs.getD x filD).name.toList nm.toList = true from fun h x hx => by
        by_cases e : x = (i + j) / 2
        · rw [e]; exact h
        · exact less_trans _ _ _ (HS.out x ((i + j) / 2) (by omega) (by omega)) h)
      have HGE := Lib.hid (show ∀ h : Op.bytesLess (fs.getD ((i + j) / 2) filD).name.toList nm.toList = false, ∀ x, (i + j) / 2 ≤ x → x < fs.length → Op.bytesLess (fs.getD x filD).name.toList nm.toList = false from fun h x hx hx' => by
        by_cases e : x = (i + j) / 2
        · rw [e]; exact h
        · cases hb : Op.bytesLess (fs.getD x filD).name.toList nm.toList with
          | false => rfl
          | true => have := less_trans _ _ _ (HS.out ((i + j) / 2) x (by omega) hx') hb; rw [this] at h; cases h)
      have HC := Lib.hid (cmp_less (fs.getD ((i + j) / 2) filD).name.toList nm.toList)
      generalize fs.getD ((i + j) / 2) filD = X at *
      clear hb hL
      go_wp2_with fail
      refine (file1_any X _ nm _ ⟨L1, d1, rfl⟩).mono ?_
      rintro x5 w5 ⟨rfl, hb5⟩
      have HB5 := Lib.hid (HB.out.trans (hb5.mono hbsz))
      clear hb5 e0 e1 e2 e3
      cases hL : Op.bytesLess X.name.toList nm.toList
      · have HG := Lib.hid (HGE.out hL)
        rw [hL] at HC
        have hc : ¬ (Lib.compareBytes X.name.toList nm.toList < 0) := by have := HC.out; simpa using this
        generalize Lib.compareBytes X.name.toList nm.toList = q at *
        go_wp2_with fail
        go_roundw
        case rel => exact ⟨i, (i + j) / 2, by omega, by omega, rfl, congrArg (Value.int .i64) (by omega), HI, HG.out, HB5.out⟩
        case measure => simp [intOf]; omega
      · have HG := Lib.hid (HLE.out hL)
        rw [hL] at HC
        have hc : Lib.compareBytes X.name.toList nm.toList < 0 := by have := HC.out; simpa using this
        generalize Lib.compareBytes X.name.toList nm.toList = q at *
        go_wp2_with fail
        go_roundw
        case rel => exact ⟨(i + j) / 2 + 1, j, by omega, by omega, congrArg (Value.int .i64) (by omega), rfl, HG.out, HJ, HB5.out⟩
        case measure => simp [intOf]; omega
    · obtain rfl : i = j := by omega
      have HB := Lib.hid hb
      have hbsz := hb.size
      have HPI := Lib.hid (show P = i from HP.out i hj HI.out (fun h => HJ.out i (Nat.le_refl _) h))
      by_cases hin : i < fs.length
      · obtain ⟨b, off, rfl, hb1, hb2, L1, d1, e0, e1, e2, e3, hL⟩ := (HF.out.below hb hhi).at_ hin
        have HTB := Lib.hid (show TB = ((fs.getD i filD).name.toList == nm.toList) by rw [HT.out, HPI.out, decide_eq_true hin, Bool.true_and])
        have HC := Lib.hid (cmp_zero (fs.getD i filD).name.toList nm.toList)
        generalize fs.getD i filD = X at *
        clear hb hL
        go_wp2_with fail
        refine (file1_any X _ nm _ ⟨L1, d1, rfl⟩).mono ?_
        rintro x5 w5 ⟨rfl, hb5⟩
        have HB5 := Lib.hid (HB.out.trans (hb5.mono hbsz))
        clear hb5 e0 e1 e2 e3
        rw [← HC.out] at HTB
        generalize Lib.compareBytes X.name.toList nm.toList = q at *
        go_wp2_with fail
        go_ret2
        exact ⟨by rw [HPI.out, HTB.out]; first | rfl | simp, HB5.out⟩
      · have HTB := Lib.hid (show TB = false by rw [HT.out, HPI.out, decide_eq_false hin, Bool.false_and])
        have nl : decide (i < fs.length) = false := decide_eq_false hin
        clear hb
        go_wp2_with fail
        go_ret2
        exact ⟨by rw [HPI.out, HTB.out]; first | rfl | simp, HB.out⟩

set_option maxHeartbeats 400000 in
theorem file_any (p : Nat) (d : Dev) (A : Option Addr) (c : Nat) (V : Option Addr) (cv : Nat) (K : Option Addr) (ck lo hi : Nat) (nm : ByteArray) (w : World) (hB : Blk w p 32 (devCs d A c V cv K ck)) (hF : FilesR w lo hi V d.files.length d.files) (hhi : hi ≤ w.heap.size) (hn : d.files.length ≤ 1048576) (hs : Sorted d.files) :
    Calls Tryz.prog 51 #[.pointer (some ⟨p, 0, none⟩), .string nm] w fun e w' => e = .returned (.tuple #[.int .i64 (place d.files nm), .bool (thereB d.files nm)]) ∧ Below w.heap.size w w' := by
  have f := hB.cell
  have HF := Lib.hid hF; have HS := Lib.hid hs
  have HC := Lib.hid (fun c => search_any V d.files.length c lo hi d.files nm w hF hhi hn hs)
  clear hB hF hs
  generalize place d.files nm = P at *
  generalize thereB d.files nm = T at *
  go_enter Tryz.func51, Tryz.ntmps51
  go_wp2_with fail
  refine (HC.out _).mono ?_
  rintro e1 w1 ⟨rfl, hb1⟩
  clear f
  go_wp2_with fail
  go_ret2
  exact ⟨rfl, hb1⟩

end Go.Proofs.YtmeholhmadeehaaGreatDoor

/- slices.Delete at files, one file: walked. -/
namespace Go.Proofs.YtmeholhmadeehaaGreatDoor
open Go.RowKit

theorem Blk.setCells {g : Nat} {t : TypeId} : ∀ (vs : List Value) (o : Nat) (w : World) (cs : Array Value), Blk w g t cs → ∃ cs', Blk (w.setCells g o vs) g t cs' ∧ cs'.size = cs.size ∧ ∀ k, cs'[k]? = if o ≤ k ∧ k < o + vs.length ∧ k < cs.size then vs[k - o]? else cs[k]?
  | [], o, w, cs, h => ⟨cs, h, rfl, fun k => by rw [if_neg (by simp; omega)]⟩
  | v :: vs, o, w, cs, h => by
    obtain ⟨cs', h1, h2, h3⟩ := Blk.setCells vs (o + 1) (w.setCell ⟨g, o, none⟩ v) _ (h.set_ o v)
    refine ⟨cs', h1, by rw [h2]; simp, fun k => ?_⟩
    rw [h3 k, Array.size_setIfInBounds]
    by_cases hk : k = o
    · subst hk
      rw [if_neg (by omega)]
      by_cases hs : k < cs.size
      · rw [Array.getElem?_setIfInBounds_self_of_lt hs, if_pos ⟨Nat.le_refl _, by simp, hs⟩]; simp
      · rw [if_neg (by omega), Array.getElem?_eq_none (by simp; omega), Array.getElem?_eq_none (by omega)]
    · rw [Array.getElem?_setIfInBounds_ne (fun e => hk e.symm)]
      by_cases hc : o + 1 ≤ k ∧ k < o + 1 + vs.length ∧ k < cs.size
      · rw [if_pos hc, if_pos ⟨by omega, by simp; omega, hc.2.2⟩]
        rw [show k - o = (k - (o + 1)) + 1 by omega, List.getElem?_cons_succ]
      · rw [if_neg hc, if_neg (by simp; omega)]

def zeroCs : List Value := [.string ⟨#[]⟩, .slice none 0 0, .string ⟨#[]⟩, .int .i64 0]
theorem zeroFile_run (w : World) : (zeroValue 55).run Tryz.prog w = .ok (.agg #[.string ⟨#[]⟩, .slice none 0 0, .string ⟨#[]⟩, .int .i64 0]) w := by kernel_rfl
theorem clear_file (w : World) (ty : TypeId) (b o c : Nat) (hc : ∀ j, j < 4 → (w.cell? ⟨b, o + j, none⟩).isSome = true) (hf : ∀ j, j < 4 → w.frozen? ⟨b, o + j, none⟩ = false) :
    (Builtin.clear_ #[30] ty #[.slice (some ⟨b, o, none⟩) 1 c]).run Tryz.prog w = .ok (.tuple #[]) (w.setCells b o zeroCs) := by
  have hst := run_storeCells_cells (P := Tryz.prog) b o zeroCs 0 w (by simpa [zeroCs] using hc) (by simpa [zeroCs] using hf) (by intro v hv; simp only [zeroCs, List.mem_cons, List.not_mem_nil, or_false] at hv; rcases hv with rfl | rfl | rfl | rfl <;> rfl)
  simp only [Nat.add_zero] at hst
  have hz : (Builtin.zeroCells (Value.agg #[.string ⟨#[]⟩, .slice none 0 0, .string ⟨#[]⟩, .int .i64 0]).cells 1).toList = zeroCs := by kernel_rfl
  simp [Builtin.clear_, run_underlying Tryz.underlying30, zeroFile_run, hz, hst]

theorem setCells_same (g : Nat) : ∀ (vs : List Value) (o : Nat) (w : World), (w.setCells g o vs).os = w.os ∧ (w.setCells g o vs).tape = w.tape ∧ (w.setCells g o vs).output = w.output ∧ (w.setCells g o vs).heap.size = w.heap.size ∧ ∀ k, k ≠ g → (w.setCells g o vs).heap[k]? = w.heap[k]?
  | [], _, _ => ⟨rfl, rfl, rfl, rfl, fun _ _ => rfl⟩
  | v :: vs, o, w => by
    obtain ⟨h1, h2, h3, h4, h5⟩ := setCells_same g vs (o + 1) (w.setCell ⟨g, o, none⟩ v)
    exact ⟨h1, h2, h3, h4.trans (by simp [World.setCell]), fun k hk => (h5 k hk).trans (Below.heap_setCell w ⟨g, o, none⟩ v k hk)⟩

/-- Only block g has changed, and draws. -/
def Only (g : Nat) (w w' : World) : Prop := w'.os = w.os ∧ w'.tape = w.tape ∧ w'.output = w.output ∧ w'.heap.size = w.heap.size ∧ ∀ k, k ≠ g → w'.heap[k]? = w.heap[k]?

set_option maxHeartbeats 4000000 in
set_option maxRecDepth 100000 in
theorem deleteFil_any (g cap n i : Nat) (cur : Array Value) (w : World) (hB : Blk w g 55 cur) (hsz : cur.size = cap * 4) (hn : n ≤ cap) (hcap : cap ≤ 9223372036854775807) (hi : i < n) (hone : ∀ u ∈ cur.toList.take (n * 4), u.oneCell' = true) :
    Calls Tryz.prog 54 #[.slice (some ⟨g, 0, none⟩) n cap, .int .i64 i, .int .i64 (i + 1)] w fun e w' => e = .returned (.slice (some ⟨g, 0, none⟩) (n - 1) cap) ∧
      ∃ cs', Blk w' g 55 cs' ∧ cs'.size = cur.size ∧ (∀ k, k < (n - 1) * 4 → cs'[k]? = if k < i * 4 then cur[k]? else cur[k + 4]?) ∧ Only g w w' := by
  obtain ⟨news, hnews⟩ : ∃ news, news = (cur.toList.drop ((i + 1) * 4)).take ((n - (i + 1)) * 4) := ⟨_, rfl⟩
  have hlen : news.length = (n - (i + 1)) * 4 := by rw [hnews]; simp; omega
  have hget : ∀ t, t < (n - (i + 1)) * 4 → news[t]? = cur[(i + 1) * 4 + t]? := by
    intro t ht
    rw [hnews, List.getElem?_take, if_pos ht, List.getElem?_drop, Array.getElem?_toList]
  obtain ⟨A, hA, hsrc⟩ : ∃ A : Addr, (if cap = i + 1 then some (⟨g, 0, none⟩ : Addr) else some ⟨g, (i + 1) * 4, none⟩) = some A ∧ Hid (∀ t u, news[t]? = some u → w.drew.cell? (A.add t) = some u) := by
    by_cases h : cap = i + 1
    · refine ⟨⟨g, 0, none⟩, by simp [h], fun t u hu => ?_⟩
      have h0 : news.length = 0 := by rw [hlen]; omega
      rw [List.length_eq_zero_iff.1 h0] at hu
      simp at hu
    · refine ⟨⟨g, (i + 1) * 4, none⟩, by simp [h], fun t u hu => ?_⟩
      have ht : t < (n - (i + 1)) * 4 := by
        have := (List.getElem?_eq_some_iff.1 hu).1
        rwa [hlen] at this
      rw [hget t ht] at hu
      rw [Addr.add_lit]
      exact (hB.cell _).trans hu
  have s2 : Hid (∀ u ∈ news, u.oneCell' = true) := by
    intro u hu
    refine hone u ?_
    rw [hnews] at hu
    have := List.take_drop (l := cur.toList) (i := (n - (i + 1)) * 4) (j := (i + 1) * 4)
    rw [show (i + 1) * 4 + (n - (i + 1)) * 4 = n * 4 by omega] at this
    rw [this] at hu
    exact List.mem_of_mem_drop hu
  have s3 : Hid (∀ t, t < news.length → (w.drew.cell? ⟨g, 0 + i * 4 + t, none⟩).isSome = true ∧ w.drew.frozen? ⟨g, 0 + i * 4 + t, none⟩ = false) := by
    intro t ht
    rw [hlen] at ht
    refine ⟨?_, hB.frozen _⟩
    show (w.cell? _).isSome = true
    rw [hB.cell, Array.getElem?_eq_getElem (by omega)]; rfl
  obtain ⟨W1, hW1⟩ : ∃ W1, W1 = w.drew.setCells g (0 + i * 4) news := ⟨_, rfl⟩
  obtain ⟨c1, hB1, hs1, hc1⟩ := Blk.setCells news (0 + i * 4) w.drew cur (hB.drewN 1)
  rw [← hW1] at hB1
  have hcl : ∀ ty c, (Builtin.clear_ #[30] ty #[.slice (some ⟨g, (i + (n - (i + 1))) * 4, none⟩) (n - (i + (n - (i + 1)))) c]).run Tryz.prog W1 = .ok (.tuple #[]) (W1.setCells g ((i + (n - (i + 1))) * 4) zeroCs) :=
    fun ty c => by rw [show n - (i + (n - (i + 1))) = 1 by omega]; exact clear_file W1 ty g _ c (fun j hj => by rw [hB1.cell, Array.getElem?_eq_getElem (by omega)]; rfl) (fun j hj => hB1.frozen _)
  obtain ⟨c2, hB2, hs2, hc2⟩ := Blk.setCells zeroCs ((i + (n - (i + 1))) * 4) W1 c1 hB1
  have o1 := setCells_same g news (0 + i * 4) w.drew
  have o2 := setCells_same g zeroCs ((i + (n - (i + 1))) * 4) W1
  have HFIN := Lib.hid (show ∃ cs', Blk (W1.setCells g ((i + (n - (i + 1))) * 4) zeroCs) g 55 cs' ∧ cs'.size = cur.size ∧ (∀ k, k < (n - 1) * 4 → cs'[k]? = if k < i * 4 then cur[k]? else cur[k + 4]?) ∧ Only g w (W1.setCells g ((i + (n - (i + 1))) * 4) zeroCs) by
    refine ⟨c2, hB2, by omega, fun k hk => ?_, ?_⟩
    · rw [hc2 k, if_neg (by simp [zeroCs]; omega), hc1 k]
      by_cases h1 : k < i * 4
      · rw [if_neg (by omega), if_pos h1]
      · rw [if_pos ⟨by omega, by rw [hlen]; omega, by omega⟩, if_neg h1, hget _ (by omega)]
        congr 1; omega
    · rw [← hW1] at o1
      exact ⟨o2.1.trans o1.1, o2.2.1.trans o1.2.1, o2.2.2.1.trans o1.2.2.1, o2.2.2.2.1.trans o1.2.2.2.1, fun k hk => (o2.2.2.2.2 k hk).trans (o1.2.2.2.2 k hk)⟩)
  have HS1 := Lib.hid hlen
  obtain ⟨i0, hi0, hz0, hz1, hz2⟩ := info_parts infoFile
  have hW : Hid (W1 = w.drew.setCells g (0 + i * 4) news) := hW1
  have b1 : (0 : Int) ≤ (i : Int) := by omega
  have b2 : (i : Int) + 1 ≤ (n : Int) := by omega
  have b3 : (n : Int) ≤ (cap : Int) := by omega
  have b7 : (0 : Int) ≤ (i : Int) + 1 := by omega
  have b4 : i + 1 ≤ cap := by omega
  have b5 : i ≤ cap := by omega
  have b6 : i + 1 ≤ n := by omega
  have ne : ((i : Int) == (i : Int) + 1) = false := by rw [beq_eq_false_iff_ne]; omega
  clear hW1 hB1 hB2 hc1 hc2 hs1 hs2 hB hget hnews hlen hone o1 o2 hsz
  go_enter Tryz.func54, Tryz.ntmps54
  go_wp2_with fail
  go_region_law (refine step_append_room rfl (.tmp 22) (.tmp 25) 30 rfl 55 i0 4 Tryz.underlying30 hi0 hz1 g 0 i cap (by simp [Act.eval, Act.put]) A (n - (i + 1)) (cap - (i + 1)) news (by simp [Act.eval, Act.put]) HS1.out hsrc.out s2.out (by omega) s3.out ?_; rw [← hW.out])
  go_wp2
  go_ret
  exact ⟨by rw [show n - 1 = i + (n - (i + 1)) by omega]; rfl, HFIN.out⟩

end Go.Proofs.YtmeholhmadeehaaGreatDoor
