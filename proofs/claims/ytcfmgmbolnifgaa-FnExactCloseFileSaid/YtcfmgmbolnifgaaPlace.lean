/- Where a file stands among the files: l31At of the reference walked. -/
import Derived.Test.YtcfmgmbolnifgaaOwnDev
import Derived.Test.YtcfmgmbolnifgaaDevOk
namespace Go.Proofs.Ytcfmgmbolnifgaa
open Go.RowKit

/-- How many files at the front have a name less than nm. -/
def place (fs : List Fil) (nm : ByteArray) : Nat := (fs.takeWhile fun f => Op.bytesLess f.name.toList nm.toList).length
def thereB (fs : List Fil) (nm : ByteArray) : Bool := decide (place fs nm < fs.length) && ((fs.getD (place fs nm) filD).name.toList == nm.toList)
theorem place_le (fs : List Fil) (nm : ByteArray) : place fs nm ≤ fs.length := by
  unfold place
  exact (List.takeWhile_sublist _).length_le
theorem place_eq (fs : List Fil) (nm : ByteArray) : ∀ k, k ≤ fs.length → (∀ j, j < k → Op.bytesLess (fs.getD j filD).name.toList nm.toList = true) → (k < fs.length → Op.bytesLess (fs.getD k filD).name.toList nm.toList = false) → place fs nm = k := by
  induction fs with
  | nil => intro k hk _ _; simp at hk; subst hk; rfl
  | cons f fs ih =>
    intro k hk h1 h2
    cases k with
    | zero =>
      have := h2 (by simp)
      simp only [List.getD_cons_zero] at this
      unfold place
      rw [List.takeWhile_cons_of_neg (by rw [this]; simp)]; rfl
    | succ k =>
      have h0 := h1 0 (by omega)
      simp only [List.getD_cons_zero] at h0
      have hr := ih k (by simpa using hk) (fun j hj => by have := h1 (j + 1) (by omega); simpa using this) (fun hj => by have := h2 (by simpa using hj); simpa using this)
      unfold place at hr ⊢
      rw [List.takeWhile_cons_of_pos (by rw [h0])]
      simp [hr]

set_option maxHeartbeats 2000000 in
set_option maxRecDepth 100000 in
theorem l31At_any (d : Dev) (nm : ByteArray) (v : Value) (lo hi : Nat) (w : World) (hx : DevR w lo hi v d) (hhi : hi ≤ w.heap.size) (hn : d.files.length ≤ 1048576) :
    Calls Try.prog 96 #[v, .string nm] w fun e w' => e = .returned (.tuple #[.int .i64 (place d.files nm), .bool (thereB d.files nm)]) ∧ Below w.heap.size w w' := by
  obtain ⟨A, c, F, cf, K, ck, rfl, hA, hF, hK⟩ := hx
  have HT := Lib.hid (show thereB d.files nm = (decide (place d.files nm < d.files.length) && ((d.files.getD (place d.files nm) filD).name.toList == nm.toList)) from rfl)
  have HP := Lib.hid (place_eq d.files nm)
  generalize thereB d.files nm = TB at *
  generalize place d.files nm = P at *
  obtain ⟨use, scr, files, keys⟩ := d
  dsimp only at *
  have R0 := ((Stand.nil w).add lo hi _ (loc_filesR lo hi F _ files) hhi hF).box 61 (devCs ⟨use, scr, files, keys⟩ A c F cf K ck)
  have HR0 := Lib.hid R0
  have f := (R0.get 0 rfl).cell
  clear hA hF hK R0
  go_enter Try.func96, Try.ntmps96
  go_wp2_with fail
  go_loop [6] (fun i => ∃ k : Nat, k ≤ files.length ∧ i = .int .i64 k ∧ Hid (∀ j, j < k → Op.bytesLess (files.getD j filD).name.toList nm.toList = true)) (fun i => files.length - (intOf i).toNat)
  case atStart => exact ⟨0, Nat.zero_le _, rfl, fun j hj => absurd hj (by omega)⟩
  case round =>
    obtain ⟨k, hk, rfl, HJ⟩ := hrel
    have i0 : (0 : Int) ≤ (k : Int) := by omega
    by_cases hlt : k < files.length
    · obtain ⟨b, off, rfl, hb1, hb2, L1, d1, e0, e1, e2, e3, hL⟩ := (HR0.out.get 1 rfl).at_ hlt
      have i1 : (k : Int) < (files.length : Int) := by omega
      have HE := Lib.hid (show ∀ h : Op.bytesLess (files.getD k filD).name.toList nm.toList = false, P = k from fun h => HP.out k hk HJ.out (fun _ => h))
      have HS := Lib.hid (show ∀ h : Op.bytesLess (files.getD k filD).name.toList nm.toList = true, ∀ j, j < k + 1 → Op.bytesLess (files.getD j filD).name.toList nm.toList = true from fun h j hj => by
        by_cases e : j = k
        · subst e; exact h
        · exact HJ.out j (by omega))
      have HG := Lib.hid (show ∀ h : P = k, TB = ((files.getD k filD).name.toList == nm.toList) from fun h => by rw [HT.out, h, decide_eq_true hlt, Bool.true_and])
      generalize files.getD k filD = X at *
      clear e1 e2 e3 hL
      cases hB : Op.bytesLess X.name.toList nm.toList
      · have HB := Lib.hid (HE.out hB)
        have HTB := Lib.hid (HG.out HB.out)
        have nl : decide (k < files.length) = true := decide_eq_true hlt
        have nl' : decide ((k : Int) < (files.length : Int)) = true := decide_eq_true i1
        go_wp2_with fail
        go_quiet (fail)
        go_wp2_with fail
        go_ret2
        exact ⟨by rw [HB.out, HTB.out]; first | rfl | simp, HR0.out.1.trans ((below_drewN' _ _).mono HR0.out.1.size)⟩
      · have HB := Lib.hid (HS.out hB)
        go_wp2_with fail
        go_round
        case rel => exact ⟨k + 1, by omega, by go_num, HB.out⟩
        case measure => simp [intOf]; omega
    · have HB := Lib.hid (show P = k from HP.out k hk HJ.out (fun h => absurd h hlt))
      have HTB := Lib.hid (show TB = false by rw [HT.out, HB.out, decide_eq_false hlt, Bool.false_and])
      have nl : decide (k < files.length) = false := decide_eq_false hlt
      have nl' : decide ((k : Int) < (files.length : Int)) = false := by rw [decide_eq_false_iff_not]; omega
      go_wp2_with fail
      go_quiet (fail)
      go_wp2_with fail
      go_ret2
      exact ⟨by rw [HB.out, HTB.out]; first | rfl | simp, HR0.out.1.trans ((below_drewN' _ _).mono HR0.out.1.size)⟩

end Go.Proofs.Ytcfmgmbolnifgaa
