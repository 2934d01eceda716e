/- Walks: fileOk of the program. -/
import Derived.Test.YtcfmgmbolnifgaaFilOk
import Derived.Laws.EntriesVeiled
namespace Go.Proofs.Ytcfmgmbolnifgaa
open Go.RowKit Go.Shelf

theorem swap_same {P : Program} {f : FuncId} {args : Array Value} {w : World} {r : Ending} (h : Calls P f args w fun e w' => e = r ∧ w = w') : Calls P f args w fun e w' => e = r ∧ w' = w := h.mono fun _ _ ⟨he, hw⟩ => ⟨he, hw.symm⟩

theorem Stand.boxset {w0 w : World} {Fs : Facts} (h : Stand w0 Fs w) (t : TypeId) (x u : Value) :
    Stand w0 ((w.heap.size, w.heap.size + 1, fun W => Blk W w.heap.size t #[u]) :: Fs) ((w.alloc (.cells #[x] t)).setCell ⟨w.heap.size, 0, none⟩ u) :=
  (h.below (((Below.refl _ _).alloc (Nat.le_refl _) _).setCell (Nat.le_refl _) u)).add _ _ _ (loc_blk _ _ _) (by simp [World.setCell]) ((Blk.new w t #[x]).set_ 0 u)

set_option maxHeartbeats 1000000 in
theorem fileOk1_any (s : ByteArray) (w : World) : Calls Try.prog 123 #[.string s] w fun e w' => e = .returned (.bool (lineB s)) ∧ w = w' := by
  have HC := Lib.hid (fun W => Try.strings_Contains_one s 10 W)
  rw [indexByte_lf] at HC
  by_cases h80 : s.size ≤ 80
  · have HR := Lib.hid (show lineB s = noLf s.data.toList by unfold lineB; rw [decide_eq_true h80, Bool.true_and])
    generalize noLf s.data.toList = N at *
    go_enter Try.func123, Try.ntmps123
    go_wp2_with (go_at_call 124; refine (HC.out _).mono ?_; rintro e1 w1 ⟨rfl, rfl⟩)
    go_ret
    refine ⟨congrArg (fun b => Ending.returned (.bool b)) ?_, rfl⟩
    rw [HR.out]
    try (cases N <;> rfl)
  · have HR := Lib.hid (show lineB s = false by unfold lineB; rw [decide_eq_false h80, Bool.false_and])
    go_enter Try.func123, Try.ntmps123
    go_wp2_with fail
    go_ret
    refine ⟨congrArg (fun b => Ending.returned (.bool b)) ?_, rfl⟩
    rw [HR.out]
    try (first | rfl | (simp; omega))

set_option maxHeartbeats 1000000 in
theorem fileOk2_pays (g : Nat) (w : World) (hg : g < w.heap.size) (hc : w.cell? ⟨g, 0, none⟩ = some (.func (.func 123) #[] #[])) :
    PredAt Try.prog 126 #[.pointer (some ⟨g, 0, none⟩)] Value.string (fun x : ByteArray => !lineB x) w := by
  intro W x hb
  unfold FnGives
  have hc' := (hb.cell (p := ⟨g, 0, none⟩) hg).trans hc
  clear hb hc
  go_enter Try.func126, Try.ntmps126
  go_wp2_with (go_at_call 123; refine (fileOk1_any x _).mono ?_; rintro e1 w1 ⟨rfl, rfl⟩)
  go_ret
  exact ⟨rfl, 0, rfl⟩

theorem countStr_any (A : Option Addr) (n c : Nat) (w : World) : Calls Try.prog 125 #[.slice A n c] w fun e w' => e = .returned (.int .i64 n) ∧ w = w' := by
  go_enter Try.func125, Try.ntmps125
  go_wp2
  go_ret
  exact ⟨rfl, rfl⟩
theorem countFil_any (A : Option Addr) (n c : Nat) (w : World) : Calls Try.prog 85 #[.slice A n c] w fun e w' => e = .returned (.int .i64 n) ∧ w = w' := by
  go_enter Try.func85, Try.ntmps85
  go_wp2
  go_ret
  exact ⟨rfl, rfl⟩

theorem any_lines (xs : List ByteArray) : (xs.any fun x => !lineB x) = !xs.all lineB := by
  induction xs with
  | nil => rfl
  | cons x xs ih => simp only [List.any_cons, List.all_cons, ih, Bool.not_and]

set_option maxHeartbeats 4000000 in
set_option maxRecDepth 100000 in
theorem fileOk_any (f : Fil) (v : Value) (lo hi : Nat) (w : World) (hx : FilR w lo hi v f) (hhi : hi ≤ w.heap.size) (hs : FilSmall f) :
    Calls Try.prog 87 #[v] w fun e w' => e = .returned (.bool (filB f)) ∧ Below w.heap.size w w' := by
  obtain ⟨name, lines, part, at_⟩ := f
  obtain ⟨A, c, rfl, hA⟩ := hx
  obtain ⟨h1, h2, h3, h4⟩ := hs
  dsimp only at *
  have R0 := (((Stand.nil w).add lo hi _ (loc_strR0 lo hi A _ lines) hhi hA).box 91 #[.string name, .slice A lines.length c, .string part, .int .i64 at_])
  have R1 := R0.box 26 #[.func (.func 123) #[] #[]]
  rw [heap_size_alloc1] at R1
  have HR1 := Lib.hid R1
  clear hA R0 R1 h4
  have HRES := Lib.hid (show filB ⟨name, lines, part, at_⟩ = (nameB name && decide (lines.length ≤ 20) && lineB part && inB at_ 0 lines.length && lines.all lineB) from rfl)
  have HN := Lib.hid (fun W => swap_same (implNameOk_any name W (by omega)))
  have HP := Lib.hid (fun W => swap_same (fileOk1_any part W))
  have HI := Lib.hid (fun W => swap_same (within_any at_ 0 lines.length W))
  have HK := Lib.hid (fun W => swap_same (countStr_any A lines.length c W))
  generalize filB ⟨name, lines, part, at_⟩ = RES at *
  have no : ∀ b : Bool, b = false → RES = b → Ending.returned (.bool false) = Ending.returned (.bool RES) := fun b h1 h2 => by rw [h2, h1]
  have NO := Lib.hid no; clear no
  cases hN : nameB name <;> rw [hN] at HN HRES <;> clear hN
  · go_enter Try.func87, Try.ntmps87
    go_wp2_with fail
    go_quiet ((first | (go_at_call 65; exact Calls.quiet_of_same (HN.out _))))
    go_wp2_with fail
    go_ret
    exact ⟨NO.out _ rfl (by rw [HRES.out]; rfl), HR1.out.1.trans ((below_drewN' _ _).mono HR1.out.1.size)⟩
  by_cases h20 : lines.length ≤ 20
  case neg =>
    have n20 : decide (20 < lines.length) = true := by simp; omega
    have m20 : decide ((20 : Int) < (lines.length : Int)) = true := by simp; omega
    go_enter Try.func87, Try.ntmps87
    go_wp2_with fail
    go_quiet ((first | (go_at_call 65; exact Calls.quiet_of_same (HN.out _))))
    go_wp2_with fail
    go_ret
    exact ⟨NO.out _ rfl (by rw [HRES.out]; simp [h20]), HR1.out.1.trans ((below_drewN' _ _).mono HR1.out.1.size)⟩
  have n20 : decide (20 < lines.length) = false := by simp; omega
  have m20 : decide ((20 : Int) < (lines.length : Int)) = false := by simp; omega
  cases hP : lineB part <;> rw [hP] at HP HRES <;> clear hP
  · go_enter Try.func87, Try.ntmps87
    go_wp2_with fail
    go_quiet ((first | (go_at_call 65; exact Calls.quiet_of_same (HN.out _)) | (go_at_call 123; exact Calls.quiet_of_same (HP.out _))))
    go_wp2_with fail
    go_ret
    exact ⟨NO.out _ rfl (by rw [HRES.out]; simp), HR1.out.1.trans ((below_drewN' _ _).mono HR1.out.1.size)⟩
  cases hI : inB at_ 0 lines.length <;> rw [hI] at HI HRES <;> clear hI
  · go_enter Try.func87, Try.ntmps87
    go_wp2_with fail
    go_quiet ((first | (go_at_call 65; exact Calls.quiet_of_same (HN.out _)) | (go_at_call 123; exact Calls.quiet_of_same (HP.out _)) | (go_at_call 125; exact Calls.quiet_of_same (HK.out _)) | (go_at_call 70; exact Calls.quiet_of_same (HI.out _))))
    go_wp2_with fail
    go_ret
    exact ⟨NO.out _ rfl (by rw [HRES.out]; simp), HR1.out.1.trans ((below_drewN' _ _).mono HR1.out.1.size)⟩
  have HRES2 := Lib.hid (show RES = lines.all lineB by rw [HRES.out]; simp [h20])
  clear HRES NO
  go_enter Try.func87, Try.ntmps87
  go_wp2_with fail
  go_quiet ((first | (go_at_call 65; exact Calls.quiet_of_same (HN.out _)) | (go_at_call 123; exact Calls.quiet_of_same (HP.out _)) | (go_at_call 125; exact Calls.quiet_of_same (HK.out _)) | (go_at_call 70; exact Calls.quiet_of_same (HI.out _))))
  have HR2 := Lib.hid (HR1.out.below (below_drewN' _ nq))
  generalize World.drewN _ nq = w2 at *
  clear HR1 HN HP HI HK
  have f1 := (HR2.out.get 1 rfl).cell
  by_cases h0 : 0 < lines.length
  · obtain ⟨b, off, rfl, _, hbh, hc⟩ := (HR2.out.get 2 rfl).2 h0
    have HC := Lib.hid (Try.slices_ContainsFunc Value.string (fun x : ByteArray => !lineB x) 126 #[.pointer (some ⟨w.heap.size + 1, 0, none⟩)] (enters_of Try.func126 (by kernel_rfl) rfl) b off lines.length c lines w2 (fileOk2_pays _ w2 (HR2.out.get 0 rfl).lt ((HR2.out.get 0 rfl).cell 0)) (Nat.le_refl _) (by omega)
        (fun j hj => by rw [hc j hj, List.getD_eq_getElem?_getD, List.getElem?_eq_getElem hj]; simp [hj]))
    clear hc
    go_wp2_with fail
    refine HC.out.mono ?_
    rintro e w3 ⟨rfl, q, rfl⟩
    rw [List.take_length, any_lines, ← HRES2.out]
    go_wp2_with fail
    go_ret
    exact ⟨by simp, HR2.out.1.trans ((below_drewN' _ _).mono HR2.out.1.size)⟩
  · have hx : lines = [] := List.eq_nil_of_length_eq_zero (by omega)
    subst hx
    have HC := Lib.hid (Try.slices_ContainsFunc_empty (α := ByteArray) A c (.func (.func 126) #[] #[.pointer (some ⟨w.heap.size + 1, 0, none⟩)]) w2)
    go_wp2_with fail
    refine HC.out.mono ?_
    rintro e w3 ⟨rfl, rfl⟩
    have HR := HRES2.out
    go_wp2_with fail
    go_ret
    exact ⟨by rw [HR]; rfl, HR2.out.1⟩

end Go.Proofs.Ytcfmgmbolnifgaa
