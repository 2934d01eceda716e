/- The reference's texts of numbers walked: l01Whole. -/
import Derived.Test.YtcjaaknnfohllaaGreatDoorNumS
import Derived.Test.YtcjaaknnfohllaaGreatDoorTail
import Derived.IntWalk
namespace Go.Proofs.YtcjaaknnfohllaaGreatDoor
open Go.RowKit

section
variable {P : Program} {l : List Oper} {Q : Exit → Go.Act → World → Prop} {md : Region.Mode} {S : World → Prop} {z : Nat → Bool}
/-- Two operations may come up: behind each S is to be shown. -/
theorem AnyT.two {i j : Nat} {oi oj : Oper} {n : Nat} {listed : Array Bool} {a : Go.Act} {w : World} (hr : Region.ready md l.toArray listed = [i, j]) (hi : l[i]? = some oi) (hj : l[j]? = some oj)
    (h1 : ∀ K' : Go.Act → World → Prop, Shut (∀ a w, S w → (S w → AnyT P md l.toArray Q S z n (listed.setIfInBounds i true) a w) → K' a w) → if Region.wanted oi (yielded l.toArray a.tmps) = true then Oper.wp P oi a w K' Q else K' (a.put oi.dst undef) w)
    (h2 : ∀ K' : Go.Act → World → Prop, Shut (∀ a w, S w → (S w → AnyT P md l.toArray Q S z n (listed.setIfInBounds j true) a w) → K' a w) → if Region.wanted oj (yielded l.toArray a.tmps) = true then Oper.wp P oj a w K' Q else K' (a.put oj.dst undef) w) :
    AnyT P md l.toArray Q S z (n + 1) listed a w := by
  refine ⟨fun h0 => (by rw [hr] at h0; cases h0), fun k hk => ?_⟩
  rw [hr] at hk
  rcases List.mem_cons.1 hk with rfl | hk
  · exact wpOp_step (by simpa using hi) (fun K' hK => h1 K' (fun a w hS hW => hK a w ⟨fun _ => hS, hW hS⟩))
  · obtain rfl : k = j := by simpa using hk
    exact wpOp_step (by simpa using hj) (fun K' hK => h2 K' (fun a w hS hW => hK a w ⟨fun _ => hS, hW hS⟩))
end

theorem bytes_snoc (l : List UInt8) (c : UInt8) : (⟨l.toArray⟩ : ByteArray) ++ (⟨#[c]⟩ : ByteArray) = ⟨(l ++ [c]).toArray⟩ := ByteArray.ext (by simp [ByteArray.data_append])

set_option maxHeartbeats 4000000 in
set_option maxRecDepth 100000 in
theorem l01Whole_step (k : Nat) (hk0 : k ≠ 0) (hk : k ≤ 9000000000000) (w : World) (ih : ∀ W, Calls Tryz.prog 257 #[.int .i64 ((k / 10 : Nat) : Int)] W fun e w' => e = .returned (.string ⟨(wholeT (k / 10)).toArray⟩) ∧ Below W.heap.size W w') :
    Calls Tryz.prog 257 #[.int .i64 (k : Int)] w fun e w' => e = .returned (.string ⟨(wholeT k).toArray⟩) ∧ Below w.heap.size w w' := by
  have HIH := Lib.hid ih; clear ih
  have k0 : ((k : Int) == 0) = false := by rw [beq_eq_false_iff_ne]; omega
  have HW := Lib.hid (wholeT_step k hk0)
  have hq : (k : Int) / 10 = ((k / 10 : Nat) : Int) := by omega
  have hr : (k : Int) % 10 = ((k % 10 : Nat) : Int) := by omega
  have hrt : ((k : Int)).tmod 10 = ((k % 10 : Nat) : Int) := rfl
  have hr9 : k % 10 ≤ 9 := by omega
  have hq9 : k / 10 ≤ 900000000000 := by omega
  have hql : (wholeT (k / 10)).length ≤ 13 := by unfold wholeT; split; exact Nat.zero_le _; exact decDigits_len 12 _ (by omega)
  generalize k / 10 = q at *
  generalize k % 10 = r at *
  have hbig : ¬ (9223372036854775807 < (wholeT q).length + 1) := by omega
  have wq : IntKind.i64.wrap (q : Int) = (q : Int) := IntWalk.i64_in _ (by omega)
  have wr1 : IntKind.i64.wrap (48 + (r : Int)) = 48 + (r : Int) := IntWalk.i64_in _ (by omega)
  have wr2 : IntKind.u8.wrap (48 + (r : Int)) = 48 + (r : Int) := by simp [IntKind.wrap, IntKind.bits, IntKind.signed]; omega
  go_enter Tryz.func257, Tryz.ntmps257
  go_wp2_with fail
  refine AnyT.region (fun _ => false) (fun _ => True) (by kernel_rfl) trivial (fun hHeld => ?_)
  ((refine AnyT.takeAny 0 5 ?_ rfl (by kernel_rfl) (by kernel_rfl) (by kernel_rfl) rfl rfl (fun _ _ _ _ h => h) rfl ?_ (by assumption) ?_); rotate_left; (intro w; go_simp; (try (with_reducible rfl))); simp only [Act.put, List.setIfInBounds_toArray, List.set_cons_zero, List.set_cons_succ])
  ((refine AnyT.takeAny 1 6 ?_ rfl (by kernel_rfl) (by kernel_rfl) (by kernel_rfl) rfl rfl (fun _ _ _ _ h => h) rfl ?_ (by assumption) ?_); rotate_left; (intro w; go_simp; (try (with_reducible rfl))); simp only [Act.put, List.setIfInBounds_toArray, List.set_cons_zero, List.set_cons_succ])
  ((refine AnyT.takeAny 3 8 ?_ rfl (by kernel_rfl) (by kernel_rfl) (by kernel_rfl) rfl rfl (fun _ _ _ _ h => h) rfl ?_ (by assumption) ?_); rotate_left; (intro w; go_simp; (try (with_reducible rfl))); simp only [Act.put, List.setIfInBounds_toArray, List.set_cons_zero, List.set_cons_succ])
  ((refine AnyT.takeAny 4 9 ?_ rfl (by kernel_rfl) (by kernel_rfl) (by kernel_rfl) rfl rfl (fun _ _ _ _ h => h) rfl ?_ (by assumption) ?_); rotate_left; (intro w; go_simp; (try (with_reducible rfl))); simp only [Act.put, List.setIfInBounds_toArray, List.set_cons_zero, List.set_cons_succ])
  ((refine AnyT.takeAny 5 10 ?_ rfl (by kernel_rfl) (by kernel_rfl) (by kernel_rfl) rfl rfl (fun _ _ _ _ h => h) rfl ?_ (by assumption) ?_); rotate_left; (intro w; go_simp; (try (with_reducible rfl))); simp only [Act.put, List.setIfInBounds_toArray, List.set_cons_zero, List.set_cons_succ])
  ((refine AnyT.takeAny 6 11 ?_ rfl (by kernel_rfl) (by kernel_rfl) (by kernel_rfl) rfl rfl (fun _ _ _ _ h => h) rfl ?_ (by assumption) ?_); rotate_left; (intro w; go_simp; (try (with_reducible rfl))); simp only [Act.put, List.setIfInBounds_toArray, List.set_cons_zero, List.set_cons_succ])
  refine AnyT.two (i := 2) (j := 7) (by kernel_rfl) rfl rfl (fun K hK => ?_) (fun K hK => ?_)
  · go_simp
    refine (HIH.out w.drew).mono ?_
    rintro e1 w1 ⟨rfl, hb1⟩
    refine hK.out _ _ trivial (fun hHeld => ?_)
    clear hK K
    (try simp only [Act.put, List.setIfInBounds_toArray, List.set_cons_zero, List.set_cons_succ])
    have hcv := run_one_byte (P := Tryz.prog) 102 9 5 Tryz.underlying102 Tryz.underlying5 Tryz.underlying9 w1 (48 + (r : Int)) 1
    rw [show ((48 : Int) + (r : Int)).toNat = 48 + r by omega] at hcv
    have HBX := Lib.hid (show Below w.heap.size w (w1.alloc (.cells #[.int .u8 (48 + (r : Int))] 5)) from (((Below.refl w.heap.size w).drew).trans hb1).alloc (by have := hb1.size; exact this) _)
    clear hb1
    ((refine AnyT.one (i := 7) (by kernel_rfl) rfl (fun K hK => ?_)))
    go_simp
    refine hK.out _ _ trivial (fun hHeld => ?_)
    clear hK K
    (try simp only [Act.put, List.setIfInBounds_toArray, List.set_cons_zero, List.set_cons_succ])
    ((refine AnyT.one (i := 8) (by kernel_rfl) rfl (fun K hK => ?_)))
    go_simp
    refine hK.out _ _ trivial (fun hHeld => ?_)
    clear hK K
    (try simp only [Act.put, List.setIfInBounds_toArray, List.set_cons_zero, List.set_cons_succ])
    ((refine AnyT.takeAny 9 14 ?_ rfl (by kernel_rfl) (by kernel_rfl) (by kernel_rfl) rfl rfl (fun _ _ _ _ h => h) rfl ?_ (by assumption) ?_); rotate_left; (intro w; go_simp; (try (with_reducible rfl))); simp only [Act.put, List.setIfInBounds_toArray, List.set_cons_zero, List.set_cons_succ])
    ((refine AnyT.takeAny 10 2 ?_ rfl (by kernel_rfl) (by kernel_rfl) (by kernel_rfl) rfl rfl (fun _ _ _ _ h => h) rfl ?_ (by assumption) ?_); rotate_left; (intro w; go_simp; (try (with_reducible rfl))); simp only [Act.put, List.setIfInBounds_toArray, List.set_cons_zero, List.set_cons_succ])
    refine AnyT.done (by kernel_rfl) ?_ _
    go_wp2_with fail
    go_ret
    exact ⟨by rw [HW.out]; simp; exact bytes_snoc _ _, HBX.out⟩
  · go_simp
    refine hK.out _ _ trivial (fun hHeld => ?_)
    clear hK K
    (try simp only [Act.put, List.setIfInBounds_toArray, List.set_cons_zero, List.set_cons_succ])
    have hu8 : (UInt8.ofNat (48 + r)).toNat = 48 + r := by rw [UInt8.toNat_ofNat']; omega
    have HCV := Lib.hid (show ∀ W : World, W.cell? ⟨w.heap.size, 0, none⟩ = some (.int .u8 (48 + (r : Int))) → (convert 102 9 (.slice (some ⟨w.heap.size, 0, none⟩) 1 1)).run Tryz.prog W = .ok (.string ⟨#[UInt8.ofNat (48 + r)]⟩) W from fun W hW =>
      run_convert_bytes_back (P := Tryz.prog) W 102 9 5 ⟨w.heap.size, 0, none⟩ 1 [UInt8.ofNat (48 + r)] Tryz.underlying102 Tryz.underlying5 Tryz.underlying9 (fun j hj => by
        obtain rfl : j = 0 := by simpa using hj
        show W.cell? ⟨w.heap.size, 0, none⟩ = _
        rw [hW]
        show _ = some (Value.int .u8 ((UInt8.ofNat (48 + r)).toNat : Int))
        rw [hu8]; push_cast; rfl))
    have hcell : (w.alloc (.cells #[.int .u8 (48 + (r : Int))] 5)).drew.cell? ⟨w.heap.size, 0, none⟩ = some (.int .u8 (48 + (r : Int))) := (Blk.new w 5 #[.int .u8 (48 + (r : Int))]).cell 0
    have HAL := Lib.hid (show Below w.heap.size w (w.alloc (.cells #[.int .u8 (48 + (r : Int))] 5)).drew from ((Below.refl w.heap.size w).alloc (Nat.le_refl _) (.cells #[.int .u8 (48 + (r : Int))] 5)).drew)
    have HLT := Lib.hid (show w.heap.size < (w.alloc (.cells #[.int .u8 (48 + (r : Int))] 5)).drew.heap.size by show w.heap.size < (w.alloc _).heap.size; simp)
    clear hu8
    generalize (w.alloc (.cells #[.int .u8 (48 + (r : Int))] 5)).drew = wa at *
    have HI := Lib.hid (HIH.out wa)
    refine AnyT.two (i := 2) (j := 8) (by kernel_rfl) rfl rfl (fun K hK => ?_) (fun K hK => ?_)
    · go_simp
      refine HI.out.mono ?_
      rintro e1 w1 ⟨rfl, hb1⟩
      have hcv := HCV.out w1 ((hb1.cell (p := ⟨w.heap.size, 0, none⟩) HLT.out).trans hcell)
      have HBX := Lib.hid (HAL.out.trans (hb1.mono HAL.out.size))
      clear hb1
      refine hK.out _ _ trivial (fun hHeld => ?_)
      clear hK K
      (try simp only [Act.put, List.setIfInBounds_toArray, List.set_cons_zero, List.set_cons_succ])
      ((refine AnyT.one (i := 8) (by kernel_rfl) rfl (fun K hK => ?_)))
      go_simp
      refine hK.out _ _ trivial (fun hHeld => ?_)
      clear hK K
      (try simp only [Act.put, List.setIfInBounds_toArray, List.set_cons_zero, List.set_cons_succ])
      ((refine AnyT.takeAny 9 14 ?_ rfl (by kernel_rfl) (by kernel_rfl) (by kernel_rfl) rfl rfl (fun _ _ _ _ h => h) rfl ?_ (by assumption) ?_); rotate_left; (intro w; go_simp; (try (with_reducible rfl))); simp only [Act.put, List.setIfInBounds_toArray, List.set_cons_zero, List.set_cons_succ])
      ((refine AnyT.takeAny 10 2 ?_ rfl (by kernel_rfl) (by kernel_rfl) (by kernel_rfl) rfl rfl (fun _ _ _ _ h => h) rfl ?_ (by assumption) ?_); rotate_left; (intro w; go_simp; (try (with_reducible rfl))); simp only [Act.put, List.setIfInBounds_toArray, List.set_cons_zero, List.set_cons_succ])
      refine AnyT.done (by kernel_rfl) ?_ _
      go_wp2_with fail
      go_ret
      exact ⟨by rw [HW.out]; simp; exact bytes_snoc _ _, HBX.out⟩
    · have hcv := HCV.out wa hcell
      go_simp
      refine hK.out _ _ trivial (fun hHeld => ?_)
      clear hK K
      (try simp only [Act.put, List.setIfInBounds_toArray, List.set_cons_zero, List.set_cons_succ])
      ((refine AnyT.one (i := 2) (by kernel_rfl) rfl (fun K hK => ?_)))
      go_simp
      refine HI.out.mono ?_
      rintro e1 w1 ⟨rfl, hb1⟩
      have HBX := Lib.hid (HAL.out.trans (hb1.mono HAL.out.size))
      clear hb1
      refine hK.out _ _ trivial (fun hHeld => ?_)
      clear hK K
      (try simp only [Act.put, List.setIfInBounds_toArray, List.set_cons_zero, List.set_cons_succ])
      ((refine AnyT.takeAny 9 14 ?_ rfl (by kernel_rfl) (by kernel_rfl) (by kernel_rfl) rfl rfl (fun _ _ _ _ h => h) rfl ?_ (by assumption) ?_); rotate_left; (intro w; go_simp; (try (with_reducible rfl))); simp only [Act.put, List.setIfInBounds_toArray, List.set_cons_zero, List.set_cons_succ])
      ((refine AnyT.takeAny 10 2 ?_ rfl (by kernel_rfl) (by kernel_rfl) (by kernel_rfl) rfl rfl (fun _ _ _ _ h => h) rfl ?_ (by assumption) ?_); rotate_left; (intro w; go_simp; (try (with_reducible rfl))); simp only [Act.put, List.setIfInBounds_toArray, List.set_cons_zero, List.set_cons_succ])
      refine AnyT.done (by kernel_rfl) ?_ _
      go_wp2_with fail
      go_ret
      exact ⟨by rw [HW.out]; simp; exact bytes_snoc _ _, HBX.out⟩

set_option maxHeartbeats 4000000 in
theorem l01Whole_zero (w : World) : Calls Tryz.prog 257 #[.int .i64 0] w fun e w' => e = .returned (.string ⟨(wholeT 0).toArray⟩) ∧ Below w.heap.size w w' := by
  go_enter Tryz.func257, Tryz.ntmps257
  go_wp2_with fail
  go_ret
  exact ⟨rfl, Below.refl _ _⟩
theorem l01Whole_any : ∀ (k : Nat), k ≤ 9000000000000 → ∀ (w : World), Calls Tryz.prog 257 #[.int .i64 (k : Int)] w fun e w' => e = .returned (.string ⟨(wholeT k).toArray⟩) ∧ Below w.heap.size w w' := by
  intro k
  induction k using Nat.strongRecOn with
  | _ k ih =>
    intro hk w
    by_cases h0 : k = 0
    · subst h0; exact l01Whole_zero w
    · exact l01Whole_step k h0 hk w (fun W => ih (k / 10) (by omega) (by omega) W)
end Go.Proofs.YtcjaaknnfohllaaGreatDoor
