/- The library's stable sort at nodes walked: swapRange (printed by wip/gen_srt.py). -/
import Derived.Test.YtfibjcaidnofmaaGreatDoorJoinEXBg
import Derived.Test.YtfibjcaidnofmaaGreatDoorJoinEXAq
import Derived.Test.YtfibjcaidnofmaaGreatDoorRows
import Derived.WalkKit
import Derived.ProofKit
import Derived.OpenShut
import Derived.ShutString
import Derived.Deep.Slices
import Derived.Deep.Fields
import Derived.ChangeSame
import Derived.SizedLaws
import Derived.Test.YtfibjcaidnofmaaGreatDoorJoinEXAa
import Derived.SliceStrings
import Derived.Test.YtfibjcaidnofmaaGreatDoorJoinEXAo
import Derived.Test.YtfibjcaidnofmaaGreatDoorCards
import Derived.Test.YtfibjcaidnofmaaGreatDoorTie
import Derived.Deep.DeepHandedRow
import Derived.Lay
import Derived.Lib.LaidTab
import Derived.Lib.LaidU8
import Derived.Shelf.Vars
namespace Go.Proofs.YtfibjcaidnofmaaGreatDoor
open Go.RowKit
open Go.Sort hiding Below

abbrev cmpV : Value := .func (.func 46) #[] #[]
variable {T : World → Prop}

set_option maxHeartbeats 4000000 in
set_option maxRecDepth 100000 in
theorem swapRange_any (w0 w : World) (g c a b n : Nat) (d : Array ElN) (h : LotN T w0 w g c d) (hab : a + n ≤ b) (hb : b + n ≤ d.size) :
    Calls Tryz.prog 220 #[.slice (some ⟨g, 0, none⟩) d.size c, .int .i64 a, .int .i64 b, .int .i64 n, cmpV] w fun e w' => e = .returned (.tuple #[]) ∧ w.heap.size ≤ w'.heap.size ∧ ∃ d1, LotN T w0 w' g c d1 ∧ SwpR a b d n d1 := by
  have HL := Lib.hid h
  have hN := h.few
  clear h
  go_enter Tryz.func220, Tryz.ntmps220
  go_wp2_with fail
  go_loopw [10] (fun i wr => ∃ (k : Nat) (e : Array ElN), k ≤ n ∧ i = .int .i64 k ∧ LotN T w0 wr g c e ∧ SwpR a b d k e ∧ w.heap.size ≤ wr.heap.size) (fun i _ => n - (intOf i).toNat)
  case atStart => exact ⟨0, d, Nat.zero_le _, rfl, HL.out, SwpR.start a b d, Nat.le_refl _⟩
  case round =>
    obtain ⟨k, e, hk, rfl, hLe, hR, hsz⟩ := hrel
    by_cases hlt : k < n
    · have hes := hR.size
      obtain ⟨p, hpe⟩ : ∃ p, p = a + k := ⟨_, rfl⟩
      obtain ⟨q, hqe⟩ : ∃ q, q = b + k := ⟨_, rfl⟩
      have hp : p < e.size := by omega
      have hq : q < e.size := by omega
      have hp' : p < d.size := by omega
      have hq' : q < d.size := by omega
      have HR := Lib.hid (show SwpR a b d (k + 1) (swp e p q) by rw [hpe, hqe]; exact hR.step hlt hab hb)
      have hpz : (a : Int) + (k : Int) = (p : Int) := by omega
      have hqz : (b : Int) + (k : Int) = (q : Int) := by omega
      clear hpe hqe
      obtain ⟨xp, xq, hpr⟩ := LotN.pair (show LotN T w0 wr.drew g c e from hLe.below (below_drewN' wr 1)) hp hq
      have HD := Lib.hid hpr
      have i1 : (k : Int) < (n : Int) := by omega
      have hszd : w.heap.size ≤ wr.drew.heap.size := hsz
      clear hLe hR hpr
      go_wp2_with fail
      refine AnyT.region (fun i => i == 21 || i == 23) (fun W => W.rangeAt g (p * 3) xp ∧ W.rangeAt g (q * 3) xq) (by kernel_rfl) ⟨HD.out.ri, HD.out.rj⟩ (fun hHeld => ?_)
      generalize wr.drew = w4 at *
      ((refine AnyT.takeAny 0 16 ?_ rfl (by kernel_rfl) (by kernel_rfl) (by kernel_rfl) rfl rfl (fun _ _ _ _ h => h) rfl ?_ (by assumption) ?_); rotate_left; (intro w; go_simp; (try (with_reducible rfl))); simp only [Act.put, List.setIfInBounds_toArray, List.set_cons_zero, List.set_cons_succ])
      ((refine AnyT.takeAny 1 17 ?_ rfl (by kernel_rfl) (by kernel_rfl) (by kernel_rfl) rfl rfl (fun _ _ _ _ h => h) rfl ?_ (by assumption) ?_); rotate_left; (intro w; go_simp; (try (with_reducible rfl))); simp only [Act.put, List.setIfInBounds_toArray, List.set_cons_zero, List.set_cons_succ])
      ((refine AnyT.takeAny 2 18 ?_ rfl (by kernel_rfl) (by kernel_rfl) (by kernel_rfl) rfl rfl (fun _ _ _ _ h => h) rfl ?_ (by assumption) ?_); rotate_left; (intro w; go_simp; (try (with_reducible rfl))); simp only [Act.put, List.setIfInBounds_toArray, List.set_cons_zero, List.set_cons_succ])
      refine AnyT.takeAny 3 19 (.int .i64 ((p : Nat) : Int)) rfl (by kernel_rfl) (by kernel_rfl) (by kernel_rfl) rfl rfl (fun _ _ _ _ h => h) rfl (fun W => by go_simp; (try (first | (with_reducible rfl) | (rw [IntKind.wrap_i64]; omega) | (congr 1; omega) | (congr 2; omega) | (congr 3; omega) | (congr 4; omega) | (congr 5; omega)))) (by assumption) ?_
      simp only [Act.put, List.setIfInBounds_toArray, List.set_cons_zero, List.set_cons_succ]
      ((refine AnyT.takeAny 4 20 ?_ rfl (by kernel_rfl) (by kernel_rfl) (by kernel_rfl) rfl rfl (fun _ _ _ _ h => h) rfl ?_ (by assumption) ?_); rotate_left; (intro w; go_simp; (try (with_reducible rfl))); simp only [Act.put, List.setIfInBounds_toArray, List.set_cons_zero, List.set_cons_succ])
      ((refine AnyT.takeAny 5 21 ?_ rfl (by kernel_rfl) (by kernel_rfl) (by kernel_rfl) rfl rfl (fun _ _ _ _ h => h) rfl ?_ (by assumption) ?_); rotate_left; (intro w; go_simp; (try (with_reducible rfl))); simp only [Act.put, List.setIfInBounds_toArray, List.set_cons_zero, List.set_cons_succ])
      ((refine AnyT.takeAny 6 22 ?_ rfl (by kernel_rfl) (by kernel_rfl) (by kernel_rfl) rfl rfl (fun _ _ _ _ h => h) rfl ?_ (by assumption) ?_); rotate_left; (intro w; go_simp; (try (with_reducible rfl))); simp only [Act.put, List.setIfInBounds_toArray, List.set_cons_zero, List.set_cons_succ])
      refine AnyT.takeAny 7 23 (.int .i64 ((q : Nat) : Int)) rfl (by kernel_rfl) (by kernel_rfl) (by kernel_rfl) rfl rfl (fun _ _ _ _ h => h) rfl (fun W => by go_simp; (try (first | (with_reducible rfl) | (rw [IntKind.wrap_i64]; omega) | (congr 1; omega) | (congr 2; omega) | (congr 3; omega) | (congr 4; omega) | (congr 5; omega)))) (by assumption) ?_
      simp only [Act.put, List.setIfInBounds_toArray, List.set_cons_zero, List.set_cons_succ]
      ((refine AnyT.takeAny 8 24 ?_ rfl (by kernel_rfl) (by kernel_rfl) (by kernel_rfl) rfl rfl (fun _ _ _ _ h => h) rfl ?_ (by assumption) ?_); rotate_left; (intro w; go_simp; (try (with_reducible rfl))); simp only [Act.put, List.setIfInBounds_toArray, List.set_cons_zero, List.set_cons_succ])
      ((refine AnyT.takeAny 9 25 ?_ rfl (by kernel_rfl) (by kernel_rfl) (by kernel_rfl) rfl rfl (fun _ _ _ _ h => h) rfl ?_ (by assumption) ?_); rotate_left; (intro w; go_simp; (try (with_reducible rfl))); simp only [Act.put, List.setIfInBounds_toArray, List.set_cons_zero, List.set_cons_succ])
      ((refine AnyT.takeAny 10 26 ?_ rfl (by kernel_rfl) (by kernel_rfl) (by kernel_rfl) rfl rfl (fun _ _ _ _ h => h) rfl ?_ (by assumption) ?_); rotate_left; (intro w; go_simp; (try (with_reducible rfl))); simp only [Act.put, List.setIfInBounds_toArray, List.set_cons_zero, List.set_cons_succ])
      refine AnyT.takeAny 11 27 (.int .i64 ((q : Nat) : Int)) rfl (by kernel_rfl) (by kernel_rfl) (by kernel_rfl) rfl rfl (fun _ _ _ _ h => h) rfl (fun W => by go_simp; (try (first | (with_reducible rfl) | (rw [IntKind.wrap_i64]; omega) | (congr 1; omega) | (congr 2; omega) | (congr 3; omega) | (congr 4; omega) | (congr 5; omega)))) (by assumption) ?_
      simp only [Act.put, List.setIfInBounds_toArray, List.set_cons_zero, List.set_cons_succ]
      refine AnyT.takeAny 12 28 (.pointer (some ⟨g, q * 3, none⟩)) rfl (by kernel_rfl) (by kernel_rfl) (by kernel_rfl) rfl rfl (fun _ _ _ _ h => h) rfl (fun W => by go_simp; (try (first | (with_reducible rfl) | (rw [IntKind.wrap_i64]; omega) | (congr 1; omega) | (congr 2; omega) | (congr 3; omega) | (congr 4; omega) | (congr 5; omega)))) (by assumption) ?_
      simp only [Act.put, List.setIfInBounds_toArray, List.set_cons_zero, List.set_cons_succ]
      refine AnyT.take 13 29 (.agg (xq).toArray) rfl (by kernel_rfl) (by kernel_rfl) (by kernel_rfl) (by kernel_rfl) rfl (by kernel_rfl) rfl (fun _ _ _ _ h => h) rfl (fun W hS => exec_loadMid _ _ rfl g (q * 3) rfl (xq) hS.2 Tryz.underlying32 rfl (HD.out.sj)) (by assumption) ?_
      simp only [Act.put, List.setIfInBounds_toArray, List.set_cons_zero, List.set_cons_succ]
      ((refine AnyT.takeAny 14 30 ?_ rfl (by kernel_rfl) (by kernel_rfl) (by kernel_rfl) rfl rfl (fun _ _ _ _ h => h) rfl ?_ (by assumption) ?_); rotate_left; (intro w; go_simp; (try (with_reducible rfl))); simp only [Act.put, List.setIfInBounds_toArray, List.set_cons_zero, List.set_cons_succ])
      ((refine AnyT.takeAny 15 31 ?_ rfl (by kernel_rfl) (by kernel_rfl) (by kernel_rfl) rfl rfl (fun _ _ _ _ h => h) rfl ?_ (by assumption) ?_); rotate_left; (intro w; go_simp; (try (with_reducible rfl))); simp only [Act.put, List.setIfInBounds_toArray, List.set_cons_zero, List.set_cons_succ])
      ((refine AnyT.takeAny 16 32 ?_ rfl (by kernel_rfl) (by kernel_rfl) (by kernel_rfl) rfl rfl (fun _ _ _ _ h => h) rfl ?_ (by assumption) ?_); rotate_left; (intro w; go_simp; (try (with_reducible rfl))); simp only [Act.put, List.setIfInBounds_toArray, List.set_cons_zero, List.set_cons_succ])
      refine AnyT.takeAny 17 33 (.int .i64 ((p : Nat) : Int)) rfl (by kernel_rfl) (by kernel_rfl) (by kernel_rfl) rfl rfl (fun _ _ _ _ h => h) rfl (fun W => by go_simp; (try (first | (with_reducible rfl) | (rw [IntKind.wrap_i64]; omega) | (congr 1; omega) | (congr 2; omega) | (congr 3; omega) | (congr 4; omega) | (congr 5; omega)))) (by assumption) ?_
      simp only [Act.put, List.setIfInBounds_toArray, List.set_cons_zero, List.set_cons_succ]
      refine AnyT.takeAny 18 34 (.pointer (some ⟨g, p * 3, none⟩)) rfl (by kernel_rfl) (by kernel_rfl) (by kernel_rfl) rfl rfl (fun _ _ _ _ h => h) rfl (fun W => by go_simp; (try (first | (with_reducible rfl) | (rw [IntKind.wrap_i64]; omega) | (congr 1; omega) | (congr 2; omega) | (congr 3; omega) | (congr 4; omega) | (congr 5; omega)))) (by assumption) ?_
      simp only [Act.put, List.setIfInBounds_toArray, List.set_cons_zero, List.set_cons_succ]
      refine AnyT.take 19 35 (.agg (xp).toArray) rfl (by kernel_rfl) (by kernel_rfl) (by kernel_rfl) (by kernel_rfl) rfl (by kernel_rfl) rfl (fun _ _ _ _ h => h) rfl (fun W hS => exec_loadMid _ _ rfl g (p * 3) rfl (xp) hS.1 Tryz.underlying32 rfl (HD.out.si)) (by assumption) ?_
      simp only [Act.put, List.setIfInBounds_toArray, List.set_cons_zero, List.set_cons_succ]
      refine AnyT.takeAny 20 36 (.pointer (some ⟨g, p * 3, none⟩)) rfl (by kernel_rfl) (by kernel_rfl) (by kernel_rfl) rfl rfl (fun _ _ _ _ h => h) rfl (fun W => by go_simp; (try (first | (with_reducible rfl) | (rw [IntKind.wrap_i64]; omega) | (congr 1; omega) | (congr 2; omega) | (congr 3; omega) | (congr 4; omega) | (congr 5; omega)))) (by assumption) ?_
      simp only [Act.put, List.setIfInBounds_toArray, List.set_cons_zero, List.set_cons_succ]
      ((refine AnyT.last (i := 21) (by kernel_rfl) rfl (by kernel_rfl) (fun K hK => ?_)))
      rw [if_pos (by rfl)]
      refine wp_store_mid 32 _ _ rfl g (p * 3) xq.toArray rfl rfl HD.out.ti HD.out.aj HD.out.oj ?_
      refine hK.out _ _ ?_
      clear hK K
      (try simp only [Act.put])
      ((refine AnyT.last (i := 22) (by kernel_rfl) rfl (by kernel_rfl) (fun K hK => ?_)))
      go_simp
      refine hK.out _ _ ?_
      clear hK K
      (try simp only [Act.put, List.setIfInBounds_toArray, List.set_cons_zero, List.set_cons_succ])
      ((refine AnyT.last (i := 23) (by kernel_rfl) rfl (by kernel_rfl) (fun K hK => ?_)))
      rw [if_pos (by rfl)]
      refine wp_store_mid 32 _ _ rfl g (q * 3) xp.toArray rfl rfl HD.out.tj HD.out.ai HD.out.oi ?_
      refine hK.out _ _ ?_
      clear hK K
      (try simp only [Act.put])
      refine AnyT.done (by kernel_rfl) ?_ _
      have HX := Lib.hid HD.out.sw
      clear hHeld
      go_wp2_with fail
      go_roundw
      case rel => exact ⟨k + 1, _, by omega, by go_num, HX.out, HR.out, by rw [(setCells_out _ _ _ _).2, (setCells_out _ _ _ _).2]; exact hszd⟩
      case measure => simp [intOf]; omega
    · obtain rfl : k = n := by omega
      have i1 : ¬ (k : Int) < (k : Int) := by omega
      have HO := Lib.hid (show w.heap.size ≤ wr.heap.size ∧ ∃ d1, LotN T w0 wr g c d1 ∧ SwpR a b d k d1 from ⟨hsz, e, hLe, hR⟩)
      clear hLe hR
      go_wp2_with fail
      go_end0
      exact ⟨rfl, HO.out⟩

end Go.Proofs.YtfibjcaidnofmaaGreatDoor

/- The library's stable sort at nodes walked: rotate, insertion (printed by wip/gen_srt.py). -/
namespace Go.Proofs.YtfibjcaidnofmaaGreatDoor
open Go.RowKit
open Go.Sort hiding Below

variable {T : World → Prop}

theorem swapRange_i (w0 w : World) (g c a b n : Nat) (A B N : Int) (hA : A = (a : Int)) (hB : B = (b : Int)) (hN : N = (n : Int)) (sz : Nat) (d : Array ElN) (hz : sz = d.size) (h : LotN T w0 w g c d) (hab : a + n ≤ b) (hb : b + n ≤ d.size) :
    Calls Tryz.prog 220 #[.slice (some ⟨g, 0, none⟩) sz c, .int .i64 A, .int .i64 B, .int .i64 N, cmpV] w fun e w' => e = .returned (.tuple #[]) ∧ w.heap.size ≤ w'.heap.size ∧ ∃ d1, LotN T w0 w' g c d1 ∧ SwpR a b d n d1 := by
  subst hA hB hN hz
  exact swapRange_any w0 w g c a b n d h hab hb

set_option maxHeartbeats 4000000 in
set_option maxRecDepth 100000 in
theorem rotate_any (w0 w : World) (g c a m b : Nat) (d : Array ElN) (h : LotN T w0 w g c d) (ham : a < m) (hmb : m < b) (hb : b ≤ d.size) :
    Calls Tryz.prog 194 #[.slice (some ⟨g, 0, none⟩) d.size c, .int .i64 a, .int .i64 m, .int .i64 b, cmpV] w fun e w' => e = .returned (.tuple #[]) ∧ w.heap.size ≤ w'.heap.size ∧ ∃ d1, LotN T w0 w' g c d1 ∧ PermIn a b d d1 ∧ ∀ k, d1[k]! = rotT a m b d k := by
  have HL := Lib.hid h
  have hN := h.few
  clear h
  go_enter Tryz.func194, Tryz.ntmps194
  go_wp2_with fail
  go_loopw [10, 11] (fun x y wr => ∃ (i j : Nat) (e : Array ElN), x = .int .i64 i ∧ y = .int .i64 j ∧ 0 < i ∧ 0 < j ∧ LotN T w0 wr g c e ∧ PermIn a b d e ∧ Rot a m b i j (rotT a m b d) e ∧ w.heap.size ≤ wr.heap.size) (fun x y _ => (intOf x).toNat + (intOf y).toNat)
  case atStart => exact ⟨m - a, b - m, d, congrArg (Value.int .i64) (by omega), congrArg (Value.int .i64) (by omega), by omega, by omega, HL.out, permIn_refl _ _ _, rot_start d (by omega) (by omega), Nat.le_refl _⟩
  case round =>
    obtain ⟨i, j, e, rfl, rfl, hi0, hj0, hLe, hP, hR, hsz⟩ := hrel
    have hes := hP.1
    have hia := hR.ia
    have hjb := hR.jb
    have HLe := Lib.hid hLe; have HP := Lib.hid hP; have HR := Lib.hid hR
    clear hLe hP hR
    by_cases hij : i = j
    · subst hij
      have i1 : ¬ (i : Int) ≠ (i : Int) := fun h => h rfl
      clear i1
      go_wp2_with fail
      refine (swapRange_i w0 _ g c (m - i) m i _ _ _ (by omega) (by omega) (by omega) _ e hes.symm HLe.out (by omega) (by omega)).mono ?_
      rintro e1 w1 ⟨rfl, hsz1, d1, hL1, hS1⟩
      have HO := Lib.hid (show w.heap.size ≤ w1.heap.size ∧ ∃ d1, LotN T w0 w1 g c d1 ∧ PermIn a b d d1 ∧ ∀ k, d1[k]! = rotT a m b d k from
        ⟨by omega, d1, hL1, permIn_trans _ _ _ _ _ HP.out (permIn_more (hS1.perm i (Nat.le_refl _) (by omega) (by omega)) (by omega) (by omega) (by omega)), rot_end HR.out hS1.got (fun k h1 h2 => hS1.far k (by omega) (by omega))⟩)
      clear hL1 hS1
      go_wp2_with fail
      go_end0
      exact ⟨rfl, HO.out⟩
    · have i0 : ¬ (i : Int) = (j : Int) := by omega
      by_cases hlt : j < i
      · have i1 : (j : Int) < (i : Int) := by omega
        go_wp2_with fail
        refine (swapRange_i w0 _ g c (m - i) m j _ _ _ (by omega) (by omega) (by omega) _ e hes.symm HLe.out (by omega) (by omega)).mono ?_
        rintro e1 w1 ⟨rfl, hsz1, d1, hL1, hS1⟩
        have HP1 := Lib.hid (permIn_trans _ _ _ _ _ HP.out (permIn_more (hS1.perm j (Nat.le_refl _) (by omega) (by omega)) (by omega) (by omega) (by omega)))
        have HR1 := Lib.hid (rot_left HR.out hlt hS1.got (fun k h1 h2 => hS1.far k (by omega) (by omega)))
        have HL1 := Lib.hid hL1
        clear hL1 hS1
        go_wp2_with fail
        go_roundw
        case rel => exact ⟨i - j, j, d1, congrArg (Value.int .i64) (by omega), rfl, by omega, hj0, HL1.out, HP1.out, HR1.out, by omega⟩
        case measure => simp [intOf]; omega
      · have i1 : ¬ (j : Int) < (i : Int) := by omega
        go_wp2_with fail
        refine (swapRange_i w0 _ g c (m - i) (m + j - i) i _ _ _ (by omega) (by omega) (by omega) _ e hes.symm HLe.out (by omega) (by omega)).mono ?_
        rintro e1 w1 ⟨rfl, hsz1, d1, hL1, hS1⟩
        have HP1 := Lib.hid (permIn_trans _ _ _ _ _ HP.out (permIn_more (hS1.perm i (Nat.le_refl _) (by omega) (by omega)) (by omega) (by omega) (by omega)))
        have HR1 := Lib.hid (rot_right HR.out (by omega) hS1.got (fun k h1 h2 => hS1.far k (by omega) (by omega)))
        have HL1 := Lib.hid hL1
        clear hL1 hS1
        go_wp2_with fail
        go_roundw
        case rel => exact ⟨i, j - i, d1, rfl, congrArg (Value.int .i64) (by omega), hi0, by omega, HL1.out, HP1.out, HR1.out, by omega⟩
        case measure => simp [intOf]; omega

set_option maxHeartbeats 8000000 in
set_option maxRecDepth 100000 in
theorem insertion_any (hC : CmpN T) (w0 w : World) (g c a b : Nat) (d : Array ElN) (h : LotN T w0 w g c d) (hab : a ≤ b) (hb : b ≤ d.size) :
    Calls Tryz.prog 154 #[.slice (some ⟨g, 0, none⟩) d.size c, .int .i64 a, .int .i64 b, cmpV] w fun e w' => e = .returned (.tuple #[]) ∧ w.heap.size ≤ w'.heap.size ∧ ∃ d1, LotN T w0 w' g c d1 ∧ PermIn a b d d1 ∧ SortedIn ltQ a b d1 := by
  have HL := Lib.hid h
  have HC := Lib.hid hC
  have hN := h.few
  clear h hC
  go_enter Tryz.func154, Tryz.ntmps154
  go_wp2_with fail
  go_loopw [8, 9] (fun x _ wr => ∃ (i : Nat) (e : Array ElN), a + 1 ≤ i ∧ i ≤ b + 1 ∧ x = .int .i64 i ∧ LotN T w0 wr g c e ∧ PermIn a b d e ∧ SortedIn ltQ a i e ∧ w.heap.size ≤ wr.heap.size) (fun x _ _ => b + 1 - (intOf x).toNat)
  case atStart => exact ⟨a + 1, d, Nat.le_refl _, by omega, rfl, HL.out, permIn_refl _ _ _, fun p q h1 h2 h3 => by omega, Nat.le_refl _⟩
  case round =>
    obtain ⟨i, e, hai, hib, rfl, hLe, hP, hSo, hsz⟩ := hrel
    have hes := hP.1
    have HLe := Lib.hid hLe; have HP := Lib.hid hP; have HS := Lib.hid hSo
    clear hLe hP hSo
    by_cases hlt : i < b
    · have i1 : (i : Int) < (b : Int) := by omega
      go_wp2_with fail
      go_loopw [9] (fun y wr2 => ∃ (j : Nat) (f : Array ElN), a ≤ j ∧ j ≤ i ∧ y = .int .i64 j ∧ LotN T w0 wr2 g c f ∧ PermIn a b d f ∧ Ins ltQ a j i f ∧ w.heap.size ≤ wr2.heap.size) (fun y _ => (intOf y).toNat)
      case atStart => exact ⟨i, e, by omega, Nat.le_refl _, rfl, HLe.out, HP.out, ⟨fun p q h1 h2 h3 _ h5 => HS.out p q h1 h2 (by omega), fun q h1 h2 => by omega⟩, hsz⟩
      case round =>
        obtain ⟨j, f, haj, hji, rfl, hLf, hPf, hI, hsz2⟩ := hrel
        have hfs := hPf.1
        have HPf := Lib.hid hPf; have HI := Lib.hid hI
        clear hPf hI
        by_cases hja : a < j
        · obtain ⟨q, hqe⟩ : ∃ q, j = q + 1 := ⟨j - 1, by omega⟩
          have hqz : (j : Int) - 1 = (q : Int) := by omega
          have hj1 : j < f.size := by omega
          have hq1 : q < f.size := by omega
          have hjd : j < d.size := by omega
          have hqd : q < d.size := by omega
          have ja : (a : Int) < (j : Int) := by omega
          have hqj : q ≤ j := by omega
          have haq : a ≤ q := by omega
          have HIs := Lib.hid (show ltQ f[j]! f[q]! = true → Ins ltQ a q i (swp f j q) from fun hl => by rw [hqe] at hl ⊢; exact Ins.step (hqe ▸ HI.out) hl haq (by omega))
          have HIo := Lib.hid (show ltQ f[j]! f[q]! = false → SortedIn ltQ a (i + 1) f from fun hl => HI.out.stop swo_ltQ (.inr (by rw [show j - 1 = q by omega]; exact hl)))
          have HPs := Lib.hid (show PermIn a b d (swp f j q) from permIn_trans _ _ _ _ _ HPf.out (swp_permIn f a b j q (by omega) (by omega) haq (by omega) (by omega)))
          clear hqe
          obtain ⟨xi, xj, hpr⟩ := LotN.pair (show LotN T w0 wr.drew g c f from hLf.below (below_drewN' wr 1)) hj1 hq1
          have HD := Lib.hid hpr
          have hsz3 : w.heap.size ≤ wr.drew.heap.size := hsz2
          clear hpr hLf
          go_wp2_with fail
          refine AnyT.region (fun _ => false) (fun W => W.rangeAt g (j * 3) xi ∧ W.rangeAt g (q * 3) xj) (by kernel_rfl) ⟨HD.out.ri, HD.out.rj⟩ (fun hHeld => ?_)
          generalize wr.drew = w4 at *
          ((refine AnyT.takeAny 0 18 ?_ rfl (by kernel_rfl) (by kernel_rfl) (by kernel_rfl) rfl rfl (fun _ _ _ _ h => h) rfl ?_ (by assumption) ?_); rotate_left; (intro w; go_simp; (try (with_reducible rfl))); simp only [Act.put, List.setIfInBounds_toArray, List.set_cons_zero, List.set_cons_succ])
          ((refine AnyT.takeAny 1 19 ?_ rfl (by kernel_rfl) (by kernel_rfl) (by kernel_rfl) rfl rfl (fun _ _ _ _ h => h) rfl ?_ (by assumption) ?_); rotate_left; (intro w; go_simp; (try (with_reducible rfl))); simp only [Act.put, List.setIfInBounds_toArray, List.set_cons_zero, List.set_cons_succ])
          ((refine AnyT.takeAny 2 20 ?_ rfl (by kernel_rfl) (by kernel_rfl) (by kernel_rfl) rfl rfl (fun _ _ _ _ h => h) rfl ?_ (by assumption) ?_); rotate_left; (intro w; go_simp; (try (with_reducible rfl))); simp only [Act.put, List.setIfInBounds_toArray, List.set_cons_zero, List.set_cons_succ])
          ((refine AnyT.takeAny 3 21 ?_ rfl (by kernel_rfl) (by kernel_rfl) (by kernel_rfl) rfl rfl (fun _ _ _ _ h => h) rfl ?_ (by assumption) ?_); rotate_left; (intro w; go_simp; (try (with_reducible rfl))); simp only [Act.put, List.setIfInBounds_toArray, List.set_cons_zero, List.set_cons_succ])
          ((refine AnyT.takeAny 4 22 ?_ rfl (by kernel_rfl) (by kernel_rfl) (by kernel_rfl) rfl rfl (fun _ _ _ _ h => h) rfl ?_ (by assumption) ?_); rotate_left; (intro w; go_simp; (try (with_reducible rfl))); simp only [Act.put, List.setIfInBounds_toArray, List.set_cons_zero, List.set_cons_succ])
          ((refine AnyT.takeAny 5 23 ?_ rfl (by kernel_rfl) (by kernel_rfl) (by kernel_rfl) rfl rfl (fun _ _ _ _ h => h) rfl ?_ (by assumption) ?_); rotate_left; (intro w; go_simp; (try (with_reducible rfl))); simp only [Act.put, List.setIfInBounds_toArray, List.set_cons_zero, List.set_cons_succ])
          ((refine AnyT.takeAny 6 24 ?_ rfl (by kernel_rfl) (by kernel_rfl) (by kernel_rfl) rfl rfl (fun _ _ _ _ h => h) rfl ?_ (by assumption) ?_); rotate_left; (intro w; go_simp; (try (with_reducible rfl))); simp only [Act.put, List.setIfInBounds_toArray, List.set_cons_zero, List.set_cons_succ])
          refine AnyT.takeAny 7 25 (.pointer (some ⟨g, j * 3, none⟩)) rfl (by kernel_rfl) (by kernel_rfl) (by kernel_rfl) rfl rfl (fun _ _ _ _ h => h) rfl (fun W => by go_simp; (try (first | (with_reducible rfl) | (rw [IntKind.wrap_i64]; omega) | (congr 1; omega) | (congr 2; omega) | (congr 3; omega) | (congr 4; omega) | (congr 5; omega)))) (by assumption) ?_
          simp only [Act.put, List.setIfInBounds_toArray, List.set_cons_zero, List.set_cons_succ]
          refine AnyT.take 8 26 (.agg (xi).toArray) rfl (by kernel_rfl) (by kernel_rfl) (by kernel_rfl) (by kernel_rfl) rfl (by kernel_rfl) rfl (fun _ _ _ _ h => h) rfl (fun W hS => exec_loadMid _ _ rfl g (j * 3) rfl (xi) hS.1 Tryz.underlying32 rfl (HD.out.si)) (by assumption) ?_
          simp only [Act.put, List.setIfInBounds_toArray, List.set_cons_zero, List.set_cons_succ]
          ((refine AnyT.takeAny 9 27 ?_ rfl (by kernel_rfl) (by kernel_rfl) (by kernel_rfl) rfl rfl (fun _ _ _ _ h => h) rfl ?_ (by assumption) ?_); rotate_left; (intro w; go_simp; (try (with_reducible rfl))); simp only [Act.put, List.setIfInBounds_toArray, List.set_cons_zero, List.set_cons_succ])
          ((refine AnyT.takeAny 10 28 ?_ rfl (by kernel_rfl) (by kernel_rfl) (by kernel_rfl) rfl rfl (fun _ _ _ _ h => h) rfl ?_ (by assumption) ?_); rotate_left; (intro w; go_simp; (try (with_reducible rfl))); simp only [Act.put, List.setIfInBounds_toArray, List.set_cons_zero, List.set_cons_succ])
          refine AnyT.takeAny 11 29 (.int .i64 (q : Int)) rfl (by kernel_rfl) (by kernel_rfl) (by kernel_rfl) rfl rfl (fun _ _ _ _ h => h) rfl (fun W => by go_simp; (try (first | (with_reducible rfl) | (rw [IntKind.wrap_i64]; omega) | (congr 1; omega) | (congr 2; omega) | (congr 3; omega) | (congr 4; omega) | (congr 5; omega)))) (by assumption) ?_
          simp only [Act.put, List.setIfInBounds_toArray, List.set_cons_zero, List.set_cons_succ]
          refine AnyT.takeAny 12 30 (.pointer (some ⟨g, q * 3, none⟩)) rfl (by kernel_rfl) (by kernel_rfl) (by kernel_rfl) rfl rfl (fun _ _ _ _ h => h) rfl (fun W => by go_simp; (try (first | (with_reducible rfl) | (rw [IntKind.wrap_i64]; omega) | (congr 1; omega) | (congr 2; omega) | (congr 3; omega) | (congr 4; omega) | (congr 5; omega)))) (by assumption) ?_
          simp only [Act.put, List.setIfInBounds_toArray, List.set_cons_zero, List.set_cons_succ]
          refine AnyT.take 13 31 (.agg (xj).toArray) rfl (by kernel_rfl) (by kernel_rfl) (by kernel_rfl) (by kernel_rfl) rfl (by kernel_rfl) rfl (fun _ _ _ _ h => h) rfl (fun W hS => exec_loadMid _ _ rfl g (q * 3) rfl (xj) hS.2 Tryz.underlying32 rfl (HD.out.sj)) (by assumption) ?_
          simp only [Act.put, List.setIfInBounds_toArray, List.set_cons_zero, List.set_cons_succ]
          ((refine AnyT.one (i := 14) (by kernel_rfl) rfl (fun K hK => ?_)))
          go_simp
          refine (HD.out.cmp HC.out).mono ?_
          rintro e5 w5 ⟨⟨v, rfl, hv⟩, hb5⟩
          go_simp
          have HL5 := Lib.hid (HD.out.lot.below hb5)
          have hsz5 := hb5.size
          clear hHeld
          refine hK.out _ _ ⟨rng_below HD.out.ri hb5 HD.out.lot.lot.lt, rng_below HD.out.rj hb5 HD.out.lot.lot.lt⟩ (fun hHeld => ?_)
          clear hK K hb5
          (try simp only [Act.put, List.setIfInBounds_toArray, List.set_cons_zero, List.set_cons_succ])
          by_cases hv0 : v < 0
          · rw [decide_eq_true hv0] at hv
            have HI2 := Lib.hid (HIs.out hv)
            clear hv
            ((refine AnyT.takeAny 15 33 ?_ rfl (by kernel_rfl) (by kernel_rfl) (by kernel_rfl) rfl rfl (fun _ _ _ _ h => h) rfl ?_ (by assumption) ?_); rotate_left; (intro w; go_simp; (try (with_reducible rfl))); simp only [Act.put, List.setIfInBounds_toArray, List.set_cons_zero, List.set_cons_succ])
            ((refine AnyT.takeAny 16 34 ?_ rfl (by kernel_rfl) (by kernel_rfl) (by kernel_rfl) rfl rfl (fun _ _ _ _ h => h) rfl ?_ (by assumption) ?_); rotate_left; (intro w; go_simp; (try (with_reducible rfl))); simp only [Act.put, List.setIfInBounds_toArray, List.set_cons_zero, List.set_cons_succ])
            refine AnyT.done (by kernel_rfl) ?_ _
            clear hHeld HD
            obtain ⟨xp, xq, hpr⟩ := LotN.pair (show LotN T w0 w5.drew g c f from HL5.out.below (below_drewN' w5 1)) hj1 hq1
            have HD := Lib.hid hpr
            have hsz6 : w.heap.size ≤ w5.drew.heap.size := (show w.heap.size ≤ w5.heap.size by omega)
            clear hpr
            go_wp2_with fail
            refine AnyT.region (fun i => i == 15 || i == 17) (fun W => W.rangeAt g (j * 3) xp ∧ W.rangeAt g (q * 3) xq) (by kernel_rfl) ⟨HD.out.ri, HD.out.rj⟩ (fun hHeld => ?_)
            generalize w5.drew = w6 at *
            ((refine AnyT.takeAny 0 37 ?_ rfl (by kernel_rfl) (by kernel_rfl) (by kernel_rfl) rfl rfl (fun _ _ _ _ h => h) rfl ?_ (by assumption) ?_); rotate_left; (intro w; go_simp; (try (with_reducible rfl))); simp only [Act.put, List.setIfInBounds_toArray, List.set_cons_zero, List.set_cons_succ])
            ((refine AnyT.takeAny 1 38 ?_ rfl (by kernel_rfl) (by kernel_rfl) (by kernel_rfl) rfl rfl (fun _ _ _ _ h => h) rfl ?_ (by assumption) ?_); rotate_left; (intro w; go_simp; (try (with_reducible rfl))); simp only [Act.put, List.setIfInBounds_toArray, List.set_cons_zero, List.set_cons_succ])
            ((refine AnyT.takeAny 2 39 ?_ rfl (by kernel_rfl) (by kernel_rfl) (by kernel_rfl) rfl rfl (fun _ _ _ _ h => h) rfl ?_ (by assumption) ?_); rotate_left; (intro w; go_simp; (try (with_reducible rfl))); simp only [Act.put, List.setIfInBounds_toArray, List.set_cons_zero, List.set_cons_succ])
            ((refine AnyT.takeAny 3 40 ?_ rfl (by kernel_rfl) (by kernel_rfl) (by kernel_rfl) rfl rfl (fun _ _ _ _ h => h) rfl ?_ (by assumption) ?_); rotate_left; (intro w; go_simp; (try (with_reducible rfl))); simp only [Act.put, List.setIfInBounds_toArray, List.set_cons_zero, List.set_cons_succ])
            refine AnyT.takeAny 4 41 (.int .i64 ((q : Nat) : Int)) rfl (by kernel_rfl) (by kernel_rfl) (by kernel_rfl) rfl rfl (fun _ _ _ _ h => h) rfl (fun W => by go_simp; (try (first | (with_reducible rfl) | (rw [IntKind.wrap_i64]; omega) | (congr 1; omega) | (congr 2; omega) | (congr 3; omega) | (congr 4; omega) | (congr 5; omega)))) (by assumption) ?_
            simp only [Act.put, List.setIfInBounds_toArray, List.set_cons_zero, List.set_cons_succ]
            ((refine AnyT.takeAny 5 42 ?_ rfl (by kernel_rfl) (by kernel_rfl) (by kernel_rfl) rfl rfl (fun _ _ _ _ h => h) rfl ?_ (by assumption) ?_); rotate_left; (intro w; go_simp; (try (with_reducible rfl))); simp only [Act.put, List.setIfInBounds_toArray, List.set_cons_zero, List.set_cons_succ])
            ((refine AnyT.takeAny 6 43 ?_ rfl (by kernel_rfl) (by kernel_rfl) (by kernel_rfl) rfl rfl (fun _ _ _ _ h => h) rfl ?_ (by assumption) ?_); rotate_left; (intro w; go_simp; (try (with_reducible rfl))); simp only [Act.put, List.setIfInBounds_toArray, List.set_cons_zero, List.set_cons_succ])
            refine AnyT.takeAny 7 44 (.int .i64 ((q : Nat) : Int)) rfl (by kernel_rfl) (by kernel_rfl) (by kernel_rfl) rfl rfl (fun _ _ _ _ h => h) rfl (fun W => by go_simp; (try (first | (with_reducible rfl) | (rw [IntKind.wrap_i64]; omega) | (congr 1; omega) | (congr 2; omega) | (congr 3; omega) | (congr 4; omega) | (congr 5; omega)))) (by assumption) ?_
            simp only [Act.put, List.setIfInBounds_toArray, List.set_cons_zero, List.set_cons_succ]
            refine AnyT.takeAny 8 45 (.pointer (some ⟨g, q * 3, none⟩)) rfl (by kernel_rfl) (by kernel_rfl) (by kernel_rfl) rfl rfl (fun _ _ _ _ h => h) rfl (fun W => by go_simp; (try (first | (with_reducible rfl) | (rw [IntKind.wrap_i64]; omega) | (congr 1; omega) | (congr 2; omega) | (congr 3; omega) | (congr 4; omega) | (congr 5; omega)))) (by assumption) ?_
            simp only [Act.put, List.setIfInBounds_toArray, List.set_cons_zero, List.set_cons_succ]
            refine AnyT.take 9 46 (.agg (xq).toArray) rfl (by kernel_rfl) (by kernel_rfl) (by kernel_rfl) (by kernel_rfl) rfl (by kernel_rfl) rfl (fun _ _ _ _ h => h) rfl (fun W hS => exec_loadMid _ _ rfl g (q * 3) rfl (xq) hS.2 Tryz.underlying32 rfl (HD.out.sj)) (by assumption) ?_
            simp only [Act.put, List.setIfInBounds_toArray, List.set_cons_zero, List.set_cons_succ]
            ((refine AnyT.takeAny 10 47 ?_ rfl (by kernel_rfl) (by kernel_rfl) (by kernel_rfl) rfl rfl (fun _ _ _ _ h => h) rfl ?_ (by assumption) ?_); rotate_left; (intro w; go_simp; (try (with_reducible rfl))); simp only [Act.put, List.setIfInBounds_toArray, List.set_cons_zero, List.set_cons_succ])
            ((refine AnyT.takeAny 11 48 ?_ rfl (by kernel_rfl) (by kernel_rfl) (by kernel_rfl) rfl rfl (fun _ _ _ _ h => h) rfl ?_ (by assumption) ?_); rotate_left; (intro w; go_simp; (try (with_reducible rfl))); simp only [Act.put, List.setIfInBounds_toArray, List.set_cons_zero, List.set_cons_succ])
            refine AnyT.takeAny 12 49 (.pointer (some ⟨g, j * 3, none⟩)) rfl (by kernel_rfl) (by kernel_rfl) (by kernel_rfl) rfl rfl (fun _ _ _ _ h => h) rfl (fun W => by go_simp; (try (first | (with_reducible rfl) | (rw [IntKind.wrap_i64]; omega) | (congr 1; omega) | (congr 2; omega) | (congr 3; omega) | (congr 4; omega) | (congr 5; omega)))) (by assumption) ?_
            simp only [Act.put, List.setIfInBounds_toArray, List.set_cons_zero, List.set_cons_succ]
            refine AnyT.take 13 50 (.agg (xp).toArray) rfl (by kernel_rfl) (by kernel_rfl) (by kernel_rfl) (by kernel_rfl) rfl (by kernel_rfl) rfl (fun _ _ _ _ h => h) rfl (fun W hS => exec_loadMid _ _ rfl g (j * 3) rfl (xp) hS.1 Tryz.underlying32 rfl (HD.out.si)) (by assumption) ?_
            simp only [Act.put, List.setIfInBounds_toArray, List.set_cons_zero, List.set_cons_succ]
            refine AnyT.takeAny 14 51 (.pointer (some ⟨g, j * 3, none⟩)) rfl (by kernel_rfl) (by kernel_rfl) (by kernel_rfl) rfl rfl (fun _ _ _ _ h => h) rfl (fun W => by go_simp; (try (first | (with_reducible rfl) | (rw [IntKind.wrap_i64]; omega) | (congr 1; omega) | (congr 2; omega) | (congr 3; omega) | (congr 4; omega) | (congr 5; omega)))) (by assumption) ?_
            simp only [Act.put, List.setIfInBounds_toArray, List.set_cons_zero, List.set_cons_succ]
            ((refine AnyT.last (i := 15) (by kernel_rfl) rfl (by kernel_rfl) (fun K hK => ?_)))
            rw [if_pos (by rfl)]
            refine wp_store_mid 32 _ _ rfl g (j * 3) xq.toArray rfl rfl HD.out.ti HD.out.aj HD.out.oj ?_
            refine hK.out _ _ ?_
            clear hK K
            (try simp only [Act.put])
            ((refine AnyT.last (i := 16) (by kernel_rfl) rfl (by kernel_rfl) (fun K hK => ?_)))
            go_simp
            refine hK.out _ _ ?_
            clear hK K
            (try simp only [Act.put, List.setIfInBounds_toArray, List.set_cons_zero, List.set_cons_succ])
            ((refine AnyT.last (i := 17) (by kernel_rfl) rfl (by kernel_rfl) (fun K hK => ?_)))
            rw [if_pos (by rfl)]
            refine wp_store_mid 32 _ _ rfl g (q * 3) xp.toArray rfl rfl HD.out.tj HD.out.ai HD.out.oi ?_
            refine hK.out _ _ ?_
            clear hK K
            (try simp only [Act.put])
            refine AnyT.done (by kernel_rfl) ?_ _
            have HX := Lib.hid HD.out.sw
            clear hHeld
            go_wp2_with fail
            go_roundw
            case rel => exact ⟨q, _, haq, by omega, by go_num, HX.out, HPs.out, HI2.out, by rw [(setCells_out _ _ _ _).2, (setCells_out _ _ _ _).2]; exact hsz6⟩
            case measure => simp [intOf]; omega
          · rw [decide_eq_false hv0] at hv
            have HI2 := Lib.hid (HIo.out hv)
            clear hv
            ((refine AnyT.takeAny 15 33 ?_ rfl (by kernel_rfl) (by kernel_rfl) (by kernel_rfl) rfl rfl (fun _ _ _ _ h => h) rfl ?_ (by assumption) ?_); rotate_left; (intro w; go_simp; (try (with_reducible rfl))); simp only [Act.put, List.setIfInBounds_toArray, List.set_cons_zero, List.set_cons_succ])
            ((refine AnyT.takeAny 16 34 ?_ rfl (by kernel_rfl) (by kernel_rfl) (by kernel_rfl) rfl rfl (fun _ _ _ _ h => h) rfl ?_ (by assumption) ?_); rotate_left; (intro w; go_simp; (try (with_reducible rfl))); simp only [Act.put, List.setIfInBounds_toArray, List.set_cons_zero, List.set_cons_succ])
            refine AnyT.done (by kernel_rfl) ?_ _
            clear hHeld HD
            go_wp2_with fail
            go_roundw
            case rel => exact ⟨i + 1, f, by omega, by omega, by go_num, HL5.out, HPf.out, HI2.out, by omega⟩
            case measure => simp [intOf]; omega
        · have ja : ¬ (a : Int) < (j : Int) := by omega
          have HI2 := Lib.hid (HI.out.stop swo_ltQ (.inl (by omega)))
          have HLf := Lib.hid (show LotN T w0 wr.drew g c f from hLf.below (below_drewN' wr 1))
          have hsz3 : w.heap.size ≤ wr.drew.heap.size := hsz2
          clear hLf
          go_wp2_with fail
          refine AnyT.region (fun _ => false) (fun _ => True) (by kernel_rfl) trivial (fun hHeld => ?_)
          generalize wr.drew = w4 at *
          ((refine AnyT.takeAny 0 18 ?_ rfl (by kernel_rfl) (by kernel_rfl) (by kernel_rfl) rfl rfl (fun _ _ _ _ h => h) rfl ?_ (by assumption) ?_); rotate_left; (intro w; go_simp; (try (with_reducible rfl))); simp only [Act.put, List.setIfInBounds_toArray, List.set_cons_zero, List.set_cons_succ])
          ((refine AnyT.takeAny 1 19 ?_ rfl (by kernel_rfl) (by kernel_rfl) (by kernel_rfl) rfl rfl (fun _ _ _ _ h => h) rfl ?_ (by assumption) ?_); rotate_left; (intro w; go_simp; (try (with_reducible rfl))); simp only [Act.put, List.setIfInBounds_toArray, List.set_cons_zero, List.set_cons_succ])
          ((refine AnyT.takeAny 2 20 ?_ rfl (by kernel_rfl) (by kernel_rfl) (by kernel_rfl) rfl rfl (fun _ _ _ _ h => h) rfl ?_ (by assumption) ?_); rotate_left; (intro w; go_simp; (try (with_reducible rfl))); simp only [Act.put, List.setIfInBounds_toArray, List.set_cons_zero, List.set_cons_succ])
          ((refine AnyT.takeAny 3 21 ?_ rfl (by kernel_rfl) (by kernel_rfl) (by kernel_rfl) rfl rfl (fun _ _ _ _ h => h) rfl ?_ (by assumption) ?_); rotate_left; (intro w; go_simp; (try (with_reducible rfl))); simp only [Act.put, List.setIfInBounds_toArray, List.set_cons_zero, List.set_cons_succ])
          refine AnyT.sk 4 22 ?_
          simp only [Act.put, List.setIfInBounds_toArray, List.set_cons_zero, List.set_cons_succ]
          refine AnyT.sk 5 23 ?_
          simp only [Act.put, List.setIfInBounds_toArray, List.set_cons_zero, List.set_cons_succ]
          refine AnyT.sk 6 24 ?_
          simp only [Act.put, List.setIfInBounds_toArray, List.set_cons_zero, List.set_cons_succ]
          refine AnyT.sk 7 25 ?_
          simp only [Act.put, List.setIfInBounds_toArray, List.set_cons_zero, List.set_cons_succ]
          refine AnyT.sk 8 26 ?_
          simp only [Act.put, List.setIfInBounds_toArray, List.set_cons_zero, List.set_cons_succ]
          refine AnyT.sk 9 27 ?_
          simp only [Act.put, List.setIfInBounds_toArray, List.set_cons_zero, List.set_cons_succ]
          refine AnyT.sk 10 28 ?_
          simp only [Act.put, List.setIfInBounds_toArray, List.set_cons_zero, List.set_cons_succ]
          refine AnyT.sk 11 29 ?_
          simp only [Act.put, List.setIfInBounds_toArray, List.set_cons_zero, List.set_cons_succ]
          refine AnyT.sk 12 30 ?_
          simp only [Act.put, List.setIfInBounds_toArray, List.set_cons_zero, List.set_cons_succ]
          refine AnyT.sk 13 31 ?_
          simp only [Act.put, List.setIfInBounds_toArray, List.set_cons_zero, List.set_cons_succ]
          refine AnyT.sk 14 32 ?_
          simp only [Act.put, List.setIfInBounds_toArray, List.set_cons_zero, List.set_cons_succ]
          refine AnyT.sk 15 33 ?_
          simp only [Act.put, List.setIfInBounds_toArray, List.set_cons_zero, List.set_cons_succ]
          ((refine AnyT.takeAny 16 34 ?_ rfl (by kernel_rfl) (by kernel_rfl) (by kernel_rfl) rfl rfl (fun _ _ _ _ h => h) rfl ?_ (by assumption) ?_); rotate_left; (intro w; go_simp; (try (with_reducible rfl))); simp only [Act.put, List.setIfInBounds_toArray, List.set_cons_zero, List.set_cons_succ])
          refine AnyT.done (by kernel_rfl) ?_ _
          clear hHeld
          go_wp2_with fail
          go_roundw
          case rel => exact ⟨i + 1, f, by omega, by omega, by go_num, HLf.out, HPf.out, HI2.out, hsz3⟩
          case measure => simp [intOf]; omega
    · have i1 : ¬ (i : Int) < (b : Int) := by omega
      have HO := Lib.hid (show w.heap.size ≤ wr.heap.size ∧ ∃ d1, LotN T w0 wr g c d1 ∧ PermIn a b d d1 ∧ SortedIn ltQ a b d1 from ⟨hsz, e, HLe.out, HP.out, fun p q h1 h2 h3 => HS.out p q h1 h2 (by omega)⟩)
      go_wp2_with fail
      go_end0
      exact ⟨rfl, HO.out⟩

end Go.Proofs.YtfibjcaidnofmaaGreatDoor

/- From the walk of a law to its row: a law that returns true and leaves what was there as it was. -/
namespace Go.Proofs.YtfibjcaidnofmaaGreatDoor
open Go.ChangeShapes Go.WideShapes Go.ChangeAt Go.RowKit

theorem own_knob : ownKnob Tryz.prog.godebug = none := by kernel_rfl
theorem laid_out : laidOutB Tryz.prog = true := by kernel_rfl

theorem trodAll_below {H : Type} {enc : TypeId × Value → H} {P : Program} (hl : laidOutB P = true) {W W' : World} (hb : Below W.heap.size W W') :
    ∀ (ts : List TypeId) (vs : List Value) (ds : List (DataW H)) (ps : List MemPlace), (∀ t ∈ ts, P.readableRec t = true ∧ t < P.types.size) → (∀ x ∈ ps, x.block < W.heap.size) →
    DataW.TrodAll enc P W 0 (fun _ => true) true ts vs ds ps → DataW.TrodAll enc P W' 0 (fun b => decide (b < W.heap.size)) true ts vs ds ps
  | [], [], [], _, _, _, h => h
  | t :: ts, v :: vs, d :: ds, ps, hr, hlt, h => by
    obtain ⟨p, q, h1, h2, rfl⟩ := h
    exact ⟨p, q, Below.trod hl (hr t (by simp)).1 (hr t (by simp)).2 h1 hb (fun x hx => hlt x (by simp [hx])),
      trodAll_below hl hb ts vs ds q (fun t ht => hr t (by simp [ht])) (fun x hx => hlt x (by simp [hx])) h2, rfl⟩
  | [], [], _ :: _, _, _, _, h => h.elim
  | [], _ :: _, _, _, _, _, h => h.elim
  | _ :: _, [], _, _, _, _, h => h.elim
  | _ :: _, _ :: _, [], _, _, _, h => h.elim

/-- The row's end of a law. -/
theorem law_post {H : Type} {enc : TypeId × Value → H} {P : Program} {f : Func} {s : ChangeSpec} {W W' : World} {args : Array Value} {ds gs : List (DataW H)} {before : List MemPlace} {tb : TypeId}
    (hvars : s.vars = []) (hW : DataW.Whole enc P f.params.toList s.vars false W args.toList ds gs before)
    (hfn : s.fn H (ds ++ gs) = { results := [.lit (.bool true)], args := ds }) (hl : laidOutB P = true) (hr : ∀ t ∈ f.params.toList, P.readableRec t = true ∧ t < P.types.size)
    (hrt : f.resultTypes = #[tb]) (htb : P.underlying tb = some .bool) (hb : Below W.heap.size W W') :
    s.post enc P f false true false false W args (.bool true) W' := by
  have hW' := hW
  have hlt : ∀ p ∈ before, p.block < W.heap.size := fun p hp => hW.lt p hp
  obtain ⟨p, q, hA, hV, rfl, hfz, hnd⟩ := hW
  rw [hvars] at hV
  obtain ⟨rfl, rfl⟩ := trodVars_none hV
  refine ⟨ds, [], p ++ [], [], p, [], hW', ?_, ?_, ?_, hb.frame _, fun h => by cases h⟩
  · rw [hfn, hrt]
    exact trodAll_cons_mk (shut_bool htb _) trodAll_mk0
  · rw [hfn]
    exact trodAll_below hl hb _ _ _ _ hr (fun x hx => hlt x (by simp [hx])) hA
  · rw [hfn, hvars]; rfl

end Go.Proofs.YtfibjcaidnofmaaGreatDoor

/- From the row's reading of an argument to the words of Mem: texts, lists of texts, lists of numbers, structs. -/
namespace Go.Proofs.YtfibjcaidnofmaaGreatDoor
open Go.ChangeShapes Go.WideShapes Go.ChangeAt Go.RowKit

theorem block_of_cell {w : World} {a : Addr} {v : Value} (h : w.cell? a = some v) : a.block < w.heap.size ∧ a.spot = none := by
  unfold World.cell? at h
  split at h
  · rename_i c t f heq
    constructor
    · rcases Nat.lt_or_ge a.block w.heap.size with hlt | hge
      · exact hlt
      · rw [Array.getElem?_eq_none hge] at heq; cases heq
    · split at h
      · cases h
      · rename_i hs; simpa using hs
  · cases h

section
variable {H : Type} {enc : TypeId × Value → H} {P : Program} {w : World} {base : Nat} {held : Bool}

end

end Go.Proofs.YtfibjcaidnofmaaGreatDoor

/- What a tied card's list of tables gives: the table that strconv reads; what package bytealg holds. -/
namespace Go.Proofs.YtfibjcaidnofmaaGreatDoor
open Go.ChangeShapes Go.WideShapes Go.ChangeAt Go.RowKit

theorem tabIs_of_reads {P : Program} {W : World} {name : String} {k : IntKind} {zs : List Int} {g : Nat} {t e : TypeId} {n : Nat}
    (hg : P.globalNamed name = some g) (hty : (P.globals[g]?).map (·.type) = some t) (ht : P.underlying t = some (.array n e)) (he : P.underlying e = some (.int k)) (hce : P.cellsOf e = 1) (hct : P.cellsOf t = n)
    (h : Lib.VarReads P W name (Lib.tabData k zs)) : Lib.TabIs P W name k zs := by
  obtain ⟨g', t', cs, fuel, p, hg', ht', hvar, hd⟩ := h
  obtain rfl := Option.some.inj (hg.symm.trans hg')
  obtain rfl := Option.some.inj (hty.symm.trans ht')
  unfold Lib.TabIs
  rw [hvar, ← Lib.cells_of_tab ht he hce hct hd]

theorem pow10_data : (Rows.laid_internal_strconv_uint64pow10 : DataW Unit) = Lib.tabData .u64 Lib.pow10Tab := by kernel_rfl
/-- What a row's list gives. -/
theorem tabsIn_of {L : List (String × DataW Unit)} {W : World} (hp : laidMetH Tryz.prog L W ↔ laidMet Tryz.prog L W) (hm : ("internal/strconv.uint64pow10", Rows.laid_internal_strconv_uint64pow10) ∈ L) (h : laidMetH Tryz.prog L W) : TabsIn W := by
  have h' := hp.1 h
  exact tabIs_of_reads (g := 3) (t := 194) (e := 107) (n := 20) (by kernel_rfl) (by kernel_rfl) Tryz.underlying194 Tryz.underlying107 (by kernel_rfl) (by kernel_rfl)
    (by have := Lib.laidMet.reads h' hm; rw [pow10_data] at this; exact this)

theorem maxLen_of {W : World} (h : W.ShapedOpen Tryz.prog) : ∃ m, W.cell? ⟨0, 0, none⟩ = some (.int .i64 m) :=
  cell_of_shapedOpen_int (t := 3) (zero := #[.int .i64 0]) h (of_decide_eq_true (by kernel_rfl)) (by kernel_rfl) rfl (by kernel_rfl) (by kernel_rfl) Tryz.underlying3
end Go.Proofs.YtfibjcaidnofmaaGreatDoor
