/- The library's stable sort at nodes walked: symMerge (printed by wip/gen_srt.py). -/
import Derived.Test.YtfibjcaidnofmaaGreatDoorJoinEXBi
namespace Go.Proofs.YtfibjcaidnofmaaGreatDoor
open Go.RowKit
open Go.Sort hiding Below

variable {T : World → Prop}

/-- What symMerge owes. -/
def SymOk (T : World → Prop) (w0 : World) (g c : Nat) (a b : Nat) (d : Array ElN) (w : World) (e : Ending) (w' : World) : Prop :=
  e = .returned (.tuple #[]) ∧ w.heap.size ≤ w'.heap.size ∧ ∃ d1, LotN T w0 w' g c d1 ∧ PermIn a b d d1 ∧ SortedIn ltQ a b d1
theorem rotate_i (w0 w : World) (g c a m b : Nat) (A M B : Int) (hA : A = (a : Int)) (hM : M = (m : Int)) (hB : B = (b : Int)) (sz : Nat) (d : Array ElN) (hz : sz = d.size) (h : LotN T w0 w g c d) (ham : a < m) (hmb : m < b) (hb : b ≤ d.size) :
    Calls Tryz.prog 194 #[.slice (some ⟨g, 0, none⟩) sz c, .int .i64 A, .int .i64 M, .int .i64 B, cmpV] w fun e w' => e = .returned (.tuple #[]) ∧ w.heap.size ≤ w'.heap.size ∧ ∃ d1, LotN T w0 w' g c d1 ∧ PermIn a b d d1 ∧ ∀ k, d1[k]! = rotT a m b d k := by
  subst hA hM hB hz
  exact rotate_any w0 w g c a m b d h ham hmb hb
/-- The word for all smaller ones. -/
def SymIH (T : World → Prop) (w0 : World) (g c sz : Nat) : Prop :=
  ∀ (a m b : Nat) (A M B : Int) (n : Nat) (d : Array ElN) (w : World), A = (a : Int) → M = (m : Int) → B = (b : Int) → n = d.size → b - a ≤ sz → LotN T w0 w g c d → a < m → m < b → b ≤ d.size → SortedIn ltQ a m d → SortedIn ltQ m b d →
    Calls Tryz.prog 155 #[.slice (some ⟨g, 0, none⟩) n c, .int .i64 A, .int .i64 M, .int .i64 B, cmpV] w (SymOk T w0 g c a b d w)

set_option maxHeartbeats 8000000 in
set_option maxRecDepth 100000 in
theorem sym_left (hC : CmpN T) (w0 w : World) (g c a m b : Nat) (d : Array ElN) (h : LotN T w0 w g c d) (hm : m = a + 1) (hmb : m < b) (hb : b ≤ d.size) (hs : SortedIn ltQ m b d) :
    Calls Tryz.prog 155 #[.slice (some ⟨g, 0, none⟩) d.size c, .int .i64 a, .int .i64 m, .int .i64 b, cmpV] w (SymOk T w0 g c a b d w) := by
  have hs : SortedIn ltQ (a + 1) b d := hm ▸ hs
  have hm1 : a + 1 ≤ m := by omega
  have hm2 : m ≤ a + 1 := by omega
  clear hm
  have HL := Lib.hid h
  have HC := Lib.hid hC
  have HS := Lib.hid hs
  have hN := h.few
  have i0 : (m : Int) - (a : Int) = 1 := by omega
  clear h hC hs
  go_enter Tryz.func155, Tryz.ntmps155
  go_wp2_with fail
  go_loopw [10, 11, 12] (fun x y _ wr => ∃ (i j : Nat), a + 1 ≤ i ∧ i ≤ j ∧ j ≤ b ∧ x = .int .i64 i ∧ y = .int .i64 j ∧ LotN T w0 wr g c d ∧ Hid (∀ k, a + 1 ≤ k → k < i → ltQ d[k]! d[a]! = true) ∧ Hid (∀ k, j ≤ k → k < b → ltQ d[k]! d[a]! = false) ∧ w.heap.size ≤ wr.heap.size) (fun x y _ _ => (intOf y).toNat - (intOf x).toNat)
  case atStart => exact ⟨a + 1, b, Nat.le_refl _, by omega, Nat.le_refl _, congrArg (Value.int .i64) (by omega), rfl, HL.out, fun k h1 h2 => by omega, fun k h1 h2 => by omega, Nat.le_refl _⟩
  case round =>
    obtain ⟨i, j, hai, hij, hjb, rfl, rfl, hLe, HLO, HHI, hsz⟩ := hrel
    by_cases hlt : i < j
    · have i1 : (i : Int) < (j : Int) := by omega
      obtain ⟨q, hqe⟩ : ∃ q, q = (i + j) / 2 := ⟨_, rfl⟩
      have hqz : ((i : Int) + (j : Int)) / 2 = (q : Int) := by omega
      have hq1 : i ≤ q := by omega
      have hq2 : q < j := by omega
      clear hqe
      have hqd : q < d.size := by omega
      have had : a < d.size := by omega
      obtain ⟨xi, xj, hpr⟩ := LotN.pair (show LotN T w0 wr.drew g c d from hLe.below (below_drewN' wr 1)) hqd had
      have HD := Lib.hid hpr
      have hsz3 : w.heap.size ≤ wr.drew.heap.size := hsz
      clear hpr hLe
      go_wp2_with fail
      refine AnyT.region (fun _ => false) (fun W => W.rangeAt g (q * 3) xi ∧ W.rangeAt g (a * 3) xj) (by kernel_rfl) ⟨HD.out.ri, HD.out.rj⟩ (fun hHeld => ?_)
      generalize wr.drew = w4 at *
      ((refine AnyT.takeAny 0 40 ?_ rfl (by kernel_rfl) (by kernel_rfl) (by kernel_rfl) rfl rfl (fun _ _ _ _ h => h) rfl ?_ (by assumption) ?_); rotate_left; (intro w; go_simp; (try (with_reducible rfl))); simp only [Act.put, List.setIfInBounds_toArray, List.set_cons_zero, List.set_cons_succ])
      ((refine AnyT.takeAny 1 41 ?_ rfl (by kernel_rfl) (by kernel_rfl) (by kernel_rfl) rfl rfl (fun _ _ _ _ h => h) rfl ?_ (by assumption) ?_); rotate_left; (intro w; go_simp; (try (with_reducible rfl))); simp only [Act.put, List.setIfInBounds_toArray, List.set_cons_zero, List.set_cons_succ])
      ((refine AnyT.takeAny 2 42 ?_ rfl (by kernel_rfl) (by kernel_rfl) (by kernel_rfl) rfl rfl (fun _ _ _ _ h => h) rfl ?_ (by assumption) ?_); rotate_left; (intro w; go_simp; (try (with_reducible rfl))); simp only [Act.put, List.setIfInBounds_toArray, List.set_cons_zero, List.set_cons_succ])
      refine AnyT.takeAny 3 43 (.pointer (some ⟨g, q * 3, none⟩)) rfl (by kernel_rfl) (by kernel_rfl) (by kernel_rfl) rfl rfl (fun _ _ _ _ h => h) rfl (fun W => by go_simp; (try (first | (with_reducible rfl) | (rw [IntKind.wrap_i64]; omega) | (congr 1; omega) | (congr 2; omega) | (congr 3; omega) | (congr 4; omega) | (congr 5; omega)))) (by assumption) ?_
      simp only [Act.put, List.setIfInBounds_toArray, List.set_cons_zero, List.set_cons_succ]
      refine AnyT.take 4 44 (.agg (xi).toArray) rfl (by kernel_rfl) (by kernel_rfl) (by kernel_rfl) (by kernel_rfl) rfl (by kernel_rfl) rfl (fun _ _ _ _ h => h) rfl (fun W hS => exec_loadMid _ _ rfl g (q * 3) rfl (xi) hS.1 Tryz.underlying32 rfl (HD.out.si)) (by assumption) ?_
      simp only [Act.put, List.setIfInBounds_toArray, List.set_cons_zero, List.set_cons_succ]
      ((refine AnyT.takeAny 5 45 ?_ rfl (by kernel_rfl) (by kernel_rfl) (by kernel_rfl) rfl rfl (fun _ _ _ _ h => h) rfl ?_ (by assumption) ?_); rotate_left; (intro w; go_simp; (try (with_reducible rfl))); simp only [Act.put, List.setIfInBounds_toArray, List.set_cons_zero, List.set_cons_succ])
      ((refine AnyT.takeAny 6 46 ?_ rfl (by kernel_rfl) (by kernel_rfl) (by kernel_rfl) rfl rfl (fun _ _ _ _ h => h) rfl ?_ (by assumption) ?_); rotate_left; (intro w; go_simp; (try (with_reducible rfl))); simp only [Act.put, List.setIfInBounds_toArray, List.set_cons_zero, List.set_cons_succ])
      refine AnyT.takeAny 7 47 (.pointer (some ⟨g, a * 3, none⟩)) rfl (by kernel_rfl) (by kernel_rfl) (by kernel_rfl) rfl rfl (fun _ _ _ _ h => h) rfl (fun W => by go_simp; (try (first | (with_reducible rfl) | (rw [IntKind.wrap_i64]; omega) | (congr 1; omega) | (congr 2; omega) | (congr 3; omega) | (congr 4; omega) | (congr 5; omega)))) (by assumption) ?_
      simp only [Act.put, List.setIfInBounds_toArray, List.set_cons_zero, List.set_cons_succ]
      refine AnyT.take 8 48 (.agg (xj).toArray) rfl (by kernel_rfl) (by kernel_rfl) (by kernel_rfl) (by kernel_rfl) rfl (by kernel_rfl) rfl (fun _ _ _ _ h => h) rfl (fun W hS => exec_loadMid _ _ rfl g (a * 3) rfl (xj) hS.2 Tryz.underlying32 rfl (HD.out.sj)) (by assumption) ?_
      simp only [Act.put, List.setIfInBounds_toArray, List.set_cons_zero, List.set_cons_succ]
      ((refine AnyT.one (i := 9) (by kernel_rfl) rfl (fun K hK => ?_)))
      go_simp
      refine (HD.out.cmp HC.out).mono ?_
      rintro e5 w5 ⟨⟨v, rfl, hv⟩, hb5⟩
      go_simp
      have HL5 := Lib.hid (HD.out.lot.below hb5)
      have hsz5 := hb5.size
      clear hHeld
      refine hK.out _ _ ⟨rng_below HD.out.ri hb5 HD.out.lot.lot.lt, rng_below HD.out.rj hb5 HD.out.lot.lot.lt⟩ (fun hHeld => ?_)
      clear hK K hb5
      (try simp only [Act.put, List.setIfInBounds_toArray, List.set_cons_zero, List.set_cons_succ])
      by_cases hv0 : v < 0
      · rw [decide_eq_true hv0] at hv
        have HLO2 := Lib.hid (srch1_lo swo_ltQ HS.out (by omega) hv)
        clear hv
        ((refine AnyT.takeAny 10 50 ?_ rfl (by kernel_rfl) (by kernel_rfl) (by kernel_rfl) rfl rfl (fun _ _ _ _ h => h) rfl ?_ (by assumption) ?_); rotate_left; (intro w; go_simp; (try (with_reducible rfl))); simp only [Act.put, List.setIfInBounds_toArray, List.set_cons_zero, List.set_cons_succ])
        refine AnyT.done (by kernel_rfl) ?_ _
        clear hHeld HD
        go_wp2_with fail
        go_roundw
        case rel => exact ⟨q + 1, j, by omega, by omega, hjb, by go_num, rfl, HL5.out, HLO2, HHI, by omega⟩
        case measure => simp [intOf]; omega
      · rw [decide_eq_false hv0] at hv
        have HHI2 := Lib.hid (srch1_hi swo_ltQ HS.out (by omega) hv)
        clear hv
        ((refine AnyT.takeAny 10 50 ?_ rfl (by kernel_rfl) (by kernel_rfl) (by kernel_rfl) rfl rfl (fun _ _ _ _ h => h) rfl ?_ (by assumption) ?_); rotate_left; (intro w; go_simp; (try (with_reducible rfl))); simp only [Act.put, List.setIfInBounds_toArray, List.set_cons_zero, List.set_cons_succ])
        refine AnyT.done (by kernel_rfl) ?_ _
        clear hHeld HD
        go_wp2_with fail
        go_roundw
        case rel => exact ⟨i, q, hai, hq1, by omega, rfl, by go_num, HL5.out, HLO, HHI2, by omega⟩
        case measure => simp [intOf]; omega
    · obtain rfl : i = j := by omega
      have i1 : ¬ (i : Int) < (i : Int) := by omega
      have HLe := Lib.hid hLe
      clear hLe
      go_wp2_with fail
      go_loopw [13] (fun x wr2 => ∃ (k : Nat) (e : Array ElN), a ≤ k ∧ k ≤ i - 1 ∧ x = .int .i64 k ∧ LotN T w0 wr2 g c e ∧ MvUp a b d k e ∧ w.heap.size ≤ wr2.heap.size) (fun x _ => i - (intOf x).toNat)
      case atStart => exact ⟨a, d, Nat.le_refl _, by omega, rfl, HLe.out, MvUp.start a b d, hsz⟩
      case round =>
        obtain ⟨k, e, hak, hki, rfl, hLk, hM, hsz2⟩ := hrel
        have hes := hM.perm.1
        have HM := Lib.hid hM; clear hM
        by_cases hlt2 : k < i - 1
        · have i2 : (k : Int) < (i : Int) - 1 := by omega
          obtain ⟨q, hqe⟩ : ∃ q, q = k + 1 := ⟨_, rfl⟩
          have hqz : (k : Int) + 1 = (q : Int) := by omega
          have HMs := Lib.hid (show MvUp a b d q (swp e k q) by rw [hqe]; exact HM.out.step hak (by omega) hb)
          have hk1 : k < e.size := by omega
          have hq1 : q < e.size := by omega
          have hkd : k < d.size := by omega
          have hqd : q < d.size := by omega
          have hqi : q ≤ i - 1 := by omega
          have haq : a ≤ q := by omega
          have hkq : k < q := by omega
          clear hqe
          obtain ⟨xp, xq, hpr⟩ := LotN.pair (show LotN T w0 wr.drew g c e from hLk.below (below_drewN' wr 1)) hk1 hq1
          have HD := Lib.hid hpr
          have hsz6 : w.heap.size ≤ wr.drew.heap.size := hsz2
          clear hpr hLk
          go_wp2_with fail
          refine AnyT.region (fun i => i == 15 || i == 17) (fun W => W.rangeAt g (k * 3) xp ∧ W.rangeAt g (q * 3) xq) (by kernel_rfl) ⟨HD.out.ri, HD.out.rj⟩ (fun hHeld => ?_)
          generalize wr.drew = w6 at *
          ((refine AnyT.takeAny 0 61 ?_ rfl (by kernel_rfl) (by kernel_rfl) (by kernel_rfl) rfl rfl (fun _ _ _ _ h => h) rfl ?_ (by assumption) ?_); rotate_left; (intro w; go_simp; (try (with_reducible rfl))); simp only [Act.put, List.setIfInBounds_toArray, List.set_cons_zero, List.set_cons_succ])
          ((refine AnyT.takeAny 1 62 ?_ rfl (by kernel_rfl) (by kernel_rfl) (by kernel_rfl) rfl rfl (fun _ _ _ _ h => h) rfl ?_ (by assumption) ?_); rotate_left; (intro w; go_simp; (try (with_reducible rfl))); simp only [Act.put, List.setIfInBounds_toArray, List.set_cons_zero, List.set_cons_succ])
          ((refine AnyT.takeAny 2 63 ?_ rfl (by kernel_rfl) (by kernel_rfl) (by kernel_rfl) rfl rfl (fun _ _ _ _ h => h) rfl ?_ (by assumption) ?_); rotate_left; (intro w; go_simp; (try (with_reducible rfl))); simp only [Act.put, List.setIfInBounds_toArray, List.set_cons_zero, List.set_cons_succ])
          ((refine AnyT.takeAny 3 64 ?_ rfl (by kernel_rfl) (by kernel_rfl) (by kernel_rfl) rfl rfl (fun _ _ _ _ h => h) rfl ?_ (by assumption) ?_); rotate_left; (intro w; go_simp; (try (with_reducible rfl))); simp only [Act.put, List.setIfInBounds_toArray, List.set_cons_zero, List.set_cons_succ])
          refine AnyT.takeAny 4 65 (.int .i64 ((q : Nat) : Int)) rfl (by kernel_rfl) (by kernel_rfl) (by kernel_rfl) rfl rfl (fun _ _ _ _ h => h) rfl (fun W => by go_simp; (try (first | (with_reducible rfl) | (rw [IntKind.wrap_i64]; omega) | (congr 1; omega) | (congr 2; omega) | (congr 3; omega) | (congr 4; omega) | (congr 5; omega)))) (by assumption) ?_
          simp only [Act.put, List.setIfInBounds_toArray, List.set_cons_zero, List.set_cons_succ]
          ((refine AnyT.takeAny 5 66 ?_ rfl (by kernel_rfl) (by kernel_rfl) (by kernel_rfl) rfl rfl (fun _ _ _ _ h => h) rfl ?_ (by assumption) ?_); rotate_left; (intro w; go_simp; (try (with_reducible rfl))); simp only [Act.put, List.setIfInBounds_toArray, List.set_cons_zero, List.set_cons_succ])
          ((refine AnyT.takeAny 6 67 ?_ rfl (by kernel_rfl) (by kernel_rfl) (by kernel_rfl) rfl rfl (fun _ _ _ _ h => h) rfl ?_ (by assumption) ?_); rotate_left; (intro w; go_simp; (try (with_reducible rfl))); simp only [Act.put, List.setIfInBounds_toArray, List.set_cons_zero, List.set_cons_succ])
          refine AnyT.takeAny 7 68 (.int .i64 ((q : Nat) : Int)) rfl (by kernel_rfl) (by kernel_rfl) (by kernel_rfl) rfl rfl (fun _ _ _ _ h => h) rfl (fun W => by go_simp; (try (first | (with_reducible rfl) | (rw [IntKind.wrap_i64]; omega) | (congr 1; omega) | (congr 2; omega) | (congr 3; omega) | (congr 4; omega) | (congr 5; omega)))) (by assumption) ?_
          simp only [Act.put, List.setIfInBounds_toArray, List.set_cons_zero, List.set_cons_succ]
          refine AnyT.takeAny 8 69 (.pointer (some ⟨g, q * 3, none⟩)) rfl (by kernel_rfl) (by kernel_rfl) (by kernel_rfl) rfl rfl (fun _ _ _ _ h => h) rfl (fun W => by go_simp; (try (first | (with_reducible rfl) | (rw [IntKind.wrap_i64]; omega) | (congr 1; omega) | (congr 2; omega) | (congr 3; omega) | (congr 4; omega) | (congr 5; omega)))) (by assumption) ?_
          simp only [Act.put, List.setIfInBounds_toArray, List.set_cons_zero, List.set_cons_succ]
          refine AnyT.take 9 70 (.agg (xq).toArray) rfl (by kernel_rfl) (by kernel_rfl) (by kernel_rfl) (by kernel_rfl) rfl (by kernel_rfl) rfl (fun _ _ _ _ h => h) rfl (fun W hS => exec_loadMid _ _ rfl g (q * 3) rfl (xq) hS.2 Tryz.underlying32 rfl (HD.out.sj)) (by assumption) ?_
          simp only [Act.put, List.setIfInBounds_toArray, List.set_cons_zero, List.set_cons_succ]
          ((refine AnyT.takeAny 10 71 ?_ rfl (by kernel_rfl) (by kernel_rfl) (by kernel_rfl) rfl rfl (fun _ _ _ _ h => h) rfl ?_ (by assumption) ?_); rotate_left; (intro w; go_simp; (try (with_reducible rfl))); simp only [Act.put, List.setIfInBounds_toArray, List.set_cons_zero, List.set_cons_succ])
          ((refine AnyT.takeAny 11 72 ?_ rfl (by kernel_rfl) (by kernel_rfl) (by kernel_rfl) rfl rfl (fun _ _ _ _ h => h) rfl ?_ (by assumption) ?_); rotate_left; (intro w; go_simp; (try (with_reducible rfl))); simp only [Act.put, List.setIfInBounds_toArray, List.set_cons_zero, List.set_cons_succ])
          refine AnyT.takeAny 12 73 (.pointer (some ⟨g, k * 3, none⟩)) rfl (by kernel_rfl) (by kernel_rfl) (by kernel_rfl) rfl rfl (fun _ _ _ _ h => h) rfl (fun W => by go_simp; (try (first | (with_reducible rfl) | (rw [IntKind.wrap_i64]; omega) | (congr 1; omega) | (congr 2; omega) | (congr 3; omega) | (congr 4; omega) | (congr 5; omega)))) (by assumption) ?_
          simp only [Act.put, List.setIfInBounds_toArray, List.set_cons_zero, List.set_cons_succ]
          refine AnyT.take 13 74 (.agg (xp).toArray) rfl (by kernel_rfl) (by kernel_rfl) (by kernel_rfl) (by kernel_rfl) rfl (by kernel_rfl) rfl (fun _ _ _ _ h => h) rfl (fun W hS => exec_loadMid _ _ rfl g (k * 3) rfl (xp) hS.1 Tryz.underlying32 rfl (HD.out.si)) (by assumption) ?_
          simp only [Act.put, List.setIfInBounds_toArray, List.set_cons_zero, List.set_cons_succ]
          refine AnyT.takeAny 14 75 (.pointer (some ⟨g, k * 3, none⟩)) rfl (by kernel_rfl) (by kernel_rfl) (by kernel_rfl) rfl rfl (fun _ _ _ _ h => h) rfl (fun W => by go_simp; (try (first | (with_reducible rfl) | (rw [IntKind.wrap_i64]; omega) | (congr 1; omega) | (congr 2; omega) | (congr 3; omega) | (congr 4; omega) | (congr 5; omega)))) (by assumption) ?_
          simp only [Act.put, List.setIfInBounds_toArray, List.set_cons_zero, List.set_cons_succ]
          ((refine AnyT.last (i := 15) (by kernel_rfl) rfl (by kernel_rfl) (fun K hK => ?_)))
          rw [if_pos (by rfl)]
          refine wp_store_mid 32 _ _ rfl g (k * 3) xq.toArray rfl rfl HD.out.ti HD.out.aj HD.out.oj ?_
          refine hK.out _ _ ?_
          clear hK K
          (try simp only [Act.put])
          ((refine AnyT.last (i := 16) (by kernel_rfl) rfl (by kernel_rfl) (fun K hK => ?_)))
          go_simp
          refine hK.out _ _ ?_
          clear hK K
          (try simp only [Act.put, List.setIfInBounds_toArray, List.set_cons_zero, List.set_cons_succ])
          ((refine AnyT.last (i := 17) (by kernel_rfl) rfl (by kernel_rfl) (fun K hK => ?_)))
          rw [if_pos (by rfl)]
          refine wp_store_mid 32 _ _ rfl g (q * 3) xp.toArray rfl rfl HD.out.tj HD.out.ai HD.out.oi ?_
          refine hK.out _ _ ?_
          clear hK K
          (try simp only [Act.put])
          refine AnyT.done (by kernel_rfl) ?_ _
          have HX := Lib.hid HD.out.sw
          clear hHeld
          go_wp2_with fail
          go_roundw
          case rel => exact ⟨q, _, haq, hqi, by go_num, HX.out, HMs.out, by rw [(setCells_out _ _ _ _).2, (setCells_out _ _ _ _).2]; exact hsz6⟩
          case measure => simp [intOf]; omega
        · have i2 : ¬ (k : Int) < (i : Int) - 1 := by omega
          have HO := Lib.hid (show SymOk T w0 g c a b d w (.returned (.tuple #[])) wr from ⟨rfl, hsz2, e, hLk, HM.out.perm, MvUp.done swo_ltQ (show MvUp a b d (i - 1) e by rw [show i - 1 = k by omega]; exact HM.out) HS.out hai (by omega) HLO.out HHI.out⟩)
          clear hLk HM
          go_wp2_with fail
          refine bodyPost_ret (results_none rfl _ _ _) rfl ?_
          exact HO.out

set_option maxHeartbeats 8000000 in
set_option maxRecDepth 100000 in
theorem sym_right (hC : CmpN T) (w0 w : World) (g c a m b : Nat) (d : Array ElN) (h : LotN T w0 w g c d) (ham : a + 1 < m) (hm : b = m + 1) (hb : b ≤ d.size) (hs : SortedIn ltQ a m d) :
    Calls Tryz.prog 155 #[.slice (some ⟨g, 0, none⟩) d.size c, .int .i64 a, .int .i64 m, .int .i64 b, cmpV] w (SymOk T w0 g c a b d w) := by
  have hm1 : m + 1 ≤ b := by omega
  have hm2 : b ≤ m + 1 := by omega
  have HL := Lib.hid h
  have HC := Lib.hid hC
  have HS := Lib.hid hs
  have hN := h.few
  have i0 : ((m : Int) - (a : Int) == 1) = false := beq_eq_false_iff_ne.2 (by omega)
  have i01 : (b : Int) - (m : Int) = 1 := by omega
  have HBM := Lib.hid hm
  clear hm
  clear h hC hs
  go_enter Tryz.func155, Tryz.ntmps155
  go_wp2_with fail
  go_loopw [14, 15, 16] (fun x y _ wr => ∃ (i j : Nat), a ≤ i ∧ i ≤ j ∧ j ≤ m ∧ x = .int .i64 i ∧ y = .int .i64 j ∧ LotN T w0 wr g c d ∧ Hid (∀ k, a ≤ k → k < i → ltQ d[m]! d[k]! = false) ∧ Hid (∀ k, j ≤ k → k < m → ltQ d[m]! d[k]! = true) ∧ w.heap.size ≤ wr.heap.size) (fun x y _ _ => (intOf y).toNat - (intOf x).toNat)
  case atStart => exact ⟨a, m, Nat.le_refl _, by omega, Nat.le_refl _, rfl, rfl, HL.out, fun k h1 h2 => by omega, fun k h1 h2 => by omega, Nat.le_refl _⟩
  case round =>
    obtain ⟨i, j, hai, hij, hjb, rfl, rfl, hLe, HLO, HHI, hsz⟩ := hrel
    by_cases hlt : i < j
    · have i1 : (i : Int) < (j : Int) := by omega
      obtain ⟨q, hqe⟩ : ∃ q, q = (i + j) / 2 := ⟨_, rfl⟩
      have hqz : ((i : Int) + (j : Int)) / 2 = (q : Int) := by omega
      have hq1 : i ≤ q := by omega
      have hq2 : q < j := by omega
      clear hqe
      have hqd : q < d.size := by omega
      have hmd : m < d.size := by omega
      obtain ⟨xi, xj, hpr⟩ := LotN.pair (show LotN T w0 wr.drew g c d from hLe.below (below_drewN' wr 1)) hmd hqd
      have HD := Lib.hid hpr
      have hsz3 : w.heap.size ≤ wr.drew.heap.size := hsz
      clear hpr hLe
      go_wp2_with fail
      refine AnyT.region (fun _ => false) (fun W => W.rangeAt g (m * 3) xi ∧ W.rangeAt g (q * 3) xj) (by kernel_rfl) ⟨HD.out.ri, HD.out.rj⟩ (fun hHeld => ?_)
      generalize wr.drew = w4 at *
      ((refine AnyT.takeAny 0 92 ?_ rfl (by kernel_rfl) (by kernel_rfl) (by kernel_rfl) rfl rfl (fun _ _ _ _ h => h) rfl ?_ (by assumption) ?_); rotate_left; (intro w; go_simp; (try (with_reducible rfl))); simp only [Act.put, List.setIfInBounds_toArray, List.set_cons_zero, List.set_cons_succ])
      ((refine AnyT.takeAny 1 93 ?_ rfl (by kernel_rfl) (by kernel_rfl) (by kernel_rfl) rfl rfl (fun _ _ _ _ h => h) rfl ?_ (by assumption) ?_); rotate_left; (intro w; go_simp; (try (with_reducible rfl))); simp only [Act.put, List.setIfInBounds_toArray, List.set_cons_zero, List.set_cons_succ])
      ((refine AnyT.takeAny 2 94 ?_ rfl (by kernel_rfl) (by kernel_rfl) (by kernel_rfl) rfl rfl (fun _ _ _ _ h => h) rfl ?_ (by assumption) ?_); rotate_left; (intro w; go_simp; (try (with_reducible rfl))); simp only [Act.put, List.setIfInBounds_toArray, List.set_cons_zero, List.set_cons_succ])
      refine AnyT.takeAny 3 95 (.pointer (some ⟨g, m * 3, none⟩)) rfl (by kernel_rfl) (by kernel_rfl) (by kernel_rfl) rfl rfl (fun _ _ _ _ h => h) rfl (fun W => by go_simp; (try (first | (with_reducible rfl) | (rw [IntKind.wrap_i64]; omega) | (congr 1; omega) | (congr 2; omega) | (congr 3; omega) | (congr 4; omega) | (congr 5; omega)))) (by assumption) ?_
      simp only [Act.put, List.setIfInBounds_toArray, List.set_cons_zero, List.set_cons_succ]
      refine AnyT.take 4 96 (.agg (xi).toArray) rfl (by kernel_rfl) (by kernel_rfl) (by kernel_rfl) (by kernel_rfl) rfl (by kernel_rfl) rfl (fun _ _ _ _ h => h) rfl (fun W hS => exec_loadMid _ _ rfl g (m * 3) rfl (xi) hS.1 Tryz.underlying32 rfl (HD.out.si)) (by assumption) ?_
      simp only [Act.put, List.setIfInBounds_toArray, List.set_cons_zero, List.set_cons_succ]
      ((refine AnyT.takeAny 5 97 ?_ rfl (by kernel_rfl) (by kernel_rfl) (by kernel_rfl) rfl rfl (fun _ _ _ _ h => h) rfl ?_ (by assumption) ?_); rotate_left; (intro w; go_simp; (try (with_reducible rfl))); simp only [Act.put, List.setIfInBounds_toArray, List.set_cons_zero, List.set_cons_succ])
      ((refine AnyT.takeAny 6 98 ?_ rfl (by kernel_rfl) (by kernel_rfl) (by kernel_rfl) rfl rfl (fun _ _ _ _ h => h) rfl ?_ (by assumption) ?_); rotate_left; (intro w; go_simp; (try (with_reducible rfl))); simp only [Act.put, List.setIfInBounds_toArray, List.set_cons_zero, List.set_cons_succ])
      refine AnyT.takeAny 7 99 (.pointer (some ⟨g, q * 3, none⟩)) rfl (by kernel_rfl) (by kernel_rfl) (by kernel_rfl) rfl rfl (fun _ _ _ _ h => h) rfl (fun W => by go_simp; (try (first | (with_reducible rfl) | (rw [IntKind.wrap_i64]; omega) | (congr 1; omega) | (congr 2; omega) | (congr 3; omega) | (congr 4; omega) | (congr 5; omega)))) (by assumption) ?_
      simp only [Act.put, List.setIfInBounds_toArray, List.set_cons_zero, List.set_cons_succ]
      refine AnyT.take 8 100 (.agg (xj).toArray) rfl (by kernel_rfl) (by kernel_rfl) (by kernel_rfl) (by kernel_rfl) rfl (by kernel_rfl) rfl (fun _ _ _ _ h => h) rfl (fun W hS => exec_loadMid _ _ rfl g (q * 3) rfl (xj) hS.2 Tryz.underlying32 rfl (HD.out.sj)) (by assumption) ?_
      simp only [Act.put, List.setIfInBounds_toArray, List.set_cons_zero, List.set_cons_succ]
      ((refine AnyT.one (i := 9) (by kernel_rfl) rfl (fun K hK => ?_)))
      go_simp
      refine (HD.out.cmp HC.out).mono ?_
      rintro e5 w5 ⟨⟨v, rfl, hv⟩, hb5⟩
      go_simp
      have HL5 := Lib.hid (HD.out.lot.below hb5)
      have hsz5 := hb5.size
      clear hHeld
      refine hK.out _ _ ⟨rng_below HD.out.ri hb5 HD.out.lot.lot.lt, rng_below HD.out.rj hb5 HD.out.lot.lot.lt⟩ (fun hHeld => ?_)
      clear hK K hb5
      (try simp only [Act.put, List.setIfInBounds_toArray, List.set_cons_zero, List.set_cons_succ])
      by_cases hv0 : v < 0
      · rw [decide_eq_true hv0] at hv
        have HHI2 := Lib.hid (srch2_hi swo_ltQ HS.out (by omega) hv)
        clear hv
        ((refine AnyT.takeAny 10 102 ?_ rfl (by kernel_rfl) (by kernel_rfl) (by kernel_rfl) rfl rfl (fun _ _ _ _ h => h) rfl ?_ (by assumption) ?_); rotate_left; (intro w; go_simp; (try (with_reducible rfl))); simp only [Act.put, List.setIfInBounds_toArray, List.set_cons_zero, List.set_cons_succ])
        ((refine AnyT.takeAny 11 103 ?_ rfl (by kernel_rfl) (by kernel_rfl) (by kernel_rfl) rfl rfl (fun _ _ _ _ h => h) rfl ?_ (by assumption) ?_); rotate_left; (intro w; go_simp; (try (with_reducible rfl))); simp only [Act.put, List.setIfInBounds_toArray, List.set_cons_zero, List.set_cons_succ])
        refine AnyT.done (by kernel_rfl) ?_ _
        clear hHeld HD
        go_wp2_with fail
        go_roundw
        case rel => exact ⟨i, q, hai, hq1, by omega, rfl, by go_num, HL5.out, HLO, HHI2, by omega⟩
        case measure => simp [intOf]; omega
      · rw [decide_eq_false hv0] at hv
        have HLO2 := Lib.hid (srch2_lo swo_ltQ HS.out (by omega) hv)
        clear hv
        ((refine AnyT.takeAny 10 102 ?_ rfl (by kernel_rfl) (by kernel_rfl) (by kernel_rfl) rfl rfl (fun _ _ _ _ h => h) rfl ?_ (by assumption) ?_); rotate_left; (intro w; go_simp; (try (with_reducible rfl))); simp only [Act.put, List.setIfInBounds_toArray, List.set_cons_zero, List.set_cons_succ])
        ((refine AnyT.takeAny 11 103 ?_ rfl (by kernel_rfl) (by kernel_rfl) (by kernel_rfl) rfl rfl (fun _ _ _ _ h => h) rfl ?_ (by assumption) ?_); rotate_left; (intro w; go_simp; (try (with_reducible rfl))); simp only [Act.put, List.setIfInBounds_toArray, List.set_cons_zero, List.set_cons_succ])
        refine AnyT.done (by kernel_rfl) ?_ _
        clear hHeld HD
        go_wp2_with fail
        go_roundw
        case rel => exact ⟨q + 1, j, by omega, by omega, hjb, by go_num, rfl, HL5.out, HLO2, HHI, by omega⟩
        case measure => simp [intOf]; omega
    · obtain rfl : i = j := by omega
      have i1 : ¬ (i : Int) < (i : Int) := by omega
      have HLe := Lib.hid hLe
      clear hLe
      go_wp2_with fail
      go_loopw [17] (fun x wr2 => ∃ (k : Nat) (e : Array ElN), i ≤ k ∧ k ≤ m ∧ x = .int .i64 k ∧ LotN T w0 wr2 g c e ∧ MvDn a m d k e ∧ w.heap.size ≤ wr2.heap.size) (fun x _ => (intOf x).toNat)
      case atStart => exact ⟨m, d, hjb, Nat.le_refl _, rfl, HLe.out, MvDn.start a m d, hsz⟩
      case round =>
        obtain ⟨k, e, hik, hkm, rfl, hLk, hM, hsz2⟩ := hrel
        have hes := hM.perm.1
        have HM := Lib.hid hM; clear hM
        by_cases hlt2 : i < k
        · have i2 : (i : Int) < (k : Int) := by omega
          obtain ⟨q, hqe⟩ : ∃ q, k = q + 1 := ⟨k - 1, by omega⟩
          have hqz : (k : Int) - 1 = (q : Int) := by omega
          have HMs := Lib.hid (show MvDn a m d q (swp e k q) by rw [hqe]; exact MvDn.step (hqe ▸ HM.out) (by omega) (by omega) (by omega))
          have hk1 : k < e.size := by omega
          have hq1 : q < e.size := by omega
          have hkd : k < d.size := by omega
          have hqd : q < d.size := by omega
          have hqi : i ≤ q := by omega
          have haq : q ≤ m := by omega
          have hkq : q < k := by omega
          clear hqe
          obtain ⟨xp, xq, hpr⟩ := LotN.pair (show LotN T w0 wr.drew g c e from hLk.below (below_drewN' wr 1)) hk1 hq1
          have HD := Lib.hid hpr
          have hsz6 : w.heap.size ≤ wr.drew.heap.size := hsz2
          clear hpr hLk
          go_wp2_with fail
          refine AnyT.region (fun i => i == 15 || i == 17) (fun W => W.rangeAt g (k * 3) xp ∧ W.rangeAt g (q * 3) xq) (by kernel_rfl) ⟨HD.out.ri, HD.out.rj⟩ (fun hHeld => ?_)
          generalize wr.drew = w6 at *
          ((refine AnyT.takeAny 0 113 ?_ rfl (by kernel_rfl) (by kernel_rfl) (by kernel_rfl) rfl rfl (fun _ _ _ _ h => h) rfl ?_ (by assumption) ?_); rotate_left; (intro w; go_simp; (try (with_reducible rfl))); simp only [Act.put, List.setIfInBounds_toArray, List.set_cons_zero, List.set_cons_succ])
          ((refine AnyT.takeAny 1 114 ?_ rfl (by kernel_rfl) (by kernel_rfl) (by kernel_rfl) rfl rfl (fun _ _ _ _ h => h) rfl ?_ (by assumption) ?_); rotate_left; (intro w; go_simp; (try (with_reducible rfl))); simp only [Act.put, List.setIfInBounds_toArray, List.set_cons_zero, List.set_cons_succ])
          ((refine AnyT.takeAny 2 115 ?_ rfl (by kernel_rfl) (by kernel_rfl) (by kernel_rfl) rfl rfl (fun _ _ _ _ h => h) rfl ?_ (by assumption) ?_); rotate_left; (intro w; go_simp; (try (with_reducible rfl))); simp only [Act.put, List.setIfInBounds_toArray, List.set_cons_zero, List.set_cons_succ])
          ((refine AnyT.takeAny 3 116 ?_ rfl (by kernel_rfl) (by kernel_rfl) (by kernel_rfl) rfl rfl (fun _ _ _ _ h => h) rfl ?_ (by assumption) ?_); rotate_left; (intro w; go_simp; (try (with_reducible rfl))); simp only [Act.put, List.setIfInBounds_toArray, List.set_cons_zero, List.set_cons_succ])
          refine AnyT.takeAny 4 117 (.int .i64 ((q : Nat) : Int)) rfl (by kernel_rfl) (by kernel_rfl) (by kernel_rfl) rfl rfl (fun _ _ _ _ h => h) rfl (fun W => by go_simp; (try (first | (with_reducible rfl) | (rw [IntKind.wrap_i64]; omega) | (congr 1; omega) | (congr 2; omega) | (congr 3; omega) | (congr 4; omega) | (congr 5; omega)))) (by assumption) ?_
          simp only [Act.put, List.setIfInBounds_toArray, List.set_cons_zero, List.set_cons_succ]
          ((refine AnyT.takeAny 5 118 ?_ rfl (by kernel_rfl) (by kernel_rfl) (by kernel_rfl) rfl rfl (fun _ _ _ _ h => h) rfl ?_ (by assumption) ?_); rotate_left; (intro w; go_simp; (try (with_reducible rfl))); simp only [Act.put, List.setIfInBounds_toArray, List.set_cons_zero, List.set_cons_succ])
          ((refine AnyT.takeAny 6 119 ?_ rfl (by kernel_rfl) (by kernel_rfl) (by kernel_rfl) rfl rfl (fun _ _ _ _ h => h) rfl ?_ (by assumption) ?_); rotate_left; (intro w; go_simp; (try (with_reducible rfl))); simp only [Act.put, List.setIfInBounds_toArray, List.set_cons_zero, List.set_cons_succ])
          refine AnyT.takeAny 7 120 (.int .i64 ((q : Nat) : Int)) rfl (by kernel_rfl) (by kernel_rfl) (by kernel_rfl) rfl rfl (fun _ _ _ _ h => h) rfl (fun W => by go_simp; (try (first | (with_reducible rfl) | (rw [IntKind.wrap_i64]; omega) | (congr 1; omega) | (congr 2; omega) | (congr 3; omega) | (congr 4; omega) | (congr 5; omega)))) (by assumption) ?_
          simp only [Act.put, List.setIfInBounds_toArray, List.set_cons_zero, List.set_cons_succ]
          refine AnyT.takeAny 8 121 (.pointer (some ⟨g, q * 3, none⟩)) rfl (by kernel_rfl) (by kernel_rfl) (by kernel_rfl) rfl rfl (fun _ _ _ _ h => h) rfl (fun W => by go_simp; (try (first | (with_reducible rfl) | (rw [IntKind.wrap_i64]; omega) | (congr 1; omega) | (congr 2; omega) | (congr 3; omega) | (congr 4; omega) | (congr 5; omega)))) (by assumption) ?_
          simp only [Act.put, List.setIfInBounds_toArray, List.set_cons_zero, List.set_cons_succ]
          refine AnyT.take 9 122 (.agg (xq).toArray) rfl (by kernel_rfl) (by kernel_rfl) (by kernel_rfl) (by kernel_rfl) rfl (by kernel_rfl) rfl (fun _ _ _ _ h => h) rfl (fun W hS => exec_loadMid _ _ rfl g (q * 3) rfl (xq) hS.2 Tryz.underlying32 rfl (HD.out.sj)) (by assumption) ?_
          simp only [Act.put, List.setIfInBounds_toArray, List.set_cons_zero, List.set_cons_succ]
          ((refine AnyT.takeAny 10 123 ?_ rfl (by kernel_rfl) (by kernel_rfl) (by kernel_rfl) rfl rfl (fun _ _ _ _ h => h) rfl ?_ (by assumption) ?_); rotate_left; (intro w; go_simp; (try (with_reducible rfl))); simp only [Act.put, List.setIfInBounds_toArray, List.set_cons_zero, List.set_cons_succ])
          ((refine AnyT.takeAny 11 124 ?_ rfl (by kernel_rfl) (by kernel_rfl) (by kernel_rfl) rfl rfl (fun _ _ _ _ h => h) rfl ?_ (by assumption) ?_); rotate_left; (intro w; go_simp; (try (with_reducible rfl))); simp only [Act.put, List.setIfInBounds_toArray, List.set_cons_zero, List.set_cons_succ])
          refine AnyT.takeAny 12 125 (.pointer (some ⟨g, k * 3, none⟩)) rfl (by kernel_rfl) (by kernel_rfl) (by kernel_rfl) rfl rfl (fun _ _ _ _ h => h) rfl (fun W => by go_simp; (try (first | (with_reducible rfl) | (rw [IntKind.wrap_i64]; omega) | (congr 1; omega) | (congr 2; omega) | (congr 3; omega) | (congr 4; omega) | (congr 5; omega)))) (by assumption) ?_
          simp only [Act.put, List.setIfInBounds_toArray, List.set_cons_zero, List.set_cons_succ]
          refine AnyT.take 13 126 (.agg (xp).toArray) rfl (by kernel_rfl) (by kernel_rfl) (by kernel_rfl) (by kernel_rfl) rfl (by kernel_rfl) rfl (fun _ _ _ _ h => h) rfl (fun W hS => exec_loadMid _ _ rfl g (k * 3) rfl (xp) hS.1 Tryz.underlying32 rfl (HD.out.si)) (by assumption) ?_
          simp only [Act.put, List.setIfInBounds_toArray, List.set_cons_zero, List.set_cons_succ]
          refine AnyT.takeAny 14 127 (.pointer (some ⟨g, k * 3, none⟩)) rfl (by kernel_rfl) (by kernel_rfl) (by kernel_rfl) rfl rfl (fun _ _ _ _ h => h) rfl (fun W => by go_simp; (try (first | (with_reducible rfl) | (rw [IntKind.wrap_i64]; omega) | (congr 1; omega) | (congr 2; omega) | (congr 3; omega) | (congr 4; omega) | (congr 5; omega)))) (by assumption) ?_
          simp only [Act.put, List.setIfInBounds_toArray, List.set_cons_zero, List.set_cons_succ]
          ((refine AnyT.last (i := 15) (by kernel_rfl) rfl (by kernel_rfl) (fun K hK => ?_)))
          rw [if_pos (by rfl)]
          refine wp_store_mid 32 _ _ rfl g (k * 3) xq.toArray rfl rfl HD.out.ti HD.out.aj HD.out.oj ?_
          refine hK.out _ _ ?_
          clear hK K
          (try simp only [Act.put])
          ((refine AnyT.last (i := 16) (by kernel_rfl) rfl (by kernel_rfl) (fun K hK => ?_)))
          go_simp
          refine hK.out _ _ ?_
          clear hK K
          (try simp only [Act.put, List.setIfInBounds_toArray, List.set_cons_zero, List.set_cons_succ])
          ((refine AnyT.last (i := 17) (by kernel_rfl) rfl (by kernel_rfl) (fun K hK => ?_)))
          rw [if_pos (by rfl)]
          refine wp_store_mid 32 _ _ rfl g (q * 3) xp.toArray rfl rfl HD.out.tj HD.out.ai HD.out.oi ?_
          refine hK.out _ _ ?_
          clear hK K
          (try simp only [Act.put])
          refine AnyT.done (by kernel_rfl) ?_ _
          have HX := Lib.hid HD.out.sw
          clear hHeld
          go_wp2_with fail
          go_roundw
          case rel => exact ⟨q, _, hqi, haq, by go_num, HX.out, HMs.out, by rw [(setCells_out _ _ _ _).2, (setCells_out _ _ _ _).2]; exact hsz6⟩
          case measure => simp [intOf]; omega
        · obtain rfl : k = i := by omega
          have i2 : ¬ (k : Int) < (k : Int) := by omega
          have HO := Lib.hid (show SymOk T w0 g c a b d w (.returned (.tuple #[])) wr from ⟨rfl, hsz2, e, hLk, by rw [HBM.out]; exact HM.out.perm, by rw [HBM.out]; exact HM.out.done swo_ltQ HS.out hai hkm HLO.out HHI.out⟩)
          clear hLk HM
          go_wp2_with fail
          refine bodyPost_ret (results_none rfl _ _ _) rfl ?_
          exact HO.out

end Go.Proofs.YtfibjcaidnofmaaGreatDoor

