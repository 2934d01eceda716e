/- TreeOk of both walked (printed by wip/gen_treeok.py). -/
import Derived.Test.YtfibjcaidnofmaaGreatDoorJoinEXAf
import Derived.Test.YtfibjcaidnofmaaGreatDoorJoinEXAo
namespace Go.Proofs.YtfibjcaidnofmaaGreatDoor
open Go.RowKit

def treAt (ns : List Nod) (j : Nat) : Bool := nodB (ns.getD j nodD) && (decide (j = 0) || befLoc (ns.getD (j - 1) nodD).name (ns.getD (j - 1) nodD).subs (ns.getD j nodD).name (ns.getD j nodD).subs)
def treTo (ns : List Nod) (k : Nat) : Bool := (List.range k).all (treAt ns)
def treB (ns : List Nod) : Bool := decide (ns.length ≤ 120) && treTo ns ns.length
theorem treTo_succ (ns : List Nod) (k : Nat) : treTo ns (k + 1) = (treTo ns k && treAt ns k) := by
  unfold treTo
  rw [List.range_succ, List.all_append, List.all_cons, List.all_nil, Bool.and_true]
theorem treTo_no (ns : List Nod) (k : Nat) (hk : k < ns.length) (h : treAt ns k = false) : treTo ns ns.length = false := by
  unfold treTo
  rw [List.all_eq_false]
  exact ⟨k, List.mem_range.2 hk, by rw [h]; simp⟩
theorem treTo_nod (ns : List Nod) (k j : Nat) (hj : j < k) (h : treTo ns k = true) : nodB (ns.getD j nodD) = true := by
  unfold treTo at h
  have := (List.all_eq_true.1 h) j (List.mem_range.2 hj)
  unfold treAt at this
  exact (Bool.and_eq_true_iff.1 this).1
theorem treAt_first (ns : List Nod) (k : Nat) (h0 : k = 0) : treAt ns k = nodB (ns.getD k nodD) := by
  unfold treAt
  rw [decide_eq_true h0, Bool.true_or, Bool.and_true]
theorem treAt_next (ns : List Nod) (k : Nat) (h0 : k ≠ 0) : treAt ns k = (nodB (ns.getD k nodD) && befLoc (ns.getD (k - 1) nodD).name (ns.getD (k - 1) nodD).subs (ns.getD k nodD).name (ns.getD k nodD).subs) := by
  unfold treAt
  rw [decide_eq_false h0, Bool.false_or]
theorem treAt_bad (ns : List Nod) (k : Nat) (h : nodB (ns.getD k nodD) = false) : treAt ns k = false := by
  unfold treAt
  rw [h, Bool.false_and]
theorem NodesR.block {b off b' off' : Nat} (h : (some (⟨b, off, none⟩ : Addr)) = some ⟨b', off', none⟩) : b = b' ∧ off = off' := by
  injection h with h; injection h with h1 h2; exact ⟨h1, h2⟩
theorem nodB_facts0 {x : Nod} (h : nodB x = true) : ∀ y ∈ x.subs, y.size ≤ 24 := fun y hy => by
  unfold nodB subsB at h
  simp only [Bool.and_eq_true, decide_eq_true_eq] at h
  have := (List.all_eq_true.1 h.1.2.2) y hy
  unfold subB at this
  simp only [Bool.and_eq_true, decide_eq_true_eq] at this
  exact this.2
theorem RowR.drew0 {α : Type} {enc : α → Value} {d : α} {w : World} {lo hi : Nat} {A : Option Addr} {n : Nat} {xs : List α} (h : RowR enc d w lo hi A n xs) : RowR enc d w.drew lo hi A n xs := h.drewN 1

set_option maxHeartbeats 8000000 in
set_option maxRecDepth 100000 in
theorem specTreeOk_any (ns : List Nod) (v : Value) (lo hi : Nat) (w : World) (hx : TreR w lo hi v ns) (hhi : hi ≤ w.heap.size) (hs : NodsSmall ns) :
    Calls Tryz.prog 8 #[v] w fun e w' => e = .returned (.bool (treB ns)) ∧ Below w.heap.size w w' := by
  obtain ⟨A, c, rfl, hA⟩ := hx
  have hbo := (Below.refl w.heap.size w).alloc (Nat.le_refl _) (.cells #[.slice A ns.length c] 26)
  have HBK := Lib.hid (Blk.new w 26 #[.slice A ns.length c])
  have hsz0 : (w.alloc (.cells #[.slice A ns.length c] 26)).heap.size = w.heap.size + 1 := by simp
  have HA := Lib.hid (hA.below hbo hhi)
  have HD := Lib.hid hbo
  have HS := Lib.hid hs.2
  have hn := hs.1
  clear hA hbo hs
  by_cases h120 : ns.length ≤ 120
  · have n1 : ¬ (120 : Int) < (ns.length : Int) := by omega
    have HRR := Lib.hid (show treB ns = treTo ns ns.length by unfold treB; rw [decide_eq_true h120, Bool.true_and])
    rw [HRR.out]
    clear h120
    go_enter Tryz.func8, Tryz.ntmps8
    go_upto_region 3 with fail
    have fb := HBK.out.cell
    have hlt0 : w.heap.size < (w.alloc (.cells #[.slice A ns.length c] 26)).heap.size := by omega
    generalize w.alloc (.cells #[.slice A ns.length c] 26) = w0 at *
    have HSZ0 := Lib.hid hsz0; clear hsz0
    go_wp2_with fail
    go_loopw [3] (fun i wr => ∃ k : Nat, k ≤ ns.length ∧ i = .int .i64 k ∧ treTo ns k = true ∧ Below w0.heap.size w0 wr) (fun i _ => ns.length - (intOf i).toNat)
    case atStart => exact ⟨0, Nat.zero_le _, rfl, rfl, Below.refl _ _⟩
    case round =>
      clear fb
      obtain ⟨k, hk, rfl, ht, hbr⟩ := hrel
      have HT := Lib.hid ht; clear ht
      have hszr := hbr.size
      have HBR := Lib.hid hbr
      have hAr := HA.out.below hbr (by omega)
      by_cases hlt : k < ns.length
      · have i1 : (k : Int) < (ns.length : Int) := by omega
        have i0 : (0 : Int) ≤ (k : Int) := by omega
        obtain ⟨b, off, rfl, hb1, hb2, L1, d1, e0, e1, e2, hL⟩ := hAr.at_ hlt
        have HX := Lib.hid (HS.out _ (nod_mem (d := nodD) hlt))
        have HN := Lib.hid (treTo_succ ns k)
        have HF := Lib.hid (treTo_no ns k hlt)
        have HA0 := Lib.hid (treAt_first ns k); have HA1 := Lib.hid (treAt_next ns k); have HA2 := Lib.hid (treAt_bad ns k)
        have f := (HBK.out.below hbr (by omega)).cell
        generalize ns.getD k nodD = X at *
        have HL := Lib.hid hL
        clear hL
        cases hX : nodB X
        · have HXF := Lib.hid hX; clear hX
          go_wp2_with fail
          have BX := Blk.new wr 32 #[.string X.name, .slice L1 X.subs.length d1, .string X.value]
          have hba := (Below.refl wr.heap.size wr).alloc (Nat.le_refl _) (.cells #[.string X.name, .slice L1 X.subs.length d1, .string X.value] 32)
          generalize wr.alloc (.cells #[.string X.name, .slice L1 X.subs.length d1, .string X.value] 32) = wa at *
          have hsa := hba.size
          have hga : wr.heap.size < wa.drew.heap.size := (show wr.heap.size < wa.heap.size from BX.lt)
          have hgw : w.heap.size < wa.drew.heap.size := (show w.heap.size < wa.heap.size by omega)
          have f := (HBK.out.below (hbr.trans (hba.mono hszr)) (by omega)).cell
          have fx := BX.cell
          have HBA := Lib.hid (hbr.trans (hba.mono hszr)).drew
          have HLa := Lib.hid (HL.out.below hba (by omega)).drew0
          refine wp_region_held_drew (S := (fun w' => (∀ i, w'.cell? ⟨w.heap.size, i, none⟩ = (#[.slice (some ⟨b, off, none⟩) ns.length c] : Array Value)[i]?) ∧ (∀ i, w'.cell? ⟨wr.heap.size, i, none⟩ = (#[.string X.name, .slice L1 X.subs.length d1, .string X.value] : Array Value)[i]?))) (by kernel_rfl) ⟨f, fx⟩ (fun hHeld => ?_)
          ((refine held_take 0 21 ?_ rfl (by kernel_rfl) (by kernel_rfl) (by kernel_rfl) rfl (fun _ _ _ _ h => h) rfl ?_ (by assumption) ?_); rotate_left; (intro w hSw; (try dsimp only at hSw); go_simp; (try (with_reducible rfl))); simp only [Act.put, List.setIfInBounds_toArray, List.set_cons_zero, List.set_cons_succ])
          ((refine wpAnyH_ready (rs := [1]) (by kernel_rfl) (by simp) ?_); (refine AllReadyH.cons rfl (fun K hK => ?_) AllReadyH.nil); go_simp)
          refine (l03Node_any X _ lo hi wa.drew ⟨L1, d1, rfl, HLa.out⟩ (show hi ≤ wa.heap.size by omega) HX.out).mono ?_
          rintro e5 w5 ⟨rfl, hb5⟩
          rw [HXF.out]
          go_simp
          refine hK.out _ _ ⟨fun i => (hb5.cell hgw).trans (f i), fun i => (hb5.cell hga).trans (fx i)⟩ (fun hHeld => ?_)
          clear hK K
          (try simp only [Act.put, List.setIfInBounds_toArray, List.set_cons_zero, List.set_cons_succ])
          ((refine held_take 2 23 ?_ rfl (by kernel_rfl) (by kernel_rfl) (by kernel_rfl) rfl (fun _ _ _ _ h => h) rfl ?_ (by assumption) ?_); rotate_left; (intro w hSw; (try dsimp only at hSw); go_simp; (try (with_reducible rfl))); simp only [Act.put, List.setIfInBounds_toArray, List.set_cons_zero, List.set_cons_succ])
          ((refine held_take 3 24 ?_ rfl (by kernel_rfl) (by kernel_rfl) (by kernel_rfl) rfl (fun _ _ _ _ h => h) rfl ?_ (by assumption) ?_); rotate_left; (intro w hSw; (try dsimp only at hSw); go_simp; (try (with_reducible rfl))); simp only [Act.put, List.setIfInBounds_toArray, List.set_cons_zero, List.set_cons_succ])
          ((refine held_skip 4 25 rfl (by kernel_rfl) (by kernel_rfl) (by kernel_rfl) rfl (fun _ _ _ _ h => h) rfl (by assumption) ?_); simp only [Act.put, List.setIfInBounds_toArray, List.set_cons_zero, List.set_cons_succ])
          ((refine held_skip 5 26 rfl (by kernel_rfl) (by kernel_rfl) (by kernel_rfl) rfl (fun _ _ _ _ h => h) rfl (by assumption) ?_); simp only [Act.put, List.setIfInBounds_toArray, List.set_cons_zero, List.set_cons_succ])
          ((refine held_skip 6 27 rfl (by kernel_rfl) (by kernel_rfl) (by kernel_rfl) rfl (fun _ _ _ _ h => h) rfl (by assumption) ?_); simp only [Act.put, List.setIfInBounds_toArray, List.set_cons_zero, List.set_cons_succ])
          ((refine held_skip 7 28 rfl (by kernel_rfl) (by kernel_rfl) (by kernel_rfl) rfl (fun _ _ _ _ h => h) rfl (by assumption) ?_); simp only [Act.put, List.setIfInBounds_toArray, List.set_cons_zero, List.set_cons_succ])
          ((refine held_skip 8 29 rfl (by kernel_rfl) (by kernel_rfl) (by kernel_rfl) rfl (fun _ _ _ _ h => h) rfl (by assumption) ?_); simp only [Act.put, List.setIfInBounds_toArray, List.set_cons_zero, List.set_cons_succ])
          ((refine held_skip 9 30 rfl (by kernel_rfl) (by kernel_rfl) (by kernel_rfl) rfl (fun _ _ _ _ h => h) rfl (by assumption) ?_); simp only [Act.put, List.setIfInBounds_toArray, List.set_cons_zero, List.set_cons_succ])
          ((refine held_skip 10 31 rfl (by kernel_rfl) (by kernel_rfl) (by kernel_rfl) rfl (fun _ _ _ _ h => h) rfl (by assumption) ?_); simp only [Act.put, List.setIfInBounds_toArray, List.set_cons_zero, List.set_cons_succ])
          ((refine held_skip 11 32 rfl (by kernel_rfl) (by kernel_rfl) (by kernel_rfl) rfl (fun _ _ _ _ h => h) rfl (by assumption) ?_); simp only [Act.put, List.setIfInBounds_toArray, List.set_cons_zero, List.set_cons_succ])
          ((refine held_skip 12 33 rfl (by kernel_rfl) (by kernel_rfl) (by kernel_rfl) rfl (fun _ _ _ _ h => h) rfl (by assumption) ?_); simp only [Act.put, List.setIfInBounds_toArray, List.set_cons_zero, List.set_cons_succ])
          ((refine held_skip 13 34 rfl (by kernel_rfl) (by kernel_rfl) (by kernel_rfl) rfl (fun _ _ _ _ h => h) rfl (by assumption) ?_); simp only [Act.put, List.setIfInBounds_toArray, List.set_cons_zero, List.set_cons_succ])
          ((refine held_skip 14 35 rfl (by kernel_rfl) (by kernel_rfl) (by kernel_rfl) rfl (fun _ _ _ _ h => h) rfl (by assumption) ?_); simp only [Act.put, List.setIfInBounds_toArray, List.set_cons_zero, List.set_cons_succ])
          ((refine held_skip 15 36 rfl (by kernel_rfl) (by kernel_rfl) (by kernel_rfl) rfl (fun _ _ _ _ h => h) rfl (by assumption) ?_); simp only [Act.put, List.setIfInBounds_toArray, List.set_cons_zero, List.set_cons_succ])
          ((refine held_skip 16 37 rfl (by kernel_rfl) (by kernel_rfl) (by kernel_rfl) rfl (fun _ _ _ _ h => h) rfl (by assumption) ?_); simp only [Act.put, List.setIfInBounds_toArray, List.set_cons_zero, List.set_cons_succ])
          ((refine held_skip 17 38 rfl (by kernel_rfl) (by kernel_rfl) (by kernel_rfl) rfl (fun _ _ _ _ h => h) rfl (by assumption) ?_); simp only [Act.put, List.setIfInBounds_toArray, List.set_cons_zero, List.set_cons_succ])
          ((refine held_skip 18 39 rfl (by kernel_rfl) (by kernel_rfl) (by kernel_rfl) rfl (fun _ _ _ _ h => h) rfl (by assumption) ?_); simp only [Act.put, List.setIfInBounds_toArray, List.set_cons_zero, List.set_cons_succ])
          ((refine held_skip 19 40 rfl (by kernel_rfl) (by kernel_rfl) (by kernel_rfl) rfl (fun _ _ _ _ h => h) rfl (by assumption) ?_); simp only [Act.put, List.setIfInBounds_toArray, List.set_cons_zero, List.set_cons_succ])
          ((refine held_skip 20 41 rfl (by kernel_rfl) (by kernel_rfl) (by kernel_rfl) rfl (fun _ _ _ _ h => h) rfl (by assumption) ?_); simp only [Act.put, List.setIfInBounds_toArray, List.set_cons_zero, List.set_cons_succ])
          ((refine held_skip 21 42 rfl (by kernel_rfl) (by kernel_rfl) (by kernel_rfl) rfl (fun _ _ _ _ h => h) rfl (by assumption) ?_); simp only [Act.put, List.setIfInBounds_toArray, List.set_cons_zero, List.set_cons_succ])
          ((refine held_skip 22 43 rfl (by kernel_rfl) (by kernel_rfl) (by kernel_rfl) rfl (fun _ _ _ _ h => h) rfl (by assumption) ?_); simp only [Act.put, List.setIfInBounds_toArray, List.set_cons_zero, List.set_cons_succ])
          ((refine held_skip 23 44 rfl (by kernel_rfl) (by kernel_rfl) (by kernel_rfl) rfl (fun _ _ _ _ h => h) rfl (by assumption) ?_); simp only [Act.put, List.setIfInBounds_toArray, List.set_cons_zero, List.set_cons_succ])
          ((refine held_skip 24 45 rfl (by kernel_rfl) (by kernel_rfl) (by kernel_rfl) rfl (fun _ _ _ _ h => h) rfl (by assumption) ?_); simp only [Act.put, List.setIfInBounds_toArray, List.set_cons_zero, List.set_cons_succ])
          ((refine held_skip 25 46 rfl (by kernel_rfl) (by kernel_rfl) (by kernel_rfl) rfl (fun _ _ _ _ h => h) rfl (by assumption) ?_); simp only [Act.put, List.setIfInBounds_toArray, List.set_cons_zero, List.set_cons_succ])
          ((refine held_skip 26 47 rfl (by kernel_rfl) (by kernel_rfl) (by kernel_rfl) rfl (fun _ _ _ _ h => h) rfl (by assumption) ?_); simp only [Act.put, List.setIfInBounds_toArray, List.set_cons_zero, List.set_cons_succ])
          ((refine held_skip 27 48 rfl (by kernel_rfl) (by kernel_rfl) (by kernel_rfl) rfl (fun _ _ _ _ h => h) rfl (by assumption) ?_); simp only [Act.put, List.setIfInBounds_toArray, List.set_cons_zero, List.set_cons_succ])
          ((refine held_take 28 49 ?_ rfl (by kernel_rfl) (by kernel_rfl) (by kernel_rfl) rfl (fun _ _ _ _ h => h) rfl ?_ (by assumption) ?_); rotate_left; (intro w hSw; (try dsimp only at hSw); go_simp; (try (with_reducible rfl))); simp only [Act.put, List.setIfInBounds_toArray, List.set_cons_zero, List.set_cons_succ])
          refine wpAnyH_done (by kernel_rfl) ?_ _
          have HB5 := Lib.hid (HBA.out.trans (hb5.mono HBA.out.size)); clear hb5
          go_wp2_with fail
          go_ret
          exact ⟨by rw [HF.out (HA2.out HXF.out)]; rfl, HD.out.trans (HB5.out.mono HD.out.size)⟩
        · have HXF := Lib.hid hX; clear hX
          by_cases hk0 : k = 0
          · have HK0 := Lib.hid hk0
            have nk : decide ((0 : Int) < (k : Int)) = false := by rw [decide_eq_false_iff_not]; omega
            have nk' : decide (0 < k) = false := by rw [decide_eq_false_iff_not]; omega
            clear hk0
            go_wp2_with fail
            have BX := Blk.new wr 32 #[.string X.name, .slice L1 X.subs.length d1, .string X.value]
            have hba := (Below.refl wr.heap.size wr).alloc (Nat.le_refl _) (.cells #[.string X.name, .slice L1 X.subs.length d1, .string X.value] 32)
            generalize wr.alloc (.cells #[.string X.name, .slice L1 X.subs.length d1, .string X.value] 32) = wa at *
            have hsa := hba.size
            have hga : wr.heap.size < wa.drew.heap.size := (show wr.heap.size < wa.heap.size from BX.lt)
            have hgw : w.heap.size < wa.drew.heap.size := (show w.heap.size < wa.heap.size by omega)
            have f := (HBK.out.below (hbr.trans (hba.mono hszr)) (by omega)).cell
            have fx := BX.cell
            have HBA := Lib.hid (hbr.trans (hba.mono hszr)).drew
            have HLa := Lib.hid (HL.out.below hba (by omega)).drew0
            refine wp_region_held_drew (S := (fun w' => (∀ i, w'.cell? ⟨w.heap.size, i, none⟩ = (#[.slice (some ⟨b, off, none⟩) ns.length c] : Array Value)[i]?) ∧ (∀ i, w'.cell? ⟨wr.heap.size, i, none⟩ = (#[.string X.name, .slice L1 X.subs.length d1, .string X.value] : Array Value)[i]?))) (by kernel_rfl) ⟨f, fx⟩ (fun hHeld => ?_)
            ((refine held_take 0 21 ?_ rfl (by kernel_rfl) (by kernel_rfl) (by kernel_rfl) rfl (fun _ _ _ _ h => h) rfl ?_ (by assumption) ?_); rotate_left; (intro w hSw; (try dsimp only at hSw); go_simp; (try (with_reducible rfl))); simp only [Act.put, List.setIfInBounds_toArray, List.set_cons_zero, List.set_cons_succ])
            ((refine wpAnyH_ready (rs := [1]) (by kernel_rfl) (by simp) ?_); (refine AllReadyH.cons rfl (fun K hK => ?_) AllReadyH.nil); go_simp)
            refine (l03Node_any X _ lo hi wa.drew ⟨L1, d1, rfl, HLa.out⟩ (show hi ≤ wa.heap.size by omega) HX.out).mono ?_
            rintro e5 w5 ⟨rfl, hb5⟩
            rw [HXF.out]
            go_simp
            refine hK.out _ _ ⟨fun i => (hb5.cell hgw).trans (f i), fun i => (hb5.cell hga).trans (fx i)⟩ (fun hHeld => ?_)
            clear hK K
            (try simp only [Act.put, List.setIfInBounds_toArray, List.set_cons_zero, List.set_cons_succ])
            ((refine held_take 2 23 ?_ rfl (by kernel_rfl) (by kernel_rfl) (by kernel_rfl) rfl (fun _ _ _ _ h => h) rfl ?_ (by assumption) ?_); rotate_left; (intro w hSw; (try dsimp only at hSw); go_simp; (try (with_reducible rfl))); simp only [Act.put, List.setIfInBounds_toArray, List.set_cons_zero, List.set_cons_succ])
            ((refine held_take 3 24 ?_ rfl (by kernel_rfl) (by kernel_rfl) (by kernel_rfl) rfl (fun _ _ _ _ h => h) rfl ?_ (by assumption) ?_); rotate_left; (intro w hSw; (try dsimp only at hSw); go_simp; (try (with_reducible rfl))); simp only [Act.put, List.setIfInBounds_toArray, List.set_cons_zero, List.set_cons_succ])
            ((refine held_take 4 25 ?_ rfl (by kernel_rfl) (by kernel_rfl) (by kernel_rfl) rfl (fun _ _ _ _ h => h) rfl ?_ (by assumption) ?_); rotate_left; (intro w hSw; (try dsimp only at hSw); go_simp; (try (with_reducible rfl))); simp only [Act.put, List.setIfInBounds_toArray, List.set_cons_zero, List.set_cons_succ])
            ((refine held_take 5 26 ?_ rfl (by kernel_rfl) (by kernel_rfl) (by kernel_rfl) rfl (fun _ _ _ _ h => h) rfl ?_ (by assumption) ?_); rotate_left; (intro w hSw; (try dsimp only at hSw); go_simp; (try (with_reducible rfl))); simp only [Act.put, List.setIfInBounds_toArray, List.set_cons_zero, List.set_cons_succ])
            ((refine held_take 6 27 ?_ rfl (by kernel_rfl) (by kernel_rfl) (by kernel_rfl) rfl (fun _ _ _ _ h => h) rfl ?_ (by assumption) ?_); rotate_left; (intro w hSw; (try dsimp only at hSw); go_simp; (try (with_reducible rfl))); simp only [Act.put, List.setIfInBounds_toArray, List.set_cons_zero, List.set_cons_succ])
            ((refine held_skip 7 28 rfl (by kernel_rfl) (by kernel_rfl) (by kernel_rfl) rfl (fun _ _ _ _ h => h) rfl (by assumption) ?_); simp only [Act.put, List.setIfInBounds_toArray, List.set_cons_zero, List.set_cons_succ])
            ((refine held_skip 8 29 rfl (by kernel_rfl) (by kernel_rfl) (by kernel_rfl) rfl (fun _ _ _ _ h => h) rfl (by assumption) ?_); simp only [Act.put, List.setIfInBounds_toArray, List.set_cons_zero, List.set_cons_succ])
            ((refine held_skip 9 30 rfl (by kernel_rfl) (by kernel_rfl) (by kernel_rfl) rfl (fun _ _ _ _ h => h) rfl (by assumption) ?_); simp only [Act.put, List.setIfInBounds_toArray, List.set_cons_zero, List.set_cons_succ])
            ((refine held_skip 10 31 rfl (by kernel_rfl) (by kernel_rfl) (by kernel_rfl) rfl (fun _ _ _ _ h => h) rfl (by assumption) ?_); simp only [Act.put, List.setIfInBounds_toArray, List.set_cons_zero, List.set_cons_succ])
            ((refine held_skip 11 32 rfl (by kernel_rfl) (by kernel_rfl) (by kernel_rfl) rfl (fun _ _ _ _ h => h) rfl (by assumption) ?_); simp only [Act.put, List.setIfInBounds_toArray, List.set_cons_zero, List.set_cons_succ])
            ((refine held_skip 12 33 rfl (by kernel_rfl) (by kernel_rfl) (by kernel_rfl) rfl (fun _ _ _ _ h => h) rfl (by assumption) ?_); simp only [Act.put, List.setIfInBounds_toArray, List.set_cons_zero, List.set_cons_succ])
            ((refine held_skip 13 34 rfl (by kernel_rfl) (by kernel_rfl) (by kernel_rfl) rfl (fun _ _ _ _ h => h) rfl (by assumption) ?_); simp only [Act.put, List.setIfInBounds_toArray, List.set_cons_zero, List.set_cons_succ])
            ((refine held_skip 14 35 rfl (by kernel_rfl) (by kernel_rfl) (by kernel_rfl) rfl (fun _ _ _ _ h => h) rfl (by assumption) ?_); simp only [Act.put, List.setIfInBounds_toArray, List.set_cons_zero, List.set_cons_succ])
            ((refine held_skip 15 36 rfl (by kernel_rfl) (by kernel_rfl) (by kernel_rfl) rfl (fun _ _ _ _ h => h) rfl (by assumption) ?_); simp only [Act.put, List.setIfInBounds_toArray, List.set_cons_zero, List.set_cons_succ])
            ((refine held_skip 16 37 rfl (by kernel_rfl) (by kernel_rfl) (by kernel_rfl) rfl (fun _ _ _ _ h => h) rfl (by assumption) ?_); simp only [Act.put, List.setIfInBounds_toArray, List.set_cons_zero, List.set_cons_succ])
            ((refine held_skip 17 38 rfl (by kernel_rfl) (by kernel_rfl) (by kernel_rfl) rfl (fun _ _ _ _ h => h) rfl (by assumption) ?_); simp only [Act.put, List.setIfInBounds_toArray, List.set_cons_zero, List.set_cons_succ])
            ((refine held_skip 18 39 rfl (by kernel_rfl) (by kernel_rfl) (by kernel_rfl) rfl (fun _ _ _ _ h => h) rfl (by assumption) ?_); simp only [Act.put, List.setIfInBounds_toArray, List.set_cons_zero, List.set_cons_succ])
            ((refine held_skip 19 40 rfl (by kernel_rfl) (by kernel_rfl) (by kernel_rfl) rfl (fun _ _ _ _ h => h) rfl (by assumption) ?_); simp only [Act.put, List.setIfInBounds_toArray, List.set_cons_zero, List.set_cons_succ])
            ((refine held_skip 20 41 rfl (by kernel_rfl) (by kernel_rfl) (by kernel_rfl) rfl (fun _ _ _ _ h => h) rfl (by assumption) ?_); simp only [Act.put, List.setIfInBounds_toArray, List.set_cons_zero, List.set_cons_succ])
            ((refine held_skip 21 42 rfl (by kernel_rfl) (by kernel_rfl) (by kernel_rfl) rfl (fun _ _ _ _ h => h) rfl (by assumption) ?_); simp only [Act.put, List.setIfInBounds_toArray, List.set_cons_zero, List.set_cons_succ])
            ((refine held_skip 22 43 rfl (by kernel_rfl) (by kernel_rfl) (by kernel_rfl) rfl (fun _ _ _ _ h => h) rfl (by assumption) ?_); simp only [Act.put, List.setIfInBounds_toArray, List.set_cons_zero, List.set_cons_succ])
            ((refine held_skip 23 44 rfl (by kernel_rfl) (by kernel_rfl) (by kernel_rfl) rfl (fun _ _ _ _ h => h) rfl (by assumption) ?_); simp only [Act.put, List.setIfInBounds_toArray, List.set_cons_zero, List.set_cons_succ])
            ((refine held_skip 24 45 rfl (by kernel_rfl) (by kernel_rfl) (by kernel_rfl) rfl (fun _ _ _ _ h => h) rfl (by assumption) ?_); simp only [Act.put, List.setIfInBounds_toArray, List.set_cons_zero, List.set_cons_succ])
            ((refine held_skip 25 46 rfl (by kernel_rfl) (by kernel_rfl) (by kernel_rfl) rfl (fun _ _ _ _ h => h) rfl (by assumption) ?_); simp only [Act.put, List.setIfInBounds_toArray, List.set_cons_zero, List.set_cons_succ])
            ((refine held_skip 26 47 rfl (by kernel_rfl) (by kernel_rfl) (by kernel_rfl) rfl (fun _ _ _ _ h => h) rfl (by assumption) ?_); simp only [Act.put, List.setIfInBounds_toArray, List.set_cons_zero, List.set_cons_succ])
            ((refine held_take 27 48 ?_ rfl (by kernel_rfl) (by kernel_rfl) (by kernel_rfl) rfl (fun _ _ _ _ h => h) rfl ?_ (by assumption) ?_); rotate_left; (intro w hSw; (try dsimp only at hSw); go_simp; (try (with_reducible rfl))); simp only [Act.put, List.setIfInBounds_toArray, List.set_cons_zero, List.set_cons_succ])
            ((refine held_take 28 49 ?_ rfl (by kernel_rfl) (by kernel_rfl) (by kernel_rfl) rfl (fun _ _ _ _ h => h) rfl ?_ (by assumption) ?_); rotate_left; (intro w hSw; (try dsimp only at hSw); go_simp; (try (with_reducible rfl))); simp only [Act.put, List.setIfInBounds_toArray, List.set_cons_zero, List.set_cons_succ])
            refine wpAnyH_done (by kernel_rfl) ?_ _
            have HB5 := Lib.hid (HBA.out.trans (hb5.mono HBA.out.size)); clear hb5
            go_wp2_with fail
            go_roundw
            case rel => exact ⟨k + 1, by omega, by go_num, by rw [HN.out, HT.out, HA0.out HK0.out, HXF.out]; rfl, HB5.out⟩
            case measure => simp [intOf]; omega
          · obtain ⟨b', off', hbo, _, _, L2, d2, y0, y1, y2, hL2⟩ := hAr.at_ (show k - 1 < ns.length by omega)
            obtain ⟨rfl, rfl⟩ := NodesR.block hbo
            have HY := Lib.hid (HS.out _ (nod_mem (d := nodD) (show k - 1 < ns.length by omega)))
            have HYF := Lib.hid (treTo_nod ns k (k - 1) (by omega) HT.out)
            have HL2 := Lib.hid hL2
            have HAN := Lib.hid (HA1.out hk0)
            clear hL2 hbo y2
            generalize ns.getD (k - 1) nodD = Y at *
            have nk : decide ((0 : Int) < (k : Int)) = true := by rw [decide_eq_true_iff]; omega
            have nk' : decide (0 < k) = true := by rw [decide_eq_true_iff]; omega
            have j2 : (0 : Int) ≤ (k : Int) - 1 := by omega
            have j2' : 1 ≤ k := by omega
            have j5 : (1 : Int) ≤ (k : Int) := by omega
            have j3 : (k : Int) - 1 < (ns.length : Int) := by omega
            have j1 : IntKind.i64.wrap ((k : Int) - 1) = (k : Int) - 1 := IntWalk.i64_in _ (by omega)
            have j4 : ((k : Int) - 1).toNat = k - 1 := by omega
            have hbw0 : b < wr.heap.size := by omega
            clear hk0
            rw [HXF.out, Bool.true_and] at HAN
            have HLC := Lib.hid (fun W (h : Below wr.heap.size wr W) => l03Less_any Y.name X.name L2 L1 Y.subs.length X.subs.length d2 d1 lo hi lo hi Y.subs X.subs W (HL2.out.below h (by omega)) (HL.out.below h (by omega)) (by have := h.size; omega) (by have := h.size; omega) HY.out.2.2.1 HX.out.2.2.1 HY.out.2.2.2 HX.out.2.2.2)
            cases hc : befLoc Y.name Y.subs X.name X.subs <;> rw [hc] at HLC HAN
            all_goals
              go_wp2_with fail
              have BX := Blk.new wr 32 #[.string X.name, .slice L1 X.subs.length d1, .string X.value]
              have hba := (Below.refl wr.heap.size wr).alloc (Nat.le_refl _) (.cells #[.string X.name, .slice L1 X.subs.length d1, .string X.value] 32)
              generalize wr.alloc (.cells #[.string X.name, .slice L1 X.subs.length d1, .string X.value] 32) = wa at *
              have hsa := hba.size
              have hga : wr.heap.size < wa.drew.heap.size := (show wr.heap.size < wa.heap.size from BX.lt)
              have hgw : w.heap.size < wa.drew.heap.size := (show w.heap.size < wa.heap.size by omega)
              have f := (HBK.out.below (hbr.trans (hba.mono hszr)) (by omega)).cell
              have fx := BX.cell
              have HBA := Lib.hid (hbr.trans (hba.mono hszr)).drew
              have HLa := Lib.hid (HL.out.below hba (by omega)).drew0
              have y0a := (hba.cell (p := ⟨b, off + (k - 1) * 3, none⟩) hbw0).trans y0
              have y1a := (hba.cell (p := ⟨b, off + (k - 1) * 3 + 1, none⟩) hbw0).trans y1
              have hbwa : b < wa.drew.heap.size := (show b < wa.heap.size by omega)
              refine wp_region_held_drew (S := (fun w' => (∀ i, w'.cell? ⟨w.heap.size, i, none⟩ = (#[.slice (some ⟨b, off, none⟩) ns.length c] : Array Value)[i]?) ∧ (∀ i, w'.cell? ⟨wr.heap.size, i, none⟩ = (#[.string X.name, .slice L1 X.subs.length d1, .string X.value] : Array Value)[i]?) ∧ w'.cell? ⟨b, off + (k - 1) * 3, none⟩ = some (.string Y.name) ∧ w'.cell? ⟨b, off + (k - 1) * 3 + 1, none⟩ = some (.slice L2 Y.subs.length d2))) (by kernel_rfl) ⟨f, fx, y0a, y1a⟩ (fun hHeld => ?_)
              ((refine held_take 0 21 ?_ rfl (by kernel_rfl) (by kernel_rfl) (by kernel_rfl) rfl (fun _ _ _ _ h => h) rfl ?_ (by assumption) ?_); rotate_left; (intro w hSw; (try dsimp only at hSw); go_simp; (try (with_reducible rfl))); simp only [Act.put, List.setIfInBounds_toArray, List.set_cons_zero, List.set_cons_succ])
              ((refine wpAnyH_ready (rs := [1]) (by kernel_rfl) (by simp) ?_); (refine AllReadyH.cons rfl (fun K hK => ?_) AllReadyH.nil); go_simp)
              refine (l03Node_any X _ lo hi wa.drew ⟨L1, d1, rfl, HLa.out⟩ (show hi ≤ wa.heap.size by omega) HX.out).mono ?_
              rintro e5 w5 ⟨rfl, hb5⟩
              rw [HXF.out]
              go_simp
              refine hK.out _ _ ⟨fun i => (hb5.cell hgw).trans (f i), fun i => (hb5.cell hga).trans (fx i), (hb5.cell hbwa).trans y0a, (hb5.cell hbwa).trans y1a⟩ (fun hHeld => ?_)
              clear hK K
              (try simp only [Act.put, List.setIfInBounds_toArray, List.set_cons_zero, List.set_cons_succ])
              ((refine held_take 2 23 ?_ rfl (by kernel_rfl) (by kernel_rfl) (by kernel_rfl) rfl (fun _ _ _ _ h => h) rfl ?_ (by assumption) ?_); rotate_left; (intro w hSw; (try dsimp only at hSw); go_simp; (try (with_reducible rfl))); simp only [Act.put, List.setIfInBounds_toArray, List.set_cons_zero, List.set_cons_succ])
              ((refine held_take 3 24 ?_ rfl (by kernel_rfl) (by kernel_rfl) (by kernel_rfl) rfl (fun _ _ _ _ h => h) rfl ?_ (by assumption) ?_); rotate_left; (intro w hSw; (try dsimp only at hSw); go_simp; (try (with_reducible rfl))); simp only [Act.put, List.setIfInBounds_toArray, List.set_cons_zero, List.set_cons_succ])
              ((refine held_take 4 25 ?_ rfl (by kernel_rfl) (by kernel_rfl) (by kernel_rfl) rfl (fun _ _ _ _ h => h) rfl ?_ (by assumption) ?_); rotate_left; (intro w hSw; (try dsimp only at hSw); go_simp; (try (with_reducible rfl))); simp only [Act.put, List.setIfInBounds_toArray, List.set_cons_zero, List.set_cons_succ])
              ((refine held_take 5 26 ?_ rfl (by kernel_rfl) (by kernel_rfl) (by kernel_rfl) rfl (fun _ _ _ _ h => h) rfl ?_ (by assumption) ?_); rotate_left; (intro w hSw; (try dsimp only at hSw); go_simp; (try (with_reducible rfl))); simp only [Act.put, List.setIfInBounds_toArray, List.set_cons_zero, List.set_cons_succ])
              ((refine held_take 6 27 ?_ rfl (by kernel_rfl) (by kernel_rfl) (by kernel_rfl) rfl (fun _ _ _ _ h => h) rfl ?_ (by assumption) ?_); rotate_left; (intro w hSw; (try dsimp only at hSw); go_simp; (try (with_reducible rfl))); simp only [Act.put, List.setIfInBounds_toArray, List.set_cons_zero, List.set_cons_succ])
              ((refine held_take 7 28 ?_ rfl (by kernel_rfl) (by kernel_rfl) (by kernel_rfl) rfl (fun _ _ _ _ h => h) rfl ?_ (by assumption) ?_); rotate_left; (intro w hSw; (try dsimp only at hSw); go_simp; (try (with_reducible rfl))); simp only [Act.put, List.setIfInBounds_toArray, List.set_cons_zero, List.set_cons_succ])
              ((refine held_take 8 29 ?_ rfl (by kernel_rfl) (by kernel_rfl) (by kernel_rfl) rfl (fun _ _ _ _ h => h) rfl ?_ (by assumption) ?_); rotate_left; (intro w hSw; (try dsimp only at hSw); go_simp; (try (with_reducible rfl))); simp only [Act.put, List.setIfInBounds_toArray, List.set_cons_zero, List.set_cons_succ])
              ((refine held_take 9 30 ?_ rfl (by kernel_rfl) (by kernel_rfl) (by kernel_rfl) rfl (fun _ _ _ _ h => h) rfl ?_ (by assumption) ?_); rotate_left; (intro w hSw; (try dsimp only at hSw); go_simp; (try (with_reducible rfl))); simp only [Act.put, List.setIfInBounds_toArray, List.set_cons_zero, List.set_cons_succ])
              ((refine held_take 10 31 ?_ rfl (by kernel_rfl) (by kernel_rfl) (by kernel_rfl) rfl (fun _ _ _ _ h => h) rfl ?_ (by assumption) ?_); rotate_left; (intro w hSw; (try dsimp only at hSw); go_simp; (try (with_reducible rfl))); simp only [Act.put, List.setIfInBounds_toArray, List.set_cons_zero, List.set_cons_succ])
              ((refine held_take 11 32 ?_ rfl (by kernel_rfl) (by kernel_rfl) (by kernel_rfl) rfl (fun _ _ _ _ h => h) rfl ?_ (by assumption) ?_); rotate_left; (intro w hSw; (try dsimp only at hSw); go_simp; (try (with_reducible rfl))); simp only [Act.put, List.setIfInBounds_toArray, List.set_cons_zero, List.set_cons_succ])
              ((refine held_take 12 33 ?_ rfl (by kernel_rfl) (by kernel_rfl) (by kernel_rfl) rfl (fun _ _ _ _ h => h) rfl ?_ (by assumption) ?_); rotate_left; (intro w hSw; (try dsimp only at hSw); go_simp; (try (with_reducible rfl))); simp only [Act.put, List.setIfInBounds_toArray, List.set_cons_zero, List.set_cons_succ])
              ((refine held_take 13 34 ?_ rfl (by kernel_rfl) (by kernel_rfl) (by kernel_rfl) rfl (fun _ _ _ _ h => h) rfl ?_ (by assumption) ?_); rotate_left; (intro w hSw; (try dsimp only at hSw); go_simp; (try (with_reducible rfl))); simp only [Act.put, List.setIfInBounds_toArray, List.set_cons_zero, List.set_cons_succ])
              ((refine held_take 14 35 ?_ rfl (by kernel_rfl) (by kernel_rfl) (by kernel_rfl) rfl (fun _ _ _ _ h => h) rfl ?_ (by assumption) ?_); rotate_left; (intro w hSw; (try dsimp only at hSw); go_simp; (try (with_reducible rfl))); simp only [Act.put, List.setIfInBounds_toArray, List.set_cons_zero, List.set_cons_succ])
              ((refine held_take 15 36 ?_ rfl (by kernel_rfl) (by kernel_rfl) (by kernel_rfl) rfl (fun _ _ _ _ h => h) rfl ?_ (by assumption) ?_); rotate_left; (intro w hSw; (try dsimp only at hSw); go_simp; (try (with_reducible rfl))); simp only [Act.put, List.setIfInBounds_toArray, List.set_cons_zero, List.set_cons_succ])
              ((refine held_take 16 37 ?_ rfl (by kernel_rfl) (by kernel_rfl) (by kernel_rfl) rfl (fun _ _ _ _ h => h) rfl ?_ (by assumption) ?_); rotate_left; (intro w hSw; (try dsimp only at hSw); go_simp; (try (with_reducible rfl))); simp only [Act.put, List.setIfInBounds_toArray, List.set_cons_zero, List.set_cons_succ])
              ((refine held_take 17 38 ?_ rfl (by kernel_rfl) (by kernel_rfl) (by kernel_rfl) rfl (fun _ _ _ _ h => h) rfl ?_ (by assumption) ?_); rotate_left; (intro w hSw; (try dsimp only at hSw); go_simp; (try (with_reducible rfl))); simp only [Act.put, List.setIfInBounds_toArray, List.set_cons_zero, List.set_cons_succ])
              ((refine held_take 18 39 ?_ rfl (by kernel_rfl) (by kernel_rfl) (by kernel_rfl) rfl (fun _ _ _ _ h => h) rfl ?_ (by assumption) ?_); rotate_left; (intro w hSw; (try dsimp only at hSw); go_simp; (try (with_reducible rfl))); simp only [Act.put, List.setIfInBounds_toArray, List.set_cons_zero, List.set_cons_succ])
              ((refine held_take 19 40 ?_ rfl (by kernel_rfl) (by kernel_rfl) (by kernel_rfl) rfl (fun _ _ _ _ h => h) rfl ?_ (by assumption) ?_); rotate_left; (intro w hSw; (try dsimp only at hSw); go_simp; (try (with_reducible rfl))); simp only [Act.put, List.setIfInBounds_toArray, List.set_cons_zero, List.set_cons_succ])
              ((refine held_take 20 41 ?_ rfl (by kernel_rfl) (by kernel_rfl) (by kernel_rfl) rfl (fun _ _ _ _ h => h) rfl ?_ (by assumption) ?_); rotate_left; (intro w hSw; (try dsimp only at hSw); go_simp; (try (with_reducible rfl))); simp only [Act.put, List.setIfInBounds_toArray, List.set_cons_zero, List.set_cons_succ])
              ((refine held_take 21 42 ?_ rfl (by kernel_rfl) (by kernel_rfl) (by kernel_rfl) rfl (fun _ _ _ _ h => h) rfl ?_ (by assumption) ?_); rotate_left; (intro w hSw; (try dsimp only at hSw); go_simp; (try (with_reducible rfl))); simp only [Act.put, List.setIfInBounds_toArray, List.set_cons_zero, List.set_cons_succ])
              ((refine held_take 22 43 ?_ rfl (by kernel_rfl) (by kernel_rfl) (by kernel_rfl) rfl (fun _ _ _ _ h => h) rfl ?_ (by assumption) ?_); rotate_left; (intro w hSw; (try dsimp only at hSw); go_simp; (try (with_reducible rfl))); simp only [Act.put, List.setIfInBounds_toArray, List.set_cons_zero, List.set_cons_succ])
              ((refine held_take 23 44 ?_ rfl (by kernel_rfl) (by kernel_rfl) (by kernel_rfl) rfl (fun _ _ _ _ h => h) rfl ?_ (by assumption) ?_); rotate_left; (intro w hSw; (try dsimp only at hSw); go_simp; (try (with_reducible rfl))); simp only [Act.put, List.setIfInBounds_toArray, List.set_cons_zero, List.set_cons_succ])
              ((refine held_take 24 45 ?_ rfl (by kernel_rfl) (by kernel_rfl) (by kernel_rfl) rfl (fun _ _ _ _ h => h) rfl ?_ (by assumption) ?_); rotate_left; (intro w hSw; (try dsimp only at hSw); go_simp; (try (with_reducible rfl))); simp only [Act.put, List.setIfInBounds_toArray, List.set_cons_zero, List.set_cons_succ])
              ((refine wpAnyH_ready (rs := [25]) (by kernel_rfl) (by simp) ?_); (refine AllReadyH.cons rfl (fun K hK => ?_) AllReadyH.nil); go_simp)
              refine (HLC.out _ (hba.drew.trans (hb5.mono (show wr.heap.size ≤ wa.heap.size from hsa)))).mono ?_
              rintro e6 w6 ⟨rfl, hb6⟩
              go_simp
              refine hK.out _ _ ⟨fun i => (hb6.cell (Nat.lt_of_lt_of_le hgw hb5.size)).trans (hHeld.1 i), fun i => (hb6.cell (Nat.lt_of_lt_of_le hga hb5.size)).trans (hHeld.2.1 i), (hb6.cell (Nat.lt_of_lt_of_le hbwa hb5.size)).trans hHeld.2.2.1, (hb6.cell (Nat.lt_of_lt_of_le hbwa hb5.size)).trans hHeld.2.2.2⟩ (fun hHeld => ?_)
              clear hK K
              (try simp only [Act.put, List.setIfInBounds_toArray, List.set_cons_zero, List.set_cons_succ])
              ((refine held_take 26 47 ?_ rfl (by kernel_rfl) (by kernel_rfl) (by kernel_rfl) rfl (fun _ _ _ _ h => h) rfl ?_ (by assumption) ?_); rotate_left; (intro w hSw; (try dsimp only at hSw); go_simp; (try (with_reducible rfl))); simp only [Act.put, List.setIfInBounds_toArray, List.set_cons_zero, List.set_cons_succ])
              ((refine held_take 27 48 ?_ rfl (by kernel_rfl) (by kernel_rfl) (by kernel_rfl) rfl (fun _ _ _ _ h => h) rfl ?_ (by assumption) ?_); rotate_left; (intro w hSw; (try dsimp only at hSw); go_simp; (try (with_reducible rfl))); simp only [Act.put, List.setIfInBounds_toArray, List.set_cons_zero, List.set_cons_succ])
              ((refine held_take 28 49 ?_ rfl (by kernel_rfl) (by kernel_rfl) (by kernel_rfl) rfl (fun _ _ _ _ h => h) rfl ?_ (by assumption) ?_); rotate_left; (intro w hSw; (try dsimp only at hSw); go_simp; (try (with_reducible rfl))); simp only [Act.put, List.setIfInBounds_toArray, List.set_cons_zero, List.set_cons_succ])
              refine wpAnyH_done (by kernel_rfl) ?_ _
              have HB5 := Lib.hid (HBA.out.trans ((hb5.trans (hb6.mono hb5.size)).mono HBA.out.size)); clear hb5 hb6 hHeld
            · go_wp2_with fail
              go_ret
              exact ⟨by rw [HF.out HAN.out]; rfl, HD.out.trans (HB5.out.mono HD.out.size)⟩
            · go_wp2_with fail
              go_roundw
              case rel => exact ⟨k + 1, by omega, by go_num, by rw [HN.out, HT.out, HAN.out]; rfl, HB5.out⟩
              case measure => simp [intOf]; omega
      · have i1 : ¬ (k : Int) < (ns.length : Int) := by omega
        obtain rfl : k = ns.length := by omega
        have f := (HBK.out.below hbr (by omega)).cell
        go_wp2_with fail
        go_ret
        exact ⟨by rw [HT.out]; rfl, HD.out.trans (HBR.out.mono HD.out.size)⟩
  · have n1 : (120 : Int) < (ns.length : Int) := by omega
    have HRR := Lib.hid (show treB ns = false by unfold treB; rw [decide_eq_false h120, Bool.false_and])
    rw [HRR.out]
    clear h120
    have fb := HBK.out.cell
    go_enter Tryz.func8, Tryz.ntmps8
    go_wp2_with fail
    go_ret
    exact ⟨rfl, HD.out⟩
end Go.Proofs.YtfibjcaidnofmaaGreatDoor

