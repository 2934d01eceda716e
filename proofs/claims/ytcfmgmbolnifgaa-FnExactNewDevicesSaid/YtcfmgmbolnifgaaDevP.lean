/- Walks of both NewDevices (printed by wip/gen_newdev.py). -/
import Derived.Test.YtcfmgmbolnifgaaDevM
namespace Go.Proofs.Ytcfmgmbolnifgaa
open Go.RowKit

theorem ownDev0_none (w : World) (lo hi : Nat) (h : lo ≤ hi) : OwnDev0 w lo hi (.agg #[.int .i64 0, .int .i64 0, .int .i64 0, .slice none 0 0, .slice none 0 0, .slice none 0 0]) noScr [] :=
  ⟨none, 0, none, 0, lo, rfl, Nat.le_refl _, h, World.ownsRow_nil _ _ _ _, (fun g hg => by cases hg), World.ownsRow_nil _ _ _ _, (fun g hg => by cases hg)⟩

theorem l31Keys_b (A : Option Addr) (n c lo hi : Nat) (xs : List ByteArray) (w : World) (ha : StrR w lo hi A n xs) (hn : n ≤ 1048576) (hb : ∀ x ∈ xs, x.size ≤ 1048576) :
    Calls Try.prog 83 #[.slice A n c] w fun e w' => e = .returned (.bool (keysB xs)) ∧ Below w.heap.size w w' :=
  (l31Keys_any A n c lo hi xs w ha hn hb).mono fun _ _ ⟨he, hw⟩ => ⟨he, by rw [← hw]; exact Below.refl _ _⟩

set_option maxHeartbeats 2000000 in
theorem specNewDevices_any (A : Option Addr) (c lo hi : Nat) (xs : List ByteArray) (w : World) (ha : StrR w lo hi A xs.length xs) (hhi : hi ≤ w.heap.size) (hn : xs.length ≤ 1048576) (hb : ∀ x ∈ xs, x.size ≤ 1048576) :
    Calls Try.prog 41 #[.slice A xs.length c] w fun e w' => ∃ v, e = .returned (.tuple #[v, .int .i64 (newDevP xs).2.2]) ∧ OwnDev0 w' w.heap.size w'.heap.size v (newDevP xs).1 (newDevP xs).2.1 ∧ Below w.heap.size w w' := by
  have R0 := ((Stand.nil w).add lo hi _ (loc_strR lo hi A _ xs) hhi ha).box 61 #[.int .i64 0, .int .i64 0, .int .i64 0, .slice none 0 0, .slice none 0 0, .slice none 0 0]
  have HR0 := Lib.hid R0
  have HA := Lib.hid ha; have HB := Lib.hid hb
  clear ha hb R0
  by_cases h20 : 20 < xs.length
  · have HP := Lib.hid (show newDevP xs = (noScr, [], 4) by unfold newDevP; rw [if_pos h20])
    have f := (HR0.out.get 0 rfl).cell
    have z := (HR0.out.get 0 rfl).frozen
    have HD := Lib.hid HR0.out.1
    go_enter Try.func41, Try.ntmps41
    go_wp2_with fail
    refine bodyPost_ret (v := .tuple #[.agg #[.int .i64 0, .int .i64 0, .int .i64 0, .slice none 0 0, .slice none 0 0, .slice none 0 0], .int .i64 4]) (by simp [results, Try.results41, go_sem, f]) rfl ⟨_, by rw [HP.out], ?_, ?_⟩
    · rw [HP.out]; exact ownDev0_none _ _ _ (by first | (simp [World.setCell]; done) | (simp [World.setCell]; omega))
    · skip
      exact HD.out
  have f := (HR0.out.get 0 rfl).cell
  have z := (HR0.out.get 0 rfl).frozen
  cases hk : keysB xs
  · have HP := Lib.hid (show newDevP xs = (noScr, [], 1) by unfold newDevP; rw [if_neg h20, hk]; rfl)
    have HK := Lib.hid hk
    clear hk
    go_enter Try.func41, Try.ntmps41
    go_wp2_with fail
    refine (l31Keys_b A xs.length c lo hi xs _ (HR0.out.get 1 rfl) hn HB.out).mono ?_
    rintro e1 w1 ⟨rfl, hb1⟩
    rw [HK.out]
    have HR1 := Lib.hid (HR0.out.below hb1)
    clear hb1 f z
    have f := (HR1.out.get 0 rfl).cell
    have z := (HR1.out.get 0 rfl).frozen
    have HD := Lib.hid HR1.out.1
    have s1 := HR1.out.le 0 rfl
    go_wp2_with fail
    refine bodyPost_ret (v := .tuple #[.agg #[.int .i64 0, .int .i64 0, .int .i64 0, .slice none 0 0, .slice none 0 0, .slice none 0 0], .int .i64 1]) (by simp [results, Try.results41, go_sem, f]) rfl ⟨_, by rw [HP.out], ?_, ?_⟩
    · rw [HP.out]; exact ownDev0_none _ _ _ (by first | (simp [World.setCell]; done) | (simp [World.setCell]; omega))
    · skip
      iterate 6 (with_reducible refine Below.setCell ?_ (by simp; try omega) _)
      exact HD.out
  · have HP := Lib.hid (show newDevP xs = (blankScr, xs, 0) by unfold newDevP; rw [if_neg h20, hk]; rfl)
    have HK := Lib.hid hk
    clear hk
    go_enter Try.func41, Try.ntmps41
    go_wp2_with fail
    refine (l31Keys_b A xs.length c lo hi xs _ (HR0.out.get 1 rfl) hn HB.out).mono ?_
    rintro e1 w1 ⟨rfl, hb1⟩
    rw [HK.out]
    have HR1 := Lib.hid (HR0.out.below hb1)
    have s1 := HR1.out.le 0 rfl
    clear hb1 f z
    go_wp2_with fail
    refine (specNewScreen_any _).mono ?_
    rintro e2 w2 ⟨v2, rfl, ⟨A2, c2, rfl, ho2⟩, hb2⟩
    have HR2 := Lib.hid ((HR1.out.below hb2).add w1.heap.size w2.heap.size _ (loc_own w1.heap.size w2.heap.size A2 blankScr.rows.length c2 _ _ (fun g hg => (ho2.lt g hg).2)) (Nat.le_refl _) ho2)
    have HB2 := Lib.hid (fun g hg => (ho2.lt g hg).2)
    have s2 := hb2.size
    clear hb2 ho2
    generalize hbs : blankScr = BS at *
    have HBS := Lib.hid hbs; clear hbs
    go_wp2_with fail
    refine (l03Subs_any A xs.length c lo hi xs _ (HR2.out.get 2 rfl) (HR2.out.le 2 rfl) hn).mono ?_
    rintro e3 w3 ⟨v3, rfl, ⟨⟨K3, d3, rfl⟩, ho3⟩, hb3⟩
    have HR3 := Lib.hid ((HR2.out.below hb3).add w2.heap.size w3.heap.size _ (loc_own w2.heap.size w3.heap.size K3 xs.length d3 _ _ (fun g hg => (ho3.lt g hg).2)) (Nat.le_refl _) ho3)
    have HB3 := Lib.hid (fun g hg => (ho3.lt g hg).2)
    have s3 := hb3.size
    clear hb3 ho3
    have f := (HR3.out.get 2 rfl).cell
    have z := (HR3.out.get 2 rfl).frozen
    go_wp2_with fail
    refine bodyPost_ret (v := .tuple #[.agg #[.int .i64 0, .int .i64 BS.row, .int .i64 BS.col, .slice A2 BS.rows.length c2, .slice none 0 0, .slice K3 xs.length d3], .int .i64 0]) (by simp [results, Try.results41, go_sem, f]) rfl ⟨_, by rw [HP.out], ?_, ?_⟩
    · rw [HP.out]
      refine ⟨A2, c2, K3, d3, w2.heap.size, rfl, by omega, by simp [World.setCell]; omega, ?_, HB2.out, ?_, (fun g hg => by have := HB3.out g hg; simp [World.setCell]; omega)⟩
      · refine own_mono (base := w1.heap.size) ?_ (by omega)
        iterate 6 (with_reducible refine ownsRow_setCell_below ?_ (by simp; try omega) _)
        exact HR3.out.get 1 rfl
      · iterate 6 (with_reducible refine ownsRow_setCell_below ?_ (by simp; try omega) _)
        exact HR3.out.get 0 rfl
    · iterate 6 (with_reducible refine Below.setCell ?_ (by simp; try omega) _)
      exact HR3.out.1

set_option maxHeartbeats 2000000 in
theorem implNewDevices_any (A : Option Addr) (c lo hi : Nat) (xs : List ByteArray) (w : World) (ha : StrR w lo hi A xs.length xs) (hhi : hi ≤ w.heap.size) (hn : xs.length ≤ 1048576) (hb : ∀ x ∈ xs, x.size ≤ 1048576) :
    Calls Try.prog 43 #[.slice A xs.length c] w fun e w' => ∃ v, e = .returned (.tuple #[v, .int .i64 (newDevP xs).2.2]) ∧ OwnDev0 w' w.heap.size w'.heap.size v (newDevP xs).1 (newDevP xs).2.1 ∧ Below w.heap.size w w' := by
  have R0 := ((Stand.nil w).add lo hi _ (loc_strR lo hi A _ xs) hhi ha).box 61 #[.int .i64 0, .int .i64 0, .int .i64 0, .slice none 0 0, .slice none 0 0, .slice none 0 0]
  have HR0 := Lib.hid R0
  have HA := Lib.hid ha; have HB := Lib.hid hb
  clear ha hb R0
  by_cases h20 : 20 < xs.length
  · have HP := Lib.hid (show newDevP xs = (noScr, [], 4) by unfold newDevP; rw [if_pos h20])
    have f := (HR0.out.get 0 rfl).cell
    have z := (HR0.out.get 0 rfl).frozen
    have HD := Lib.hid HR0.out.1
    go_enter Try.func43, Try.ntmps43
    go_wp2_with fail
    refine bodyPost_ret (v := .tuple #[.agg #[.int .i64 0, .int .i64 0, .int .i64 0, .slice none 0 0, .slice none 0 0, .slice none 0 0], .int .i64 4]) (by simp [results, Try.results43, go_sem, f]) rfl ⟨_, by rw [HP.out], ?_, ?_⟩
    · rw [HP.out]; exact ownDev0_none _ _ _ (by first | (simp [World.setCell]; done) | (simp [World.setCell]; omega))
    · skip
      exact HD.out
  have f := (HR0.out.get 0 rfl).cell
  have z := (HR0.out.get 0 rfl).frozen
  cases hk : keysB xs
  · have HP := Lib.hid (show newDevP xs = (noScr, [], 1) by unfold newDevP; rw [if_neg h20, hk]; rfl)
    have HK := Lib.hid hk
    clear hk
    go_enter Try.func43, Try.ntmps43
    go_wp2_with fail
    refine (keysFit_any A xs.length c lo hi xs _ (HR0.out.get 1 rfl) hn).mono ?_
    rintro e1 w1 ⟨rfl, hb1⟩
    rw [HK.out]
    have HR1 := Lib.hid (HR0.out.below hb1)
    clear hb1 f z
    have f := (HR1.out.get 0 rfl).cell
    have z := (HR1.out.get 0 rfl).frozen
    have HD := Lib.hid HR1.out.1
    have s1 := HR1.out.le 0 rfl
    go_wp2_with fail
    refine bodyPost_ret (v := .tuple #[.agg #[.int .i64 0, .int .i64 0, .int .i64 0, .slice none 0 0, .slice none 0 0, .slice none 0 0], .int .i64 1]) (by simp [results, Try.results43, go_sem, f]) rfl ⟨_, by rw [HP.out], ?_, ?_⟩
    · rw [HP.out]; exact ownDev0_none _ _ _ (by first | (simp [World.setCell]; done) | (simp [World.setCell]; omega))
    · skip
      iterate 6 (with_reducible refine Below.setCell ?_ (by simp; try omega) _)
      exact HD.out
  · have HP := Lib.hid (show newDevP xs = (blankScr, xs, 0) by unfold newDevP; rw [if_neg h20, hk]; rfl)
    have HK := Lib.hid hk
    clear hk
    go_enter Try.func43, Try.ntmps43
    go_wp2_with fail
    refine (keysFit_any A xs.length c lo hi xs _ (HR0.out.get 1 rfl) hn).mono ?_
    rintro e1 w1 ⟨rfl, hb1⟩
    rw [HK.out]
    have HR1 := Lib.hid (HR0.out.below hb1)
    have s1 := HR1.out.le 0 rfl
    clear hb1 f z
    go_wp2_with fail
    refine (implNewScreen_any _).mono ?_
    rintro e2 w2 ⟨v2, rfl, ⟨A2, c2, rfl, ho2⟩, hb2⟩
    have HR2 := Lib.hid ((HR1.out.below hb2).add w1.heap.size w2.heap.size _ (loc_own w1.heap.size w2.heap.size A2 blankScr.rows.length c2 _ _ (fun g hg => (ho2.lt g hg).2)) (Nat.le_refl _) ho2)
    have HB2 := Lib.hid (fun g hg => (ho2.lt g hg).2)
    have s2 := hb2.size
    clear hb2 ho2
    generalize hbs : blankScr = BS at *
    have HBS := Lib.hid hbs; clear hbs
    go_wp2_with fail
    refine (cloneStrs_any A xs.length c lo hi xs _ (HR2.out.get 2 rfl) hn).mono ?_
    rintro e3 w3 ⟨v3, rfl, ⟨⟨K3, d3, rfl⟩, ho3⟩, hb3⟩
    have HR3 := Lib.hid ((HR2.out.below hb3).add w2.heap.size w3.heap.size _ (loc_own w2.heap.size w3.heap.size K3 xs.length d3 _ _ (fun g hg => (ho3.lt g hg).2)) (Nat.le_refl _) ho3)
    have HB3 := Lib.hid (fun g hg => (ho3.lt g hg).2)
    have s3 := hb3.size
    clear hb3 ho3
    have f := (HR3.out.get 2 rfl).cell
    have z := (HR3.out.get 2 rfl).frozen
    go_wp2_with fail
    refine bodyPost_ret (v := .tuple #[.agg #[.int .i64 0, .int .i64 BS.row, .int .i64 BS.col, .slice A2 BS.rows.length c2, .slice none 0 0, .slice K3 xs.length d3], .int .i64 0]) (by simp [results, Try.results43, go_sem, f]) rfl ⟨_, by rw [HP.out], ?_, ?_⟩
    · rw [HP.out]
      refine ⟨A2, c2, K3, d3, w2.heap.size, rfl, by omega, by simp [World.setCell]; omega, ?_, HB2.out, ?_, (fun g hg => by have := HB3.out g hg; simp [World.setCell]; omega)⟩
      · refine own_mono (base := w1.heap.size) ?_ (by omega)
        iterate 6 (with_reducible refine ownsRow_setCell_below ?_ (by simp; try omega) _)
        exact HR3.out.get 1 rfl
      · iterate 6 (with_reducible refine ownsRow_setCell_below ?_ (by simp; try omega) _)
        exact HR3.out.get 0 rfl
    · iterate 6 (with_reducible refine Below.setCell ?_ (by simp; try omega) _)
      exact HR3.out.1

theorem newDevP_small (xs : List ByteArray) (h : xs.length ≤ 1048576) : (newDevP xs).1.rows.length ≤ 1048576 ∧ (newDevP xs).2.1.length ≤ 1048576 := by
  unfold newDevP
  split
  · simp [noScr]
  · split
    · simp [blankScr]; exact h
    · simp [noScr]

end Go.Proofs.Ytcfmgmbolnifgaa
