/- FnScreens returns true, whatever the bytes: the walk of the law. -/
import Derived.Test.YtbpopkaafellgaaDoorDrawShow
import Derived.Test.YtbpopkaafellgaaDoorScreenL
import Derived.Test.YtbpopkaafellgaaDoorScreensPlain
import Derived.Test.YtbpopkaafellgaaDoorB10
import Derived.Test.YtbpopkaafellgaaDoorScrText
namespace Go.Proofs.YtbpopkaafellgaaDoor
open Go.RowKit

section
variable {P : Program} {l : List Oper} {Q : Exit → Go.Act → World → Prop} {md : Region.Mode} {S : World → Prop} {z : Nat → Bool}
/-- Two operations may come up: behind each S is to be shown. -/
theorem AnyT.two {i j : Nat} {oi oj : Oper} {n : Nat} {listed : Array Bool} {a : Go.Act} {w : World} (hr : Region.ready md l.toArray listed = [i, j]) (hi : l[i]? = some oi) (hj : l[j]? = some oj)
    (h1 : ∀ K' : Go.Act → World → Prop, Shut (∀ a w, S w → (S w → AnyT P md l.toArray Q S z n (listed.setIfInBounds i true) a w) → K' a w) → if Region.wanted oi (yielded l.toArray a.tmps) = true then Oper.wp P oi a w K' Q else K' (a.put oi.dst undef) w)
    (h2 : ∀ K' : Go.Act → World → Prop, Shut (∀ a w, S w → (S w → AnyT P md l.toArray Q S z n (listed.setIfInBounds j true) a w) → K' a w) → if Region.wanted oj (yielded l.toArray a.tmps) = true then Oper.wp P oj a w K' Q else K' (a.put oj.dst undef) w) :
    AnyT P md l.toArray Q S z (n + 1) listed a w := by
  refine ⟨fun h0 => (by rw [hr] at h0; cases h0), fun k hk => ?_⟩
  rw [hr] at hk
  rcases List.mem_cons.1 hk with rfl | hk
  · exact wpOp_step (by simpa using hi) (fun K' hK => h1 K' (fun a w hS hW => hK a w ⟨fun _ => hS, hW hS⟩))
  · obtain rfl : k = j := by simpa using hk
    exact wpOp_step (by simpa using hj) (fun K' hK => h2 K' (fun a w hS hW => hK a w ⟨fun _ => hS, hW hS⟩))
end

theorem ScrR.rows {w : World} {lo hi n c : Nat} {A : Option Addr} {r k : Value} {s : Scr} (h : ScrR w lo hi (.agg #[r, k, .slice A n c]) s) : StrR w lo hi A s.rows.length s.rows := by
  obtain ⟨A', c', hv, h1⟩ := h
  injection hv with hv
  simp only [Array.mk.injEq, List.cons.injEq, Value.slice.injEq, and_true] at hv
  rw [hv.2.2.1]
  exact h1
theorem within_set3 (w : World) (g : Nat) (u0 u1 u2 : Value) : Within g (g + 1) w (((w.setCell ⟨g, 0, none⟩ u0).setCell ⟨g, 1, none⟩ u1).setCell ⟨g, 2, none⟩ u2) := by
  refine ⟨rfl, rfl, rfl, by simp [World.setCell], fun k _ h => ?_⟩
  rw [Below.heap_setCell _ _ _ _ (by show k ≠ g; omega), Below.heap_setCell _ _ _ _ (by show k ≠ g; omega), Below.heap_setCell _ _ _ _ (by show k ≠ g; omega)]
/-- The newest block's three cells are stored anew. -/
theorem Stand.set3 {w0 w : World} {Fs : Facts} {g : Nat} {t : TypeId} {a b c : Value} (h : Stand w0 ((g, g + 1, fun W => Blk W g t #[a, b, c]) :: Fs) w) (h0 : w0.heap.size ≤ g) (hd : ∀ f ∈ Fs, f.2.1 ≤ g ∨ g + 1 ≤ f.1) (u0 u1 u2 : Value) :
    Stand w0 ((g, g + 1, fun W => Blk W g t #[u0, u1, u2]) :: Fs) (((w.setCell ⟨g, 0, none⟩ u0).setCell ⟨g, 1, none⟩ u1).setCell ⟨g, 2, none⟩ u2) := by
  have hb := h.get 0 rfl
  have h1 : Stand w0 Fs w := ⟨h.1, fun f hf => h.2 f (List.mem_cons_of_mem _ hf)⟩
  exact (h1.within (within_set3 w g u0 u1 u2) h0 hd).add g (g + 1) _ (loc_blk _ _ _) (by simp only [World.setCell, Array.size_modify]; exact hb.lt) (((hb.set_ 0 u0).set_ 1 u1).set_ 2 u2)

theorem loc_bytesR (lo hi : Nat) (A : Option Addr) (n : Nat) : Loc lo hi (fun w => BytesR w lo hi A n) := fun _ _ hk h => h.keep hk

/-- A screen that is right, with what the law asks of it. -/
theorem showOnP_scrB {s : Scr} (h : scrB s = true) (text : ByteArray) : scrB (showOnP s text) = true := by
  unfold showOnP; rw [h]; exact showTo_scrB h text _
theorem showOnP_parts {s : Scr} (h : scrB s = true) (text : ByteArray) (k : Nat) (hk : k ≤ text.size) :
    showOnP (showOnP s (text.extract 0 k)) (text.extract k text.size) = showOnP s text := by
  have h1 := showOnP_scrB h (text.extract 0 k)
  unfold showOnP at h1 ⊢
  rw [h] at h1 ⊢
  rw [if_pos rfl] at h1 ⊢
  rw [h1, if_pos rfl, if_pos rfl]
  exact showTo_parts s text k hk
theorem tabToP_law {s : Scr} (h : scrB s = true) {col : Int} (h0 : 0 ≤ col) (h19 : col ≤ 19) : scrB (tabToP s col) = true ∧ (col < s.col ∨ (tabToP s col).col = col) ∧ (tabToP s col).row = s.row := by
  have := tab_law h h0 h19
  unfold tabToP
  rw [h, if_pos rfl]
  exact this
theorem small_of_scrB {s : Scr} (h : scrB s = true) : ScrSmall s := by
  have hf := Fine.of_scrB h
  exact ⟨by have := hf.len; omega, fun r hr => by have := hf.size r hr; omega⟩

set_option maxHeartbeats 4000000 in
set_option maxRecDepth 100000 in
theorem law_FnScreens (A B : Option Addr) (n c m d : Nat) (w : World) (hA : BytesR w 0 w.heap.size A n) (hB : BytesR w 0 w.heap.size B m) :
    Calls Tryd.prog 3 #[.slice A n c, .slice B m d] w fun e w' => e = .returned (.bool true) ∧ Below w.heap.size w w' := by
  have R0 := ((Stand.nil w).add 0 w.heap.size _ (loc_bytesR 0 w.heap.size A n) (Nat.le_refl _) hA).add 0 w.heap.size _ (loc_bytesR 0 w.heap.size B m) (Nat.le_refl _) hB
  have HR0 := Lib.hid R0
  clear R0 hA hB
  go_enter Tryd.func3, Tryd.ntmps3
  go_wp2_with fail
  refine (b10Long_any A B n c m d w).mono ?_
  rintro e1 w1 ⟨rfl, hb1⟩
  have HR1 := Lib.hid (HR0.out.below hb1)
  clear HR0
  by_cases hl : 1048576 < n ∨ 1048576 < m
  · have hl' : (decide (1048576 < n) || decide (1048576 < m)) = true := by simpa using hl
    rw [hl']
    have HB := Lib.hid HR1.out.1
    clear hb1 hl hl' HR1
    go_wp2_with fail
    go_ret
    exact ⟨rfl, HB.out⟩
  have hl' : (decide (1048576 < n) || decide (1048576 < m)) = false := by simpa using hl
  rw [hl']
  have HN := Lib.hid (show n ≤ 1048576 ∧ m ≤ 1048576 by omega)
  have s1 := hb1.size
  clear hl hl' hb1
  go_wp2_with fail
  refine (drawShowOn_any 0 w.heap.size A n c w1 (HR1.out.get 1 rfl) (HR1.out.le 1 rfl) HN.out.1).mono ?_
  rintro e2 w2 ⟨s, text, b, off, cap, h6, h21, ht, rfl, hO, hb2⟩
  have s2 := hb2.size
  have R2 := (HR1.out.below hb2).add w1.heap.size w2.heap.size _ (loc_scrR w1.heap.size w2.heap.size (.agg #[.int .i64 s.row, .int .i64 s.col, .slice (some ⟨b, off, none⟩) s.rows.length cap]) s) (Nat.le_refl _) ⟨_, _, rfl, hO.reads⟩
  have HR2 := Lib.hid R2; have HT := Lib.hid ht
  have HSM := Lib.hid (show ScrSmall s from ⟨by omega, fun r hr => by have := h21 r hr; omega⟩)
  clear R2 HR1 hb2 hO h6 h21 ht
  go_wp2_with fail
  have R3 := HR2.out.box 26 #[.int .i64 s.row, .int .i64 s.col, .slice (some ⟨b, off, none⟩) s.rows.length cap]
  have s3 : w2.heap.size + 1 ≤ (w2.alloc (.cells #[.int .i64 s.row, .int .i64 s.col, .slice (some ⟨b, off, none⟩) s.rows.length cap] 26)).heap.size := by simp
  generalize w2.alloc (.cells #[.int .i64 s.row, .int .i64 s.col, .slice (some ⟨b, off, none⟩) s.rows.length cap] 26) = w3 at *
  have HR3 := Lib.hid R3; clear R3 HR2
  refine (specScreenOk_any s _ w1.heap.size w2.heap.size w3 (HR3.out.get 1 rfl) (HR3.out.le 1 rfl) HSM.out).mono ?_
  rintro e4 w4 ⟨rfl, hb4⟩
  have s4 := hb4.size
  have HR4 := Lib.hid (HR3.out.below hb4)
  clear HR3 hb4
  cases hsb : scrB s
  · have HB := Lib.hid HR4.out.1
    clear hsb HR4 HSM
    go_wp2_with fail
    go_ret
    exact ⟨rfl, HB.out⟩
  have HSB := Lib.hid hsb
  clear hsb
  have f5 := (HR4.out.get 0 rfl).cell
  go_wp2_with fail
  refine (implShowOn_any s text _ w1.heap.size w2.heap.size w4 (HR4.out.get 1 rfl) (HR4.out.le 1 rfl) HSM.out (by have := HT.out; omega)).mono ?_
  rintro e5 w5 ⟨v5, rfl, hx5, hb5⟩
  have s5 := hb5.size
  have HTB := Lib.hid (showOnP_scrB HSB.out text)
  have HPT := Lib.hid (showOnP_parts HSB.out text)
  generalize showOnP s text = x at *
  have hx5' := hx5.inside.reads
  have R5 := (HR4.out.below hb5).add w4.heap.size w5.heap.size _ (loc_scrR w4.heap.size w5.heap.size v5 x) (Nat.le_refl _) hx5'
  obtain ⟨A5, c5, rfl, -⟩ := hx5'
  have HR5 := Lib.hid R5
  clear R5 HR4 hb5 hx5 f5
  have ht := HT.out
  go_wp2_with fail
  have R6 := HR5.out.box 26 #[.int .i64 x.row, .int .i64 x.col, .slice A5 x.rows.length c5]
  have s6 : w5.heap.size + 1 ≤ (w5.alloc (.cells #[.int .i64 x.row, .int .i64 x.col, .slice A5 x.rows.length c5] 26)).heap.size := by simp
  generalize w5.alloc (.cells #[.int .i64 x.row, .int .i64 x.col, .slice A5 x.rows.length c5] 26) = w6 at *
  have HR6 := Lib.hid R6; clear R6 HR5
  have t1 : (1 : Int) ≤ (text.size : Int) + 1 := by omega
  refine (b10At_any 0 w.heap.size B m d 0 ((text.size : Int) + 1) w6 (HR6.out.get 4 rfl) (by omega) (by omega)).mono ?_
  rintro e7 w7 ⟨k, rfl, hk0, hk1, hb7⟩
  have hk1' := hk1 t1
  obtain ⟨kk, rfl⟩ := Int.eq_ofNat_of_zero_le hk0
  have hkt : kk ≤ text.size := by omega
  have s7 := hb7.size
  have HR7 := Lib.hid (HR6.out.below hb7)
  clear HR6 hb7 hk0 hk1 hk1' t1
  have f5 := (HR7.out.get 2 rfl).cell
  have z5 := (HR7.out.get 2 rfl).frozen
  have HKT := Lib.hid hkt
  have hks : (kk : Int) ≤ (text.size : Int) := by omega
  have hks0 : (0 : Int) ≤ (kk : Int) := by omega
  clear hkt
  go_wp2_with fail
  have f5d := (HR7.out.drew.get 2 rfl).cell
  have HR8 := Lib.hid HR7.out.drew
  have s8 : w7.heap.size ≤ w7.drew.heap.size := Nat.le_refl _
  refine AnyT.region (fun i => decide (10 ≤ i)) (fun w' => ∀ i, w'.cell? ⟨w2.heap.size, i, none⟩ = (#[.int .i64 s.row, .int .i64 s.col, .slice (some ⟨b, off, none⟩) s.rows.length cap] : Array Value)[i]?) (by kernel_rfl) f5d (fun hHeld => ?_)
  generalize w7.drew = w8 at *
  clear HR7 f5 z5 f5d
  ((refine AnyT.take 0 31 ?_ rfl (by kernel_rfl) (by kernel_rfl) (by kernel_rfl) (by kernel_rfl) rfl (by kernel_rfl) rfl (fun _ _ _ _ h => h) rfl ?_ (by assumption) ?_); rotate_left; (intro w hSw; (try dsimp only at hSw); go_simp; (try (with_reducible rfl))); simp only [Act.put, List.setIfInBounds_toArray, List.set_cons_zero, List.set_cons_succ])
  ((refine AnyT.takeAny 1 32 ?_ rfl (by kernel_rfl) (by kernel_rfl) (by kernel_rfl) rfl rfl (fun _ _ _ _ h => h) rfl ?_ (by assumption) ?_); rotate_left; (intro w; go_simp; (try (with_reducible rfl))); simp only [Act.put, List.setIfInBounds_toArray, List.set_cons_zero, List.set_cons_succ])
  ((refine AnyT.takeAny 2 33 ?_ rfl (by kernel_rfl) (by kernel_rfl) (by kernel_rfl) rfl rfl (fun _ _ _ _ h => h) rfl ?_ (by assumption) ?_); rotate_left; (intro w; go_simp; (try (with_reducible rfl))); simp only [Act.put, List.setIfInBounds_toArray, List.set_cons_zero, List.set_cons_succ])
  ((refine AnyT.takeAny 3 34 ?_ rfl (by kernel_rfl) (by kernel_rfl) (by kernel_rfl) rfl rfl (fun _ _ _ _ h => h) rfl ?_ (by assumption) ?_); rotate_left; (intro w; go_simp; (try (with_reducible rfl))); simp only [Act.put, List.setIfInBounds_toArray, List.set_cons_zero, List.set_cons_succ])
  ((refine AnyT.takeAny 5 36 ?_ rfl (by kernel_rfl) (by kernel_rfl) (by kernel_rfl) rfl rfl (fun _ _ _ _ h => h) rfl ?_ (by assumption) ?_); rotate_left; (intro w; go_simp; (try (with_reducible rfl))); simp only [Act.put, List.setIfInBounds_toArray, List.set_cons_zero, List.set_cons_succ])
  ((refine AnyT.takeAny 6 37 ?_ rfl (by kernel_rfl) (by kernel_rfl) (by kernel_rfl) rfl rfl (fun _ _ _ _ h => h) rfl ?_ (by assumption) ?_); rotate_left; (intro w; go_simp; (try (with_reducible rfl))); simp only [Act.put, List.setIfInBounds_toArray, List.set_cons_zero, List.set_cons_succ])
  ((refine AnyT.takeAny 7 38 ?_ rfl (by kernel_rfl) (by kernel_rfl) (by kernel_rfl) rfl rfl (fun _ _ _ _ h => h) rfl ?_ (by assumption) ?_); rotate_left; (intro w; go_simp; (try (with_reducible rfl))); simp only [Act.put, List.setIfInBounds_toArray, List.set_cons_zero, List.set_cons_succ])
  have HT1 := Lib.hid (showOnP_scrB HSB.out (text.extract 0 kk))
  have HPT := Lib.hid (HPT.out kk HKT.out)
  obtain ⟨T1, hT1⟩ : ∃ T, T = showOnP s (text.extract 0 kk) := ⟨_, rfl⟩
  rw [← hT1] at HT1 HPT
  have HTE := Lib.hid hT1
  clear hT1
  refine AnyT.two (i := 4) (j := 9) (by kernel_rfl) rfl rfl (fun K hK => ?_) (fun K hK => ?_)
  · go_simp
    refine (implShowOn_any s (text.extract 0 kk) _ w1.heap.size w2.heap.size w8 (HR8.out.get 3 rfl) (HR8.out.le 3 rfl) HSM.out (by rw [ByteArray.size_extract]; omega)).mono ?_
    rintro e9 w9 ⟨v9, rfl, hx9, hb9⟩
    rw [← HTE.out] at hx9
    have s9 := hb9.size
    have HR9 := Lib.hid ((HR8.out.below hb9).add w8.heap.size w9.heap.size _ (loc_scrR w8.heap.size w9.heap.size v9 T1) (Nat.le_refl _) hx9.inside.reads)
    clear HR8 hx9 hb9
    refine hK.out _ _ (HR9.out.get 3 rfl).cell (fun hHeld => ?_)
    clear hK K
    (try simp only [Act.put, List.setIfInBounds_toArray, List.set_cons_zero, List.set_cons_succ])
    refine AnyT.two (i := 8) (j := 9) (by kernel_rfl) rfl rfl (fun K hK => ?_) (fun K hK => ?_)
    · go_simp
      refine (implShowOn_any T1 (text.extract kk text.size) v9 w8.heap.size w9.heap.size w9 (HR9.out.get 0 rfl) (HR9.out.le 0 rfl) (small_of_scrB HT1.out) (by rw [ByteArray.size_extract]; omega)).mono ?_
      rintro e10 w10 ⟨v10, rfl, hx10, hb10⟩
      rw [HPT.out] at hx10
      have s10 := hb10.size
      have hx10' := hx10.inside.reads
      have R10 := (HR9.out.below hb10).add w9.heap.size w10.heap.size _ (loc_scrR w9.heap.size w10.heap.size v10 x) (Nat.le_refl _) hx10'
      obtain ⟨A10, c10, rfl, -⟩ := hx10'
      have HR10 := Lib.hid R10
      clear HR9 R10 hx10 hb10
      refine hK.out _ _ (HR10.out.get 4 rfl).cell (fun hHeld => ?_)
      clear hK K
      (try simp only [Act.put, List.setIfInBounds_toArray, List.set_cons_zero, List.set_cons_succ])
      ((refine AnyT.one (i := 9) (by kernel_rfl) rfl (fun K hK => ?_)))
      go_simp
      have s11 : w10.heap.size + 1 ≤ (w10.alloc (.cells #[.int .i64 0, .int .i64 0, .slice none 0 0] 26)).heap.size := by simp
      have HR11 := Lib.hid (HR10.out.box 26 #[.int .i64 0, .int .i64 0, .slice none 0 0])
      clear HR10
      refine hK.out _ _ (HR11.out.get 5 rfl).cell (fun hHeld => ?_)
      clear hK K
      (try simp only [Act.put, List.setIfInBounds_toArray, List.set_cons_zero, List.set_cons_succ])
      generalize w10.alloc (.cells #[.int .i64 0, .int .i64 0, .slice none 0 0] 26) = w11 at *
      have HG := Lib.hid (HR11.out.only [0, 1, 3, 4, 7])
      have fg := (HR11.out.get 0 rfl).cell
      have zg := (HR11.out.get 0 rfl).frozen
      ((refine AnyT.last (i := 10) (by kernel_rfl) rfl (by kernel_rfl) (fun K hK => ?_)))
      go_simp
      refine hK.out _ _ ?_
      clear hK K
      (try simp only [Act.put, List.setIfInBounds_toArray, List.set_cons_zero, List.set_cons_succ])
      refine AnyT.done (by kernel_rfl) ?_ _
      have HRR := Lib.hid (Stand.set3 HG.out (by omega) (by
        intro f hf
        simp only [List.filterMap_cons, List.filterMap_nil, List.getElem?_cons_zero, List.getElem?_cons_succ, List.mem_cons, List.not_mem_nil, or_false] at hf
        rcases hf with rfl | rfl | rfl | rfl
        all_goals (simp only; omega)) (.int .i64 x.row) (.int .i64 x.col) (.slice A10 x.rows.length c10))
      clear HG fg zg HR11
      generalize (((w11.setCell ⟨w10.heap.size, 0, none⟩ (.int .i64 x.row)).setCell ⟨w10.heap.size, 1, none⟩ (.int .i64 x.col)).setCell ⟨w10.heap.size, 2, none⟩ (.slice A10 x.rows.length c10)) = wr at *
      have f7 := (HRR.out.get 2 rfl).cell
      have f9 := (HRR.out.get 0 rfl).cell
      go_wp2_with fail
      refine (specScreenOk_any x _ w4.heap.size w5.heap.size wr (HRR.out.get 3 rfl) (HRR.out.le 3 rfl) (small_of_scrB HTB.out)).mono ?_
      rintro e13 w13 ⟨rfl, hb13⟩
      rw [HTB.out]
      have HR13 := Lib.hid (HRR.out.below hb13)
      clear HRR hb13 f7 f9
      have f7 := (HR13.out.get 2 rfl).cell
      have f9 := (HR13.out.get 0 rfl).cell
      have q1 : (x.row != x.row) = false := by simp
      have q2 : (x.col != x.col) = false := by simp
      go_wp2_with fail
      refine (b10Texts_any A5 A10 x.rows.length c5 c10 _ _ _ _ x.rows w13 ((HR13.out.get 3 rfl).rows) ((HR13.out.get 1 rfl).rows) (by have := (small_of_scrB HTB.out).1; omega)).mono ?_
      rintro e14 w14 ⟨rfl, hb14⟩
      have HR14 := Lib.hid (HR13.out.below hb14)
      clear HR13 hb14 f7 f9 q1 q2
      go_wp2_with fail
      refine (b10At_any 0 w.heap.size B m d 1 20 w14 (HR14.out.get 4 rfl) (by omega) (by omega)).mono ?_
      rintro e15 w15 ⟨col, rfl, hc0, hc1, hb15⟩
      have hc19 : col ≤ 19 := by have := hc1 (by omega); omega
      have HR15 := Lib.hid (HR14.out.below hb15)
      clear HR14 hb15 hc1
      have f7 := (HR15.out.get 2 rfl).cell
      go_wp2_with fail
      refine (implTabTo_any x col _ w4.heap.size w5.heap.size w15 (HR15.out.get 3 rfl) (HR15.out.le 3 rfl) (small_of_scrB HTB.out)).mono ?_
      rintro e16 w16 ⟨v16, rfl, hx16, hb16⟩
      obtain ⟨hl1, hl2, hl3⟩ := tabToP_law HTB.out hc0 hc19
      obtain ⟨tt, htt⟩ : ∃ T, T = tabToP x col := ⟨_, rfl⟩
      rw [← htt] at hx16 hl1 hl2 hl3
      have hx16' := hx16.inside.reads
      have R16 := (HR15.out.below hb16).add w15.heap.size w16.heap.size _ (loc_scrR w15.heap.size w16.heap.size v16 tt) (Nat.le_refl _) hx16'
      obtain ⟨A16, c16, rfl, -⟩ := hx16'
      have HR16 := Lib.hid R16
      have HL1 := Lib.hid hl1
      have HL3 := Lib.hid hl3
      have HL2 := Lib.hid hl2
      clear R16 HR15 hx16 hb16 hl1 hl2 hl3 htt f7
      go_wp2_with fail
      have R17 := HR16.out.box 26 #[.int .i64 tt.row, .int .i64 tt.col, .slice A16 tt.rows.length c16]
      generalize w16.alloc (.cells #[.int .i64 tt.row, .int .i64 tt.col, .slice A16 tt.rows.length c16] 26) = w17 at *
      have HR17 := Lib.hid R17
      clear R17 HR16
      refine (specScreenOk_any tt _ w15.heap.size w16.heap.size w17 (HR17.out.get 1 rfl) (HR17.out.le 1 rfl) (small_of_scrB HL1.out)).mono ?_
      rintro e18 w18 ⟨rfl, hb18⟩
      rw [HL1.out]
      have HR18 := Lib.hid (HR17.out.below hb18)
      clear HR17 hb18
      have qr : (tt.row == x.row) = true := by rw [HL3.out]; simp
      have f11 := (HR18.out.get 0 rfl).cell
      have f7 := (HR18.out.get 4 rfl).cell
      by_cases hcx : col < x.col
      · go_wp2_with fail
        refine (screenText_any tt _ w15.heap.size w16.heap.size w18 (HR18.out.get 1 rfl) (HR18.out.le 1 rfl) (small_of_scrB HL1.out) HL1.out).mono ?_
        rintro e19 w19 ⟨tx, htx, rfl, hb19⟩
        have HR19 := Lib.hid (HR18.out.below hb19)
        have hti : (tx.size : Int) ≤ 126 := by omega
        clear HR18 hb19 f11 f7
        go_wp2_with fail
        go_ret
        exact ⟨rfl, HR19.out.1⟩
      · have qc : (tt.col == col) = true := by
          rcases HL2.out with h | h
          · omega
          · rw [h]; simp
        go_wp2_with fail
        refine (screenText_any tt _ w15.heap.size w16.heap.size w18 (HR18.out.get 1 rfl) (HR18.out.le 1 rfl) (small_of_scrB HL1.out) HL1.out).mono ?_
        rintro e19 w19 ⟨tx, htx, rfl, hb19⟩
        have HR19 := Lib.hid (HR18.out.below hb19)
        have hti : (tx.size : Int) ≤ 126 := by omega
        clear HR18 hb19 f11 f7
        go_wp2_with fail
        go_ret
        exact ⟨rfl, HR19.out.1⟩
    · go_simp
      have s10 : w9.heap.size + 1 ≤ (w9.alloc (.cells #[.int .i64 0, .int .i64 0, .slice none 0 0] 26)).heap.size := by simp
      have HR10 := Lib.hid (HR9.out.box 26 #[.int .i64 0, .int .i64 0, .slice none 0 0])
      clear HR9
      refine hK.out _ _ (HR10.out.get 4 rfl).cell (fun hHeld => ?_)
      clear hK K
      (try simp only [Act.put, List.setIfInBounds_toArray, List.set_cons_zero, List.set_cons_succ])
      generalize w9.alloc (.cells #[.int .i64 0, .int .i64 0, .slice none 0 0] 26) = w10 at *
      ((refine AnyT.one (i := 8) (by kernel_rfl) rfl (fun K hK => ?_)))
      go_simp
      refine (implShowOn_any T1 (text.extract kk text.size) v9 w8.heap.size w9.heap.size w10 (HR10.out.get 1 rfl) (HR10.out.le 1 rfl) (small_of_scrB HT1.out) (by rw [ByteArray.size_extract]; omega)).mono ?_
      rintro e11 w11 ⟨v10, rfl, hx11, hb11⟩
      rw [HPT.out] at hx11
      have s11 := hb11.size
      have hx11' := hx11.inside.reads
      have R11 := (HR10.out.below hb11).add w10.heap.size w11.heap.size _ (loc_scrR w10.heap.size w11.heap.size v10 x) (Nat.le_refl _) hx11'
      obtain ⟨A10, c10, rfl, -⟩ := hx11'
      have HR11 := Lib.hid R11
      clear HR10 R11 hx11 hb11
      refine hK.out _ _ (HR11.out.get 5 rfl).cell (fun hHeld => ?_)
      clear hK K
      (try simp only [Act.put, List.setIfInBounds_toArray, List.set_cons_zero, List.set_cons_succ])
      have HG := Lib.hid (HR11.out.only [1, 0, 3, 4, 7])
      have fg := (HR11.out.get 1 rfl).cell
      have zg := (HR11.out.get 1 rfl).frozen
      ((refine AnyT.last (i := 10) (by kernel_rfl) rfl (by kernel_rfl) (fun K hK => ?_)))
      go_simp
      refine hK.out _ _ ?_
      clear hK K
      (try simp only [Act.put, List.setIfInBounds_toArray, List.set_cons_zero, List.set_cons_succ])
      refine AnyT.done (by kernel_rfl) ?_ _
      have HRR := Lib.hid (Stand.set3 HG.out (by omega) (by
        intro f hf
        simp only [List.filterMap_cons, List.filterMap_nil, List.getElem?_cons_zero, List.getElem?_cons_succ, List.mem_cons, List.not_mem_nil, or_false] at hf
        rcases hf with rfl | rfl | rfl | rfl
        all_goals (simp only; omega)) (.int .i64 x.row) (.int .i64 x.col) (.slice A10 x.rows.length c10))
      clear HG fg zg HR11
      generalize (((w11.setCell ⟨w9.heap.size, 0, none⟩ (.int .i64 x.row)).setCell ⟨w9.heap.size, 1, none⟩ (.int .i64 x.col)).setCell ⟨w9.heap.size, 2, none⟩ (.slice A10 x.rows.length c10)) = wr at *
      have f7 := (HRR.out.get 2 rfl).cell
      have f9 := (HRR.out.get 0 rfl).cell
      go_wp2_with fail
      refine (specScreenOk_any x _ w4.heap.size w5.heap.size wr (HRR.out.get 3 rfl) (HRR.out.le 3 rfl) (small_of_scrB HTB.out)).mono ?_
      rintro e13 w13 ⟨rfl, hb13⟩
      rw [HTB.out]
      have HR13 := Lib.hid (HRR.out.below hb13)
      clear HRR hb13 f7 f9
      have f7 := (HR13.out.get 2 rfl).cell
      have f9 := (HR13.out.get 0 rfl).cell
      have q1 : (x.row != x.row) = false := by simp
      have q2 : (x.col != x.col) = false := by simp
      go_wp2_with fail
      refine (b10Texts_any A5 A10 x.rows.length c5 c10 _ _ _ _ x.rows w13 ((HR13.out.get 3 rfl).rows) ((HR13.out.get 1 rfl).rows) (by have := (small_of_scrB HTB.out).1; omega)).mono ?_
      rintro e14 w14 ⟨rfl, hb14⟩
      have HR14 := Lib.hid (HR13.out.below hb14)
      clear HR13 hb14 f7 f9 q1 q2
      go_wp2_with fail
      refine (b10At_any 0 w.heap.size B m d 1 20 w14 (HR14.out.get 4 rfl) (by omega) (by omega)).mono ?_
      rintro e15 w15 ⟨col, rfl, hc0, hc1, hb15⟩
      have hc19 : col ≤ 19 := by have := hc1 (by omega); omega
      have HR15 := Lib.hid (HR14.out.below hb15)
      clear HR14 hb15 hc1
      have f7 := (HR15.out.get 2 rfl).cell
      go_wp2_with fail
      refine (implTabTo_any x col _ w4.heap.size w5.heap.size w15 (HR15.out.get 3 rfl) (HR15.out.le 3 rfl) (small_of_scrB HTB.out)).mono ?_
      rintro e16 w16 ⟨v16, rfl, hx16, hb16⟩
      obtain ⟨hl1, hl2, hl3⟩ := tabToP_law HTB.out hc0 hc19
      obtain ⟨tt, htt⟩ : ∃ T, T = tabToP x col := ⟨_, rfl⟩
      rw [← htt] at hx16 hl1 hl2 hl3
      have hx16' := hx16.inside.reads
      have R16 := (HR15.out.below hb16).add w15.heap.size w16.heap.size _ (loc_scrR w15.heap.size w16.heap.size v16 tt) (Nat.le_refl _) hx16'
      obtain ⟨A16, c16, rfl, -⟩ := hx16'
      have HR16 := Lib.hid R16
      have HL1 := Lib.hid hl1
      have HL3 := Lib.hid hl3
      have HL2 := Lib.hid hl2
      clear R16 HR15 hx16 hb16 hl1 hl2 hl3 htt f7
      go_wp2_with fail
      have R17 := HR16.out.box 26 #[.int .i64 tt.row, .int .i64 tt.col, .slice A16 tt.rows.length c16]
      generalize w16.alloc (.cells #[.int .i64 tt.row, .int .i64 tt.col, .slice A16 tt.rows.length c16] 26) = w17 at *
      have HR17 := Lib.hid R17
      clear R17 HR16
      refine (specScreenOk_any tt _ w15.heap.size w16.heap.size w17 (HR17.out.get 1 rfl) (HR17.out.le 1 rfl) (small_of_scrB HL1.out)).mono ?_
      rintro e18 w18 ⟨rfl, hb18⟩
      rw [HL1.out]
      have HR18 := Lib.hid (HR17.out.below hb18)
      clear HR17 hb18
      have qr : (tt.row == x.row) = true := by rw [HL3.out]; simp
      have f11 := (HR18.out.get 0 rfl).cell
      have f7 := (HR18.out.get 4 rfl).cell
      by_cases hcx : col < x.col
      · go_wp2_with fail
        refine (screenText_any tt _ w15.heap.size w16.heap.size w18 (HR18.out.get 1 rfl) (HR18.out.le 1 rfl) (small_of_scrB HL1.out) HL1.out).mono ?_
        rintro e19 w19 ⟨tx, htx, rfl, hb19⟩
        have HR19 := Lib.hid (HR18.out.below hb19)
        have hti : (tx.size : Int) ≤ 126 := by omega
        clear HR18 hb19 f11 f7
        go_wp2_with fail
        go_ret
        exact ⟨rfl, HR19.out.1⟩
      · have qc : (tt.col == col) = true := by
          rcases HL2.out with h | h
          · omega
          · rw [h]; simp
        go_wp2_with fail
        refine (screenText_any tt _ w15.heap.size w16.heap.size w18 (HR18.out.get 1 rfl) (HR18.out.le 1 rfl) (small_of_scrB HL1.out) HL1.out).mono ?_
        rintro e19 w19 ⟨tx, htx, rfl, hb19⟩
        have HR19 := Lib.hid (HR18.out.below hb19)
        have hti : (tx.size : Int) ≤ 126 := by omega
        clear HR18 hb19 f11 f7
        go_wp2_with fail
        go_ret
        exact ⟨rfl, HR19.out.1⟩
  · go_simp
    have s9 : w8.heap.size + 1 ≤ (w8.alloc (.cells #[.int .i64 0, .int .i64 0, .slice none 0 0] 26)).heap.size := by simp
    have HR9 := Lib.hid (HR8.out.box 26 #[.int .i64 0, .int .i64 0, .slice none 0 0])
    clear HR8
    refine hK.out _ _ (HR9.out.get 3 rfl).cell (fun hHeld => ?_)
    clear hK K
    (try simp only [Act.put, List.setIfInBounds_toArray, List.set_cons_zero, List.set_cons_succ])
    generalize w8.alloc (.cells #[.int .i64 0, .int .i64 0, .slice none 0 0] 26) = w9 at *
    ((refine AnyT.one (i := 4) (by kernel_rfl) rfl (fun K hK => ?_)))
    go_simp
    refine (implShowOn_any s (text.extract 0 kk) _ w1.heap.size w2.heap.size w9 (HR9.out.get 4 rfl) (HR9.out.le 4 rfl) HSM.out (by rw [ByteArray.size_extract]; omega)).mono ?_
    rintro e10 w10 ⟨v9, rfl, hx10, hb10⟩
    rw [← HTE.out] at hx10
    have s10 := hb10.size
    have HR10 := Lib.hid ((HR9.out.below hb10).add w9.heap.size w10.heap.size _ (loc_scrR w9.heap.size w10.heap.size v9 T1) (Nat.le_refl _) hx10.inside.reads)
    clear HR9 hx10 hb10
    refine hK.out _ _ (HR10.out.get 4 rfl).cell (fun hHeld => ?_)
    clear hK K
    (try simp only [Act.put, List.setIfInBounds_toArray, List.set_cons_zero, List.set_cons_succ])
    ((refine AnyT.one (i := 8) (by kernel_rfl) rfl (fun K hK => ?_)))
    go_simp
    refine (implShowOn_any T1 (text.extract kk text.size) v9 w9.heap.size w10.heap.size w10 (HR10.out.get 0 rfl) (HR10.out.le 0 rfl) (small_of_scrB HT1.out) (by rw [ByteArray.size_extract]; omega)).mono ?_
    rintro e11 w11 ⟨v10, rfl, hx11, hb11⟩
    rw [HPT.out] at hx11
    have s11 := hb11.size
    have hx11' := hx11.inside.reads
    have R11 := (HR10.out.below hb11).add w10.heap.size w11.heap.size _ (loc_scrR w10.heap.size w11.heap.size v10 x) (Nat.le_refl _) hx11'
    obtain ⟨A10, c10, rfl, -⟩ := hx11'
    have HR11 := Lib.hid R11
    clear HR10 R11 hx11 hb11
    refine hK.out _ _ (HR11.out.get 5 rfl).cell (fun hHeld => ?_)
    clear hK K
    (try simp only [Act.put, List.setIfInBounds_toArray, List.set_cons_zero, List.set_cons_succ])
    have HG := Lib.hid (HR11.out.only [2, 0, 3, 4, 7])
    have fg := (HR11.out.get 2 rfl).cell
    have zg := (HR11.out.get 2 rfl).frozen
    ((refine AnyT.last (i := 10) (by kernel_rfl) rfl (by kernel_rfl) (fun K hK => ?_)))
    go_simp
    refine hK.out _ _ ?_
    clear hK K
    (try simp only [Act.put, List.setIfInBounds_toArray, List.set_cons_zero, List.set_cons_succ])
    refine AnyT.done (by kernel_rfl) ?_ _
    have HRR := Lib.hid (Stand.set3 HG.out (by omega) (by
      intro f hf
      simp only [List.filterMap_cons, List.filterMap_nil, List.getElem?_cons_zero, List.getElem?_cons_succ, List.mem_cons, List.not_mem_nil, or_false] at hf
      rcases hf with rfl | rfl | rfl | rfl
      all_goals (simp only; omega)) (.int .i64 x.row) (.int .i64 x.col) (.slice A10 x.rows.length c10))
    clear HG fg zg HR11
    generalize (((w11.setCell ⟨w8.heap.size, 0, none⟩ (.int .i64 x.row)).setCell ⟨w8.heap.size, 1, none⟩ (.int .i64 x.col)).setCell ⟨w8.heap.size, 2, none⟩ (.slice A10 x.rows.length c10)) = wr at *
    have f7 := (HRR.out.get 2 rfl).cell
    have f9 := (HRR.out.get 0 rfl).cell
    go_wp2_with fail
    refine (specScreenOk_any x _ w4.heap.size w5.heap.size wr (HRR.out.get 3 rfl) (HRR.out.le 3 rfl) (small_of_scrB HTB.out)).mono ?_
    rintro e13 w13 ⟨rfl, hb13⟩
    rw [HTB.out]
    have HR13 := Lib.hid (HRR.out.below hb13)
    clear HRR hb13 f7 f9
    have f7 := (HR13.out.get 2 rfl).cell
    have f9 := (HR13.out.get 0 rfl).cell
    have q1 : (x.row != x.row) = false := by simp
    have q2 : (x.col != x.col) = false := by simp
    go_wp2_with fail
    refine (b10Texts_any A5 A10 x.rows.length c5 c10 _ _ _ _ x.rows w13 ((HR13.out.get 3 rfl).rows) ((HR13.out.get 1 rfl).rows) (by have := (small_of_scrB HTB.out).1; omega)).mono ?_
    rintro e14 w14 ⟨rfl, hb14⟩
    have HR14 := Lib.hid (HR13.out.below hb14)
    clear HR13 hb14 f7 f9 q1 q2
    go_wp2_with fail
    refine (b10At_any 0 w.heap.size B m d 1 20 w14 (HR14.out.get 4 rfl) (by omega) (by omega)).mono ?_
    rintro e15 w15 ⟨col, rfl, hc0, hc1, hb15⟩
    have hc19 : col ≤ 19 := by have := hc1 (by omega); omega
    have HR15 := Lib.hid (HR14.out.below hb15)
    clear HR14 hb15 hc1
    have f7 := (HR15.out.get 2 rfl).cell
    go_wp2_with fail
    refine (implTabTo_any x col _ w4.heap.size w5.heap.size w15 (HR15.out.get 3 rfl) (HR15.out.le 3 rfl) (small_of_scrB HTB.out)).mono ?_
    rintro e16 w16 ⟨v16, rfl, hx16, hb16⟩
    obtain ⟨hl1, hl2, hl3⟩ := tabToP_law HTB.out hc0 hc19
    obtain ⟨tt, htt⟩ : ∃ T, T = tabToP x col := ⟨_, rfl⟩
    rw [← htt] at hx16 hl1 hl2 hl3
    have hx16' := hx16.inside.reads
    have R16 := (HR15.out.below hb16).add w15.heap.size w16.heap.size _ (loc_scrR w15.heap.size w16.heap.size v16 tt) (Nat.le_refl _) hx16'
    obtain ⟨A16, c16, rfl, -⟩ := hx16'
    have HR16 := Lib.hid R16
    have HL1 := Lib.hid hl1
    have HL3 := Lib.hid hl3
    have HL2 := Lib.hid hl2
    clear R16 HR15 hx16 hb16 hl1 hl2 hl3 htt f7
    go_wp2_with fail
    have R17 := HR16.out.box 26 #[.int .i64 tt.row, .int .i64 tt.col, .slice A16 tt.rows.length c16]
    generalize w16.alloc (.cells #[.int .i64 tt.row, .int .i64 tt.col, .slice A16 tt.rows.length c16] 26) = w17 at *
    have HR17 := Lib.hid R17
    clear R17 HR16
    refine (specScreenOk_any tt _ w15.heap.size w16.heap.size w17 (HR17.out.get 1 rfl) (HR17.out.le 1 rfl) (small_of_scrB HL1.out)).mono ?_
    rintro e18 w18 ⟨rfl, hb18⟩
    rw [HL1.out]
    have HR18 := Lib.hid (HR17.out.below hb18)
    clear HR17 hb18
    have qr : (tt.row == x.row) = true := by rw [HL3.out]; simp
    have f11 := (HR18.out.get 0 rfl).cell
    have f7 := (HR18.out.get 4 rfl).cell
    by_cases hcx : col < x.col
    · go_wp2_with fail
      refine (screenText_any tt _ w15.heap.size w16.heap.size w18 (HR18.out.get 1 rfl) (HR18.out.le 1 rfl) (small_of_scrB HL1.out) HL1.out).mono ?_
      rintro e19 w19 ⟨tx, htx, rfl, hb19⟩
      have HR19 := Lib.hid (HR18.out.below hb19)
      have hti : (tx.size : Int) ≤ 126 := by omega
      clear HR18 hb19 f11 f7
      go_wp2_with fail
      go_ret
      exact ⟨rfl, HR19.out.1⟩
    · have qc : (tt.col == col) = true := by
        rcases HL2.out with h | h
        · omega
        · rw [h]; simp
      go_wp2_with fail
      refine (screenText_any tt _ w15.heap.size w16.heap.size w18 (HR18.out.get 1 rfl) (HR18.out.le 1 rfl) (small_of_scrB HL1.out) HL1.out).mono ?_
      rintro e19 w19 ⟨tx, htx, rfl, hb19⟩
      have HR19 := Lib.hid (HR18.out.below hb19)
      have hti : (tx.size : Int) ≤ 126 := by omega
      clear HR18 hb19 f11 f7
      go_wp2_with fail
      go_ret
      exact ⟨rfl, HR19.out.1⟩
end Go.Proofs.YtbpopkaafellgaaDoor
