/- FnExactShowOn returns true: the walk of the law (printed by wip/gen_law.py). -/
import Derived.Test.YtcfmgmbolnifgaaScreenK
import Derived.Test.YtcfmgmbolnifgaaLaw
namespace Go.Proofs.Ytcfmgmbolnifgaa
open Go.RowKit

set_option maxHeartbeats 4000000 in
set_option maxRecDepth 100000 in
theorem law_ShowOn (x : Scr) (text : ByteArray) (v : Value) (w : World) (hx : ScrR w 0 w.heap.size v x) (hr : x.rows.length ≤ 9223372036854775807 ∧ ∀ r ∈ x.rows, r.size ≤ 9223372036854775807) (htl : text.size ≤ 9223372036854775807) :
    Calls Try.prog 9 #[v, .string text] w fun e w' => e = .returned (.bool true) ∧ Below w.heap.size w w' := by
  have HX := Lib.hid hx
  obtain ⟨A, c, rfl, hA⟩ := hx
  clear hA
  have HR := Lib.hid hr; clear hr
  by_cases hlt : 1048576 < text.size
  · have hD := (Below.refl w.heap.size w).alloc (Nat.le_refl _) (.cells #[.int .i64 x.row, .int .i64 x.col, .slice A x.rows.length c] 46)
    have HD := Lib.hid hD; clear hD
    go_enter Try.func9, Try.ntmps9
    go_wp2_with fail
    go_ret
    exact ⟨rfl, HD.out⟩
  have ht : text.size ≤ 1048576 := by omega
  clear hlt htl
  have HS0 := Lib.hid ((Stand.nil w).add 0 w.heap.size _ (loc_scrR 0 w.heap.size (.agg #[.int .i64 x.row, .int .i64 x.col, .slice A x.rows.length c]) x) (Nat.le_refl _) HX.out)
  go_enter Try.func9, Try.ntmps9
  go_wp2_with fail
  have R0 := HS0.out.box 46 #[.int .i64 x.row, .int .i64 x.col, .slice A x.rows.length c]
  refine (szScreen_any x _ 0 w.heap.size _ _ (R0.get 1 rfl) (R0.le 1 rfl) HR.out (by omega) (by omega)).mono ?_
  rintro e1 w1 ⟨m, rfl, hm, hb1⟩
  have R1 := R0.below hb1; clear hb1 R0
  have f_p := (R1.get 0 rfl).cell
  rcases hm with rfl | ⟨hm0, hm1⟩
  · have HB := Lib.hid R1.1; clear R1
    go_wp2_with fail
    go_ret
    exact ⟨rfl, HB.out⟩
  have HS := Lib.hid (ScrSmall.of_cost (s := x) (by omega)); have HSL := Lib.hid HS.out.1; clear hm1
  have nm : ¬ (m < 0) := by omega
  have HR1 := Lib.hid R1; clear R1
  have s1 := HR1.out.le 0 rfl
  go_wp2_with fail
  refine (toScreen_any x _ 0 w.heap.size _ (HR1.out.get 1 rfl) (HR1.out.le 1 rfl) HS.out).mono ?_
  rintro e2 w2 ⟨v2, rfl, hx2, hb2⟩
  have s2 := hb2.size
  have R2 := HR1.out.below hb2; have HX2 := Lib.hid hx2.reads
  have HR2 := Lib.hid R2; clear R2 HR1 hb2 hx2
  clear f_p
  go_wp2_with fail
  refine (specShowOn_any x text _ _ _ _ HX2.out (Nat.le_refl _) HS.out ht).mono ?_
  rintro e3 w3 ⟨v3, rfl, hx3, hb3⟩
  have s3 := hb3.size
  have HT := Lib.hid (showOnP_small x text)
  have HI := Lib.hid (fun v lo hi W h1 h2 => implShowOn_any x text v lo hi W h1 h2 HS.out ht)
  generalize showOnP x text = T at *
  have R3 := (HR2.out.below hb3).add _ _ _ (loc_scrR w2.heap.size w3.heap.size v3 T) (Nat.le_refl _) hx3
  obtain ⟨A3, c3, rfl, hA3⟩ := hx3
  have HR3 := Lib.hid R3; clear R3 HR2 hb3 hA3 HX2
  have f_p := (HR3.out.get 1 rfl).cell; have g_p := fun o => ((HR3.out.alloc o).get 1 rfl).cell
  go_wp2_with fail
  have R4 := HR3.out.box 48 #[.int .i64 T.row, .int .i64 T.col, .slice A3 T.rows.length c3]
  have s4 : w3.heap.size + 1 ≤ (w3.alloc (.cells #[.int .i64 T.row, .int .i64 T.col, .slice A3 T.rows.length c3] 48)).heap.size := by simp
  clear f_p g_p
  generalize w3.alloc (.cells #[.int .i64 T.row, .int .i64 T.col, .slice A3 T.rows.length c3] 48) = w4 at *
  have HR4 := Lib.hid R4; clear R4 HR3
  refine (toScreen_any x _ 0 w.heap.size _ (HR4.out.get 3 rfl) (HR4.out.le 3 rfl) HS.out).mono ?_
  rintro e5 w5 ⟨v5, rfl, hx5, hb5⟩
  have s5 := hb5.size
  have hx5' := hx5.inside
  have R5 := (HR4.out.below hb5).add _ _ _ (loc_ownScr w4.heap.size w5.heap.size v5 x) (Nat.le_refl _) hx5'
  obtain ⟨A5, c5, rfl, hA5⟩ := hx5'
  have HR5 := Lib.hid R5; clear R5 HR4 hb5 hx5 hA5
  go_wp2_with fail
  have R6 := HR5.out.box 48 #[.int .i64 x.row, .int .i64 x.col, .slice A5 x.rows.length c5]
  have s6 : w5.heap.size + 1 ≤ (w5.alloc (.cells #[.int .i64 x.row, .int .i64 x.col, .slice A5 x.rows.length c5] 48)).heap.size := by simp
  generalize w5.alloc (.cells #[.int .i64 x.row, .int .i64 x.col, .slice A5 x.rows.length c5] 48) = w6 at *
  have HR6 := Lib.hid R6; clear R6 HR5
  refine (HI.out _ _ _ _ ((HR6.out.get 1 rfl).reads) (HR6.out.le 1 rfl)).mono ?_
  rintro e7 w7 ⟨v7, rfl, hx7, hb7⟩
  have hx7' := hx7.inside; have s7 := hb7.size
  have R7 := (HR6.out.below hb7).add _ _ _ (loc_ownScr _ w7.heap.size v7 T) (Nat.le_refl _) hx7'
  obtain ⟨A7, c7, rfl, hA7⟩ := hx7'
  have HR7 := Lib.hid R7; clear R7 HR6 hb7 hx7 hA7
  have f_w := (HR7.out.get 3 rfl).cell; have g_w := fun o => ((HR7.out.alloc o).get 3 rfl).cell
  go_wp2_with fail
  have R8 := HR7.out.box 48 #[.int .i64 T.row, .int .i64 T.col, .slice A7 T.rows.length c7]
  have s8 : w7.heap.size + 1 ≤ (w7.alloc (.cells #[.int .i64 T.row, .int .i64 T.col, .slice A7 T.rows.length c7] 48)).heap.size := by simp
  clear f_w g_w
  generalize w7.alloc (.cells #[.int .i64 T.row, .int .i64 T.col, .slice A7 T.rows.length c7] 48) = w8 at *
  have HR8 := Lib.hid R8; clear R8 HR7
  refine (eqScreen_same T _ _ _ _ _ _ _ (HR8.out.get 1 rfl).reads (HR8.out.get 5 rfl) (HR8.out.le 1 rfl) (HR8.out.le 5 rfl) HT.out).mono ?_
  rintro e9 w9 ⟨rfl, hb9⟩
  have R9 := HR8.out.below hb9; have s9 := hb9.size
  have HR9 := Lib.hid R9; clear R9 HR8 hb9
  obtain ⟨FS, hF, hP, hQ⟩ := HR9.out.pack (fun W => (Blk W w.heap.size 46 #[.int .i64 x.row, .int .i64 x.col, .slice A x.rows.length c] ∧ Blk W w5.heap.size 48 #[.int .i64 x.row, .int .i64 x.col, .slice A5 x.rows.length c5]) ∧ (ScrR W 0 w.heap.size (.agg #[.int .i64 x.row, .int .i64 x.col, .slice A x.rows.length c]) x ∧ w.heap.size ≤ W.heap.size) ∧ (ScrR W w4.heap.size w5.heap.size (.agg #[.int .i64 x.row, .int .i64 x.col, .slice A5 x.rows.length c5]) x ∧ w5.heap.size ≤ W.heap.size)) (fun W h => ⟨⟨h.get 6 rfl, h.get 2 rfl⟩, ⟨h.get 7 rfl, h.le 7 rfl⟩, ⟨(h.get 3 rfl).reads, h.le 3 rfl⟩⟩)
  have HF := Lib.hid hF; have HFd := Lib.hid hF.drew; have HP1 := Lib.hid (fun W h => (hP W h).1); have HPA := Lib.hid (fun W h => (hP W h).2.1); have HPX := Lib.hid (fun W h => (hP W h).2.2); have HQ := Lib.hid hQ; clear hF hP hQ HR9
  have f_p := (HP1.out _ HF.out).1.cell; have f_x := (HP1.out _ HF.out).2.cell
  go_wp2_with fail
  clear f_p f_x
  go_region_held3 (fun w' => (∀ i, w'.cell? ⟨w.heap.size, i, none⟩ = (#[.int .i64 x.row, .int .i64 x.col, .slice A x.rows.length c] : Array Value)[i]?) ∧ (∀ i, w'.cell? ⟨w5.heap.size, i, none⟩ = (#[.int .i64 x.row, .int .i64 x.col, .slice A5 x.rows.length c5] : Array Value)[i]?) ∧ Stand w FS w')
    (first | (with_reducible exact Stand.show2 HP1.out HF.out) | (with_reducible exact Stand.show2 HP1.out HFd.out) | (with_reducible exact Stand.show2 HP1.out R10) | (with_reducible exact Stand.show2 HP1.out R11))
    (first | (go_at_call 30; (with_reducible refine (toScreen_any x _ 0 w.heap.size _ (HPA.out _ HFd.out).1 (HPA.out _ HFd.out).2 HS.out).mono ?_); rintro e10 w10 ⟨v10, rfl, hx10, hb10⟩; have s10 := hb10.size; have R10 := HFd.out.below hb10) | (go_at_call 32; (with_reducible refine (eqScreen_same x _ _ _ _ _ _ _ (HPX.out _ R10).1 hx10.reads (HPX.out _ R10).2 (Nat.le_refl _) HSL.out).mono ?_); rintro e11 w11 ⟨rfl, hb11⟩; have s11 := hb11.size; have R11 := R10.below hb11))
  have HR11 := Lib.hid (HQ.out _ R11); clear R10 R11 hx10 HF HFd HP1 HPA HPX HQ hb10 hb11
  have s9' : w9.drew.heap.size = w9.heap.size := rfl
  rw [s9'] at s10; clear s9'
  have f_x := (HR11.out.get 2 rfl).cell; have g_x := fun o => ((HR11.out.alloc o).get 2 rfl).cell
  go_wp2_with fail
  refine (markScreen_I x _ _ _ _ (HR11.out.get 3 rfl) HSL.out).mono ?_
  rintro e12 w12 ⟨m12, rfl, hm12, hh12, hw12⟩
  have s12 := hw12.size
  have R12 := ((HR11.out.only [0, 1, 2, 4, 5, 6, 7]).within hw12 (by omega) (by
    intro f hf
    simp only [List.filterMap_cons, List.filterMap_nil, List.getElem?_cons_zero, List.getElem?_cons_succ, List.mem_cons, List.not_mem_nil, or_false] at hf
    rcases hf with rfl | rfl | rfl | rfl | rfl | rfl | rfl
    all_goals (simp only; omega)))
  have HR12 := Lib.hid R12; clear R12 HR11 hw12 hh12
  have nm12 : ¬ (m12 < 0) := by omega
  clear f_x g_x
  have f_g := (HR12.out.get 0 rfl).cell; have g_g := fun o => ((HR12.out.alloc o).get 0 rfl).cell
  have f_w := (HR12.out.get 3 rfl).cell; have g_w := fun o => ((HR12.out.alloc o).get 3 rfl).cell
  go_wp2_with fail
  refine (eqScreen_same T _ _ _ _ _ _ _ (HR12.out.get 1 rfl).reads (HR12.out.get 4 rfl) (HR12.out.le 1 rfl) (HR12.out.le 4 rfl) HT.out).mono ?_
  rintro e13 w13 ⟨rfl, hb13⟩
  have R13 := HR12.out.below hb13; have s13 := hb13.size
  have HR13 := Lib.hid R13; clear R13 HR12 hb13
  clear f_g g_g f_w g_w
  have f_g := (HR13.out.get 0 rfl).cell; have g_g := fun o => ((HR13.out.alloc o).get 0 rfl).cell
  go_wp2_with fail
  refine (markScreen_I T _ _ _ _ (HR13.out.get 1 rfl) HT.out).mono ?_
  rintro e14 w14 ⟨m14, rfl, hm14, hh14, hw14⟩
  have s14 := hw14.size
  have R14 := ((HR13.out.only [0, 2, 3, 4, 5, 6]).within hw14 (by omega) (by
    intro f hf
    simp only [List.filterMap_cons, List.filterMap_nil, List.getElem?_cons_zero, List.getElem?_cons_succ, List.mem_cons, List.not_mem_nil, or_false] at hf
    rcases hf with rfl | rfl | rfl | rfl | rfl | rfl
    all_goals (simp only; omega)))
  have R14' := R14.add _ _ _ (loc_heldScr _ _ _ m14) (by omega) hh14; clear R14; have R14 := R14'; clear R14'
  have HR14 := Lib.hid R14; clear R14 HR13 hw14 hh14
  have nm14 : ¬ (m14 < 0) := by omega
  clear f_g g_g
  have f_g := (HR14.out.get 1 rfl).cell; have g_g := fun o => ((HR14.out.alloc o).get 1 rfl).cell
  go_wp2_with fail
  have nq : (m14 != m14) = false := by simp
  refine (heldScreen_I _ m14 _ _ _ (HR14.out.get 0 rfl) (HR14.out.le 0 rfl)).mono ?_
  rintro e15 w15 ⟨rfl, hb15⟩
  have R15 := HR14.out.below hb15; have s15 := hb15.size
  have HR15 := Lib.hid R15; clear R15 HR14 hb15
  clear f_g g_g
  have f_p := (HR15.out.get 5 rfl).cell; have g_p := fun o => ((HR15.out.alloc o).get 5 rfl).cell
  go_wp2_with fail
  refine (toScreen_any x _ 0 w.heap.size _ (HR15.out.get 6 rfl) (HR15.out.le 6 rfl) HS.out).mono ?_
  rintro e16 w16 ⟨v16, rfl, hx16, hb16⟩
  have s16 := hb16.size
  have R16 := HR15.out.below hb16; have HX16 := Lib.hid hx16.reads
  have HR16 := Lib.hid R16; clear R16 HR15 hb16 hx16
  clear f_p g_p
  go_wp2_with fail
  refine (HI.out _ _ _ _ (HX16.out) (Nat.le_refl _)).mono ?_
  rintro e17 w17 ⟨v17, rfl, hx17, hb17⟩
  have hx17' := hx17.inside; have s17 := hb17.size
  have R17 := (HR16.out.below hb17).add _ _ _ (loc_ownScr _ w17.heap.size v17 T) (Nat.le_refl _) hx17'
  obtain ⟨A17, c17, rfl, hA17⟩ := hx17'
  have HR17 := Lib.hid R17; clear R17 HR16 hb17 hx17 hA17
  have f_w := (HR17.out.get 4 rfl).cell; have g_w := fun o => ((HR17.out.alloc o).get 4 rfl).cell
  have f_g := (HR17.out.get 2 rfl).cell; have g_g := fun o => ((HR17.out.alloc o).get 2 rfl).cell
  go_wp2_with fail
  have R18 := HR17.out.box 48 #[.int .i64 T.row, .int .i64 T.col, .slice A17 T.rows.length c17]
  have s18 : w17.heap.size + 1 ≤ (w17.alloc (.cells #[.int .i64 T.row, .int .i64 T.col, .slice A17 T.rows.length c17] 48)).heap.size := by simp
  clear f_w g_w f_g g_g
  generalize w17.alloc (.cells #[.int .i64 T.row, .int .i64 T.col, .slice A17 T.rows.length c17] 48) = w18 at *
  have HR18 := Lib.hid R18; clear R18 HR17
  have f_h := (HR18.out.get 0 rfl).cell; have g_h := fun o => ((HR18.out.alloc o).get 0 rfl).cell
  have f_w := (HR18.out.get 5 rfl).cell; have g_w := fun o => ((HR18.out.alloc o).get 5 rfl).cell
  have f_g := (HR18.out.get 3 rfl).cell; have g_g := fun o => ((HR18.out.alloc o).get 3 rfl).cell
  refine (eqScreen_same T _ _ _ _ _ _ _ (HR18.out.get 1 rfl).reads (HR18.out.get 6 rfl) (HR18.out.le 1 rfl) (HR18.out.le 6 rfl) HT.out).mono ?_
  rintro e19 w19 ⟨rfl, hb19⟩
  have R19 := HR18.out.below hb19; have s19 := hb19.size
  have HR19 := Lib.hid R19; clear R19 HR18 hb19
  clear f_h g_h f_w g_w f_g g_g
  have f_g := (HR19.out.get 3 rfl).cell; have g_g := fun o => ((HR19.out.alloc o).get 3 rfl).cell
  go_wp2_with fail
  refine (heldScreen_I _ m14 _ _ _ (HR19.out.get 2 rfl) (HR19.out.le 2 rfl)).mono ?_
  rintro e20 w20 ⟨rfl, hb20⟩
  have R20 := HR19.out.below hb20; have s20 := hb20.size
  have HR20 := Lib.hid R20; clear R20 HR19 hb20
  clear f_g g_g
  go_wp2_with fail
  go_ret
  exact ⟨rfl, HR20.out.1⟩

end Go.Proofs.Ytcfmgmbolnifgaa
