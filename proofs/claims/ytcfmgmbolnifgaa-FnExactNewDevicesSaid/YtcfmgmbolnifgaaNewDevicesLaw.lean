/- FnExactNewDevices returns true: the walk of the law (printed by wip/gen_lawnd.py). -/
import Derived.Test.YtcfmgmbolnifgaaDevP
import Derived.Test.YtcfmgmbolnifgaaActTo
namespace Go.Proofs.Ytcfmgmbolnifgaa
open Go.RowKit

set_option maxHeartbeats 4000000 in
set_option maxRecDepth 100000 in
theorem law_NewDevices (A : Option Addr) (c : Nat) (xs : List ByteArray) (w : World) (hx : StrR w 0 w.heap.size A xs.length xs) (hr : xs.length ≤ 9223372036854775807 ∧ ∀ r ∈ xs, r.size ≤ 9223372036854775807) :
    Calls Try.prog 8 #[.slice A xs.length c] w fun e w' => e = .returned (.bool true) ∧ Below w.heap.size w w' := by
  have HX := Lib.hid hx
  have HR := Lib.hid hr; clear hr hx
  have R0 := (Stand.nil w).add 0 w.heap.size _ (loc_strR 0 w.heap.size A _ xs) (Nat.le_refl _) HX.out
  have HR0 := Lib.hid R0; clear R0
  go_enter Try.func8, Try.ntmps8
  go_wp2_with fail
  refine (szStringS_m _ _ _ 0 w.heap.size _ xs _ HX.out HR.out.1 (by omega) (by omega) HR.out.2).mono ?_
  rintro e1 w1 ⟨m, rfl, hm, rfl⟩
  rcases hm with rfl | ⟨hm0, hm1⟩
  · go_wp2_with fail
    go_ret
    exact ⟨rfl, HR0.out.1⟩
  have HS := Lib.hid (show xs.length ≤ 1048576 ∧ ∀ x ∈ xs, x.size ≤ 1048576 by unfold costStrs at hm1; exact ⟨by omega, fun y hy => by have := mem_le_sizeAll hy; omega⟩); clear hm1
  have nm : ¬ (m < 0) := by omega
  have s1 := HR0.out.le 0 rfl
  go_wp2_with fail
  refine (toStringS_any A xs.length c 0 w.heap.size xs _ (HR0.out.get 0 rfl) (HR0.out.le 0 rfl) HS.out.1).mono ?_
  rintro e2 w2 ⟨v2, rfl, ⟨⟨A2, c2, rfl⟩, ho2⟩, hb2⟩
  have s2 := hb2.size
  have R2 := HR0.out.below hb2; have HX2 := Lib.hid (StrR.of_own ho2)
  have HR2 := Lib.hid R2; clear R2 HR0 hb2 ho2
  go_wp2_with fail
  refine (specNewDevices_any A2 c2 _ _ xs _ HX2.out (Nat.le_refl _) HS.out.1 HS.out.2).mono ?_
  rintro e3 w3 ⟨v3, rfl, hx3, hb3⟩
  have s3 := hb3.size
  have HT := Lib.hid (newDevP_small xs HS.out.1)
  have HI := Lib.hid (fun A c lo hi W h1 h2 => implNewDevices_any A c lo hi xs W h1 h2 HS.out.1 HS.out.2)
  generalize newDevP xs = T at *
  have nT : (T.2.2 != T.2.2) = false := by simp
  have R3 := (HR2.out.below hb3).add _ _ _ (loc_devR0 w2.heap.size w3.heap.size v3 T.1 T.2.1) (Nat.le_refl _) hx3.reads
  obtain ⟨A3, c3, K3, d3, _, rfl, hA3⟩ := hx3
  have HR3 := Lib.hid R3; clear R3 HR2 hb3 hA3 HX2
  go_wp2_with fail
  have R4 := HR3.out.box 61 #[.int .i64 0, .int .i64 T.1.row, .int .i64 T.1.col, .slice A3 T.1.rows.length c3, .slice none 0 0, .slice K3 T.2.1.length d3]
  have s4 : w3.heap.size + 1 ≤ (w3.alloc (.cells #[.int .i64 0, .int .i64 T.1.row, .int .i64 T.1.col, .slice A3 T.1.rows.length c3, .slice none 0 0, .slice K3 T.2.1.length d3] 61)).heap.size := by simp
  generalize w3.alloc (.cells #[.int .i64 0, .int .i64 T.1.row, .int .i64 T.1.col, .slice A3 T.1.rows.length c3, .slice none 0 0, .slice K3 T.2.1.length d3] 61) = w4 at *
  have HR4 := Lib.hid R4; clear R4 HR3
  refine (toStringS_any A xs.length c 0 w.heap.size xs _ (HR4.out.get 2 rfl) (HR4.out.le 2 rfl) HS.out.1).mono ?_
  rintro e5 w5 ⟨v5, rfl, ⟨⟨A5, c5, rfl⟩, ho5⟩, hb5⟩
  have s5 := hb5.size
  have R5 := (HR4.out.below hb5).add w4.heap.size w5.heap.size _ (loc_own w4.heap.size w5.heap.size A5 xs.length c5 _ _ (fun g hg => (ho5.lt g hg).2)) (Nat.le_refl _) ho5; have HO5 := Lib.hid (fun g hg => (ho5.lt g hg).2)
  have HR5 := Lib.hid R5; clear R5 HR4 hb5 ho5
  go_wp2_with fail
  refine (HI.out _ _ _ _ _ (own_reads (HR5.out.get 0 rfl) HO5.out) (HR5.out.le 0 rfl)).mono ?_
  rintro e6 w6 ⟨v6, rfl, hx6, hb6⟩
  have s6 := hb6.size
  have R6 := (HR5.out.below hb6).add _ _ _ (loc_ownDev0 _ w6.heap.size v6 T.1 T.2.1) (Nat.le_refl _) hx6
  obtain ⟨A6, c6, K6, d6, _, rfl, hA6⟩ := hx6
  have HR6 := Lib.hid R6; clear R6 HR5 hb6 hA6
  have f_w := (HR6.out.get 2 rfl).cell; have g_w := fun o => ((HR6.out.alloc o).get 2 rfl).cell
  go_wp2_with fail
  have R7 := HR6.out.box 61 #[.int .i64 0, .int .i64 T.1.row, .int .i64 T.1.col, .slice A6 T.1.rows.length c6, .slice none 0 0, .slice K6 T.2.1.length d6]
  have s7 : w6.heap.size + 1 ≤ (w6.alloc (.cells #[.int .i64 0, .int .i64 T.1.row, .int .i64 T.1.col, .slice A6 T.1.rows.length c6, .slice none 0 0, .slice K6 T.2.1.length d6] 61)).heap.size := by simp
  clear f_w g_w
  generalize w6.alloc (.cells #[.int .i64 0, .int .i64 T.1.row, .int .i64 T.1.col, .slice A6 T.1.rows.length c6, .slice none 0 0, .slice K6 T.2.1.length d6] 61) = w7 at *
  have HR7 := Lib.hid R7; clear R7 HR6
  refine (eqDevices_same0 T.1 T.2.1 _ _ _ _ _ _ _ (HR7.out.get 1 rfl).reads (HR7.out.get 4 rfl) (HR7.out.le 1 rfl) (HR7.out.le 4 rfl) HT.out).mono ?_
  rintro e8 w8 ⟨rfl, hb8⟩
  have R8 := HR7.out.below hb8; have s8 := hb8.size
  have HR8 := Lib.hid R8; clear R8 HR7 hb8
  go_wp2_with fail
  refine (toStringS_any A xs.length c 0 w.heap.size xs _ (HR8.out.get 5 rfl) (HR8.out.le 5 rfl) HS.out.1).mono ?_
  rintro e9 w9 ⟨v9, rfl, ⟨⟨A9, c9, rfl⟩, ho9⟩, hb9⟩
  have s9 := hb9.size
  have R9 := HR8.out.below hb9; have HX9 := Lib.hid (StrR.of_own ho9)
  have HR9 := Lib.hid R9; clear R9 HR8 hb9 ho9
  go_wp2_with fail
  refine (eqStringS_b _ _ _ _ _ _ _ _ _ _ xs xs _ (own_reads (HR9.out.get 2 rfl) HO5.out) HX9.out (by have := HS.out.1; omega) (by have := HS.out.1; omega)).mono ?_
  rintro e10 w10 ⟨rfl, hb10⟩
  rw [decide_eq_true rfl]
  have R10 := HR9.out.below hb10; have s10 := hb10.size
  have HR10 := Lib.hid R10; clear R10 HR9 hb10 HX9
  go_wp2_with fail
  refine (markStringS_one w4.heap.size _ _ _ xs _ (HR10.out.get 2 rfl) (by have := HS.out.1; omega)).mono ?_
  rintro e11 w11 ⟨rfl, ho11, hg11⟩
  have hw11 : Within w4.heap.size w5.heap.size w10 w11 := Within.of_grown hg11 (fun g hg => ⟨(ho11.lt g hg).1, HO5.out g hg⟩)
  have s11 := hw11.size
  have R11 := ((HR10.out.only [0, 1, 3, 4, 5]).within hw11 (by omega) (by
    intro f hf
    simp only [List.filterMap_cons, List.filterMap_nil, List.getElem?_cons_zero, List.getElem?_cons_succ, List.mem_cons, List.not_mem_nil, or_false] at hf
    rcases hf with rfl | rfl | rfl | rfl | rfl
    all_goals (simp only; omega)))
  have HR11 := Lib.hid R11; clear R11 HR10 hg11 ho11 hw11
  have nk : ¬ (((1 + xs.length : Nat) : Int) < 0) := by omega
  have f_g := (HR11.out.get 0 rfl).cell; have g_g := fun o => ((HR11.out.alloc o).get 0 rfl).cell
  have f_w := (HR11.out.get 2 rfl).cell; have g_w := fun o => ((HR11.out.alloc o).get 2 rfl).cell
  go_wp2_with fail
  refine (eqDevices_same0 T.1 T.2.1 _ _ _ _ _ _ _ (HR11.out.get 1 rfl).reads (HR11.out.get 3 rfl) (HR11.out.le 1 rfl) (HR11.out.le 3 rfl) HT.out).mono ?_
  rintro e12 w12 ⟨rfl, hb12⟩
  have R12 := HR11.out.below hb12; have s12 := hb12.size
  have HR12 := Lib.hid R12; clear R12 HR11 hb12
  clear f_g g_g f_w g_w
  have f_g := (HR12.out.get 0 rfl).cell; have g_g := fun o => ((HR12.out.alloc o).get 0 rfl).cell
  go_wp2_with fail
  refine (markDevices_I0 T.1 T.2.1 _ _ _ _ (HR12.out.get 1 rfl) (HR12.out.le 1 rfl) HT.out).mono ?_
  rintro e13 w13 ⟨m13, rfl, hm13, hh13, hw13⟩
  have s13 := hw13.size
  have R13 := ((HR12.out.only [0, 2, 3, 4]).within hw13 (by omega) (by
    intro f hf
    simp only [List.filterMap_cons, List.filterMap_nil, List.getElem?_cons_zero, List.getElem?_cons_succ, List.mem_cons, List.not_mem_nil, or_false] at hf
    rcases hf with rfl | rfl | rfl | rfl
    all_goals (simp only; omega)))
  have R13' := R13.add _ _ _ (loc_heldDev0 _ _ _ m13) (by omega) hh13; clear R13; have R13 := R13'; clear R13'
  have HR13 := Lib.hid R13; clear R13 HR12 hw13 hh13
  have nm13 : ¬ (m13 < 0) := by omega
  have nq : (m13 != m13) = false := by simp
  clear f_g g_g
  have f_g := (HR13.out.get 1 rfl).cell; have g_g := fun o => ((HR13.out.alloc o).get 1 rfl).cell
  go_wp2_with fail
  refine (heldDevices_I0 _ m13 _ _ _ (HR13.out.get 0 rfl) (HR13.out.le 0 rfl)).mono ?_
  rintro e14 w14 ⟨rfl, hb14⟩
  have R14 := HR13.out.below hb14; have s14 := hb14.size
  have HR14 := Lib.hid R14; clear R14 HR13 hb14
  clear f_g g_g
  go_wp2_with fail
  refine (toStringS_any A xs.length c 0 w.heap.size xs _ (HR14.out.get 4 rfl) (HR14.out.le 4 rfl) HS.out.1).mono ?_
  rintro e15 w15 ⟨v15, rfl, ⟨⟨A15, c15, rfl⟩, ho15⟩, hb15⟩
  have s15 := hb15.size
  have R15 := HR14.out.below hb15; have HX15 := Lib.hid (StrR.of_own ho15)
  have HR15 := Lib.hid R15; clear R15 HR14 hb15 ho15
  go_wp2_with fail
  refine (HI.out _ _ _ _ _ (HX15.out) (Nat.le_refl _)).mono ?_
  rintro e16 w16 ⟨v16, rfl, hx16, hb16⟩
  have s16 := hb16.size
  have R16 := (HR15.out.below hb16).add _ _ _ (loc_ownDev0 _ w16.heap.size v16 T.1 T.2.1) (Nat.le_refl _) hx16
  obtain ⟨A16, c16, K16, d16, _, rfl, hA16⟩ := hx16
  have HR16 := Lib.hid R16; clear R16 HR15 hb16 hA16
  have f_w := (HR16.out.get 3 rfl).cell; have g_w := fun o => ((HR16.out.alloc o).get 3 rfl).cell
  have f_g := (HR16.out.get 2 rfl).cell; have g_g := fun o => ((HR16.out.alloc o).get 2 rfl).cell
  go_wp2_with fail
  have R17 := HR16.out.box 61 #[.int .i64 0, .int .i64 T.1.row, .int .i64 T.1.col, .slice A16 T.1.rows.length c16, .slice none 0 0, .slice K16 T.2.1.length d16]
  have s17 : w16.heap.size + 1 ≤ (w16.alloc (.cells #[.int .i64 0, .int .i64 T.1.row, .int .i64 T.1.col, .slice A16 T.1.rows.length c16, .slice none 0 0, .slice K16 T.2.1.length d16] 61)).heap.size := by simp
  clear f_w g_w f_g g_g
  generalize w16.alloc (.cells #[.int .i64 0, .int .i64 T.1.row, .int .i64 T.1.col, .slice A16 T.1.rows.length c16, .slice none 0 0, .slice K16 T.2.1.length d16] 61) = w17 at *
  have HR17 := Lib.hid R17; clear R17 HR16
  have f_h := (HR17.out.get 0 rfl).cell; have g_h := fun o => ((HR17.out.alloc o).get 0 rfl).cell
  have f_w := (HR17.out.get 4 rfl).cell; have g_w := fun o => ((HR17.out.alloc o).get 4 rfl).cell
  have f_g := (HR17.out.get 3 rfl).cell; have g_g := fun o => ((HR17.out.alloc o).get 3 rfl).cell
  refine (eqDevices_same0 T.1 T.2.1 _ _ _ _ _ _ _ (HR17.out.get 1 rfl).reads (HR17.out.get 5 rfl) (HR17.out.le 1 rfl) (HR17.out.le 5 rfl) HT.out).mono ?_
  rintro e18 w18 ⟨rfl, hb18⟩
  have R18 := HR17.out.below hb18; have s18 := hb18.size
  have HR18 := Lib.hid R18; clear R18 HR17 hb18
  clear f_h g_h f_w g_w f_g g_g
  have f_g := (HR18.out.get 3 rfl).cell; have g_g := fun o => ((HR18.out.alloc o).get 3 rfl).cell
  go_wp2_with fail
  refine (heldDevices_I0 _ m13 _ _ _ (HR18.out.get 2 rfl) (HR18.out.le 2 rfl)).mono ?_
  rintro e19 w19 ⟨rfl, hb19⟩
  have R19 := HR18.out.below hb19; have s19 := hb19.size
  have HR19 := Lib.hid R19; clear R19 HR18 hb19
  clear f_g g_g
  go_wp2_with fail
  go_ret
  exact ⟨rfl, HR19.out.1⟩

end Go.Proofs.Ytcfmgmbolnifgaa
