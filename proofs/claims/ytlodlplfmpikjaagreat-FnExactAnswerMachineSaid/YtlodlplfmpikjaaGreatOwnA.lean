/- l14OwnAll of the reference walked. Printed by gen_owna.py. -/
import Derived.Test.YtlodlplfmpikjaaGreatOwnM
namespace Go.Proofs.YtlodlplfmpikjaaGreat
open Go.RowKit

set_option maxHeartbeats 16000000 in
set_option maxRecDepth 100000 in
theorem l14OwnAll_f (x0 : Int) (x1 : Int) (x2 : List ByteArray) (x3 : List TyRef) (x4 : List TyGiven) (x5 : List TyLoop) (x6 : List TyFrame) (x7 : Int) (x8 : List TyBind) (x9 : List TyCell) (x10 : List TyLevel) (x11 : Bool) (x12 : Bool) (x13 : Bool) (x14 : ByteArray) (x15 : List ByteArray) (x16 : Int) (x17 : Int) (x18 : Int) (x19 : Int) (x20 : ByteArray) (A2 : Option Addr) (c2 : Nat) (A3 : Option Addr) (c3 : Nat) (A4 : Option Addr) (c4 : Nat) (A5 : Option Addr) (c5 : Nat) (A6 : Option Addr) (c6 : Nat) (A8 : Option Addr) (c8 : Nat) (A9 : Option Addr) (c9 : Nat) (A10 : Option Addr) (c10 : Nat) (A15 : Option Addr) (c15 : Nat) (lo hi : Nat) (w : World) (h : shMachine.R w lo hi [.int .i64 x0, .int .i64 x1, .slice A2 x2.length c2, .slice A3 x3.length c3, .slice A4 x4.length c4, .slice A5 x5.length c5, .slice A6 x6.length c6, .int .i64 x7, .slice A8 x8.length c8, .slice A9 x9.length c9, .slice A10 x10.length c10, .bool x11, .bool x12, .bool x13, .string x14, .slice A15 x15.length c15, .int .i64 x16, .int .i64 x17, .int .i64 x18, .int .i64 x19, .string x20] (x0, x1, x2, x3, x4, x5, x6, (x7, x8, x9, x10), x11, x12, (x13, x14, x15), x16, x17, x18, x19, x20)) (hhi : hi ≤ w.heap.size) (hf : shMachine.fit 1048576 (x0, x1, x2, x3, x4, x5, x6, (x7, x8, x9, x10), x11, x12, (x13, x14, x15), x16, x17, x18, x19, x20)) :
    Calls Tryz.prog 20 #[.agg #[.int .i64 x0, .int .i64 x1, .slice A2 x2.length c2, .slice A3 x3.length c3, .slice A4 x4.length c4, .slice A5 x5.length c5, .slice A6 x6.length c6, .int .i64 x7, .slice A8 x8.length c8, .slice A9 x9.length c9, .slice A10 x10.length c10, .bool x11, .bool x12, .bool x13, .string x14, .slice A15 x15.length c15, .int .i64 x16, .int .i64 x17, .int .i64 x18, .int .i64 x19, .string x20]] w fun e w' => ∃ (B2 : Option Addr) (d2 : Nat), ∃ (B3 : Option Addr) (d3 : Nat), ∃ (B4 : Option Addr) (d4 : Nat), ∃ (B5 : Option Addr) (d5 : Nat), ∃ (B6 : Option Addr) (d6 : Nat), ∃ (B8 : Option Addr) (d8 : Nat), ∃ (B9 : Option Addr) (d9 : Nat), ∃ (B10 : Option Addr) (d10 : Nat), ∃ (B15 : Option Addr) (d15 : Nat), e = .returned (.agg #[.int .i64 x0, .int .i64 x1, .slice B2 x2.length d2, .slice B3 x3.length d3, .slice B4 x4.length d4, .slice B5 x5.length d5, .slice B6 x6.length d6, .int .i64 x7, .slice B8 x8.length d8, .slice B9 x9.length d9, .slice B10 x10.length d10, .bool x11, .bool x12, .bool x13, .string x14, .slice B15 x15.length d15, .int .i64 x16, .int .i64 x17, .int .i64 x18, .int .i64 x19, .string x20]) ∧ shMachine.R w' w.heap.size w'.heap.size [.int .i64 x0, .int .i64 x1, .slice B2 x2.length d2, .slice B3 x3.length d3, .slice B4 x4.length d4, .slice B5 x5.length d5, .slice B6 x6.length d6, .int .i64 x7, .slice B8 x8.length d8, .slice B9 x9.length d9, .slice B10 x10.length d10, .bool x11, .bool x12, .bool x13, .string x14, .slice B15 x15.length d15, .int .i64 x16, .int .i64 x17, .int .i64 x18, .int .i64 x19, .string x20] (x0, x1, x2, x3, x4, x5, x6, (x7, x8, x9, x10), x11, x12, (x13, x14, x15), x16, x17, x18, x19, x20) ∧ Below w.heap.size w w' := by
  have HH := Lib.hid h; have HFF := Lib.hid hf
  rw [shMachine_fit] at hf
  obtain ⟨ft0, ft1, ft2, ft3, ft4, ft5, ft6, ft7, ft11, ft12, ft13, ft16, ft17, ft18, ft19, ft20⟩ := hf
  have HA7 := Lib.hid (shMachine_f7 h)
  have hn8 := ft7.2.1.1; have hn9 := ft7.2.2.1.1; have hn10 := ft7.2.2.2.1
  have HF9 := Lib.hid ft7.2.2.1.2; have HF10 := Lib.hid ft7.2.2.2.2
  clear h ft0 ft1 ft2 ft3 ft4 ft5 ft6 ft7 ft11 ft12 ft13 ft16 ft17 ft18 ft19 ft20
  have T0 := Lib.hid (Two.start w 48 48 #[.int .i64 x0, .int .i64 x1, .slice A2 x2.length c2, .slice A3 x3.length c3, .slice A4 x4.length c4, .slice A5 x5.length c5, .slice A6 x6.length c6, .int .i64 x7, .slice A8 x8.length c8, .slice A9 x9.length c9, .slice A10 x10.length c10, .bool x11, .bool x12, .bool x13, .string x14, .slice A15 x15.length c15, .int .i64 x16, .int .i64 x17, .int .i64 x18, .int .i64 x19, .string x20] #[.int .i64 0, .int .i64 0, .slice none 0 0, .slice none 0 0, .slice none 0 0, .slice none 0 0, .slice none 0 0, .int .i64 0, .slice none 0 0, .slice none 0 0, .slice none 0 0, .bool false, .bool false, .bool false, .string ⟨#[]⟩, .slice none 0 0, .int .i64 0, .int .i64 0, .int .i64 0, .int .i64 0, .string ⟨#[]⟩])
  have hz0 : w.heap.size + 1 + 1 ≤ ((w.alloc (.cells #[.int .i64 x0, .int .i64 x1, .slice A2 x2.length c2, .slice A3 x3.length c3, .slice A4 x4.length c4, .slice A5 x5.length c5, .slice A6 x6.length c6, .int .i64 x7, .slice A8 x8.length c8, .slice A9 x9.length c9, .slice A10 x10.length c10, .bool x11, .bool x12, .bool x13, .string x14, .slice A15 x15.length c15, .int .i64 x16, .int .i64 x17, .int .i64 x18, .int .i64 x19, .string x20] 48)).alloc (.cells #[.int .i64 0, .int .i64 0, .slice none 0 0, .slice none 0 0, .slice none 0 0, .slice none 0 0, .slice none 0 0, .int .i64 0, .slice none 0 0, .slice none 0 0, .slice none 0 0, .bool false, .bool false, .bool false, .string ⟨#[]⟩, .slice none 0 0, .int .i64 0, .int .i64 0, .int .i64 0, .int .i64 0, .string ⟨#[]⟩] 48)).heap.size := by simp
  go_enter Tryz.func20, Tryz.ntmps20
  go_upto_region 1 with fail
  generalize ((w.alloc (.cells #[.int .i64 x0, .int .i64 x1, .slice A2 x2.length c2, .slice A3 x3.length c3, .slice A4 x4.length c4, .slice A5 x5.length c5, .slice A6 x6.length c6, .int .i64 x7, .slice A8 x8.length c8, .slice A9 x9.length c9, .slice A10 x10.length c10, .bool x11, .bool x12, .bool x13, .string x14, .slice A15 x15.length c15, .int .i64 x16, .int .i64 x17, .int .i64 x18, .int .i64 x19, .string x20] 48)).alloc (.cells #[.int .i64 0, .int .i64 0, .slice none 0 0, .slice none 0 0, .slice none 0 0, .slice none 0 0, .slice none 0 0, .int .i64 0, .slice none 0 0, .slice none 0 0, .slice none 0 0, .bool false, .bool false, .bool false, .string ⟨#[]⟩, .slice none 0 0, .int .i64 0, .int .i64 0, .int .i64 0, .int .i64 0, .string ⟨#[]⟩] 48)) = w0 at *
  refine wp_region_list ?_
  refine wpList_loadAll rfl 48 (.tmp 1) rfl w.heap.size rfl T0.out.1 Tryz.underlying48 rfl (by kernel_rfl) ?_
  simp only [Go.Act.put, List.setIfInBounds_toArray, List.set_cons_zero, List.set_cons_succ]
  go_wp2_with fail
  refine (l14Own_f x0 x1 x2 x3 x4 x5 x6 x7 x8 x9 x10 x11 x12 x13 x14 x15 x16 x17 x18 x19 x20 A2 c2 A3 c3 A4 c4 A5 c5 A6 c6 A8 c8 A9 c9 A10 c10 A15 c15 lo hi _ (shMachine.R_below HH.out T0.out.2.2 hhi) (Nat.le_trans hhi T0.out.2.2.size) HFF.out).mono ?_
  rintro ea wa ⟨B2, d2, B3, d3, B4, d4, B5, d5, B6, d6, B15, d15, C8, n8, e8, C9, n9, e9, C10, n10, e10, rfl, hr2, hr3, hr4, hr5, hr6, hr15, hba⟩
  have TA := Lib.hid (T0.out.call hba)
  have hsa := hba.size
  have HRR := Lib.hid (show (Sh.row 9 shS).R wa w0.heap.size wa.heap.size [.slice B2 x2.length d2] x2 ∧ (Sh.row 46 shRef).R wa w0.heap.size wa.heap.size [.slice B3 x3.length d3] x3 ∧ (Sh.row 109 shGiven).R wa w0.heap.size wa.heap.size [.slice B4 x4.length d4] x4 ∧ (Sh.row 111 shLoop).R wa w0.heap.size wa.heap.size [.slice B5 x5.length d5] x5 ∧ (Sh.row 113 shFrame).R wa w0.heap.size wa.heap.size [.slice B6 x6.length d6] x6 ∧ shRef.R wa w0.heap.size wa.heap.size [.bool x13, .string x14, .slice B15 x15.length d15] (x13, x14, x15) from ⟨hr2, hr3, hr4, hr5, hr6, hr15⟩)
  have HZ := Lib.hid (Blk.new wa 48 #[.int .i64 0, .int .i64 0, .slice none 0 0, .slice none 0 0, .slice none 0 0, .slice none 0 0, .slice none 0 0, .int .i64 0, .slice none 0 0, .slice none 0 0, .slice none 0 0, .bool false, .bool false, .bool false, .string ⟨#[]⟩, .slice none 0 0, .int .i64 0, .int .i64 0, .int .i64 0, .int .i64 0, .string ⟨#[]⟩])
  have HONE : Hid (∀ u ∈ ([.int .i64 x0, .int .i64 x1, .slice B2 x2.length d2, .slice B3 x3.length d3, .slice B4 x4.length d4, .slice B5 x5.length d5, .slice B6 x6.length d6, .int .i64 x7, .slice C8 n8 e8, .slice C9 n9 e9, .slice C10 n10 e10, .bool x11, .bool x12, .bool x13, .string x14, .slice B15 x15.length d15, .int .i64 x16, .int .i64 x17, .int .i64 x18, .int .i64 x19, .string x20] : List Value), u.oneCell' = true) := Lib.hid (by intro u hu; simp only [List.mem_cons, List.not_mem_nil, or_false] at hu; rcases hu with rfl | rfl | rfl | rfl | rfl | rfl | rfl | rfl | rfl | rfl | rfl | rfl | rfl | rfl | rfl | rfl | rfl | rfl | rfl | rfl | rfl <;> rfl)
  clear T0 hba hr2 hr3 hr4 hr5 hr6 hr15
  go_upto_region 2 with (first | fail | (refine wpList_storeAll rfl 48 (.tmp 3) (.tmp 8) rfl wa.heap.size #[.int .i64 x0, .int .i64 x1, .slice B2 x2.length d2, .slice B3 x3.length d3, .slice B4 x4.length d4, .slice B5 x5.length d5, .slice B6 x6.length d6, .int .i64 x7, .slice C8 n8 e8, .slice C9 n9 e9, .slice C10 n10 e10, .bool x11, .bool x12, .bool x13, .string x14, .slice B15 x15.length d15, .int .i64 x16, .int .i64 x17, .int .i64 x18, .int .i64 x19, .string x20] rfl rfl HZ.out (by kernel_rfl) rfl HONE.out ?_; intro w1 hbX hoX hzX))
  (try simp only [Go.Act.put, List.setIfInBounds_toArray, List.set_cons_zero, List.set_cons_succ])
  have hs1 : w1.heap.size ≤ wa.heap.size + 1 ∧ wa.heap.size + 1 ≤ w1.heap.size := by rw [hzX]; simp
  have HBA1 := Lib.hid (((Below.refl wa.heap.size wa).alloc (Nat.le_refl _) (.cells #[.int .i64 0, .int .i64 0, .slice none 0 0, .slice none 0 0, .slice none 0 0, .slice none 0 0, .slice none 0 0, .int .i64 0, .slice none 0 0, .slice none 0 0, .slice none 0 0, .bool false, .bool false, .bool false, .string ⟨#[]⟩, .slice none 0 0, .int .i64 0, .int .i64 0, .int .i64 0, .int .i64 0, .string ⟨#[]⟩] 48)).trans (hoX.below1 (Nat.le_refl _) (by simp)))
  have TW := Lib.hid (TA.out.call HBA1.out)
  have HX1 := Lib.hid hbX
  have HR1 := Lib.hid (show (Sh.row 9 shS).R w1 w0.heap.size wa.heap.size [.slice B2 x2.length d2] x2 ∧ (Sh.row 46 shRef).R w1 w0.heap.size wa.heap.size [.slice B3 x3.length d3] x3 ∧ (Sh.row 109 shGiven).R w1 w0.heap.size wa.heap.size [.slice B4 x4.length d4] x4 ∧ (Sh.row 111 shLoop).R w1 w0.heap.size wa.heap.size [.slice B5 x5.length d5] x5 ∧ (Sh.row 113 shFrame).R w1 w0.heap.size wa.heap.size [.slice B6 x6.length d6] x6 ∧ shRef.R w1 w0.heap.size wa.heap.size [.bool x13, .string x14, .slice B15 x15.length d15] (x13, x14, x15) from
    ⟨(Sh.row 9 shS).R_below HRR.out.1 HBA1.out (Nat.le_refl _), (Sh.row 46 shRef).R_below HRR.out.2.1 HBA1.out (Nat.le_refl _), (Sh.row 109 shGiven).R_below HRR.out.2.2.1 HBA1.out (Nat.le_refl _), (Sh.row 111 shLoop).R_below HRR.out.2.2.2.1 HBA1.out (Nat.le_refl _), (Sh.row 113 shFrame).R_below HRR.out.2.2.2.2.1 HBA1.out (Nat.le_refl _), shRef.R_below HRR.out.2.2.2.2.2 HBA1.out (Nat.le_refl _)⟩)
  clear TA HZ HONE HRR HBA1 hbX hoX hzX
  have HW1 := Lib.hid (Nat.le_trans hhi TW.out.2.2.size)
  have HAB := Lib.hid (rowG_of_shape (shLocals_f1 (shLocals.R_below HA7.out TW.out.2.2 hhi)))
  have HPB := Lib.hid TW.out.1
  have hww : w.heap.size + 1 + 1 ≤ w1.heap.size := by omega
  go_cut [4] from 9 to 18 (fun o wc => ∃ (p : Nat) (B1 : Option Addr) (d1 : Nat), o = .pointer (some ⟨p, 0, none⟩) ∧ w1.heap.size ≤ p ∧ Blk wc p 45 #[.int .i64 x7, .slice B1 x8.length d1, .slice none 0 0, .slice none 0 0] ∧ OwnS (Sh.row 151 shBind) wc (fun b => w1.heap.size ≤ b ∧ b ≠ p) [.slice B1 x8.length d1] x8 ∧ Below w1.heap.size w1 wc)
  case first =>
    refine AnyT.region (fun _ => false) (fun W => ∀ i, W.cell? ⟨w.heap.size, i, none⟩ = (#[.int .i64 x0, .int .i64 x1, .slice A2 x2.length c2, .slice A3 x3.length c3, .slice A4 x4.length c4, .slice A5 x5.length c5, .slice A6 x6.length c6, .int .i64 x7, .slice A8 x8.length c8, .slice A9 x9.length c9, .slice A10 x10.length c10, .bool x11, .bool x12, .bool x13, .string x14, .slice A15 x15.length c15, .int .i64 x16, .int .i64 x17, .int .i64 x18, .int .i64 x19, .string x20] : Array Value)[i]?) (by kernel_rfl) (HPB.out.drewN 1).cell (fun hHeld => ?_)
    have BP := Lib.hid (show Blk w1.drew (w.heap.size) 48 #[.int .i64 x0, .int .i64 x1, .slice A2 x2.length c2, .slice A3 x3.length c3, .slice A4 x4.length c4, .slice A5 x5.length c5, .slice A6 x6.length c6, .int .i64 x7, .slice A8 x8.length c8, .slice A9 x9.length c9, .slice A10 x10.length c10, .bool x11, .bool x12, .bool x13, .string x14, .slice A15 x15.length c15, .int .i64 x16, .int .i64 x17, .int .i64 x18, .int .i64 x19, .string x20] from HPB.out.drewN 1)
    have HBW := Lib.hid (show Below w1.heap.size w1 w1.drew from (Below.refl _ _).drew)
    have hz := HPB.out.lt
    have hzd : w1.drew.heap.size ≤ w1.heap.size ∧ w1.heap.size ≤ w1.drew.heap.size := ⟨Nat.le_refl _, Nat.le_refl _⟩
    have HR0 := Lib.hid (show RowG shBind w1 lo hi A8 x8 from HAB.out)
    have hhi' := HW1.out
    clear HPB
    generalize w1.drew = wD at *
    ((refine AnyT.takeAny 0 9 ?_ rfl (by kernel_rfl) (by kernel_rfl) (by kernel_rfl) rfl rfl (fun _ _ _ _ h => h) rfl ?_ (by assumption) ?_); rotate_left; (intro w; go_simp; (try (with_reducible rfl))); simp only [Act.put, List.setIfInBounds_toArray, List.set_cons_zero, List.set_cons_succ])
    ((refine AnyT.takeAny 1 10 ?_ rfl (by kernel_rfl) (by kernel_rfl) (by kernel_rfl) rfl rfl (fun _ _ _ _ h => h) rfl ?_ (by assumption) ?_); rotate_left; (intro w; go_simp; (try (with_reducible rfl))); simp only [Act.put, List.setIfInBounds_toArray, List.set_cons_zero, List.set_cons_succ])
    ((refine AnyT.take 2 11 ?_ rfl (by kernel_rfl) (by kernel_rfl) (by kernel_rfl) (by kernel_rfl) rfl (by kernel_rfl) rfl (fun _ _ _ _ h => h) rfl ?_ (by assumption) ?_); rotate_left; (intro w hSw; (try dsimp only at hSw); go_simp; (try (with_reducible rfl))); simp only [Act.put, List.setIfInBounds_toArray, List.set_cons_zero, List.set_cons_succ])
    ((refine AnyT.takeAny 4 13 ?_ rfl (by kernel_rfl) (by kernel_rfl) (by kernel_rfl) rfl rfl (fun _ _ _ _ h => h) rfl ?_ (by assumption) ?_); rotate_left; (intro w; go_simp; (try (with_reducible rfl))); simp only [Act.put, List.setIfInBounds_toArray, List.set_cons_zero, List.set_cons_succ])
    ((refine AnyT.takeAny 5 14 ?_ rfl (by kernel_rfl) (by kernel_rfl) (by kernel_rfl) rfl rfl (fun _ _ _ _ h => h) rfl ?_ (by assumption) ?_); rotate_left; (intro w; go_simp; (try (with_reducible rfl))); simp only [Act.put, List.setIfInBounds_toArray, List.set_cons_zero, List.set_cons_succ])
    ((refine AnyT.take 6 15 ?_ rfl (by kernel_rfl) (by kernel_rfl) (by kernel_rfl) (by kernel_rfl) rfl (by kernel_rfl) rfl (fun _ _ _ _ h => h) rfl ?_ (by assumption) ?_); rotate_left; (intro w hSw; (try dsimp only at hSw); go_simp; (try (with_reducible rfl))); simp only [Act.put, List.setIfInBounds_toArray, List.set_cons_zero, List.set_cons_succ])
    refine AnyT.pair (i := 3) (j := 9) (by kernel_rfl) rfl rfl (fun K hK => ?_) (fun K hK => ?_)
    · go_simp
      have HBa := Lib.hid ((Below.refl wD.heap.size wD).alloc (Nat.le_refl _) (.cells #[] 151))
      have BL := Lib.hid (Blk.new wD 151 #[])
      have hn1 : (wD.alloc (.cells #[] 151)).heap.size ≤ wD.heap.size + 1 ∧ wD.heap.size + 1 ≤ (wD.alloc (.cells #[] 151)).heap.size := by simp
      have BP := Lib.hid (BP.out.below HBa.out BP.out.lt)
      have HBW := Lib.hid (HBW.out.trans (HBa.out.mono (by omega)))
      refine hK.out _ _ BP.out.cell (fun hHeld => ?_)
      clear hK K
      (try simp only [Go.Act.put, List.setIfInBounds_toArray, List.set_cons_zero, List.set_cons_succ])
      clear HBa
      generalize wD.alloc (.cells #[] 151) = v1 at *
      refine AnyT.pair (i := 7) (j := 9) (by kernel_rfl) rfl rfl (fun K hK => ?_) (fun K hK => ?_)
      · refine step_litR (s := shBind) rfl (.tmp 12) (.tmp 15) 41 rfl Tryz.underlying41 rfl (by decide) (by decide) infoBind flatBind v1 (wD.heap.size) lo hi A8 c8 x8 rfl rfl BL.out (rowG_below HR0.out HBW.out hhi') (by omega) ?_
        intro B1 d1 v2 hos hout
        have hs2 := hout.size
        have BP := Lib.hid (BP.out.outOf hout (by omega))
        have HBW := Lib.hid (HBW.out.trans (hout.below1 (B := w1.heap.size) (by omega) (by omega)))
        have OS := Lib.hid hos
        refine hK.out _ _ BP.out.cell (fun hHeld => ?_)
        clear hK K
        (try simp only [Go.Act.put, List.setIfInBounds_toArray, List.set_cons_zero, List.set_cons_succ])
        clear hos hout BL
        ((refine AnyT.takeAny 8 17 ?_ rfl (by kernel_rfl) (by kernel_rfl) (by kernel_rfl) rfl rfl (fun _ _ _ _ h => h) rfl ?_ (by assumption) ?_); rotate_left; (intro w; go_simp; (try (with_reducible rfl))); simp only [Act.put, List.setIfInBounds_toArray, List.set_cons_zero, List.set_cons_succ])
        ((refine AnyT.one (i := 9) (by kernel_rfl) rfl (fun K hK => ?_)))
        go_simp
        have HBa := Lib.hid ((Below.refl v2.heap.size v2).alloc (Nat.le_refl _) (.cells #[.int .i64 0, .slice none 0 0, .slice none 0 0, .slice none 0 0] 45))
        have BQ := Lib.hid (Blk.new v2 45 #[.int .i64 0, .slice none 0 0, .slice none 0 0, .slice none 0 0])
        have hn3 : (v2.alloc (.cells #[.int .i64 0, .slice none 0 0, .slice none 0 0, .slice none 0 0] 45)).heap.size ≤ v2.heap.size + 1 ∧ v2.heap.size + 1 ≤ (v2.alloc (.cells #[.int .i64 0, .slice none 0 0, .slice none 0 0, .slice none 0 0] 45)).heap.size := by simp
        have BP := Lib.hid (BP.out.below HBa.out BP.out.lt)
        have HBW := Lib.hid (HBW.out.trans (HBa.out.mono (by omega)))
        have OS := Lib.hid ((OS.out.mono (S' := fun b => w1.heap.size ≤ b ∧ b ≠ v2.heap.size) (fun b hb hl => ⟨by omega, by omega⟩)).belowW HBa.out)
        refine hK.out _ _ BP.out.cell (fun hHeld => ?_)
        clear hK K
        (try simp only [Go.Act.put, List.setIfInBounds_toArray, List.set_cons_zero, List.set_cons_succ])
        clear HBa
        generalize v2.alloc (.cells #[.int .i64 0, .slice none 0 0, .slice none 0 0, .slice none 0 0] 45) = v3 at *
        have g := BQ.out.cell; have zz := BQ.out.frozen
        ((refine AnyT.one (i := 10) (by kernel_rfl) rfl (fun K hK => ?_)))
        go_simp
        have BQ2 := Lib.hid (show Blk ((((v3.setCell ⟨v2.heap.size, 0, none⟩ (.int .i64 x7)).setCell ⟨v2.heap.size, 1, none⟩ (.slice B1 x8.length d1)).setCell ⟨v2.heap.size, 2, none⟩ (.slice none 0 0)).setCell ⟨v2.heap.size, 3, none⟩ (.slice none 0 0)) (v2.heap.size) 45 #[.int .i64 x7, .slice B1 x8.length d1, .slice none 0 0, .slice none 0 0] from ((((BQ.out.set_ 0 (.int .i64 x7)).set_ 1 (.slice B1 x8.length d1)).set_ 2 (.slice none 0 0)).set_ 3 (.slice none 0 0)))
        have OS2 := Lib.hid (OwnS.setCell (OwnS.setCell (OwnS.setCell (OwnS.setCell OS.out (p := ⟨v2.heap.size, 0, none⟩) (fun b hb => hb.2) (.int .i64 x7)) (p := ⟨v2.heap.size, 1, none⟩) (fun b hb => hb.2) (.slice B1 x8.length d1)) (p := ⟨v2.heap.size, 2, none⟩) (fun b hb => hb.2) (.slice none 0 0)) (p := ⟨v2.heap.size, 3, none⟩) (fun b hb => hb.2) (.slice none 0 0))
        have HB2 := Lib.hid ((((HBW.out.setCell (p := ⟨v2.heap.size, 0, none⟩) (by dsimp only; omega) (.int .i64 x7)).setCell (p := ⟨v2.heap.size, 1, none⟩) (by dsimp only; omega) (.slice B1 x8.length d1)).setCell (p := ⟨v2.heap.size, 2, none⟩) (by dsimp only; omega) (.slice none 0 0)).setCell (p := ⟨v2.heap.size, 3, none⟩) (by dsimp only; omega) (.slice none 0 0))
        refine hK.out _ _ (((((BP.out.far (p := ⟨v2.heap.size, 0, none⟩) (by dsimp only; omega) (.int .i64 x7)).far (p := ⟨v2.heap.size, 1, none⟩) (by dsimp only; omega) (.slice B1 x8.length d1)).far (p := ⟨v2.heap.size, 2, none⟩) (by dsimp only; omega) (.slice none 0 0)).far (p := ⟨v2.heap.size, 3, none⟩) (by dsimp only; omega) (.slice none 0 0))).cell (fun hHeld => ?_)
        clear hK K
        (try simp only [Go.Act.put, List.setIfInBounds_toArray, List.set_cons_zero, List.set_cons_succ])
        refine AnyT.done (by kernel_rfl) ?_ _
        clear g zz BP BQ OS HBW hHeld
        go_wp2_with fail
        go_meet
        exact ⟨v2.heap.size, B1, d1, rfl, by omega, BQ2.out, OS2.out, HB2.out⟩
      · go_simp
        have HBa := Lib.hid ((Below.refl v1.heap.size v1).alloc (Nat.le_refl _) (.cells #[.int .i64 0, .slice none 0 0, .slice none 0 0, .slice none 0 0] 45))
        have BQ := Lib.hid (Blk.new v1 45 #[.int .i64 0, .slice none 0 0, .slice none 0 0, .slice none 0 0])
        have hn4 : (v1.alloc (.cells #[.int .i64 0, .slice none 0 0, .slice none 0 0, .slice none 0 0] 45)).heap.size ≤ v1.heap.size + 1 ∧ v1.heap.size + 1 ≤ (v1.alloc (.cells #[.int .i64 0, .slice none 0 0, .slice none 0 0, .slice none 0 0] 45)).heap.size := by simp
        have BP := Lib.hid (BP.out.below HBa.out BP.out.lt)
        have HBW := Lib.hid (HBW.out.trans (HBa.out.mono (by omega)))
        have BL := Lib.hid (BL.out.below HBa.out BL.out.lt)
        refine hK.out _ _ BP.out.cell (fun hHeld => ?_)
        clear hK K
        (try simp only [Go.Act.put, List.setIfInBounds_toArray, List.set_cons_zero, List.set_cons_succ])
        clear HBa
        generalize v1.alloc (.cells #[.int .i64 0, .slice none 0 0, .slice none 0 0, .slice none 0 0] 45) = v4 at *
        ((refine AnyT.one (i := 7) (by kernel_rfl) rfl (fun K hK => ?_)))
        refine step_litR (s := shBind) rfl (.tmp 12) (.tmp 15) 41 rfl Tryz.underlying41 rfl (by decide) (by decide) infoBind flatBind v4 (wD.heap.size) lo hi A8 c8 x8 rfl rfl BL.out (rowG_below HR0.out HBW.out hhi') (by omega) ?_
        intro B1 d1 v5 hos hout
        have hs5 := hout.size
        have BP := Lib.hid (BP.out.outOf hout (by omega))
        have HBW := Lib.hid (HBW.out.trans (hout.below1 (B := w1.heap.size) (by omega) (by omega)))
        have BQ := Lib.hid (BQ.out.outOf hout (by omega))
        have OS := Lib.hid (hos.mono (S' := fun b => w1.heap.size ≤ b ∧ b ≠ v1.heap.size) (fun b hb hl => ⟨by omega, by omega⟩))
        refine hK.out _ _ BP.out.cell (fun hHeld => ?_)
        clear hK K
        (try simp only [Go.Act.put, List.setIfInBounds_toArray, List.set_cons_zero, List.set_cons_succ])
        clear hos hout BL
        ((refine AnyT.takeAny 8 17 ?_ rfl (by kernel_rfl) (by kernel_rfl) (by kernel_rfl) rfl rfl (fun _ _ _ _ h => h) rfl ?_ (by assumption) ?_); rotate_left; (intro w; go_simp; (try (with_reducible rfl))); simp only [Act.put, List.setIfInBounds_toArray, List.set_cons_zero, List.set_cons_succ])
        have g := BQ.out.cell; have zz := BQ.out.frozen
        ((refine AnyT.one (i := 10) (by kernel_rfl) rfl (fun K hK => ?_)))
        go_simp
        have BQ2 := Lib.hid (show Blk ((((v5.setCell ⟨v1.heap.size, 0, none⟩ (.int .i64 x7)).setCell ⟨v1.heap.size, 1, none⟩ (.slice B1 x8.length d1)).setCell ⟨v1.heap.size, 2, none⟩ (.slice none 0 0)).setCell ⟨v1.heap.size, 3, none⟩ (.slice none 0 0)) (v1.heap.size) 45 #[.int .i64 x7, .slice B1 x8.length d1, .slice none 0 0, .slice none 0 0] from ((((BQ.out.set_ 0 (.int .i64 x7)).set_ 1 (.slice B1 x8.length d1)).set_ 2 (.slice none 0 0)).set_ 3 (.slice none 0 0)))
        have OS2 := Lib.hid (OwnS.setCell (OwnS.setCell (OwnS.setCell (OwnS.setCell OS.out (p := ⟨v1.heap.size, 0, none⟩) (fun b hb => hb.2) (.int .i64 x7)) (p := ⟨v1.heap.size, 1, none⟩) (fun b hb => hb.2) (.slice B1 x8.length d1)) (p := ⟨v1.heap.size, 2, none⟩) (fun b hb => hb.2) (.slice none 0 0)) (p := ⟨v1.heap.size, 3, none⟩) (fun b hb => hb.2) (.slice none 0 0))
        have HB2 := Lib.hid ((((HBW.out.setCell (p := ⟨v1.heap.size, 0, none⟩) (by dsimp only; omega) (.int .i64 x7)).setCell (p := ⟨v1.heap.size, 1, none⟩) (by dsimp only; omega) (.slice B1 x8.length d1)).setCell (p := ⟨v1.heap.size, 2, none⟩) (by dsimp only; omega) (.slice none 0 0)).setCell (p := ⟨v1.heap.size, 3, none⟩) (by dsimp only; omega) (.slice none 0 0))
        refine hK.out _ _ (((((BP.out.far (p := ⟨v1.heap.size, 0, none⟩) (by dsimp only; omega) (.int .i64 x7)).far (p := ⟨v1.heap.size, 1, none⟩) (by dsimp only; omega) (.slice B1 x8.length d1)).far (p := ⟨v1.heap.size, 2, none⟩) (by dsimp only; omega) (.slice none 0 0)).far (p := ⟨v1.heap.size, 3, none⟩) (by dsimp only; omega) (.slice none 0 0))).cell (fun hHeld => ?_)
        clear hK K
        (try simp only [Go.Act.put, List.setIfInBounds_toArray, List.set_cons_zero, List.set_cons_succ])
        refine AnyT.done (by kernel_rfl) ?_ _
        clear g zz BP BQ OS HBW hHeld
        go_wp2_with fail
        go_meet
        exact ⟨v1.heap.size, B1, d1, rfl, by omega, BQ2.out, OS2.out, HB2.out⟩
    · go_simp
      have HBa := Lib.hid ((Below.refl wD.heap.size wD).alloc (Nat.le_refl _) (.cells #[.int .i64 0, .slice none 0 0, .slice none 0 0, .slice none 0 0] 45))
      have BQ := Lib.hid (Blk.new wD 45 #[.int .i64 0, .slice none 0 0, .slice none 0 0, .slice none 0 0])
      have hn6 : (wD.alloc (.cells #[.int .i64 0, .slice none 0 0, .slice none 0 0, .slice none 0 0] 45)).heap.size ≤ wD.heap.size + 1 ∧ wD.heap.size + 1 ≤ (wD.alloc (.cells #[.int .i64 0, .slice none 0 0, .slice none 0 0, .slice none 0 0] 45)).heap.size := by simp
      have BP := Lib.hid (BP.out.below HBa.out BP.out.lt)
      have HBW := Lib.hid (HBW.out.trans (HBa.out.mono (by omega)))
      refine hK.out _ _ BP.out.cell (fun hHeld => ?_)
      clear hK K
      (try simp only [Go.Act.put, List.setIfInBounds_toArray, List.set_cons_zero, List.set_cons_succ])
      clear HBa
      generalize wD.alloc (.cells #[.int .i64 0, .slice none 0 0, .slice none 0 0, .slice none 0 0] 45) = v6 at *
      ((refine AnyT.one (i := 3) (by kernel_rfl) rfl (fun K hK => ?_)))
      go_simp
      have HBa := Lib.hid ((Below.refl v6.heap.size v6).alloc (Nat.le_refl _) (.cells #[] 151))
      have BL := Lib.hid (Blk.new v6 151 #[])
      have hn7 : (v6.alloc (.cells #[] 151)).heap.size ≤ v6.heap.size + 1 ∧ v6.heap.size + 1 ≤ (v6.alloc (.cells #[] 151)).heap.size := by simp
      have BP := Lib.hid (BP.out.below HBa.out BP.out.lt)
      have HBW := Lib.hid (HBW.out.trans (HBa.out.mono (by omega)))
      have BQ := Lib.hid (BQ.out.below HBa.out BQ.out.lt)
      refine hK.out _ _ BP.out.cell (fun hHeld => ?_)
      clear hK K
      (try simp only [Go.Act.put, List.setIfInBounds_toArray, List.set_cons_zero, List.set_cons_succ])
      clear HBa
      generalize v6.alloc (.cells #[] 151) = v7 at *
      ((refine AnyT.one (i := 7) (by kernel_rfl) rfl (fun K hK => ?_)))
      refine step_litR (s := shBind) rfl (.tmp 12) (.tmp 15) 41 rfl Tryz.underlying41 rfl (by decide) (by decide) infoBind flatBind v7 (v6.heap.size) lo hi A8 c8 x8 rfl rfl BL.out (rowG_below HR0.out HBW.out hhi') (by omega) ?_
      intro B1 d1 v8 hos hout
      have hs8 := hout.size
      have BP := Lib.hid (BP.out.outOf hout (by omega))
      have HBW := Lib.hid (HBW.out.trans (hout.below1 (B := w1.heap.size) (by omega) (by omega)))
      have BQ := Lib.hid (BQ.out.outOf hout (by omega))
      have OS := Lib.hid (hos.mono (S' := fun b => w1.heap.size ≤ b ∧ b ≠ wD.heap.size) (fun b hb hl => ⟨by omega, by omega⟩))
      refine hK.out _ _ BP.out.cell (fun hHeld => ?_)
      clear hK K
      (try simp only [Go.Act.put, List.setIfInBounds_toArray, List.set_cons_zero, List.set_cons_succ])
      clear hos hout BL
      ((refine AnyT.takeAny 8 17 ?_ rfl (by kernel_rfl) (by kernel_rfl) (by kernel_rfl) rfl rfl (fun _ _ _ _ h => h) rfl ?_ (by assumption) ?_); rotate_left; (intro w; go_simp; (try (with_reducible rfl))); simp only [Act.put, List.setIfInBounds_toArray, List.set_cons_zero, List.set_cons_succ])
      have g := BQ.out.cell; have zz := BQ.out.frozen
      ((refine AnyT.one (i := 10) (by kernel_rfl) rfl (fun K hK => ?_)))
      go_simp
      have BQ2 := Lib.hid (show Blk ((((v8.setCell ⟨wD.heap.size, 0, none⟩ (.int .i64 x7)).setCell ⟨wD.heap.size, 1, none⟩ (.slice B1 x8.length d1)).setCell ⟨wD.heap.size, 2, none⟩ (.slice none 0 0)).setCell ⟨wD.heap.size, 3, none⟩ (.slice none 0 0)) (wD.heap.size) 45 #[.int .i64 x7, .slice B1 x8.length d1, .slice none 0 0, .slice none 0 0] from ((((BQ.out.set_ 0 (.int .i64 x7)).set_ 1 (.slice B1 x8.length d1)).set_ 2 (.slice none 0 0)).set_ 3 (.slice none 0 0)))
      have OS2 := Lib.hid (OwnS.setCell (OwnS.setCell (OwnS.setCell (OwnS.setCell OS.out (p := ⟨wD.heap.size, 0, none⟩) (fun b hb => hb.2) (.int .i64 x7)) (p := ⟨wD.heap.size, 1, none⟩) (fun b hb => hb.2) (.slice B1 x8.length d1)) (p := ⟨wD.heap.size, 2, none⟩) (fun b hb => hb.2) (.slice none 0 0)) (p := ⟨wD.heap.size, 3, none⟩) (fun b hb => hb.2) (.slice none 0 0))
      have HB2 := Lib.hid ((((HBW.out.setCell (p := ⟨wD.heap.size, 0, none⟩) (by dsimp only; omega) (.int .i64 x7)).setCell (p := ⟨wD.heap.size, 1, none⟩) (by dsimp only; omega) (.slice B1 x8.length d1)).setCell (p := ⟨wD.heap.size, 2, none⟩) (by dsimp only; omega) (.slice none 0 0)).setCell (p := ⟨wD.heap.size, 3, none⟩) (by dsimp only; omega) (.slice none 0 0))
      refine hK.out _ _ (((((BP.out.far (p := ⟨wD.heap.size, 0, none⟩) (by dsimp only; omega) (.int .i64 x7)).far (p := ⟨wD.heap.size, 1, none⟩) (by dsimp only; omega) (.slice B1 x8.length d1)).far (p := ⟨wD.heap.size, 2, none⟩) (by dsimp only; omega) (.slice none 0 0)).far (p := ⟨wD.heap.size, 3, none⟩) (by dsimp only; omega) (.slice none 0 0))).cell (fun hHeld => ?_)
      clear hK K
      (try simp only [Go.Act.put, List.setIfInBounds_toArray, List.set_cons_zero, List.set_cons_succ])
      refine AnyT.done (by kernel_rfl) ?_ _
      clear g zz BP BQ OS HBW hHeld
      go_wp2_with fail
      go_meet
      exact ⟨wD.heap.size, B1, d1, rfl, by omega, BQ2.out, OS2.out, HB2.out⟩
  case rest =>
    obtain ⟨p, B1, d1, rfl, hp1, hbp, hos, hbw⟩ := hcut
    have hpw := hbp.lt
    have HA9 := Lib.hid (shLocals_f2 HA7.out); have HA10 := Lib.hid (shLocals_f3 HA7.out)
    have HP1 := Lib.hid TW.out.1
    have HBP := Lib.hid hbp; have HOS := Lib.hid hos; have HBW := Lib.hid hbw
    have hl1 := HP1.out.lt
    clear hbp hos hbw HPB HAB HW1
    have f0 := (HP1.out.below HBW.out hl1).cell
    go_wp2_with fail
    clear f0
    generalize hq : wc.heap.size = q at *
    have hq' : q ≤ wc.heap.size := by omega
    have hq2 : wc.heap.size ≤ q := by omega
    have hpq : p < q := by omega
    clear hq
    go_loopw [5] (fun i wr => ∃ (k : Nat) (B : Option Addr) (d : Nat), k ≤ x9.length ∧ i = .int .i64 k ∧ Below w1.heap.size w1 wr ∧ Blk wr p 45 #[.int .i64 x7, .slice B1 x8.length d1, .slice B k d, .slice none 0 0] ∧ Own (Sh.row 105 shCell) wr q wr.heap.size [.slice B k d] (x9.take k) ∧ q ≤ wr.heap.size ∧ OwnS (Sh.row 151 shBind) wr (fun b => w1.heap.size ≤ b ∧ b ≠ p ∧ b < q) [.slice B1 x8.length d1] x8) (fun i _ => x9.length - (intOf i).toNat)
    case atStart => exact ⟨0, none, 0, Nat.zero_le _, rfl, HBW.out, HBP.out, Own.nil_row _ _ _, hq', HOS.out.mono fun b hb hl => ⟨hb.1, hb.2, by omega⟩⟩
    case round =>
      obtain ⟨k, B, d, hk, rfl, hW, hP, hO, hqr, hS⟩ := hrel
      have f0 := (HP1.out.below hW hl1).cell
      by_cases hlt : k < x9.length
      · obtain ⟨-, b, off, rfl, hb1, hb2, A5', c5', e100, e101, hX⟩ := shCell_at ((Sh.row 105 shCell).R_below HA9.out (TW.out.2.2.trans (hW.mono (by omega))) hhi) hlt
        have HX := Lib.hid (HF9.out _ (getD_in (d := shCell.d) hlt))
        have HTK := Lib.hid (take_succ_getD shCell hlt)
        generalize x9.getD k shCell.d = X at *
        obtain ⟨y0, y1⟩ := X
        dsimp only at e100 e101
        have hsz := hW.size
        have hwi : hi ≤ wr.heap.size := by omega
        have hbw : b < wr.heap.size := Nat.lt_of_lt_of_le hb2 hwi
        have HR := Lib.hid (shCell_f1 hX)
        have HW := Lib.hid hW; have HP := Lib.hid hP; have HO := Lib.hid hO; have HS := Lib.hid hS
        have HE := Lib.hid (show wr.cell? ⟨b, off + k * 2, none⟩ = some (.int .i64 y0) ∧ wr.cell? ⟨b, off + k * 2 + 1, none⟩ = some (.slice A5' y1.length c5') from ⟨e100, e101⟩)
        have HK := Lib.hid (show ∀ W, Below wr.heap.size wr W → W.cell? ⟨b, off + k * 2, none⟩ = some (.int .i64 y0) ∧ W.cell? ⟨b, off + k * 2 + 1, none⟩ = some (.slice A5' y1.length c5') from fun W hW => ⟨(hW.cell (p := ⟨b, off + k * 2, none⟩) hbw).trans HE.out.1, (hW.cell (p := ⟨b, off + k * 2 + 1, none⟩) hbw).trans HE.out.2⟩)
        have HPA := Lib.hid (show Blk wr w.heap.size 48 _ from HP1.out.below hW hl1)
        have hi0 : (0 : Int) ≤ (k : Int) := by omega
        have hi1 : (k : Int) < (x9.length : Int) := by omega
        clear hW hP hO hX e100 e101 hS
        go_upto_region 6 with fail
        clear f0
        refine AnyT.region (fun j => j == 21) (fun W => (∀ i, W.cell? ⟨p, i, none⟩ = (#[.int .i64 x7, .slice B1 x8.length d1, .slice B k d, .slice none 0 0] : Array Value)[i]?) ∧ (∀ i, W.cell? ⟨w.heap.size, i, none⟩ = (#[.int .i64 x0, .int .i64 x1, .slice A2 x2.length c2, .slice A3 x3.length c3, .slice A4 x4.length c4, .slice A5 x5.length c5, .slice A6 x6.length c6, .int .i64 x7, .slice A8 x8.length c8, .slice (some ⟨b, off, none⟩) x9.length c9, .slice A10 x10.length c10, .bool x11, .bool x12, .bool x13, .string x14, .slice A15 x15.length c15, .int .i64 x16, .int .i64 x17, .int .i64 x18, .int .i64 x19, .string x20] : Array Value)[i]?) ∧ W.cell? ⟨b, off + k * 2, none⟩ = some (.int .i64 y0) ∧ W.cell? ⟨b, off + k * 2 + 1, none⟩ = some (.slice A5' y1.length c5')) (by kernel_rfl) ⟨(HP.out.drewN 1).cell, (HPA.out.drewN 1).cell, HE.out⟩ (fun hHeld => ?_)
        have HBD := Lib.hid (show Below wr.heap.size wr wr.drew from (Below.refl _ _).drew)
        have HTR := Lib.hid (shTree.R_below HR.out HBD.out hwi)
        have hzd : wr.drew.heap.size ≤ wr.heap.size ∧ wr.heap.size ≤ wr.drew.heap.size := ⟨Nat.le_refl _, Nat.le_refl _⟩
        generalize wr.drew = wE at *
        ((refine AnyT.takeAny 0 26 ?_ rfl (by kernel_rfl) (by kernel_rfl) (by kernel_rfl) rfl rfl (fun _ _ _ _ h => h) rfl ?_ (by assumption) ?_); rotate_left; (intro w; go_simp; (try (with_reducible rfl))); simp only [Act.put, List.setIfInBounds_toArray, List.set_cons_zero, List.set_cons_succ])
        ((refine AnyT.take 1 27 ?_ rfl (by kernel_rfl) (by kernel_rfl) (by kernel_rfl) (by kernel_rfl) rfl (by kernel_rfl) rfl (fun _ _ _ _ h => h) rfl ?_ (by assumption) ?_); rotate_left; (intro w hSw; (try dsimp only at hSw); go_simp; (try (with_reducible rfl))); simp only [Act.put, List.setIfInBounds_toArray, List.set_cons_zero, List.set_cons_succ])
        ((refine AnyT.takeAny 2 28 ?_ rfl (by kernel_rfl) (by kernel_rfl) (by kernel_rfl) rfl rfl (fun _ _ _ _ h => h) rfl ?_ (by assumption) ?_); rotate_left; (intro w; go_simp; (try (with_reducible rfl))); simp only [Act.put, List.setIfInBounds_toArray, List.set_cons_zero, List.set_cons_succ])
        ((refine AnyT.takeAny 3 29 ?_ rfl (by kernel_rfl) (by kernel_rfl) (by kernel_rfl) rfl rfl (fun _ _ _ _ h => h) rfl ?_ (by assumption) ?_); rotate_left; (intro w; go_simp; (try (with_reducible rfl))); simp only [Act.put, List.setIfInBounds_toArray, List.set_cons_zero, List.set_cons_succ])
        ((refine AnyT.take 4 30 ?_ rfl (by kernel_rfl) (by kernel_rfl) (by kernel_rfl) (by kernel_rfl) rfl (by kernel_rfl) rfl (fun _ _ _ _ h => h) rfl ?_ (by assumption) ?_); rotate_left; (intro w hSw; (try dsimp only at hSw); go_simp; (try (with_reducible rfl))); simp only [Act.put, List.setIfInBounds_toArray, List.set_cons_zero, List.set_cons_succ])
        ((refine AnyT.takeAny 5 31 ?_ rfl (by kernel_rfl) (by kernel_rfl) (by kernel_rfl) rfl rfl (fun _ _ _ _ h => h) rfl ?_ (by assumption) ?_); rotate_left; (intro w; go_simp; (try (with_reducible rfl))); simp only [Act.put, List.setIfInBounds_toArray, List.set_cons_zero, List.set_cons_succ])
        ((refine AnyT.takeAny 6 32 ?_ rfl (by kernel_rfl) (by kernel_rfl) (by kernel_rfl) rfl rfl (fun _ _ _ _ h => h) rfl ?_ (by assumption) ?_); rotate_left; (intro w; go_simp; (try (with_reducible rfl))); simp only [Act.put, List.setIfInBounds_toArray, List.set_cons_zero, List.set_cons_succ])
        ((refine AnyT.takeAny 7 33 ?_ rfl (by kernel_rfl) (by kernel_rfl) (by kernel_rfl) rfl rfl (fun _ _ _ _ h => h) rfl ?_ (by assumption) ?_); rotate_left; (intro w; go_simp; (try (with_reducible rfl))); simp only [Act.put, List.setIfInBounds_toArray, List.set_cons_zero, List.set_cons_succ])
        ((refine AnyT.take 8 34 ?_ rfl (by kernel_rfl) (by kernel_rfl) (by kernel_rfl) (by kernel_rfl) rfl (by kernel_rfl) rfl (fun _ _ _ _ h => h) rfl ?_ (by assumption) ?_); rotate_left; (intro w hSw; (try dsimp only at hSw); go_simp; (try (with_reducible rfl))); simp only [Act.put, List.setIfInBounds_toArray, List.set_cons_zero, List.set_cons_succ])
        ((refine AnyT.takeAny 9 35 ?_ rfl (by kernel_rfl) (by kernel_rfl) (by kernel_rfl) rfl rfl (fun _ _ _ _ h => h) rfl ?_ (by assumption) ?_); rotate_left; (intro w; go_simp; (try (with_reducible rfl))); simp only [Act.put, List.setIfInBounds_toArray, List.set_cons_zero, List.set_cons_succ])
        ((refine AnyT.takeAny 10 36 ?_ rfl (by kernel_rfl) (by kernel_rfl) (by kernel_rfl) rfl rfl (fun _ _ _ _ h => h) rfl ?_ (by assumption) ?_); rotate_left; (intro w; go_simp; (try (with_reducible rfl))); simp only [Act.put, List.setIfInBounds_toArray, List.set_cons_zero, List.set_cons_succ])
        ((refine AnyT.take 11 37 ?_ rfl (by kernel_rfl) (by kernel_rfl) (by kernel_rfl) (by kernel_rfl) rfl (by kernel_rfl) rfl (fun _ _ _ _ h => h) rfl ?_ (by assumption) ?_); rotate_left; (intro w hSw; (try dsimp only at hSw); go_simp; (try (with_reducible rfl))); simp only [Act.put, List.setIfInBounds_toArray, List.set_cons_zero, List.set_cons_succ])
        ((refine AnyT.takeAny 12 38 ?_ rfl (by kernel_rfl) (by kernel_rfl) (by kernel_rfl) rfl rfl (fun _ _ _ _ h => h) rfl ?_ (by assumption) ?_); rotate_left; (intro w; go_simp; (try (with_reducible rfl))); simp only [Act.put, List.setIfInBounds_toArray, List.set_cons_zero, List.set_cons_succ])
        ((refine AnyT.takeAny 13 39 ?_ rfl (by kernel_rfl) (by kernel_rfl) (by kernel_rfl) rfl rfl (fun _ _ _ _ h => h) rfl ?_ (by assumption) ?_); rotate_left; (intro w; go_simp; (try (with_reducible rfl))); simp only [Act.put, List.setIfInBounds_toArray, List.set_cons_zero, List.set_cons_succ])
        ((refine AnyT.takeAny 14 40 ?_ rfl (by kernel_rfl) (by kernel_rfl) (by kernel_rfl) rfl rfl (fun _ _ _ _ h => h) rfl ?_ (by assumption) ?_); rotate_left; (intro w; go_simp; (try (with_reducible rfl))); simp only [Act.put, List.setIfInBounds_toArray, List.set_cons_zero, List.set_cons_succ])
        ((refine AnyT.take 15 41 ?_ rfl (by kernel_rfl) (by kernel_rfl) (by kernel_rfl) (by kernel_rfl) rfl (by kernel_rfl) rfl (fun _ _ _ _ h => h) rfl ?_ (by assumption) ?_); rotate_left; (intro w hSw; (try dsimp only at hSw); go_simp; (try (with_reducible rfl))); simp only [Act.put, List.setIfInBounds_toArray, List.set_cons_zero, List.set_cons_succ])
        ((refine AnyT.one (i := 16) (by kernel_rfl) rfl (fun K hK => ?_)))
        go_simp
        refine (l09OwnTree_f y1 A5' c5' lo hi _ HTR.out (by omega) HX.out.2).mono ?_
        rintro e8 w8 ⟨B8, d8, rfl, ho8, hb8⟩
        go_simp
        have HB8 := Lib.hid (HBD.out.trans (hb8.mono HBD.out.size))
        have hs8 := hb8.size
        have HE8 := Lib.hid (show Own shCell w8 wr.heap.size w8.heap.size [.int .i64 y0, .slice B8 y1.length d8] (y0, y1) from Own.prod (Own.one w8 wr.heap.size wr.heap.size _) (ho8.more (lo' := wr.heap.size) (by omega) (Nat.le_refl _)) (Nat.le_refl _) (Nat.le_refl _) (by omega))
        have HP8 := Lib.hid (HP.out.below HB8.out HP.out.lt); have HPA8 := Lib.hid (HPA.out.below HB8.out HPA.out.lt)
        refine hK.out _ _ ⟨HP8.out.cell, HPA8.out.cell, HK.out _ HB8.out⟩ (fun hHeld => ?_)
        clear hK K ho8 hb8
        (try simp only [Go.Act.put, List.setIfInBounds_toArray, List.set_cons_zero, List.set_cons_succ])
        ((refine AnyT.takeAny 17 43 ?_ rfl (by kernel_rfl) (by kernel_rfl) (by kernel_rfl) rfl rfl (fun _ _ _ _ h => h) rfl ?_ (by assumption) ?_); rotate_left; (intro w; go_simp; (try (with_reducible rfl))); simp only [Act.put, List.setIfInBounds_toArray, List.set_cons_zero, List.set_cons_succ])
        ((refine AnyT.one (i := 18) (by kernel_rfl) rfl (fun K hK => ?_)))
        go_simp
        refine hK.out _ _ ⟨(HP8.out.alloc _).cell, (HPA8.out.alloc _).cell, HK.out _ (HB8.out.alloc (by omega) _)⟩ (fun hHeld => ?_)
        clear hK K
        (try simp only [Go.Act.put, List.setIfInBounds_toArray, List.set_cons_zero, List.set_cons_succ])
        ((refine AnyT.one (i := 19) (by kernel_rfl) rfl (fun K hK => ?_)))
        refine step_grow (s := shCell) rfl (.tmp 27) (.tmp 44) 42 rfl Tryz.underlying42 rfl (by decide) (by decide) infoCell w8 q wr.heap.size wr.heap.size w8.heap.size B k d (x9.take k) [.int .i64 y0, .slice B8 y1.length d8] (y0, y1) rfl (HO.out.below HB8.out (Nat.le_refl _)) HE8.out (Nat.le_refl _) (by omega) (Nat.le_refl _) (by omega) rfl (by omega) ?_
        intro B9 d9 w9 ho9 hb9 hs9 hk9
        rw [← HTK.out] at ho9
        have HP9 := Lib.hid (HP8.out.below hb9 hpq)
        have HPA9 := Lib.hid (HPA8.out.below hb9 (by omega))
        have HO9 := Lib.hid ho9
        have HB9 := Lib.hid hb9
        have HW9 := Lib.hid ((HW.out.trans (HB8.out.mono hsz)).trans (hb9.mono (by omega)))
        have HS9 := Lib.hid ((HS.out.belowW HB8.out).keepW fun b hb _ => hb9.block b hb.2.2)
        refine hK.out _ _ ⟨HP9.out.cell, HPA9.out.cell, by
          have hk := HK.out _ HB8.out
          exact ⟨(hb9.cell (p := ⟨b, off + k * 2, none⟩) (by dsimp only; omega)).trans hk.1, (hb9.cell (p := ⟨b, off + k * 2 + 1, none⟩) (by dsimp only; omega)).trans hk.2⟩⟩ (fun hHeld => ?_)
        clear hK K hk9 ho9 hb9
        (try simp only [Go.Act.put, List.setIfInBounds_toArray, List.set_cons_zero, List.set_cons_succ])
        ((refine AnyT.takeAny 20 46 ?_ rfl (by kernel_rfl) (by kernel_rfl) (by kernel_rfl) rfl rfl (fun _ _ _ _ h => h) rfl ?_ (by assumption) ?_); rotate_left; (intro w; go_simp; (try (with_reducible rfl))); simp only [Act.put, List.setIfInBounds_toArray, List.set_cons_zero, List.set_cons_succ])
        have f7 := HP9.out.cell
        have z7 := HP9.out.frozen
        ((refine AnyT.last (i := 21) (by kernel_rfl) rfl (by kernel_rfl) (fun K hK => ?_)))
        go_simp
        refine hK.out _ _ ?_
        clear hK K
        (try simp only [Go.Act.put, List.setIfInBounds_toArray, List.set_cons_zero, List.set_cons_succ])
        refine AnyT.done (by kernel_rfl) ?_ _
        clear f7 z7
        go_wp2_with fail
        go_roundw
        case rel =>
          refine ⟨k + 1, B9, d9, by omega, by go_num, HW9.out.setCell (by dsimp only; omega) _, HP9.out.set_ 2 _, (HO9.out.setCell (p := ⟨p, 2, none⟩) (by dsimp only; omega) (.slice B9 (k + 1) d9)).more (Nat.le_refl _) (by simp [World.setCell]), ?_, HS9.out.setCell (fun b hb => hb.2.1) _⟩
          simp [World.setCell]; omega
        case measure => simp [intOf]; omega
      · obtain rfl : k = x9.length := by omega
        rw [List.take_length] at hO
        have HW := Lib.hid hW; have HP := Lib.hid hP; have HO := Lib.hid hO; have HS := Lib.hid hS
        clear hW hP hO hS HBW HBP HOS
        go_wp2_with fail
        clear f0
        generalize hq2 : wr.heap.size = q2 at *
        have hq2' : q2 ≤ wr.heap.size := by omega
        clear hq2
        go_loopw [6] (fun i wr => ∃ (k : Nat) (B' : Option Addr) (d' : Nat), k ≤ x10.length ∧ i = .int .i64 k ∧ Below w1.heap.size w1 wr ∧ Blk wr p 45 #[.int .i64 x7, .slice B1 x8.length d1, .slice B x9.length d, .slice B' k d'] ∧ Own (Sh.row 108 shLevel) wr q2 wr.heap.size [.slice B' k d'] (x10.take k) ∧ q2 ≤ wr.heap.size ∧ OwnS (Sh.row 151 shBind) wr (fun b => w1.heap.size ≤ b ∧ b ≠ p ∧ b < q) [.slice B1 x8.length d1] x8 ∧ Own (Sh.row 105 shCell) wr q q2 [.slice B x9.length d] x9) (fun i _ => x10.length - (intOf i).toNat)
        case atStart => exact ⟨0, none, 0, Nat.zero_le _, rfl, HW.out, HP.out, Own.nil_row _ _ _, hq2', HS.out, HO.out⟩
        case round =>
          obtain ⟨k, B', d', hk, rfl, hW, hP, hO, hqr2, hS, hC⟩ := hrel
          have f0 := (HP1.out.below hW hl1).cell
          by_cases hlt : k < x10.length
          · obtain ⟨-, b, off, rfl, hb1, hb2, A5', c5', e100, hX⟩ := shLevel_at ((Sh.row 108 shLevel).R_below HA10.out (TW.out.2.2.trans (hW.mono (by omega))) hhi) hlt
            have HX := Lib.hid (HF10.out _ (getD_in (d := shLevel.d) hlt))
            have hn5 : (x10.getD k shLevel.d).length ≤ 1048576 := HX.out.1
            have HTK := Lib.hid (take_succ_getD shLevel hlt)
            generalize x10.getD k shLevel.d = y0 at *
            have hsz := hW.size
            have hwi : hi ≤ wr.heap.size := by omega
            have hbw : b < wr.heap.size := Nat.lt_of_lt_of_le hb2 hwi
            have HR := Lib.hid (rowG_of_shape (show (Sh.row 151 shBind).R wr lo hi [.slice A5' y0.length c5'] y0 from hX))
            have HW := Lib.hid hW; have HP := Lib.hid hP; have HO := Lib.hid hO; have HE := Lib.hid e100; have HS := Lib.hid hS; have HC := Lib.hid hC
            have HPA := Lib.hid (show Blk wr w.heap.size 48 _ from HP1.out.below hW hl1)
            have HK := Lib.hid (show ∀ W, Below wr.heap.size wr W → W.cell? ⟨b, off + k, none⟩ = some (.slice A5' y0.length c5') from fun W hW => (hW.cell (p := ⟨b, off + k, none⟩) hbw).trans HE.out)
            have hi0 : (0 : Int) ≤ (k : Int) := by omega
            have hi1 : (k : Int) < (x10.length : Int) := by omega
            clear hW hP hO hX e100 hS hC
            go_upto_region 10 with fail
            clear f0
            refine AnyT.region (fun j => j == 15) (fun W => (∀ i, W.cell? ⟨p, i, none⟩ = (#[.int .i64 x7, .slice B1 x8.length d1, .slice B x9.length d, .slice B' k d'] : Array Value)[i]?) ∧ (∀ i, W.cell? ⟨w.heap.size, i, none⟩ = (#[.int .i64 x0, .int .i64 x1, .slice A2 x2.length c2, .slice A3 x3.length c3, .slice A4 x4.length c4, .slice A5 x5.length c5, .slice A6 x6.length c6, .int .i64 x7, .slice A8 x8.length c8, .slice A9 x9.length c9, .slice (some ⟨b, off, none⟩) x10.length c10, .bool x11, .bool x12, .bool x13, .string x14, .slice A15 x15.length c15, .int .i64 x16, .int .i64 x17, .int .i64 x18, .int .i64 x19, .string x20] : Array Value)[i]?) ∧ W.cell? ⟨b, off + k, none⟩ = some (.slice A5' y0.length c5')) (by kernel_rfl) ⟨(HP.out.drewN 1).cell, (HPA.out.drewN 1).cell, HE.out⟩ (fun hHeld => ?_)
            have HBD := Lib.hid (show Below wr.heap.size wr wr.drew from (Below.refl _ _).drew)
            have hzd : wr.drew.heap.size ≤ wr.heap.size ∧ wr.heap.size ≤ wr.drew.heap.size := ⟨Nat.le_refl _, Nat.le_refl _⟩
            clear HE
            generalize wr.drew = wD at *
            ((refine AnyT.takeAny 0 55 ?_ rfl (by kernel_rfl) (by kernel_rfl) (by kernel_rfl) rfl rfl (fun _ _ _ _ h => h) rfl ?_ (by assumption) ?_); rotate_left; (intro w; go_simp; (try (with_reducible rfl))); simp only [Act.put, List.setIfInBounds_toArray, List.set_cons_zero, List.set_cons_succ])
            ((refine AnyT.take 1 56 ?_ rfl (by kernel_rfl) (by kernel_rfl) (by kernel_rfl) (by kernel_rfl) rfl (by kernel_rfl) rfl (fun _ _ _ _ h => h) rfl ?_ (by assumption) ?_); rotate_left; (intro w hSw; (try dsimp only at hSw); go_simp; (try (with_reducible rfl))); simp only [Act.put, List.setIfInBounds_toArray, List.set_cons_zero, List.set_cons_succ])
            ((refine AnyT.takeAny 3 58 ?_ rfl (by kernel_rfl) (by kernel_rfl) (by kernel_rfl) rfl rfl (fun _ _ _ _ h => h) rfl ?_ (by assumption) ?_); rotate_left; (intro w; go_simp; (try (with_reducible rfl))); simp only [Act.put, List.setIfInBounds_toArray, List.set_cons_zero, List.set_cons_succ])
            ((refine AnyT.takeAny 4 59 ?_ rfl (by kernel_rfl) (by kernel_rfl) (by kernel_rfl) rfl rfl (fun _ _ _ _ h => h) rfl ?_ (by assumption) ?_); rotate_left; (intro w; go_simp; (try (with_reducible rfl))); simp only [Act.put, List.setIfInBounds_toArray, List.set_cons_zero, List.set_cons_succ])
            ((refine AnyT.take 5 60 ?_ rfl (by kernel_rfl) (by kernel_rfl) (by kernel_rfl) (by kernel_rfl) rfl (by kernel_rfl) rfl (fun _ _ _ _ h => h) rfl ?_ (by assumption) ?_); rotate_left; (intro w hSw; (try dsimp only at hSw); go_simp; (try (with_reducible rfl))); simp only [Act.put, List.setIfInBounds_toArray, List.set_cons_zero, List.set_cons_succ])
            ((refine AnyT.takeAny 6 61 ?_ rfl (by kernel_rfl) (by kernel_rfl) (by kernel_rfl) rfl rfl (fun _ _ _ _ h => h) rfl ?_ (by assumption) ?_); rotate_left; (intro w; go_simp; (try (with_reducible rfl))); simp only [Act.put, List.setIfInBounds_toArray, List.set_cons_zero, List.set_cons_succ])
            ((refine AnyT.takeAny 7 62 ?_ rfl (by kernel_rfl) (by kernel_rfl) (by kernel_rfl) rfl rfl (fun _ _ _ _ h => h) rfl ?_ (by assumption) ?_); rotate_left; (intro w; go_simp; (try (with_reducible rfl))); simp only [Act.put, List.setIfInBounds_toArray, List.set_cons_zero, List.set_cons_succ])
            ((refine AnyT.takeAny 8 63 ?_ rfl (by kernel_rfl) (by kernel_rfl) (by kernel_rfl) rfl rfl (fun _ _ _ _ h => h) rfl ?_ (by assumption) ?_); rotate_left; (intro w; go_simp; (try (with_reducible rfl))); simp only [Act.put, List.setIfInBounds_toArray, List.set_cons_zero, List.set_cons_succ])
            ((refine AnyT.take 9 64 ?_ rfl (by kernel_rfl) (by kernel_rfl) (by kernel_rfl) (by kernel_rfl) rfl (by kernel_rfl) rfl (fun _ _ _ _ h => h) rfl ?_ (by assumption) ?_); rotate_left; (intro w hSw; (try dsimp only at hSw); go_simp; (try (with_reducible rfl))); simp only [Act.put, List.setIfInBounds_toArray, List.set_cons_zero, List.set_cons_succ])
            ((refine AnyT.one (i := 2) (by kernel_rfl) rfl (fun K hK => ?_)))
            go_simp
            have HBa := Lib.hid ((Below.refl wD.heap.size wD).alloc (Nat.le_refl _) (.cells #[] 151))
            have BL := Lib.hid (Blk.new wD 151 #[])
            have hn1' : (wD.alloc (.cells #[] 151)).heap.size ≤ wD.heap.size + 1 ∧ wD.heap.size + 1 ≤ (wD.alloc (.cells #[] 151)).heap.size := by simp
            have HB2 := Lib.hid (HBD.out.trans (HBa.out.mono (by omega)))
            refine hK.out _ _ ⟨(HP.out.below HB2.out HP.out.lt).cell, (HPA.out.below HB2.out HPA.out.lt).cell, HK.out _ HB2.out⟩ (fun hHeld => ?_)
            clear hK K HBa
            (try simp only [Go.Act.put, List.setIfInBounds_toArray, List.set_cons_zero, List.set_cons_succ])
            generalize wD.alloc (.cells #[] 151) = v1 at *
            ((refine AnyT.one (i := 10) (by kernel_rfl) rfl (fun K hK => ?_)))
            refine step_litR (s := shBind) rfl (.tmp 57) (.tmp 64) 41 rfl Tryz.underlying41 rfl (by decide) (by decide) infoBind flatBind v1 wD.heap.size lo hi A5' c5' y0 rfl rfl BL.out (rowG_below HR.out HB2.out hwi) (by omega) ?_
            intro B5' d5' v2 hos hout
            have hs2 := hout.size
            have HB3 := Lib.hid (HB2.out.trans (hout.below1 (B := wr.heap.size) (by omega) (by omega)))
            have HE5 := Lib.hid (show Own shLevel v2 wr.heap.size v2.heap.size [.slice B5' y0.length d5'] y0 from (hos.mono (S' := fun b => wr.heap.size ≤ b ∧ b < v2.heap.size) (fun b hb hl => ⟨by omega, hl⟩)).own fun b hb => hb)
            have HP3 := Lib.hid (HP.out.below HB3.out HP.out.lt); have HPA3 := Lib.hid (HPA.out.below HB3.out HPA.out.lt)
            refine hK.out _ _ ⟨HP3.out.cell, HPA3.out.cell, HK.out _ HB3.out⟩ (fun hHeld => ?_)
            clear hK K hos hout BL HB2
            (try simp only [Go.Act.put, List.setIfInBounds_toArray, List.set_cons_zero, List.set_cons_succ])
            ((refine AnyT.takeAny 11 66 ?_ rfl (by kernel_rfl) (by kernel_rfl) (by kernel_rfl) rfl rfl (fun _ _ _ _ h => h) rfl ?_ (by assumption) ?_); rotate_left; (intro w; go_simp; (try (with_reducible rfl))); simp only [Act.put, List.setIfInBounds_toArray, List.set_cons_zero, List.set_cons_succ])
            ((refine AnyT.one (i := 12) (by kernel_rfl) rfl (fun K hK => ?_)))
            go_simp
            refine hK.out _ _ ⟨(HP3.out.alloc _).cell, (HPA3.out.alloc _).cell, HK.out _ (HB3.out.alloc (by omega) _)⟩ (fun hHeld => ?_)
            clear hK K
            (try simp only [Go.Act.put, List.setIfInBounds_toArray, List.set_cons_zero, List.set_cons_succ])
            ((refine AnyT.one (i := 13) (by kernel_rfl) rfl (fun K hK => ?_)))
            refine step_grow (s := shLevel) rfl (.tmp 56) (.tmp 67) 43 rfl Tryz.underlying43 rfl (by decide) (by decide) infoLevel v2 q2 wr.heap.size wr.heap.size v2.heap.size B' k d' (x10.take k) [.slice B5' y0.length d5'] y0 rfl (HO.out.below HB3.out (Nat.le_refl _)) HE5.out (Nat.le_refl _) (by omega) (Nat.le_refl _) (by omega) rfl (by omega) ?_
            intro B7 d7 w7 ho7 hb7 hs7 hk7
            rw [← HTK.out] at ho7
            have HP7 := Lib.hid (HP3.out.below hb7 (by omega))
            have HPA7 := Lib.hid (HPA3.out.below hb7 (by omega))
            have HO7 := Lib.hid ho7
            have HW7 := Lib.hid ((HW.out.trans (HB3.out.mono hsz)).trans (hb7.mono (by omega)))
            have HS7 := Lib.hid ((HS.out.belowW HB3.out).keepW fun b hb _ => hb7.block b (by have := hb.2.2; omega))
            have HC7 := Lib.hid ((HC.out.below HB3.out hqr2).below hb7 (Nat.le_refl _))
            refine hK.out _ _ ⟨HP7.out.cell, HPA7.out.cell, (hb7.cell (p := ⟨b, off + k, none⟩) (by dsimp only; omega)).trans (HK.out _ HB3.out)⟩ (fun hHeld => ?_)
            clear hK K hk7 ho7 hb7
            (try simp only [Go.Act.put, List.setIfInBounds_toArray, List.set_cons_zero, List.set_cons_succ])
            ((refine AnyT.takeAny 14 69 ?_ rfl (by kernel_rfl) (by kernel_rfl) (by kernel_rfl) rfl rfl (fun _ _ _ _ h => h) rfl ?_ (by assumption) ?_); rotate_left; (intro w; go_simp; (try (with_reducible rfl))); simp only [Act.put, List.setIfInBounds_toArray, List.set_cons_zero, List.set_cons_succ])
            have f7 := HP7.out.cell
            have z7 := HP7.out.frozen
            ((refine AnyT.last (i := 15) (by kernel_rfl) rfl (by kernel_rfl) (fun K hK => ?_)))
            go_simp
            refine hK.out _ _ ?_
            clear hK K
            (try simp only [Go.Act.put, List.setIfInBounds_toArray, List.set_cons_zero, List.set_cons_succ])
            refine AnyT.done (by kernel_rfl) ?_ _
            clear f7 z7
            go_wp2_with fail
            go_roundw
            case rel =>
              refine ⟨k + 1, B7, d7, by omega, by go_num, HW7.out.setCell (by dsimp only; omega) _, HP7.out.set_ 3 _, (HO7.out.setCell (p := ⟨p, 3, none⟩) (by dsimp only; omega) (.slice B7 (k + 1) d7)).more (Nat.le_refl _) (by simp [World.setCell]), ?_, HS7.out.setCell (fun b hb => hb.2.1) _, HC7.out.setCell (by dsimp only; omega) _⟩
              simp [World.setCell]; omega
            case measure => simp [intOf]; omega
          · obtain rfl : k = x10.length := by omega
            rw [List.take_length] at hO
            have hsz := hW.size
            have HX2 := Lib.hid (HX1.out.below hW (by omega))
            have HT2 := Lib.hid (TW.out.call hW)
            have f4 := hP.cell
            have HC := Lib.hid hC; have HL := Lib.hid hO; have HS := Lib.hid hS; have HW := Lib.hid hW
            have g3 := HX2.out.cell; have z3 := HX2.out.frozen
            clear hW hP hO hS hC
            go_upto_region 12 with fail
            clear f0 f4 g3 z3
            have hcw := HW.out.size
            have hsT := HT2.out.2.1.lt
            have HX3 : Hid (Blk ((((wr.setCell ⟨wa.heap.size, 7, none⟩ (.int .i64 x7)).setCell ⟨wa.heap.size, 8, none⟩ (.slice B1 x8.length d1)).setCell ⟨wa.heap.size, 9, none⟩ (.slice B x9.length d)).setCell ⟨wa.heap.size, 10, none⟩ (.slice B' x10.length d')) wa.heap.size 48 #[.int .i64 x0, .int .i64 x1, .slice B2 x2.length d2, .slice B3 x3.length d3, .slice B4 x4.length d4, .slice B5 x5.length d5, .slice B6 x6.length d6, .int .i64 x7, .slice B1 x8.length d1, .slice B x9.length d, .slice B' x10.length d', .bool x11, .bool x12, .bool x13, .string x14, .slice B15 x15.length d15, .int .i64 x16, .int .i64 x17, .int .i64 x18, .int .i64 x19, .string x20]) := Lib.hid (by have := ((((HX2.out.set_ 7 (.int .i64 x7)).set_ 8 (.slice B1 x8.length d1)).set_ 9 (.slice B x9.length d)).set_ 10 (.slice B' x10.length d')); simpa only [List.setIfInBounds_toArray, List.set_cons_zero, List.set_cons_succ] using this)
            have HS3 := Lib.hid (OwnS.setCell (OwnS.setCell (OwnS.setCell (OwnS.setCell HS.out (p := ⟨wa.heap.size, 7, none⟩) (fun b hb => by dsimp only; have := hb.1; omega) (.int .i64 x7)) (p := ⟨wa.heap.size, 8, none⟩) (fun b hb => by dsimp only; have := hb.1; omega) (.slice B1 x8.length d1)) (p := ⟨wa.heap.size, 9, none⟩) (fun b hb => by dsimp only; have := hb.1; omega) (.slice B x9.length d)) (p := ⟨wa.heap.size, 10, none⟩) (fun b hb => by dsimp only; have := hb.1; omega) (.slice B' x10.length d'))
            have HC3 := Lib.hid (Own.setCell (Own.setCell (Own.setCell (Own.setCell HC.out (p := ⟨wa.heap.size, 7, none⟩) (by dsimp only; omega) (.int .i64 x7)) (p := ⟨wa.heap.size, 8, none⟩) (by dsimp only; omega) (.slice B1 x8.length d1)) (p := ⟨wa.heap.size, 9, none⟩) (by dsimp only; omega) (.slice B x9.length d)) (p := ⟨wa.heap.size, 10, none⟩) (by dsimp only; omega) (.slice B' x10.length d'))
            have HL3 := Lib.hid (Own.setCell (Own.setCell (Own.setCell (Own.setCell HL.out (p := ⟨wa.heap.size, 7, none⟩) (by dsimp only; omega) (.int .i64 x7)) (p := ⟨wa.heap.size, 8, none⟩) (by dsimp only; omega) (.slice B1 x8.length d1)) (p := ⟨wa.heap.size, 9, none⟩) (by dsimp only; omega) (.slice B x9.length d)) (p := ⟨wa.heap.size, 10, none⟩) (by dsimp only; omega) (.slice B' x10.length d'))
            have HZ3 := Lib.hid (Blk.far (Blk.far (Blk.far (Blk.far HT2.out.2.1 (p := ⟨wa.heap.size, 7, none⟩) (by dsimp only; omega) (.int .i64 x7)) (p := ⟨wa.heap.size, 8, none⟩) (by dsimp only; omega) (.slice B1 x8.length d1)) (p := ⟨wa.heap.size, 9, none⟩) (by dsimp only; omega) (.slice B x9.length d)) (p := ⟨wa.heap.size, 10, none⟩) (by dsimp only; omega) (.slice B' x10.length d'))
            have HB3 := Lib.hid (Below.setCell (Below.setCell (Below.setCell (Below.setCell HT2.out.2.2 (p := ⟨wa.heap.size, 7, none⟩) (by dsimp only; omega) (.int .i64 x7)) (p := ⟨wa.heap.size, 8, none⟩) (by dsimp only; omega) (.slice B1 x8.length d1)) (p := ⟨wa.heap.size, 9, none⟩) (by dsimp only; omega) (.slice B x9.length d)) (p := ⟨wa.heap.size, 10, none⟩) (by dsimp only; omega) (.slice B' x10.length d'))
            have HKP := Lib.hid (show ∀ b, b < wa.heap.size → ((((wr.setCell ⟨wa.heap.size, 7, none⟩ (.int .i64 x7)).setCell ⟨wa.heap.size, 8, none⟩ (.slice B1 x8.length d1)).setCell ⟨wa.heap.size, 9, none⟩ (.slice B x9.length d)).setCell ⟨wa.heap.size, 10, none⟩ (.slice B' x10.length d')).heap[b]? = w1.heap[b]? from fun b hb => by
              have e0 := HW.out.block b (by omega)
              rw [Below.heap_setCell _ _ _ _ (by dsimp only; omega), Below.heap_setCell _ _ _ _ (by dsimp only; omega), Below.heap_setCell _ _ _ _ (by dsimp only; omega), Below.heap_setCell _ _ _ _ (by dsimp only; omega)]
              exact e0)
            have hzX : wr.heap.size ≤ ((((wr.setCell ⟨wa.heap.size, 7, none⟩ (.int .i64 x7)).setCell ⟨wa.heap.size, 8, none⟩ (.slice B1 x8.length d1)).setCell ⟨wa.heap.size, 9, none⟩ (.slice B x9.length d)).setCell ⟨wa.heap.size, 10, none⟩ (.slice B' x10.length d')).heap.size ∧ ((((wr.setCell ⟨wa.heap.size, 7, none⟩ (.int .i64 x7)).setCell ⟨wa.heap.size, 8, none⟩ (.slice B1 x8.length d1)).setCell ⟨wa.heap.size, 9, none⟩ (.slice B x9.length d)).setCell ⟨wa.heap.size, 10, none⟩ (.slice B' x10.length d')).heap.size ≤ wr.heap.size := by simp [World.setCell]
            clear HX2 HT2 HS HC HL HW
            generalize ((((wr.setCell ⟨wa.heap.size, 7, none⟩ (.int .i64 x7)).setCell ⟨wa.heap.size, 8, none⟩ (.slice B1 x8.length d1)).setCell ⟨wa.heap.size, 9, none⟩ (.slice B x9.length d)).setCell ⟨wa.heap.size, 10, none⟩ (.slice B' x10.length d')) = wX at *
            have HONE : Hid (∀ u ∈ ([.int .i64 x0, .int .i64 x1, .slice B2 x2.length d2, .slice B3 x3.length d3, .slice B4 x4.length d4, .slice B5 x5.length d5, .slice B6 x6.length d6, .int .i64 x7, .slice B1 x8.length d1, .slice B x9.length d, .slice B' x10.length d', .bool x11, .bool x12, .bool x13, .string x14, .slice B15 x15.length d15, .int .i64 x16, .int .i64 x17, .int .i64 x18, .int .i64 x19, .string x20] : List Value), u.oneCell' = true) := Lib.hid (by intro u hu; simp only [List.mem_cons, List.not_mem_nil, or_false] at hu; rcases hu with rfl | rfl | rfl | rfl | rfl | rfl | rfl | rfl | rfl | rfl | rfl | rfl | rfl | rfl | rfl | rfl | rfl | rfl | rfl | rfl | rfl <;> rfl)
            refine wp_region_list ?_
            refine wpList_loadAll rfl 48 (.tmp 3) rfl wa.heap.size rfl HX3.out Tryz.underlying48 rfl (by kernel_rfl) ?_
            simp only [Go.Act.put, List.setIfInBounds_toArray, List.set_cons_zero, List.set_cons_succ]
            refine wpList_storeAll rfl 48 (.tmp 2) (.tmp 72) rfl (w.heap.size + 1) #[.int .i64 x0, .int .i64 x1, .slice B2 x2.length d2, .slice B3 x3.length d3, .slice B4 x4.length d4, .slice B5 x5.length d5, .slice B6 x6.length d6, .int .i64 x7, .slice B1 x8.length d1, .slice B x9.length d, .slice B' x10.length d', .bool x11, .bool x12, .bool x13, .string x14, .slice B15 x15.length d15, .int .i64 x16, .int .i64 x17, .int .i64 x18, .int .i64 x19, .string x20] rfl rfl HZ3.out (by kernel_rfl) rfl HONE.out ?_
            intro wF hbF hoF hzF
            have hw0 : w.heap.size + 1 < w0.heap.size := by omega
            have HKF := Lib.hid (show ∀ b, w0.heap.size ≤ b → b < wa.heap.size → wF.heap[b]? = w1.heap[b]? from fun b h1 h2 => (hoF.block b (by omega) (by simp; omega)).trans (HKP.out b h2))
            have R2 := (Sh.row 9 shS).R_keep HR1.out.1 (fun b h1 h2 => HKF.out b h1 h2)
            have R3 := (Sh.row 46 shRef).R_keep HR1.out.2.1 (fun b h1 h2 => HKF.out b h1 h2)
            have R4 := (Sh.row 109 shGiven).R_keep HR1.out.2.2.1 (fun b h1 h2 => HKF.out b h1 h2)
            have R5 := (Sh.row 111 shLoop).R_keep HR1.out.2.2.2.1 (fun b h1 h2 => HKF.out b h1 h2)
            have R6 := (Sh.row 113 shFrame).R_keep HR1.out.2.2.2.2.1 (fun b h1 h2 => HKF.out b h1 h2)
            have R15 := shRef.R_keep HR1.out.2.2.2.2.2 (fun b h1 h2 => HKF.out b h1 h2)
            have hfs := hoF.size
            have OB := ((OwnS.keepW HS3.out (w' := wF) fun b hb hl => hoF.block b hl (by have := hb.1; simp; omega)).mono (S' := fun b => w.heap.size ≤ b ∧ b < wF.heap.size) fun b hb hl => ⟨by have := hb.1; omega, hl⟩).own fun b hb => hb
            have OC := HC3.out.outOf hoF (.inl (by omega))
            have OL := HL3.out.outOf hoF (.inl (by omega))
            have m := fun {α : Type} {t : TypeId} {s : Sh α} {A : Option Addr} {c : Nat} {xs : List α} {l1 h1 : Nat} (r : (Sh.row t s).R wF l1 h1 [.slice A xs.length c] xs) (hl : w.heap.size ≤ l1) (hh : h1 ≤ wF.heap.size) => rowG_of_shape ((Sh.row t s).R_more r hl hh)
            have HFIN := Lib.hid (show shMachine.R wF w.heap.size wF.heap.size [.int .i64 x0, .int .i64 x1, .slice B2 x2.length d2, .slice B3 x3.length d3, .slice B4 x4.length d4, .slice B5 x5.length d5, .slice B6 x6.length d6, .int .i64 x7, .slice B1 x8.length d1, .slice B x9.length d, .slice B' x10.length d', .bool x11, .bool x12, .bool x13, .string x14, .slice B15 x15.length d15, .int .i64 x16, .int .i64 x17, .int .i64 x18, .int .i64 x19, .string x20] (x0, x1, x2, x3, x4, x5, x6, (x7, x8, x9, x10), x11, x12, (x13, x14, x15), x16, x17, x18, x19, x20) from shMachine_R.2 ⟨B2, d2, B3, d3, B4, d4, B5, d5, B6, d6, B1, d1, B, d, B', d', B15, d15, rfl, m R2 (by omega) (by omega), m R3 (by omega) (by omega), m R4 (by omega) (by omega), m R5 (by omega) (by omega), m R6 (by omega) (by omega), m OB.reads (Nat.le_refl _) (Nat.le_refl _), m OC.reads (by omega) (by omega), m OL.reads (by omega) (by omega), m (shRef_f2 R15) (by omega) (by omega)⟩)
            have HBF := Lib.hid hbF
            have HBB := Lib.hid (HB3.out.trans (hoF.below1 (by omega) (by omega)))
            clear HX3 HS3 HC3 HL3 HZ3 HB3 HKP hbF hoF R2 R3 R4 R5 R6 R15 OB OC OL m HKF HONE
            go_wp2_with fail
            refine bodyPost_ret (results_cell_row (P := Tryz.prog) rfl _ _ (w.heap.size + 1) 48 #[.int .i64 x0, .int .i64 x1, .slice B2 x2.length d2, .slice B3 x3.length d3, .slice B4 x4.length d4, .slice B5 x5.length d5, .slice B6 x6.length d6, .int .i64 x7, .slice B1 x8.length d1, .slice B x9.length d, .slice B' x10.length d', .bool x11, .bool x12, .bool x13, .string x14, .slice B15 x15.length d15, .int .i64 x16, .int .i64 x17, .int .i64 x18, .int .i64 x19, .string x20] (0, 0) _ rfl HBF.out Tryz.underlying48 rfl (by kernel_rfl)) rfl ⟨B2, d2, B3, d3, B4, d4, B5, d5, B6, d6, B1, d1, B, d, B', d', B15, d15, rfl, HFIN.out, HBB.out⟩

end Go.Proofs.YtlodlplfmpikjaaGreat
