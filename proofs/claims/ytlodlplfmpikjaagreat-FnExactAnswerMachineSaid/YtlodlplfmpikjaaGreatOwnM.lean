/- l14Own of the reference walked. Printed by gen_ownm.py. -/
import Derived.Test.YtlodlplfmpikjaaGreatOwnK
import Derived.Test.YtlodlplfmpikjaaGreatCpyM
namespace Go.Proofs.YtlodlplfmpikjaaGreat
open Go.RowKit

theorem Own.lit0 {α : Type} {s : Sh α} {t : TypeId} {w : World} {h : Nat} (hb : Blk w h t #[]) : Own (Sh.row t s) w h w.heap.size [.slice (some ⟨h, 0, none⟩) 0 0] [] := by
  obtain ⟨A, c, e, ho⟩ := Own.of_flat (s := s) (xs := []) (lit_own (k := s.k) hb) rfl (Nat.le_refl _) (fun j hj => absurd hj (by simp))
  rw [e]; exact ho
theorem Three.store2S {w0 w : World} {t0 t1 t2 : TypeId} {c0 c1 c2 c3 : Array Value} (h : Three w0 w t0 t1 t2 c0 c1 c2) (j : Nat) (u : Value) (he : c2.setIfInBounds j u = c3) : Three w0 (w.setCell ⟨w0.heap.size + 1 + 1, j, none⟩ u) t0 t1 t2 c0 c1 c3 := by
  rw [← he]; exact h.store2 j u

set_option maxHeartbeats 16000000 in
set_option maxRecDepth 100000 in
theorem l14Own_f (x0 : Int) (x1 : Int) (x2 : List ByteArray) (x3 : List TyRef) (x4 : List TyGiven) (x5 : List TyLoop) (x6 : List TyFrame) (x7 : Int) (x8 : List TyBind) (x9 : List TyCell) (x10 : List TyLevel) (x11 : Bool) (x12 : Bool) (x13 : Bool) (x14 : ByteArray) (x15 : List ByteArray) (x16 : Int) (x17 : Int) (x18 : Int) (x19 : Int) (x20 : ByteArray) (A2 : Option Addr) (c2 : Nat) (A3 : Option Addr) (c3 : Nat) (A4 : Option Addr) (c4 : Nat) (A5 : Option Addr) (c5 : Nat) (A6 : Option Addr) (c6 : Nat) (A8 : Option Addr) (c8 : Nat) (A9 : Option Addr) (c9 : Nat) (A10 : Option Addr) (c10 : Nat) (A15 : Option Addr) (c15 : Nat) (lo hi : Nat) (w : World) (h : shMachine.R w lo hi [.int .i64 x0, .int .i64 x1, .slice A2 x2.length c2, .slice A3 x3.length c3, .slice A4 x4.length c4, .slice A5 x5.length c5, .slice A6 x6.length c6, .int .i64 x7, .slice A8 x8.length c8, .slice A9 x9.length c9, .slice A10 x10.length c10, .bool x11, .bool x12, .bool x13, .string x14, .slice A15 x15.length c15, .int .i64 x16, .int .i64 x17, .int .i64 x18, .int .i64 x19, .string x20] (x0, x1, x2, x3, x4, x5, x6, (x7, x8, x9, x10), x11, x12, (x13, x14, x15), x16, x17, x18, x19, x20)) (hhi : hi ≤ w.heap.size) (hf : shMachine.fit 1048576 (x0, x1, x2, x3, x4, x5, x6, (x7, x8, x9, x10), x11, x12, (x13, x14, x15), x16, x17, x18, x19, x20)) :
    Calls Tryz.prog 59 #[.agg #[.int .i64 x0, .int .i64 x1, .slice A2 x2.length c2, .slice A3 x3.length c3, .slice A4 x4.length c4, .slice A5 x5.length c5, .slice A6 x6.length c6, .int .i64 x7, .slice A8 x8.length c8, .slice A9 x9.length c9, .slice A10 x10.length c10, .bool x11, .bool x12, .bool x13, .string x14, .slice A15 x15.length c15, .int .i64 x16, .int .i64 x17, .int .i64 x18, .int .i64 x19, .string x20]] w fun e w' => ∃ (B2 : Option Addr) (d2 : Nat), ∃ (B3 : Option Addr) (d3 : Nat), ∃ (B4 : Option Addr) (d4 : Nat), ∃ (B5 : Option Addr) (d5 : Nat), ∃ (B6 : Option Addr) (d6 : Nat), ∃ (B15 : Option Addr) (d15 : Nat), ∃ (B8 : Option Addr) (n8 d8 : Nat) (B9 : Option Addr) (n9 d9 : Nat) (B10 : Option Addr) (n10 d10 : Nat), e = .returned (.agg #[.int .i64 x0, .int .i64 x1, .slice B2 x2.length d2, .slice B3 x3.length d3, .slice B4 x4.length d4, .slice B5 x5.length d5, .slice B6 x6.length d6, .int .i64 x7, .slice B8 n8 d8, .slice B9 n9 d9, .slice B10 n10 d10, .bool x11, .bool x12, .bool x13, .string x14, .slice B15 x15.length d15, .int .i64 x16, .int .i64 x17, .int .i64 x18, .int .i64 x19, .string x20]) ∧ (Sh.row 9 shS).R w' w.heap.size w'.heap.size [.slice B2 x2.length d2] x2 ∧ (Sh.row 46 shRef).R w' w.heap.size w'.heap.size [.slice B3 x3.length d3] x3 ∧ (Sh.row 109 shGiven).R w' w.heap.size w'.heap.size [.slice B4 x4.length d4] x4 ∧ (Sh.row 111 shLoop).R w' w.heap.size w'.heap.size [.slice B5 x5.length d5] x5 ∧ (Sh.row 113 shFrame).R w' w.heap.size w'.heap.size [.slice B6 x6.length d6] x6 ∧ shRef.R w' w.heap.size w'.heap.size [.bool x13, .string x14, .slice B15 x15.length d15] (x13, x14, x15) ∧ Below w.heap.size w w' := by
  have HONE := Lib.hid (shMachine.R_one h)
  rw [shMachine_fit] at hf
  obtain ⟨ft0, ft1, ft2, ft3, ft4, ft5, ft6, ft7, ft11, ft12, ft13, ft16, ft17, ft18, ft19, ft20⟩ := hf
  have HF2 := Lib.hid ft2; have HA2 := Lib.hid (shMachine_f2 h)
  have HF3 := Lib.hid ft3; have HA3 := Lib.hid (shMachine_f3 h)
  have HF4 := Lib.hid ft4; have HA4 := Lib.hid (shMachine_f4 h)
  have HF5 := Lib.hid ft5; have HA5 := Lib.hid (shMachine_f5 h)
  have HF6 := Lib.hid ft6; have HA6 := Lib.hid (shMachine_f6 h)
  have HF7 := Lib.hid ft7; have HA7 := Lib.hid (shMachine_f7 h)
  have HF13 := Lib.hid ft13; have HA13 := Lib.hid (shMachine_f13 h)
  have hn2 := ft2.1
  have hn3 := ft3.1
  have hn4 := ft4.1
  have hn5 := ft5.1
  have hn6 := ft6.1
  clear h ft0 ft1 ft2 ft3 ft4 ft5 ft6 ft7 ft11 ft12 ft13 ft16 ft17 ft18 ft19 ft20
  have T0 := Lib.hid (Three.start w 48 48 48 #[.int .i64 x0, .int .i64 x1, .slice A2 x2.length c2, .slice A3 x3.length c3, .slice A4 x4.length c4, .slice A5 x5.length c5, .slice A6 x6.length c6, .int .i64 x7, .slice A8 x8.length c8, .slice A9 x9.length c9, .slice A10 x10.length c10, .bool x11, .bool x12, .bool x13, .string x14, .slice A15 x15.length c15, .int .i64 x16, .int .i64 x17, .int .i64 x18, .int .i64 x19, .string x20] #[.int .i64 0, .int .i64 0, .slice none 0 0, .slice none 0 0, .slice none 0 0, .slice none 0 0, .slice none 0 0, .int .i64 0, .slice none 0 0, .slice none 0 0, .slice none 0 0, .bool false, .bool false, .bool false, .string ⟨#[]⟩, .slice none 0 0, .int .i64 0, .int .i64 0, .int .i64 0, .int .i64 0, .string ⟨#[]⟩] #[.int .i64 0, .int .i64 0, .slice none 0 0, .slice none 0 0, .slice none 0 0, .slice none 0 0, .slice none 0 0, .int .i64 0, .slice none 0 0, .slice none 0 0, .slice none 0 0, .bool false, .bool false, .bool false, .string ⟨#[]⟩, .slice none 0 0, .int .i64 0, .int .i64 0, .int .i64 0, .int .i64 0, .string ⟨#[]⟩])
  have B0 := Lib.hid ((Blk.new w 48 #[.int .i64 x0, .int .i64 x1, .slice A2 x2.length c2, .slice A3 x3.length c3, .slice A4 x4.length c4, .slice A5 x5.length c5, .slice A6 x6.length c6, .int .i64 x7, .slice A8 x8.length c8, .slice A9 x9.length c9, .slice A10 x10.length c10, .bool x11, .bool x12, .bool x13, .string x14, .slice A15 x15.length c15, .int .i64 x16, .int .i64 x17, .int .i64 x18, .int .i64 x19, .string x20]).alloc (.cells #[.int .i64 0, .int .i64 0, .slice none 0 0, .slice none 0 0, .slice none 0 0, .slice none 0 0, .slice none 0 0, .int .i64 0, .slice none 0 0, .slice none 0 0, .slice none 0 0, .bool false, .bool false, .bool false, .string ⟨#[]⟩, .slice none 0 0, .int .i64 0, .int .i64 0, .int .i64 0, .int .i64 0, .string ⟨#[]⟩] 48))
  go_enter Tryz.func59, Tryz.ntmps59
  go_upto_region 1 with fail
  refine wp_region_list ?_
  refine wpList_loadAll rfl 48 (.tmp 1) rfl w.heap.size rfl B0.out Tryz.underlying48 rfl (by kernel_rfl) ?_
  simp only [Go.Act.put, List.setIfInBounds_toArray, List.set_cons_zero, List.set_cons_succ]
  go_upto_region 2 with (first | fail | (refine wpList_storeAll rfl 48 (.tmp 3) (.tmp 5) rfl (w.heap.size + 1 + 1) #[.int .i64 x0, .int .i64 x1, .slice A2 x2.length c2, .slice A3 x3.length c3, .slice A4 x4.length c4, .slice A5 x5.length c5, .slice A6 x6.length c6, .int .i64 x7, .slice A8 x8.length c8, .slice A9 x9.length c9, .slice A10 x10.length c10, .bool x11, .bool x12, .bool x13, .string x14, .slice A15 x15.length c15, .int .i64 x16, .int .i64 x17, .int .i64 x18, .int .i64 x19, .string x20] rfl rfl T0.out.2.2.1 (by kernel_rfl) rfl HONE.out ?_; intro w1 hb0 ho0 hz0))
  have HT := Lib.hid (show Three w w1 48 48 48 #[.int .i64 x0, .int .i64 x1, .slice A2 x2.length c2, .slice A3 x3.length c3, .slice A4 x4.length c4, .slice A5 x5.length c5, .slice A6 x6.length c6, .int .i64 x7, .slice A8 x8.length c8, .slice A9 x9.length c9, .slice A10 x10.length c10, .bool x11, .bool x12, .bool x13, .string x14, .slice A15 x15.length c15, .int .i64 x16, .int .i64 x17, .int .i64 x18, .int .i64 x19, .string x20] #[.int .i64 0, .int .i64 0, .slice none 0 0, .slice none 0 0, .slice none 0 0, .slice none 0 0, .slice none 0 0, .int .i64 0, .slice none 0 0, .slice none 0 0, .slice none 0 0, .bool false, .bool false, .bool false, .string ⟨#[]⟩, .slice none 0 0, .int .i64 0, .int .i64 0, .int .i64 0, .int .i64 0, .string ⟨#[]⟩] #[.int .i64 x0, .int .i64 x1, .slice A2 x2.length c2, .slice A3 x3.length c3, .slice A4 x4.length c4, .slice A5 x5.length c5, .slice A6 x6.length c6, .int .i64 x7, .slice A8 x8.length c8, .slice A9 x9.length c9, .slice A10 x10.length c10, .bool x11, .bool x12, .bool x13, .string x14, .slice A15 x15.length c15, .int .i64 x16, .int .i64 x17, .int .i64 x18, .int .i64 x19, .string x20] from ⟨T0.out.1.outOf ho0 (by omega), T0.out.2.1.outOf ho0 (by omega), hb0, T0.out.2.2.2.trans (ho0.below1 (by omega) T0.out.2.2.2.size)⟩)
  clear T0 B0 hb0 ho0 hz0
  have hs1 : w.heap.size + 1 + 1 + 1 ≤ w1.heap.size := HT.out.2.2.1.lt
  have hbA := (Below.refl w1.heap.size w1).alloc (Nat.le_refl _) (.cells #[] 9)
  have HL := Lib.hid (lit0_own (t := 9) (k := shS.k) w1 w1.heap.size (Nat.le_refl _))
  have HR := Lib.hid (rowG_below (rowG_below (rowG_of_shape HA2.out) HT.out.2.2.2 hhi) hbA (Nat.le_trans hhi HT.out.2.2.2.size))
  have hsA := hbA.size
  have HbA := Lib.hid hbA
  have f0 := (HT.out.call hbA).1.cell
  clear hbA
  go_wp2_with (at_builtin; refine wpList_growR (s := shS) rfl (.tmp 6) (.tmp 8) 22 rfl Tryz.underlying22 rfl (by decide) (by decide) infoString flatText _ w1.heap.size lo hi _ A2 c2 x2 rfl HL.out rfl HR.out (by omega) hsA ?_)
  intro B2 d2 y1 ho hb
  have hB := HbA.out.trans hb
  have HT := Lib.hid (HT.out.call hB)
  have hy1 := hB.size
  have HO2 := Lib.hid (ho.more (lo' := w.heap.size + 1 + 1 + 1) (by omega) (Nat.le_refl _))
  have f2 := HT.out.2.2.1.cell; have z2 := HT.out.2.2.1.frozen
  clear HL HR HbA f0 hb ho hB hsA
  go_upto_region 3 with fail
  clear f2 z2
  have HT := Lib.hid (show Three w (y1.setCell ⟨w.heap.size + 1 + 1, 2, none⟩ (.slice B2 x2.length d2)) 48 48 48 #[.int .i64 x0, .int .i64 x1, .slice A2 x2.length c2, .slice A3 x3.length c3, .slice A4 x4.length c4, .slice A5 x5.length c5, .slice A6 x6.length c6, .int .i64 x7, .slice A8 x8.length c8, .slice A9 x9.length c9, .slice A10 x10.length c10, .bool x11, .bool x12, .bool x13, .string x14, .slice A15 x15.length c15, .int .i64 x16, .int .i64 x17, .int .i64 x18, .int .i64 x19, .string x20] #[.int .i64 0, .int .i64 0, .slice none 0 0, .slice none 0 0, .slice none 0 0, .slice none 0 0, .slice none 0 0, .int .i64 0, .slice none 0 0, .slice none 0 0, .slice none 0 0, .bool false, .bool false, .bool false, .string ⟨#[]⟩, .slice none 0 0, .int .i64 0, .int .i64 0, .int .i64 0, .int .i64 0, .string ⟨#[]⟩] #[.int .i64 x0, .int .i64 x1, .slice B2 x2.length d2, .slice A3 x3.length c3, .slice A4 x4.length c4, .slice A5 x5.length c5, .slice A6 x6.length c6, .int .i64 x7, .slice A8 x8.length c8, .slice A9 x9.length c9, .slice A10 x10.length c10, .bool x11, .bool x12, .bool x13, .string x14, .slice A15 x15.length c15, .int .i64 x16, .int .i64 x17, .int .i64 x18, .int .i64 x19, .string x20] from HT.out.store2S 2 (.slice B2 x2.length d2) (by simp only [List.setIfInBounds_toArray, List.set_cons_zero, List.set_cons_succ]))
  have hzz : (y1.setCell ⟨w.heap.size + 1 + 1, 2, none⟩ (.slice B2 x2.length d2)).heap.size = y1.heap.size := by simp [World.setCell]
  have HO2 := Lib.hid ((HO2.out.setCell (p := ⟨w.heap.size + 1 + 1, 2, none⟩) (by dsimp only; omega) (.slice B2 x2.length d2)).more (Nat.le_refl _) (Nat.le_of_eq hzz.symm))
  have hzw2 : y1.heap.size ≤ (y1.setCell ⟨w.heap.size + 1 + 1, 2, none⟩ (.slice B2 x2.length d2)).heap.size := Nat.le_of_eq hzz.symm
  clear hzz
  generalize (y1.setCell ⟨w.heap.size + 1 + 1, 2, none⟩ (.slice B2 x2.length d2)) = w2 at *
  have BL := Lib.hid (Blk.new w2 46 #[])
  have hbA := (Below.refl w2.heap.size w2).alloc (Nat.le_refl _) (.cells #[] 46)
  have HT := Lib.hid (HT.out.call hbA)
  have HO2 := Lib.hid (HO2.out.below hbA (Nat.le_refl _))
  have hq1 := hbA.size
  have HR0 := Lib.hid (Own.lit0 (s := shRef) BL.out)
  have f2 := HT.out.2.2.1.cell; have z2 := HT.out.2.2.1.frozen; have f0 := (HT.out.store2 3 (.slice (some ⟨w2.heap.size, 0, none⟩) 0 0)).1.cell
  clear BL hbA
  go_wp2_with fail
  clear f2 z2 f0
  have HT := Lib.hid (show Three w ((w2.alloc (.cells #[] 46)).setCell ⟨w.heap.size + 1 + 1, 3, none⟩ (.slice (some ⟨w2.heap.size, 0, none⟩) 0 0)) 48 48 48 #[.int .i64 x0, .int .i64 x1, .slice A2 x2.length c2, .slice A3 x3.length c3, .slice A4 x4.length c4, .slice A5 x5.length c5, .slice A6 x6.length c6, .int .i64 x7, .slice A8 x8.length c8, .slice A9 x9.length c9, .slice A10 x10.length c10, .bool x11, .bool x12, .bool x13, .string x14, .slice A15 x15.length c15, .int .i64 x16, .int .i64 x17, .int .i64 x18, .int .i64 x19, .string x20] #[.int .i64 0, .int .i64 0, .slice none 0 0, .slice none 0 0, .slice none 0 0, .slice none 0 0, .slice none 0 0, .int .i64 0, .slice none 0 0, .slice none 0 0, .slice none 0 0, .bool false, .bool false, .bool false, .string ⟨#[]⟩, .slice none 0 0, .int .i64 0, .int .i64 0, .int .i64 0, .int .i64 0, .string ⟨#[]⟩] #[.int .i64 x0, .int .i64 x1, .slice B2 x2.length d2, .slice (some ⟨w2.heap.size, 0, none⟩) 0 0, .slice A4 x4.length c4, .slice A5 x5.length c5, .slice A6 x6.length c6, .int .i64 x7, .slice A8 x8.length c8, .slice A9 x9.length c9, .slice A10 x10.length c10, .bool x11, .bool x12, .bool x13, .string x14, .slice A15 x15.length c15, .int .i64 x16, .int .i64 x17, .int .i64 x18, .int .i64 x19, .string x20] from HT.out.store2S 3 _ (by simp only [List.setIfInBounds_toArray, List.set_cons_zero, List.set_cons_succ]))
  have hq2 : w.heap.size + 1 + 1 < w2.heap.size := by omega
  have HO2 := Lib.hid (HO2.out.setCell (p := ⟨w.heap.size + 1 + 1, 3, none⟩) (by dsimp only; omega) (.slice (some ⟨w2.heap.size, 0, none⟩) 0 0))
  have HR0 := Lib.hid ((HR0.out.setCell (p := ⟨w.heap.size + 1 + 1, 3, none⟩) (by dsimp only; omega) (.slice (some ⟨w2.heap.size, 0, none⟩) 0 0)).tight)
  have hq3 : w2.heap.size ≤ ((w2.alloc (.cells #[] 46)).setCell ⟨w.heap.size + 1 + 1, 3, none⟩ (.slice (some ⟨w2.heap.size, 0, none⟩) 0 0)).heap.size := by simp [World.setCell]
  generalize ((w2.alloc (.cells #[] 46)).setCell ⟨w.heap.size + 1 + 1, 3, none⟩ (.slice (some ⟨w2.heap.size, 0, none⟩) 0 0)) = wL at *
  generalize w2.heap.size = q at *
  go_loopw [4] (fun i wr => ∃ (k : Nat) (B : Option Addr) (d : Nat), k ≤ x3.length ∧ i = .int .i64 k ∧ Three w wr 48 48 48 #[.int .i64 x0, .int .i64 x1, .slice A2 x2.length c2, .slice A3 x3.length c3, .slice A4 x4.length c4, .slice A5 x5.length c5, .slice A6 x6.length c6, .int .i64 x7, .slice A8 x8.length c8, .slice A9 x9.length c9, .slice A10 x10.length c10, .bool x11, .bool x12, .bool x13, .string x14, .slice A15 x15.length c15, .int .i64 x16, .int .i64 x17, .int .i64 x18, .int .i64 x19, .string x20] #[.int .i64 0, .int .i64 0, .slice none 0 0, .slice none 0 0, .slice none 0 0, .slice none 0 0, .slice none 0 0, .int .i64 0, .slice none 0 0, .slice none 0 0, .slice none 0 0, .bool false, .bool false, .bool false, .string ⟨#[]⟩, .slice none 0 0, .int .i64 0, .int .i64 0, .int .i64 0, .int .i64 0, .string ⟨#[]⟩] #[.int .i64 x0, .int .i64 x1, .slice B2 x2.length d2, .slice B k d, .slice A4 x4.length c4, .slice A5 x5.length c5, .slice A6 x6.length c6, .int .i64 x7, .slice A8 x8.length c8, .slice A9 x9.length c9, .slice A10 x10.length c10, .bool x11, .bool x12, .bool x13, .string x14, .slice A15 x15.length c15, .int .i64 x16, .int .i64 x17, .int .i64 x18, .int .i64 x19, .string x20] ∧ Own (Sh.row 9 shS) wr (w.heap.size + 1 + 1 + 1) q [.slice B2 x2.length d2] x2 ∧ Own (Sh.row 46 shRef) wr q wr.heap.size [.slice B k d] (x3.take k) ∧ q ≤ wr.heap.size) (fun i _ => x3.length - (intOf i).toNat)
  case atStart => exact ⟨0, _, _, Nat.zero_le _, rfl, HT.out, HO2.out, HR0.out, hq3⟩
  case round =>
    obtain ⟨k, B, d, hk, rfl, hT, hO2, hO3, hqr⟩ := hrel
    have f0 := hT.1.cell
    by_cases hlt : k < x3.length
    · obtain ⟨-, b, off, rfl, hb1, hb2, A7, c7, e100, e101, e102, hX⟩ := shRef_at ((Sh.row 46 shRef).R_below HA3.out hT.2.2.2 hhi) hlt
      have HX := Lib.hid (HF3.out.2 _ (getD_in (d := shRef.d) hlt))
      have HTK := Lib.hid (take_succ_getD shRef hlt)
      generalize x3.getD k shRef.d = X at *
      obtain ⟨y0, y1, y2⟩ := X
      dsimp only at e100 e101 e102
      have hsz := hT.2.2.2.size
      have hwi : hi ≤ wr.heap.size := Nat.le_trans hhi hsz
      have hbw : b < wr.heap.size := Nat.lt_of_lt_of_le hb2 hwi
      have HT := Lib.hid hT; have HO2 := Lib.hid hO2; have HO3 := Lib.hid hO3; have HR := Lib.hid hX
      have HE := Lib.hid (show wr.cell? ⟨b, off + k * 3, none⟩ = some (.bool y0) ∧ wr.cell? ⟨b, off + k * 3 + 1, none⟩ = some (.string y1) ∧ wr.cell? ⟨b, off + k * 3 + 2, none⟩ = some (.slice A7 y2.length c7) from ⟨e100, e101, e102⟩)
      have hi0 : (0 : Int) ≤ (k : Int) := by omega
      have hi1 : (k : Int) < (x3.length : Int) := by omega
      have hkeep : ∀ W, Below wr.heap.size wr W → W.cell? ⟨b, off + k * 3, none⟩ = some (.bool y0) ∧ W.cell? ⟨b, off + k * 3 + 1, none⟩ = some (.string y1) ∧ W.cell? ⟨b, off + k * 3 + 2, none⟩ = some (.slice A7 y2.length c7) := fun W hW => ⟨(hW.cell (p := ⟨b, off + k * 3, none⟩) hbw).trans HE.out.1, (hW.cell (p := ⟨b, off + k * 3 + 1, none⟩) hbw).trans HE.out.2.1, (hW.cell (p := ⟨b, off + k * 3 + 2, none⟩) hbw).trans HE.out.2.2⟩
      have HK := Lib.hid hkeep
      clear hT hO2 hO3 hX e100 e101 e102 hkeep
      go_upto_region 7 with fail
      clear f0
      refine AnyT.region (fun j => j == 11) (fun W => (∀ i, W.cell? ⟨w.heap.size + 1 + 1, i, none⟩ = (#[.int .i64 x0, .int .i64 x1, .slice B2 x2.length d2, .slice B k d, .slice A4 x4.length c4, .slice A5 x5.length c5, .slice A6 x6.length c6, .int .i64 x7, .slice A8 x8.length c8, .slice A9 x9.length c9, .slice A10 x10.length c10, .bool x11, .bool x12, .bool x13, .string x14, .slice A15 x15.length c15, .int .i64 x16, .int .i64 x17, .int .i64 x18, .int .i64 x19, .string x20] : Array Value)[i]?) ∧ (∀ i, W.cell? ⟨w.heap.size, i, none⟩ = (#[.int .i64 x0, .int .i64 x1, .slice A2 x2.length c2, .slice (some ⟨b, off, none⟩) x3.length c3, .slice A4 x4.length c4, .slice A5 x5.length c5, .slice A6 x6.length c6, .int .i64 x7, .slice A8 x8.length c8, .slice A9 x9.length c9, .slice A10 x10.length c10, .bool x11, .bool x12, .bool x13, .string x14, .slice A15 x15.length c15, .int .i64 x16, .int .i64 x17, .int .i64 x18, .int .i64 x19, .string x20] : Array Value)[i]?) ∧ W.cell? ⟨b, off + k * 3, none⟩ = some (.bool y0) ∧ W.cell? ⟨b, off + k * 3 + 1, none⟩ = some (.string y1) ∧ W.cell? ⟨b, off + k * 3 + 2, none⟩ = some (.slice A7 y2.length c7)) (by kernel_rfl) ⟨(HT.out.2.2.1.drewN 1).cell, (HT.out.1.drewN 1).cell, HE.out⟩ (fun hHeld => ?_)
      have HBD := Lib.hid (show Below wr.heap.size wr wr.drew from (Below.refl _ _).drew)
      have HRD := Lib.hid (shRef.R_below HR.out HBD.out hwi)
      have hzd : wr.drew.heap.size ≤ wr.heap.size ∧ wr.heap.size ≤ wr.drew.heap.size := ⟨Nat.le_refl _, Nat.le_refl _⟩
      generalize wr.drew = wD at *
      ((refine AnyT.takeAny 0 20 ?_ rfl (by kernel_rfl) (by kernel_rfl) (by kernel_rfl) rfl rfl (fun _ _ _ _ h => h) rfl ?_ (by assumption) ?_); rotate_left; (intro w; go_simp; (try (with_reducible rfl))); simp only [Act.put, List.setIfInBounds_toArray, List.set_cons_zero, List.set_cons_succ])
      ((refine AnyT.take 1 21 ?_ rfl (by kernel_rfl) (by kernel_rfl) (by kernel_rfl) (by kernel_rfl) rfl (by kernel_rfl) rfl (fun _ _ _ _ h => h) rfl ?_ (by assumption) ?_); rotate_left; (intro w hSw; (try dsimp only at hSw); go_simp; (try (with_reducible rfl))); simp only [Act.put, List.setIfInBounds_toArray, List.set_cons_zero, List.set_cons_succ])
      ((refine AnyT.takeAny 2 22 ?_ rfl (by kernel_rfl) (by kernel_rfl) (by kernel_rfl) rfl rfl (fun _ _ _ _ h => h) rfl ?_ (by assumption) ?_); rotate_left; (intro w; go_simp; (try (with_reducible rfl))); simp only [Act.put, List.setIfInBounds_toArray, List.set_cons_zero, List.set_cons_succ])
      ((refine AnyT.take 3 23 ?_ rfl (by kernel_rfl) (by kernel_rfl) (by kernel_rfl) (by kernel_rfl) rfl (by kernel_rfl) rfl (fun _ _ _ _ h => h) rfl ?_ (by assumption) ?_); rotate_left; (intro w hSw; (try dsimp only at hSw); go_simp; (try (with_reducible rfl))); simp only [Act.put, List.setIfInBounds_toArray, List.set_cons_zero, List.set_cons_succ])
      ((refine AnyT.takeAny 4 24 ?_ rfl (by kernel_rfl) (by kernel_rfl) (by kernel_rfl) rfl rfl (fun _ _ _ _ h => h) rfl ?_ (by assumption) ?_); rotate_left; (intro w; go_simp; (try (with_reducible rfl))); simp only [Act.put, List.setIfInBounds_toArray, List.set_cons_zero, List.set_cons_succ])
      ((refine AnyT.takeAny 5 25 ?_ rfl (by kernel_rfl) (by kernel_rfl) (by kernel_rfl) rfl rfl (fun _ _ _ _ h => h) rfl ?_ (by assumption) ?_); rotate_left; (intro w; go_simp; (try (with_reducible rfl))); simp only [Act.put, List.setIfInBounds_toArray, List.set_cons_zero, List.set_cons_succ])
      ((refine AnyT.take 6 26 ?_ rfl (by kernel_rfl) (by kernel_rfl) (by kernel_rfl) (by kernel_rfl) rfl (by kernel_rfl) rfl (fun _ _ _ _ h => h) rfl ?_ (by assumption) ?_); rotate_left; (intro w hSw; (try dsimp only at hSw); go_simp; (try (with_reducible rfl))); simp only [Act.put, List.setIfInBounds_toArray, List.set_cons_zero, List.set_cons_succ])
      ((refine AnyT.one (i := 7) (by kernel_rfl) rfl (fun K hK => ?_)))
      go_simp
      refine (l14OwnRef_f y0 y1 y2 A7 c7 lo hi _ HRD.out (by omega) HX.out).mono ?_
      rintro e8 w8 ⟨B8', d8', rfl, ho8, hb8⟩
      go_simp
      have HB8 := Lib.hid (HBD.out.trans (hb8.mono HBD.out.size))
      have hs8 := hb8.size
      have HE8 := Lib.hid (ho8.more (lo' := wr.heap.size) (by omega) (Nat.le_refl _))
      have HT8 := Lib.hid (HT.out.call HB8.out)
      have HO28 := Lib.hid (HO2.out.below HB8.out (by omega))
      refine hK.out _ _ ⟨HT8.out.2.2.1.cell, HT8.out.1.cell, HK.out _ HB8.out⟩ (fun hHeld => ?_)
      clear hK K ho8 hb8
      (try simp only [Go.Act.put, List.setIfInBounds_toArray, List.set_cons_zero, List.set_cons_succ])
      ((refine AnyT.one (i := 8) (by kernel_rfl) rfl (fun K hK => ?_)))
      go_simp
      refine hK.out _ _ ⟨(HT8.out.2.2.1.alloc _).cell, (HT8.out.1.alloc _).cell, HK.out _ (HB8.out.alloc (by omega) _)⟩ (fun hHeld => ?_)
      clear hK K
      (try simp only [Go.Act.put, List.setIfInBounds_toArray, List.set_cons_zero, List.set_cons_succ])
      ((refine AnyT.one (i := 9) (by kernel_rfl) rfl (fun K hK => ?_)))
      refine step_grow (s := shRef) rfl (.tmp 21) (.tmp 28) 37 rfl Tryz.underlying37 rfl (by decide) (by decide) infoRef w8 q wr.heap.size wr.heap.size w8.heap.size B k d (x3.take k) [.bool y0, .string y1, .slice B8' y2.length d8'] (y0, y1, y2) rfl (HO3.out.below HB8.out (Nat.le_refl _)) HE8.out (Nat.le_refl _) (by omega) (Nat.le_refl _) (by omega) rfl (by omega) ?_
      intro B9 d9 w9 ho9 hb9 hs9 hk9
      rw [← HTK.out] at ho9
      have HT9 := Lib.hid (HT8.out.below3 (hb9.mono (by omega)))
      have HO9 := Lib.hid ho9
      have HO29 := Lib.hid (HO28.out.below hb9 (Nat.le_refl _))
      refine hK.out _ _ ⟨HT9.out.2.2.1.cell, HT9.out.1.cell, by
        have hk := HK.out _ HB8.out
        exact ⟨(hb9.cell (p := ⟨b, off + k * 3, none⟩) (by dsimp only; omega)).trans hk.1, (hb9.cell (p := ⟨b, off + k * 3 + 1, none⟩) (by dsimp only; omega)).trans hk.2.1, (hb9.cell (p := ⟨b, off + k * 3 + 2, none⟩) (by dsimp only; omega)).trans hk.2.2⟩⟩ (fun hHeld => ?_)
      clear hK K hk9 ho9
      (try simp only [Go.Act.put, List.setIfInBounds_toArray, List.set_cons_zero, List.set_cons_succ])
      ((refine AnyT.takeAny 10 30 ?_ rfl (by kernel_rfl) (by kernel_rfl) (by kernel_rfl) rfl rfl (fun _ _ _ _ h => h) rfl ?_ (by assumption) ?_); rotate_left; (intro w; go_simp; (try (with_reducible rfl))); simp only [Act.put, List.setIfInBounds_toArray, List.set_cons_zero, List.set_cons_succ])
      have f7 := HT9.out.2.2.1.cell
      have z7 := HT9.out.2.2.1.frozen
      ((refine AnyT.last (i := 11) (by kernel_rfl) rfl (by kernel_rfl) (fun K hK => ?_)))
      go_simp
      refine hK.out _ _ ?_
      clear hK K
      (try simp only [Go.Act.put, List.setIfInBounds_toArray, List.set_cons_zero, List.set_cons_succ])
      refine AnyT.done (by kernel_rfl) ?_ _
      clear f7 z7
      go_wp2_with fail
      go_roundw
      case rel =>
        refine ⟨k + 1, B9, d9, by omega, by go_num, HT9.out.store2S 3 _ (by simp only [List.setIfInBounds_toArray, List.set_cons_zero, List.set_cons_succ]), HO29.out.setCell (by dsimp only; omega) _, (HO9.out.setCell (p := ⟨w.heap.size + 1 + 1, 3, none⟩) (by dsimp only; omega) (.slice B9 (k + 1) d9)).more (Nat.le_refl _) (by simp [World.setCell]), ?_⟩
        simp [World.setCell]; omega
      case measure => simp [intOf]; omega
    · obtain rfl : k = x3.length := by omega
      rw [List.take_length] at hO3
      have HT := Lib.hid hT
      have HO2 := Lib.hid (hO2.more (Nat.le_refl _) hqr)
      have HO3 := Lib.hid (hO3.more (lo' := w.heap.size + 1 + 1 + 1) (by omega) (Nat.le_refl _))
      have hs1 : w.heap.size + 1 + 1 + 1 ≤ wr.heap.size := hT.2.2.1.lt
      have f0 := hT.1.cell
      clear hT hO2 hO3
      go_upto_region 8 with fail
      clear f0
      have hbA := (Below.refl wr.heap.size wr).alloc (Nat.le_refl _) (.cells #[] 109)
      have HL := Lib.hid (lit0_own (t := 109) (k := shGiven.k) wr wr.heap.size (Nat.le_refl _))
      have HR := Lib.hid (rowG_below (rowG_below (rowG_of_shape HA4.out) HT.out.2.2.2 hhi) hbA (Nat.le_trans hhi HT.out.2.2.2.size))
      have hsA := hbA.size
      have HbA := Lib.hid hbA
      have f0 := (HT.out.call hbA).1.cell
      clear hbA
      go_wp2_with (at_builtin; refine wpList_growR (s := shGiven) rfl (.tmp 31) (.tmp 33) 38 rfl Tryz.underlying38 rfl (by decide) (by decide) infoGiven flatGiven _ wr.heap.size lo hi _ A4 c4 x4 rfl HL.out rfl HR.out (by omega) hsA ?_)
      intro B4 d4 y2 ho hb
      have hB := HbA.out.trans hb
      have HT := Lib.hid (HT.out.call hB)
      have hy2 := hB.size
      have HO2 := Lib.hid ((HO2.out.below hB (Nat.le_refl _)).tight)
      have HO3 := Lib.hid ((HO3.out.below hB (Nat.le_refl _)).tight)
      have HO4 := Lib.hid (ho.more (lo' := w.heap.size + 1 + 1 + 1) (by omega) (Nat.le_refl _))
      have f2 := HT.out.2.2.1.cell; have z2 := HT.out.2.2.1.frozen
      clear HL HR HbA f0 hb ho hB hsA
      go_upto_region 9 with fail
      clear f2 z2
      have HT := Lib.hid (show Three w (y2.setCell ⟨w.heap.size + 1 + 1, 4, none⟩ (.slice B4 x4.length d4)) 48 48 48 #[.int .i64 x0, .int .i64 x1, .slice A2 x2.length c2, .slice A3 x3.length c3, .slice A4 x4.length c4, .slice A5 x5.length c5, .slice A6 x6.length c6, .int .i64 x7, .slice A8 x8.length c8, .slice A9 x9.length c9, .slice A10 x10.length c10, .bool x11, .bool x12, .bool x13, .string x14, .slice A15 x15.length c15, .int .i64 x16, .int .i64 x17, .int .i64 x18, .int .i64 x19, .string x20] #[.int .i64 0, .int .i64 0, .slice none 0 0, .slice none 0 0, .slice none 0 0, .slice none 0 0, .slice none 0 0, .int .i64 0, .slice none 0 0, .slice none 0 0, .slice none 0 0, .bool false, .bool false, .bool false, .string ⟨#[]⟩, .slice none 0 0, .int .i64 0, .int .i64 0, .int .i64 0, .int .i64 0, .string ⟨#[]⟩] #[.int .i64 x0, .int .i64 x1, .slice B2 x2.length d2, .slice B x3.length d, .slice B4 x4.length d4, .slice A5 x5.length c5, .slice A6 x6.length c6, .int .i64 x7, .slice A8 x8.length c8, .slice A9 x9.length c9, .slice A10 x10.length c10, .bool x11, .bool x12, .bool x13, .string x14, .slice A15 x15.length c15, .int .i64 x16, .int .i64 x17, .int .i64 x18, .int .i64 x19, .string x20] from HT.out.store2S 4 (.slice B4 x4.length d4) (by simp only [List.setIfInBounds_toArray, List.set_cons_zero, List.set_cons_succ]))
      have hzz : (y2.setCell ⟨w.heap.size + 1 + 1, 4, none⟩ (.slice B4 x4.length d4)).heap.size = y2.heap.size := by simp [World.setCell]
      have HO2 := Lib.hid ((HO2.out.setCell (p := ⟨w.heap.size + 1 + 1, 4, none⟩) (by dsimp only; omega) (.slice B4 x4.length d4)).more (Nat.le_refl _) (Nat.le_of_eq hzz.symm))
      have HO3 := Lib.hid ((HO3.out.setCell (p := ⟨w.heap.size + 1 + 1, 4, none⟩) (by dsimp only; omega) (.slice B4 x4.length d4)).more (Nat.le_refl _) (Nat.le_of_eq hzz.symm))
      have HO4 := Lib.hid ((HO4.out.setCell (p := ⟨w.heap.size + 1 + 1, 4, none⟩) (by dsimp only; omega) (.slice B4 x4.length d4)).more (Nat.le_refl _) (Nat.le_of_eq hzz.symm))
      have hzw3 : y2.heap.size ≤ (y2.setCell ⟨w.heap.size + 1 + 1, 4, none⟩ (.slice B4 x4.length d4)).heap.size := Nat.le_of_eq hzz.symm
      clear hzz
      generalize (y2.setCell ⟨w.heap.size + 1 + 1, 4, none⟩ (.slice B4 x4.length d4)) = w3 at *
      have hbA := (Below.refl w3.heap.size w3).alloc (Nat.le_refl _) (.cells #[] 111)
      have HL := Lib.hid (lit0_own (t := 111) (k := shLoop.k) w3 w3.heap.size (Nat.le_refl _))
      have HR := Lib.hid (rowG_below (rowG_below (rowG_of_shape HA5.out) HT.out.2.2.2 hhi) hbA (Nat.le_trans hhi HT.out.2.2.2.size))
      have hsA := hbA.size
      have HbA := Lib.hid hbA
      have f0 := (HT.out.call hbA).1.cell
      clear hbA
      go_wp2_with (at_builtin; refine wpList_growR (s := shLoop) rfl (.tmp 36) (.tmp 38) 39 rfl Tryz.underlying39 rfl (by decide) (by decide) infoLoop flatLoop _ w3.heap.size lo hi _ A5 c5 x5 rfl HL.out rfl HR.out (by omega) hsA ?_)
      intro B5 d5 y3 ho hb
      have hB := HbA.out.trans hb
      have HT := Lib.hid (HT.out.call hB)
      have hy3 := hB.size
      have HO2 := Lib.hid ((HO2.out.below hB (Nat.le_refl _)).tight)
      have HO3 := Lib.hid ((HO3.out.below hB (Nat.le_refl _)).tight)
      have HO4 := Lib.hid ((HO4.out.below hB (Nat.le_refl _)).tight)
      have HO5 := Lib.hid (ho.more (lo' := w.heap.size + 1 + 1 + 1) (by omega) (Nat.le_refl _))
      have f2 := HT.out.2.2.1.cell; have z2 := HT.out.2.2.1.frozen
      clear HL HR HbA f0 hb ho hB hsA
      go_upto_region 10 with fail
      clear f2 z2
      have HT := Lib.hid (show Three w (y3.setCell ⟨w.heap.size + 1 + 1, 5, none⟩ (.slice B5 x5.length d5)) 48 48 48 #[.int .i64 x0, .int .i64 x1, .slice A2 x2.length c2, .slice A3 x3.length c3, .slice A4 x4.length c4, .slice A5 x5.length c5, .slice A6 x6.length c6, .int .i64 x7, .slice A8 x8.length c8, .slice A9 x9.length c9, .slice A10 x10.length c10, .bool x11, .bool x12, .bool x13, .string x14, .slice A15 x15.length c15, .int .i64 x16, .int .i64 x17, .int .i64 x18, .int .i64 x19, .string x20] #[.int .i64 0, .int .i64 0, .slice none 0 0, .slice none 0 0, .slice none 0 0, .slice none 0 0, .slice none 0 0, .int .i64 0, .slice none 0 0, .slice none 0 0, .slice none 0 0, .bool false, .bool false, .bool false, .string ⟨#[]⟩, .slice none 0 0, .int .i64 0, .int .i64 0, .int .i64 0, .int .i64 0, .string ⟨#[]⟩] #[.int .i64 x0, .int .i64 x1, .slice B2 x2.length d2, .slice B x3.length d, .slice B4 x4.length d4, .slice B5 x5.length d5, .slice A6 x6.length c6, .int .i64 x7, .slice A8 x8.length c8, .slice A9 x9.length c9, .slice A10 x10.length c10, .bool x11, .bool x12, .bool x13, .string x14, .slice A15 x15.length c15, .int .i64 x16, .int .i64 x17, .int .i64 x18, .int .i64 x19, .string x20] from HT.out.store2S 5 (.slice B5 x5.length d5) (by simp only [List.setIfInBounds_toArray, List.set_cons_zero, List.set_cons_succ]))
      have hzz : (y3.setCell ⟨w.heap.size + 1 + 1, 5, none⟩ (.slice B5 x5.length d5)).heap.size = y3.heap.size := by simp [World.setCell]
      have HO2 := Lib.hid ((HO2.out.setCell (p := ⟨w.heap.size + 1 + 1, 5, none⟩) (by dsimp only; omega) (.slice B5 x5.length d5)).more (Nat.le_refl _) (Nat.le_of_eq hzz.symm))
      have HO3 := Lib.hid ((HO3.out.setCell (p := ⟨w.heap.size + 1 + 1, 5, none⟩) (by dsimp only; omega) (.slice B5 x5.length d5)).more (Nat.le_refl _) (Nat.le_of_eq hzz.symm))
      have HO4 := Lib.hid ((HO4.out.setCell (p := ⟨w.heap.size + 1 + 1, 5, none⟩) (by dsimp only; omega) (.slice B5 x5.length d5)).more (Nat.le_refl _) (Nat.le_of_eq hzz.symm))
      have HO5 := Lib.hid ((HO5.out.setCell (p := ⟨w.heap.size + 1 + 1, 5, none⟩) (by dsimp only; omega) (.slice B5 x5.length d5)).more (Nat.le_refl _) (Nat.le_of_eq hzz.symm))
      have hzw4 : y3.heap.size ≤ (y3.setCell ⟨w.heap.size + 1 + 1, 5, none⟩ (.slice B5 x5.length d5)).heap.size := Nat.le_of_eq hzz.symm
      clear hzz
      generalize (y3.setCell ⟨w.heap.size + 1 + 1, 5, none⟩ (.slice B5 x5.length d5)) = w4 at *
      have hbA := (Below.refl w4.heap.size w4).alloc (Nat.le_refl _) (.cells #[] 113)
      have HL := Lib.hid (lit0_own (t := 113) (k := shFrame.k) w4 w4.heap.size (Nat.le_refl _))
      have HR := Lib.hid (rowG_below (rowG_below (rowG_of_shape HA6.out) HT.out.2.2.2 hhi) hbA (Nat.le_trans hhi HT.out.2.2.2.size))
      have hsA := hbA.size
      have HbA := Lib.hid hbA
      have f0 := (HT.out.call hbA).1.cell
      clear hbA
      go_wp2_with (at_builtin; refine wpList_growR (s := shFrame) rfl (.tmp 41) (.tmp 43) 40 rfl Tryz.underlying40 rfl (by decide) (by decide) infoFrame flatFrame _ w4.heap.size lo hi _ A6 c6 x6 rfl HL.out rfl HR.out (by omega) hsA ?_)
      intro B6 d6 y4 ho hb
      have hB := HbA.out.trans hb
      have HT := Lib.hid (HT.out.call hB)
      have hy4 := hB.size
      have HO2 := Lib.hid ((HO2.out.below hB (Nat.le_refl _)).tight)
      have HO3 := Lib.hid ((HO3.out.below hB (Nat.le_refl _)).tight)
      have HO4 := Lib.hid ((HO4.out.below hB (Nat.le_refl _)).tight)
      have HO5 := Lib.hid ((HO5.out.below hB (Nat.le_refl _)).tight)
      have HO6 := Lib.hid (ho.more (lo' := w.heap.size + 1 + 1 + 1) (by omega) (Nat.le_refl _))
      have f2 := HT.out.2.2.1.cell; have z2 := HT.out.2.2.1.frozen
      clear HL HR HbA f0 hb ho hB hsA
      go_upto_region 11 with fail
      clear f2 z2
      have HT := Lib.hid (show Three w (y4.setCell ⟨w.heap.size + 1 + 1, 6, none⟩ (.slice B6 x6.length d6)) 48 48 48 #[.int .i64 x0, .int .i64 x1, .slice A2 x2.length c2, .slice A3 x3.length c3, .slice A4 x4.length c4, .slice A5 x5.length c5, .slice A6 x6.length c6, .int .i64 x7, .slice A8 x8.length c8, .slice A9 x9.length c9, .slice A10 x10.length c10, .bool x11, .bool x12, .bool x13, .string x14, .slice A15 x15.length c15, .int .i64 x16, .int .i64 x17, .int .i64 x18, .int .i64 x19, .string x20] #[.int .i64 0, .int .i64 0, .slice none 0 0, .slice none 0 0, .slice none 0 0, .slice none 0 0, .slice none 0 0, .int .i64 0, .slice none 0 0, .slice none 0 0, .slice none 0 0, .bool false, .bool false, .bool false, .string ⟨#[]⟩, .slice none 0 0, .int .i64 0, .int .i64 0, .int .i64 0, .int .i64 0, .string ⟨#[]⟩] #[.int .i64 x0, .int .i64 x1, .slice B2 x2.length d2, .slice B x3.length d, .slice B4 x4.length d4, .slice B5 x5.length d5, .slice B6 x6.length d6, .int .i64 x7, .slice A8 x8.length c8, .slice A9 x9.length c9, .slice A10 x10.length c10, .bool x11, .bool x12, .bool x13, .string x14, .slice A15 x15.length c15, .int .i64 x16, .int .i64 x17, .int .i64 x18, .int .i64 x19, .string x20] from HT.out.store2S 6 (.slice B6 x6.length d6) (by simp only [List.setIfInBounds_toArray, List.set_cons_zero, List.set_cons_succ]))
      have hzz : (y4.setCell ⟨w.heap.size + 1 + 1, 6, none⟩ (.slice B6 x6.length d6)).heap.size = y4.heap.size := by simp [World.setCell]
      have HO2 := Lib.hid ((HO2.out.setCell (p := ⟨w.heap.size + 1 + 1, 6, none⟩) (by dsimp only; omega) (.slice B6 x6.length d6)).more (Nat.le_refl _) (Nat.le_of_eq hzz.symm))
      have HO3 := Lib.hid ((HO3.out.setCell (p := ⟨w.heap.size + 1 + 1, 6, none⟩) (by dsimp only; omega) (.slice B6 x6.length d6)).more (Nat.le_refl _) (Nat.le_of_eq hzz.symm))
      have HO4 := Lib.hid ((HO4.out.setCell (p := ⟨w.heap.size + 1 + 1, 6, none⟩) (by dsimp only; omega) (.slice B6 x6.length d6)).more (Nat.le_refl _) (Nat.le_of_eq hzz.symm))
      have HO5 := Lib.hid ((HO5.out.setCell (p := ⟨w.heap.size + 1 + 1, 6, none⟩) (by dsimp only; omega) (.slice B6 x6.length d6)).more (Nat.le_refl _) (Nat.le_of_eq hzz.symm))
      have HO6 := Lib.hid ((HO6.out.setCell (p := ⟨w.heap.size + 1 + 1, 6, none⟩) (by dsimp only; omega) (.slice B6 x6.length d6)).more (Nat.le_refl _) (Nat.le_of_eq hzz.symm))
      have hzw5 : y4.heap.size ≤ (y4.setCell ⟨w.heap.size + 1 + 1, 6, none⟩ (.slice B6 x6.length d6)).heap.size := Nat.le_of_eq hzz.symm
      clear hzz
      generalize (y4.setCell ⟨w.heap.size + 1 + 1, 6, none⟩ (.slice B6 x6.length d6)) = w5 at *
      have f0 := HT.out.1.cell
      go_wp2_with fail
      refine (l09Own_f x7 x8 x9 x10 A8 c8 A9 c9 A10 c10 lo hi _ (shLocals.R_below HA7.out HT.out.2.2.2 hhi) (Nat.le_trans hhi HT.out.2.2.2.size) HF7.out).mono ?_
      rintro el wl ⟨B8, n8, d8, B9, n9, d9, B10, n10, d10, rfl, hbl⟩
      have HT := Lib.hid (HT.out.call hbl)
      have hsl := hbl.size
      have HO2 := Lib.hid ((HO2.out.below hbl (Nat.le_refl _)).tight)
      have HO3 := Lib.hid ((HO3.out.below hbl (Nat.le_refl _)).tight)
      have HO4 := Lib.hid ((HO4.out.below hbl (Nat.le_refl _)).tight)
      have HO5 := Lib.hid ((HO5.out.below hbl (Nat.le_refl _)).tight)
      have HO6 := Lib.hid ((HO6.out.below hbl (Nat.le_refl _)).tight)
      have f2 := HT.out.2.2.1.cell; have z2 := HT.out.2.2.1.frozen
      clear hbl f0
      go_upto_region 12 with fail
      clear f2 z2
      have TL := HT.out
      have TL := (show Three w (wl.setCell ⟨w.heap.size + 1 + 1, 7, none⟩ (.int .i64 x7)) 48 48 48 #[.int .i64 x0, .int .i64 x1, .slice A2 x2.length c2, .slice A3 x3.length c3, .slice A4 x4.length c4, .slice A5 x5.length c5, .slice A6 x6.length c6, .int .i64 x7, .slice A8 x8.length c8, .slice A9 x9.length c9, .slice A10 x10.length c10, .bool x11, .bool x12, .bool x13, .string x14, .slice A15 x15.length c15, .int .i64 x16, .int .i64 x17, .int .i64 x18, .int .i64 x19, .string x20] #[.int .i64 0, .int .i64 0, .slice none 0 0, .slice none 0 0, .slice none 0 0, .slice none 0 0, .slice none 0 0, .int .i64 0, .slice none 0 0, .slice none 0 0, .slice none 0 0, .bool false, .bool false, .bool false, .string ⟨#[]⟩, .slice none 0 0, .int .i64 0, .int .i64 0, .int .i64 0, .int .i64 0, .string ⟨#[]⟩] #[.int .i64 x0, .int .i64 x1, .slice B2 x2.length d2, .slice B x3.length d, .slice B4 x4.length d4, .slice B5 x5.length d5, .slice B6 x6.length d6, .int .i64 x7, .slice A8 x8.length c8, .slice A9 x9.length c9, .slice A10 x10.length c10, .bool x11, .bool x12, .bool x13, .string x14, .slice A15 x15.length c15, .int .i64 x16, .int .i64 x17, .int .i64 x18, .int .i64 x19, .string x20] from TL.store2S 7 (.int .i64 x7) (by simp only [List.setIfInBounds_toArray, List.set_cons_zero, List.set_cons_succ]))
      have TL := (show Three w ((wl.setCell ⟨w.heap.size + 1 + 1, 7, none⟩ (.int .i64 x7)).setCell ⟨w.heap.size + 1 + 1, 8, none⟩ (.slice B8 n8 d8)) 48 48 48 #[.int .i64 x0, .int .i64 x1, .slice A2 x2.length c2, .slice A3 x3.length c3, .slice A4 x4.length c4, .slice A5 x5.length c5, .slice A6 x6.length c6, .int .i64 x7, .slice A8 x8.length c8, .slice A9 x9.length c9, .slice A10 x10.length c10, .bool x11, .bool x12, .bool x13, .string x14, .slice A15 x15.length c15, .int .i64 x16, .int .i64 x17, .int .i64 x18, .int .i64 x19, .string x20] #[.int .i64 0, .int .i64 0, .slice none 0 0, .slice none 0 0, .slice none 0 0, .slice none 0 0, .slice none 0 0, .int .i64 0, .slice none 0 0, .slice none 0 0, .slice none 0 0, .bool false, .bool false, .bool false, .string ⟨#[]⟩, .slice none 0 0, .int .i64 0, .int .i64 0, .int .i64 0, .int .i64 0, .string ⟨#[]⟩] #[.int .i64 x0, .int .i64 x1, .slice B2 x2.length d2, .slice B x3.length d, .slice B4 x4.length d4, .slice B5 x5.length d5, .slice B6 x6.length d6, .int .i64 x7, .slice B8 n8 d8, .slice A9 x9.length c9, .slice A10 x10.length c10, .bool x11, .bool x12, .bool x13, .string x14, .slice A15 x15.length c15, .int .i64 x16, .int .i64 x17, .int .i64 x18, .int .i64 x19, .string x20] from TL.store2S 8 (.slice B8 n8 d8) (by simp only [List.setIfInBounds_toArray, List.set_cons_zero, List.set_cons_succ]))
      have TL := (show Three w (((wl.setCell ⟨w.heap.size + 1 + 1, 7, none⟩ (.int .i64 x7)).setCell ⟨w.heap.size + 1 + 1, 8, none⟩ (.slice B8 n8 d8)).setCell ⟨w.heap.size + 1 + 1, 9, none⟩ (.slice B9 n9 d9)) 48 48 48 #[.int .i64 x0, .int .i64 x1, .slice A2 x2.length c2, .slice A3 x3.length c3, .slice A4 x4.length c4, .slice A5 x5.length c5, .slice A6 x6.length c6, .int .i64 x7, .slice A8 x8.length c8, .slice A9 x9.length c9, .slice A10 x10.length c10, .bool x11, .bool x12, .bool x13, .string x14, .slice A15 x15.length c15, .int .i64 x16, .int .i64 x17, .int .i64 x18, .int .i64 x19, .string x20] #[.int .i64 0, .int .i64 0, .slice none 0 0, .slice none 0 0, .slice none 0 0, .slice none 0 0, .slice none 0 0, .int .i64 0, .slice none 0 0, .slice none 0 0, .slice none 0 0, .bool false, .bool false, .bool false, .string ⟨#[]⟩, .slice none 0 0, .int .i64 0, .int .i64 0, .int .i64 0, .int .i64 0, .string ⟨#[]⟩] #[.int .i64 x0, .int .i64 x1, .slice B2 x2.length d2, .slice B x3.length d, .slice B4 x4.length d4, .slice B5 x5.length d5, .slice B6 x6.length d6, .int .i64 x7, .slice B8 n8 d8, .slice B9 n9 d9, .slice A10 x10.length c10, .bool x11, .bool x12, .bool x13, .string x14, .slice A15 x15.length c15, .int .i64 x16, .int .i64 x17, .int .i64 x18, .int .i64 x19, .string x20] from TL.store2S 9 (.slice B9 n9 d9) (by simp only [List.setIfInBounds_toArray, List.set_cons_zero, List.set_cons_succ]))
      have TL := (show Three w ((((wl.setCell ⟨w.heap.size + 1 + 1, 7, none⟩ (.int .i64 x7)).setCell ⟨w.heap.size + 1 + 1, 8, none⟩ (.slice B8 n8 d8)).setCell ⟨w.heap.size + 1 + 1, 9, none⟩ (.slice B9 n9 d9)).setCell ⟨w.heap.size + 1 + 1, 10, none⟩ (.slice B10 n10 d10)) 48 48 48 #[.int .i64 x0, .int .i64 x1, .slice A2 x2.length c2, .slice A3 x3.length c3, .slice A4 x4.length c4, .slice A5 x5.length c5, .slice A6 x6.length c6, .int .i64 x7, .slice A8 x8.length c8, .slice A9 x9.length c9, .slice A10 x10.length c10, .bool x11, .bool x12, .bool x13, .string x14, .slice A15 x15.length c15, .int .i64 x16, .int .i64 x17, .int .i64 x18, .int .i64 x19, .string x20] #[.int .i64 0, .int .i64 0, .slice none 0 0, .slice none 0 0, .slice none 0 0, .slice none 0 0, .slice none 0 0, .int .i64 0, .slice none 0 0, .slice none 0 0, .slice none 0 0, .bool false, .bool false, .bool false, .string ⟨#[]⟩, .slice none 0 0, .int .i64 0, .int .i64 0, .int .i64 0, .int .i64 0, .string ⟨#[]⟩] #[.int .i64 x0, .int .i64 x1, .slice B2 x2.length d2, .slice B x3.length d, .slice B4 x4.length d4, .slice B5 x5.length d5, .slice B6 x6.length d6, .int .i64 x7, .slice B8 n8 d8, .slice B9 n9 d9, .slice B10 n10 d10, .bool x11, .bool x12, .bool x13, .string x14, .slice A15 x15.length c15, .int .i64 x16, .int .i64 x17, .int .i64 x18, .int .i64 x19, .string x20] from TL.store2S 10 (.slice B10 n10 d10) (by simp only [List.setIfInBounds_toArray, List.set_cons_zero, List.set_cons_succ]))
      have HT := Lib.hid TL
      clear TL
      have hzz : ((((wl.setCell ⟨w.heap.size + 1 + 1, 7, none⟩ (.int .i64 x7)).setCell ⟨w.heap.size + 1 + 1, 8, none⟩ (.slice B8 n8 d8)).setCell ⟨w.heap.size + 1 + 1, 9, none⟩ (.slice B9 n9 d9)).setCell ⟨w.heap.size + 1 + 1, 10, none⟩ (.slice B10 n10 d10)).heap.size = wl.heap.size := by simp [World.setCell]
      have HO2 := Lib.hid ((Own.setCell (Own.setCell (Own.setCell (Own.setCell HO2.out (p := ⟨w.heap.size + 1 + 1, 7, none⟩) (by dsimp only; omega) (.int .i64 x7)) (p := ⟨w.heap.size + 1 + 1, 8, none⟩) (by dsimp only; omega) (.slice B8 n8 d8)) (p := ⟨w.heap.size + 1 + 1, 9, none⟩) (by dsimp only; omega) (.slice B9 n9 d9)) (p := ⟨w.heap.size + 1 + 1, 10, none⟩) (by dsimp only; omega) (.slice B10 n10 d10)).more (Nat.le_refl _) (Nat.le_of_eq hzz.symm))
      have HO3 := Lib.hid ((Own.setCell (Own.setCell (Own.setCell (Own.setCell HO3.out (p := ⟨w.heap.size + 1 + 1, 7, none⟩) (by dsimp only; omega) (.int .i64 x7)) (p := ⟨w.heap.size + 1 + 1, 8, none⟩) (by dsimp only; omega) (.slice B8 n8 d8)) (p := ⟨w.heap.size + 1 + 1, 9, none⟩) (by dsimp only; omega) (.slice B9 n9 d9)) (p := ⟨w.heap.size + 1 + 1, 10, none⟩) (by dsimp only; omega) (.slice B10 n10 d10)).more (Nat.le_refl _) (Nat.le_of_eq hzz.symm))
      have HO4 := Lib.hid ((Own.setCell (Own.setCell (Own.setCell (Own.setCell HO4.out (p := ⟨w.heap.size + 1 + 1, 7, none⟩) (by dsimp only; omega) (.int .i64 x7)) (p := ⟨w.heap.size + 1 + 1, 8, none⟩) (by dsimp only; omega) (.slice B8 n8 d8)) (p := ⟨w.heap.size + 1 + 1, 9, none⟩) (by dsimp only; omega) (.slice B9 n9 d9)) (p := ⟨w.heap.size + 1 + 1, 10, none⟩) (by dsimp only; omega) (.slice B10 n10 d10)).more (Nat.le_refl _) (Nat.le_of_eq hzz.symm))
      have HO5 := Lib.hid ((Own.setCell (Own.setCell (Own.setCell (Own.setCell HO5.out (p := ⟨w.heap.size + 1 + 1, 7, none⟩) (by dsimp only; omega) (.int .i64 x7)) (p := ⟨w.heap.size + 1 + 1, 8, none⟩) (by dsimp only; omega) (.slice B8 n8 d8)) (p := ⟨w.heap.size + 1 + 1, 9, none⟩) (by dsimp only; omega) (.slice B9 n9 d9)) (p := ⟨w.heap.size + 1 + 1, 10, none⟩) (by dsimp only; omega) (.slice B10 n10 d10)).more (Nat.le_refl _) (Nat.le_of_eq hzz.symm))
      have HO6 := Lib.hid ((Own.setCell (Own.setCell (Own.setCell (Own.setCell HO6.out (p := ⟨w.heap.size + 1 + 1, 7, none⟩) (by dsimp only; omega) (.int .i64 x7)) (p := ⟨w.heap.size + 1 + 1, 8, none⟩) (by dsimp only; omega) (.slice B8 n8 d8)) (p := ⟨w.heap.size + 1 + 1, 9, none⟩) (by dsimp only; omega) (.slice B9 n9 d9)) (p := ⟨w.heap.size + 1 + 1, 10, none⟩) (by dsimp only; omega) (.slice B10 n10 d10)).more (Nat.le_refl _) (Nat.le_of_eq hzz.symm))
      have hzwm : wl.heap.size ≤ ((((wl.setCell ⟨w.heap.size + 1 + 1, 7, none⟩ (.int .i64 x7)).setCell ⟨w.heap.size + 1 + 1, 8, none⟩ (.slice B8 n8 d8)).setCell ⟨w.heap.size + 1 + 1, 9, none⟩ (.slice B9 n9 d9)).setCell ⟨w.heap.size + 1 + 1, 10, none⟩ (.slice B10 n10 d10)).heap.size := Nat.le_of_eq hzz.symm
      clear hzz
      generalize ((((wl.setCell ⟨w.heap.size + 1 + 1, 7, none⟩ (.int .i64 x7)).setCell ⟨w.heap.size + 1 + 1, 8, none⟩ (.slice B8 n8 d8)).setCell ⟨w.heap.size + 1 + 1, 9, none⟩ (.slice B9 n9 d9)).setCell ⟨w.heap.size + 1 + 1, 10, none⟩ (.slice B10 n10 d10)) = wm at *
      have f0 := HT.out.1.cell
      go_wp2_with fail
      refine (l14OwnRef_f x13 x14 x15 A15 c15 lo hi _ (shRef.R_below HA13.out HT.out.2.2.2 hhi) (Nat.le_trans hhi HT.out.2.2.2.size) HF13.out).mono ?_
      rintro en wn ⟨B15, d15, rfl, hon, hbn⟩
      have HT := Lib.hid (HT.out.call hbn)
      have hsn := hbn.size
      have HO2 := Lib.hid ((HO2.out.below hbn (Nat.le_refl _)).tight)
      have HO3 := Lib.hid ((HO3.out.below hbn (Nat.le_refl _)).tight)
      have HO4 := Lib.hid ((HO4.out.below hbn (Nat.le_refl _)).tight)
      have HO5 := Lib.hid ((HO5.out.below hbn (Nat.le_refl _)).tight)
      have HO6 := Lib.hid ((HO6.out.below hbn (Nat.le_refl _)).tight)
      have HO15 := Lib.hid (hon.more (lo' := w.heap.size + 1 + 1 + 1) (by omega) (Nat.le_refl _))
      have f2 := HT.out.2.2.1.cell; have z2 := HT.out.2.2.1.frozen
      clear hbn hon f0
      go_upto_region 13 with fail
      clear f2 z2
      have TL := HT.out
      have TL := (show Three w (wn.setCell ⟨w.heap.size + 1 + 1, 13, none⟩ (.bool x13)) 48 48 48 #[.int .i64 x0, .int .i64 x1, .slice A2 x2.length c2, .slice A3 x3.length c3, .slice A4 x4.length c4, .slice A5 x5.length c5, .slice A6 x6.length c6, .int .i64 x7, .slice A8 x8.length c8, .slice A9 x9.length c9, .slice A10 x10.length c10, .bool x11, .bool x12, .bool x13, .string x14, .slice A15 x15.length c15, .int .i64 x16, .int .i64 x17, .int .i64 x18, .int .i64 x19, .string x20] #[.int .i64 0, .int .i64 0, .slice none 0 0, .slice none 0 0, .slice none 0 0, .slice none 0 0, .slice none 0 0, .int .i64 0, .slice none 0 0, .slice none 0 0, .slice none 0 0, .bool false, .bool false, .bool false, .string ⟨#[]⟩, .slice none 0 0, .int .i64 0, .int .i64 0, .int .i64 0, .int .i64 0, .string ⟨#[]⟩] #[.int .i64 x0, .int .i64 x1, .slice B2 x2.length d2, .slice B x3.length d, .slice B4 x4.length d4, .slice B5 x5.length d5, .slice B6 x6.length d6, .int .i64 x7, .slice B8 n8 d8, .slice B9 n9 d9, .slice B10 n10 d10, .bool x11, .bool x12, .bool x13, .string x14, .slice A15 x15.length c15, .int .i64 x16, .int .i64 x17, .int .i64 x18, .int .i64 x19, .string x20] from TL.store2S 13 (.bool x13) (by simp only [List.setIfInBounds_toArray, List.set_cons_zero, List.set_cons_succ]))
      have TL := (show Three w ((wn.setCell ⟨w.heap.size + 1 + 1, 13, none⟩ (.bool x13)).setCell ⟨w.heap.size + 1 + 1, 14, none⟩ (.string x14)) 48 48 48 #[.int .i64 x0, .int .i64 x1, .slice A2 x2.length c2, .slice A3 x3.length c3, .slice A4 x4.length c4, .slice A5 x5.length c5, .slice A6 x6.length c6, .int .i64 x7, .slice A8 x8.length c8, .slice A9 x9.length c9, .slice A10 x10.length c10, .bool x11, .bool x12, .bool x13, .string x14, .slice A15 x15.length c15, .int .i64 x16, .int .i64 x17, .int .i64 x18, .int .i64 x19, .string x20] #[.int .i64 0, .int .i64 0, .slice none 0 0, .slice none 0 0, .slice none 0 0, .slice none 0 0, .slice none 0 0, .int .i64 0, .slice none 0 0, .slice none 0 0, .slice none 0 0, .bool false, .bool false, .bool false, .string ⟨#[]⟩, .slice none 0 0, .int .i64 0, .int .i64 0, .int .i64 0, .int .i64 0, .string ⟨#[]⟩] #[.int .i64 x0, .int .i64 x1, .slice B2 x2.length d2, .slice B x3.length d, .slice B4 x4.length d4, .slice B5 x5.length d5, .slice B6 x6.length d6, .int .i64 x7, .slice B8 n8 d8, .slice B9 n9 d9, .slice B10 n10 d10, .bool x11, .bool x12, .bool x13, .string x14, .slice A15 x15.length c15, .int .i64 x16, .int .i64 x17, .int .i64 x18, .int .i64 x19, .string x20] from TL.store2S 14 (.string x14) (by simp only [List.setIfInBounds_toArray, List.set_cons_zero, List.set_cons_succ]))
      have TL := (show Three w (((wn.setCell ⟨w.heap.size + 1 + 1, 13, none⟩ (.bool x13)).setCell ⟨w.heap.size + 1 + 1, 14, none⟩ (.string x14)).setCell ⟨w.heap.size + 1 + 1, 15, none⟩ (.slice B15 x15.length d15)) 48 48 48 #[.int .i64 x0, .int .i64 x1, .slice A2 x2.length c2, .slice A3 x3.length c3, .slice A4 x4.length c4, .slice A5 x5.length c5, .slice A6 x6.length c6, .int .i64 x7, .slice A8 x8.length c8, .slice A9 x9.length c9, .slice A10 x10.length c10, .bool x11, .bool x12, .bool x13, .string x14, .slice A15 x15.length c15, .int .i64 x16, .int .i64 x17, .int .i64 x18, .int .i64 x19, .string x20] #[.int .i64 0, .int .i64 0, .slice none 0 0, .slice none 0 0, .slice none 0 0, .slice none 0 0, .slice none 0 0, .int .i64 0, .slice none 0 0, .slice none 0 0, .slice none 0 0, .bool false, .bool false, .bool false, .string ⟨#[]⟩, .slice none 0 0, .int .i64 0, .int .i64 0, .int .i64 0, .int .i64 0, .string ⟨#[]⟩] #[.int .i64 x0, .int .i64 x1, .slice B2 x2.length d2, .slice B x3.length d, .slice B4 x4.length d4, .slice B5 x5.length d5, .slice B6 x6.length d6, .int .i64 x7, .slice B8 n8 d8, .slice B9 n9 d9, .slice B10 n10 d10, .bool x11, .bool x12, .bool x13, .string x14, .slice B15 x15.length d15, .int .i64 x16, .int .i64 x17, .int .i64 x18, .int .i64 x19, .string x20] from TL.store2S 15 (.slice B15 x15.length d15) (by simp only [List.setIfInBounds_toArray, List.set_cons_zero, List.set_cons_succ]))
      have HT := Lib.hid TL
      clear TL
      have hzz : (((wn.setCell ⟨w.heap.size + 1 + 1, 13, none⟩ (.bool x13)).setCell ⟨w.heap.size + 1 + 1, 14, none⟩ (.string x14)).setCell ⟨w.heap.size + 1 + 1, 15, none⟩ (.slice B15 x15.length d15)).heap.size = wn.heap.size := by simp [World.setCell]
      have HO2 := Lib.hid ((Own.setCell (Own.setCell (Own.setCell HO2.out (p := ⟨w.heap.size + 1 + 1, 13, none⟩) (by dsimp only; omega) (.bool x13)) (p := ⟨w.heap.size + 1 + 1, 14, none⟩) (by dsimp only; omega) (.string x14)) (p := ⟨w.heap.size + 1 + 1, 15, none⟩) (by dsimp only; omega) (.slice B15 x15.length d15)).more (Nat.le_refl _) (Nat.le_of_eq hzz.symm))
      have HO3 := Lib.hid ((Own.setCell (Own.setCell (Own.setCell HO3.out (p := ⟨w.heap.size + 1 + 1, 13, none⟩) (by dsimp only; omega) (.bool x13)) (p := ⟨w.heap.size + 1 + 1, 14, none⟩) (by dsimp only; omega) (.string x14)) (p := ⟨w.heap.size + 1 + 1, 15, none⟩) (by dsimp only; omega) (.slice B15 x15.length d15)).more (Nat.le_refl _) (Nat.le_of_eq hzz.symm))
      have HO4 := Lib.hid ((Own.setCell (Own.setCell (Own.setCell HO4.out (p := ⟨w.heap.size + 1 + 1, 13, none⟩) (by dsimp only; omega) (.bool x13)) (p := ⟨w.heap.size + 1 + 1, 14, none⟩) (by dsimp only; omega) (.string x14)) (p := ⟨w.heap.size + 1 + 1, 15, none⟩) (by dsimp only; omega) (.slice B15 x15.length d15)).more (Nat.le_refl _) (Nat.le_of_eq hzz.symm))
      have HO5 := Lib.hid ((Own.setCell (Own.setCell (Own.setCell HO5.out (p := ⟨w.heap.size + 1 + 1, 13, none⟩) (by dsimp only; omega) (.bool x13)) (p := ⟨w.heap.size + 1 + 1, 14, none⟩) (by dsimp only; omega) (.string x14)) (p := ⟨w.heap.size + 1 + 1, 15, none⟩) (by dsimp only; omega) (.slice B15 x15.length d15)).more (Nat.le_refl _) (Nat.le_of_eq hzz.symm))
      have HO6 := Lib.hid ((Own.setCell (Own.setCell (Own.setCell HO6.out (p := ⟨w.heap.size + 1 + 1, 13, none⟩) (by dsimp only; omega) (.bool x13)) (p := ⟨w.heap.size + 1 + 1, 14, none⟩) (by dsimp only; omega) (.string x14)) (p := ⟨w.heap.size + 1 + 1, 15, none⟩) (by dsimp only; omega) (.slice B15 x15.length d15)).more (Nat.le_refl _) (Nat.le_of_eq hzz.symm))
      have HO15 := Lib.hid ((Own.setCell (Own.setCell (Own.setCell HO15.out (p := ⟨w.heap.size + 1 + 1, 13, none⟩) (by dsimp only; omega) (.bool x13)) (p := ⟨w.heap.size + 1 + 1, 14, none⟩) (by dsimp only; omega) (.string x14)) (p := ⟨w.heap.size + 1 + 1, 15, none⟩) (by dsimp only; omega) (.slice B15 x15.length d15)).more (Nat.le_refl _) (Nat.le_of_eq hzz.symm))
      have hzwp : wn.heap.size ≤ (((wn.setCell ⟨w.heap.size + 1 + 1, 13, none⟩ (.bool x13)).setCell ⟨w.heap.size + 1 + 1, 14, none⟩ (.string x14)).setCell ⟨w.heap.size + 1 + 1, 15, none⟩ (.slice B15 x15.length d15)).heap.size := Nat.le_of_eq hzz.symm
      clear hzz
      generalize (((wn.setCell ⟨w.heap.size + 1 + 1, 13, none⟩ (.bool x13)).setCell ⟨w.heap.size + 1 + 1, 14, none⟩ (.string x14)).setCell ⟨w.heap.size + 1 + 1, 15, none⟩ (.slice B15 x15.length d15)) = wp at *
      have HONEO : Hid (∀ u ∈ ([.int .i64 x0, .int .i64 x1, .slice B2 x2.length d2, .slice B x3.length d, .slice B4 x4.length d4, .slice B5 x5.length d5, .slice B6 x6.length d6, .int .i64 x7, .slice B8 n8 d8, .slice B9 n9 d9, .slice B10 n10 d10, .bool x11, .bool x12, .bool x13, .string x14, .slice B15 x15.length d15, .int .i64 x16, .int .i64 x17, .int .i64 x18, .int .i64 x19, .string x20] : List Value), u.oneCell' = true) := Lib.hid (by intro u hu; simp only [List.mem_cons, List.not_mem_nil, or_false] at hu; rcases hu with rfl | rfl | rfl | rfl | rfl | rfl | rfl | rfl | rfl | rfl | rfl | rfl | rfl | rfl | rfl | rfl | rfl | rfl | rfl | rfl | rfl <;> rfl)
      refine wp_region_list ?_
      refine wpList_loadAll rfl 48 (.tmp 3) rfl (w.heap.size + 1 + 1) rfl HT.out.2.2.1 Tryz.underlying48 rfl (by kernel_rfl) ?_
      simp only [Go.Act.put, List.setIfInBounds_toArray, List.set_cons_zero, List.set_cons_succ]
      refine wpList_storeAll rfl 48 (.tmp 2) (.tmp 54) rfl (w.heap.size + 1) #[.int .i64 x0, .int .i64 x1, .slice B2 x2.length d2, .slice B x3.length d, .slice B4 x4.length d4, .slice B5 x5.length d5, .slice B6 x6.length d6, .int .i64 x7, .slice B8 n8 d8, .slice B9 n9 d9, .slice B10 n10 d10, .bool x11, .bool x12, .bool x13, .string x14, .slice B15 x15.length d15, .int .i64 x16, .int .i64 x17, .int .i64 x18, .int .i64 x19, .string x20] rfl rfl HT.out.2.1 (by kernel_rfl) rfl HONEO.out ?_
      intro wF hbF hoF hzF
      have TF := Lib.hid (HT.out.store1_all hbF hoF)
      have hsF := hoF.size
      have HO2 := Lib.hid (((HO2.out.outOf hoF (.inl (by omega))).more (lo' := w.heap.size) (by omega) hsF).reads)
      have HO3 := Lib.hid (((HO3.out.outOf hoF (.inl (by omega))).more (lo' := w.heap.size) (by omega) hsF).reads)
      have HO4 := Lib.hid (((HO4.out.outOf hoF (.inl (by omega))).more (lo' := w.heap.size) (by omega) hsF).reads)
      have HO5 := Lib.hid (((HO5.out.outOf hoF (.inl (by omega))).more (lo' := w.heap.size) (by omega) hsF).reads)
      have HO6 := Lib.hid (((HO6.out.outOf hoF (.inl (by omega))).more (lo' := w.heap.size) (by omega) hsF).reads)
      have HO15 := Lib.hid (((HO15.out.outOf hoF (.inl (by omega))).more (lo' := w.heap.size) (by omega) hsF).reads)
      have HBF := Lib.hid hbF
      clear HT HONEO hbF hoF
      go_wp2_with fail
      refine bodyPost_ret (results_cell_row (P := Tryz.prog) rfl _ _ (w.heap.size + 1) 48 #[.int .i64 x0, .int .i64 x1, .slice B2 x2.length d2, .slice B x3.length d, .slice B4 x4.length d4, .slice B5 x5.length d5, .slice B6 x6.length d6, .int .i64 x7, .slice B8 n8 d8, .slice B9 n9 d9, .slice B10 n10 d10, .bool x11, .bool x12, .bool x13, .string x14, .slice B15 x15.length d15, .int .i64 x16, .int .i64 x17, .int .i64 x18, .int .i64 x19, .string x20] (0, 0) _ rfl HBF.out Tryz.underlying48 rfl (by kernel_rfl)) rfl ⟨B2, d2, B, d, B4, d4, B5, d5, B6, d6, B15, d15, B8, n8, d8, B9, n9, d9, B10, n10, d10, rfl, HO2.out, HO3.out, HO4.out, HO5.out, HO6.out, HO15.out, TF.out.2.2.2⟩

end Go.Proofs.YtlodlplfmpikjaaGreat
