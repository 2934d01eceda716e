/- Ins, Entry, Program, Trigger, Lock, Ask, Locks, Event, Trans, Batch, Put, Disk, Seat, Top, Cache, Journal, Page, Slot, Btree: shapes and the laws' walks (sz). Printed by gen_fam.py. -/
import Derived.Test.YtnnabkldceklmaaGreatDoorJoinBTAr
set_option maxHeartbeats 16000000
set_option maxRecDepth 100000
namespace Go.Proofs.YtnnabkldceklmaaGreatDoor
open Go.RowKit
theorem szPut_f (x0 : Int) (x1 : ByteArray) (lo hi : Nat) (left : Int) (w : World) (h : shPut.R w lo hi [.int .i64 x0, .string x1] (x0, x1)) (hhi : hi ≤ w.heap.size) (hf : shPut.fit 9223372036854775807 (x0, x1)) (hl0 : 0 ≤ left) (hl : left ≤ 1048576) :
  Calls Tryz.prog 151 #[.agg #[.int .i64 x0, .string x1], .int .i64 left] w fun e w' => ∃ m, e = .returned (.int .i64 m) ∧ Left left (shPut.cost (x0, x1)) m ∧ Below w.heap.size w w' := by
 rw [shPut_cost]
 rw [shPut_fit] at hf
 obtain ⟨ft0, ft1⟩ := hf
 have R0 := ((Stand.nil w).add lo hi (fun W => shPut.R W lo hi [.int .i64 x0, .string x1] (x0, x1)) (fun _ _ hk h => shPut.R_keep h hk) hhi h).box 177 #[.int .i64 x0, .string x1]
 have HR0 := hd_ R0
 clear R0 h
 go_enter Tryz.func151, Tryz.ntmps151
 by_cases g1 : left - (x1.size : Int) < 0
 ·go_wp2_with fail
  go_ret
  exact ⟨_, rfl, .inl rfl, HR0.out.1⟩
 go_wp2_with fail
 go_ret
 refine ⟨_, rfl, .inr ⟨by omega, ?_⟩, HR0.out.1⟩
 omega
theorem szPutS_f (A : Option Addr) (c : Nat) (xs : List TyPut) (lo hi : Nat) (left : Int) (w : World) (h : (Sh.row 138 shPut).R w lo hi [.slice A xs.length c] xs) (hhi : hi ≤ w.heap.size) (hf : (Sh.row 138 shPut).fit 9223372036854775807 xs) (hl0 : 0 ≤ left) (hl : left ≤ 1048576) :
  Calls Tryz.prog 87 #[.slice A xs.length c, .int .i64 left] w fun e w' => ∃ m, e = .returned (.int .i64 m) ∧ Left left ((Sh.row 138 shPut).cost xs) m ∧ Below w.heap.size w w' := by
 have hn := hf.1
 have HA := hd_ h; have HF := hd_ hf.2
 clear h hf
 go_enter Tryz.func87, Tryz.ntmps87
 by_cases g0 : left - (xs.length : Int) < 0
 ·go_wp2_with fail
  go_ret
  exact ⟨_, rfl, .inl rfl, Below.refl _ _⟩
 go_wp2_with fail
 go_loopw [1, 5] (fun l i wr => ∃ (k : Nat) (m : Int), k ≤ xs.length ∧ i = .int .i64 k ∧ l = .int .i64 m ∧ 0 ≤ m ∧ m + xs.length + costTo shPut k xs = left ∧ Below w.heap.size w wr) (fun _ i _ => xs.length - (intOf i).toNat)
 case atStart => exact ⟨0, _, Nat.zero_le _, rfl, rfl, by omega, by rw [costTo_zero]; omega, Below.refl _ _⟩
 case round =>
  obtain ⟨k, m, hk, rfl, rfl, hm0, hm, hb⟩ := hrel
  have HM := hd_ hm
  have hml : m ≤ 1048576 := by omega
  clear hm
  by_cases hlt : k < xs.length
  ·obtain ⟨-, b, off, rfl, hb1, hb2, e100, e101, hX⟩ := shPut_at ((Sh.row 138 shPut).R_below HA.out hb hhi) hlt
   have HS := hd_ (costTo_succ shPut hlt)
   have HX := hd_ (HF.out _ (getD_in (d := shPut.d) hlt))
   generalize xs.getD k shPut.d = X at *
   obtain ⟨x0, x1⟩ := X
   try dsimp only at e100 e101
   have HB := hd_ hb; have HR := hd_ hX
   have hsz := hb.size
   clear hb hX
   go_wp2_with fail
   refine (szPut_f x0 x1 lo hi _ _ HR.out (by omega) HX.out hm0 hml).mono ?_
   rintro e5 w5 ⟨m5, rfl, hm5, hb5⟩
   have HB5 := hd_ (HB.out.trans (hb5.mono hsz))
   clear hb5 e100 e101
   rcases hm5 with rfl | ⟨hm50, hm5⟩
   ·go_wp2_with fail
    go_ret
    exact ⟨_, rfl, .inl rfl, HB5.out⟩
   have n5 : ¬ (m5 < 0) := by omega
   have HM5 := hd_ hm5
   clear hm5
   go_wp2_with fail
   go_roundw
   case rel => exact ⟨k + 1, m5, by omega, by go_num, rfl, hm50, by have := HM.out; have := HM5.out; have := HS.out; omega, HB5.out⟩
   case measure => simp [intOf]; omega
  ·obtain rfl : k = xs.length := by omega
   have HB := hd_ hb; clear hb
   go_wp2_with fail
   go_ret
   refine ⟨_, rfl, .inr ⟨hm0, ?_⟩, HB.out⟩
   have := HM.out
   have e1 := costTo_all shPut xs
   show m + (costAll shPut xs : Int) = left
   omega
theorem szDisk_f (x0 : Int) (x1 : List ByteArray) (x2 : List TyPut) (A1 : Option Addr) (c1 : Nat) (A2 : Option Addr) (c2 : Nat) (lo hi : Nat) (left : Int) (w : World) (h : shDisk.R w lo hi [.int .i64 x0, .slice A1 x1.length c1, .slice A2 x2.length c2] (x0, x1, x2)) (hhi : hi ≤ w.heap.size) (hf : shDisk.fit 9223372036854775807 (x0, x1, x2)) (hl0 : 0 ≤ left) (hl : left ≤ 1048576) :
  Calls Tryz.prog 32 #[.agg #[.int .i64 x0, .slice A1 x1.length c1, .slice A2 x2.length c2], .int .i64 left] w fun e w' => ∃ m, e = .returned (.int .i64 m) ∧ Left left (shDisk.cost (x0, x1, x2)) m ∧ Below w.heap.size w w' := by
 rw [shDisk_cost]
 rw [shDisk_fit] at hf
 obtain ⟨ft0, ft1, ft2⟩ := hf
 have R0 := ((Stand.nil w).add lo hi (fun W => shDisk.R W lo hi [.int .i64 x0, .slice A1 x1.length c1, .slice A2 x2.length c2] (x0, x1, x2)) (fun _ _ hk h => shDisk.R_keep h hk) hhi h).box 25 #[.int .i64 x0, .slice A1 x1.length c1, .slice A2 x2.length c2]
 have HR0 := hd_ R0
 clear R0 h
 go_enter Tryz.func32, Tryz.ntmps32
 go_wp2_with fail
 refine (szStringS_f A1 c1 x1 lo hi _ _ (shDisk_f1 (HR0.out.get 1 rfl)) (HR0.out.le 1 rfl) ft1 (by omega) (by omega)).mono ?_
 rintro e1 w1 ⟨m1, rfl, hm1, hb1⟩
 have HR1 := hd_ (HR0.out.below hb1)
 have b1 := (HR1.out.get 0 rfl).cell
 clear hb1 HR0
 rcases hm1 with rfl | ⟨hp1, hm1⟩
 ·go_wp2_with fail
  go_ret
  exact ⟨_, rfl, .inl rfl, HR1.out.1⟩
 have n1 : ¬ (m1 < 0) := by omega
 have u1 : m1 ≤ 1048576 := by omega
 have HM1 := hd_ hm1; clear hm1
 go_wp2_with fail
 refine (szPutS_f A2 c2 x2 lo hi _ _ (shDisk_f2 (HR1.out.get 1 rfl)) (HR1.out.le 1 rfl) ft2 (by omega) (by omega)).mono ?_
 rintro e2 w2 ⟨m2, rfl, hm2, hb2⟩
 have HR2 := hd_ (HR1.out.below hb2)
 have b2 := (HR2.out.get 0 rfl).cell
 clear hb2 HR1
 rcases hm2 with rfl | ⟨hp2, hm2⟩
 ·go_wp2_with fail
  go_ret
  exact ⟨_, rfl, .inl rfl, HR2.out.1⟩
 have n2 : ¬ (m2 < 0) := by omega
 have u2 : m2 ≤ 1048576 := by omega
 have HM2 := hd_ hm2; clear hm2
 go_wp2_with fail
 go_ret
 refine ⟨_, rfl, .inr ⟨by omega, ?_⟩, HR2.out.1⟩
 have := HM1.out
 have := HM2.out
 omega
theorem szSeatS_f (A : Option Addr) (c : Nat) (xs : List TySeat) (lo hi : Nat) (left : Int) (w : World) (_ : (Sh.row 88 shSeat).R w lo hi [.slice A xs.length c] xs) (_ : hi ≤ w.heap.size) (hf : (Sh.row 88 shSeat).fit 9223372036854775807 xs) (hl0 : 0 ≤ left) (hl : left ≤ 1048576) :
  Calls Tryz.prog 34 #[.slice A xs.length c, .int .i64 left] w fun e w' => ∃ m, e = .returned (.int .i64 m) ∧ Left left ((Sh.row 88 shSeat).cost xs) m ∧ Below w.heap.size w w' := by
 have hn := hf.1
 have h0 : ∀ x : TySeat, shSeat.cost x = 0 := fun x => by rw [show x = (x.1, x.2) from rfl, shSeat_cost]
 have hc : ∀ xs : List TySeat, (xs.map shSeat.cost).sum = 0 := fun xs => by
  induction xs with
  | nil => rfl
  | cons x xs ih => rw [List.map_cons, List.sum_cons, h0, ih]
 have HC := hd_ (show (Sh.row 88 shSeat).cost xs = xs.length from by show xs.length + (xs.map shSeat.cost).sum = xs.length; rw [hc, Nat.add_zero])
 clear hf h0 hc
 go_enter Tryz.func34, Tryz.ntmps34
 by_cases g0 : left - (xs.length : Int) < 0
 ·go_wp2_with fail
  go_ret
  exact ⟨_, rfl, .inl rfl, Below.refl _ _⟩
 go_wp2_with fail
 go_ret
 exact ⟨_, rfl, .inr ⟨by omega, by rw [HC.out]; omega⟩, Below.refl _ _⟩
theorem szTop_f (x0 : Int) (x1 : Int) (x2 : Int) (x3 : List TySeat) (A3 : Option Addr) (c3 : Nat) (lo hi : Nat) (left : Int) (w : World) (h : shTop.R w lo hi [.int .i64 x0, .int .i64 x1, .int .i64 x2, .slice A3 x3.length c3] (x0, x1, x2, x3)) (hhi : hi ≤ w.heap.size) (hf : shTop.fit 9223372036854775807 (x0, x1, x2, x3)) (hl0 : 0 ≤ left) (hl : left ≤ 1048576) :
  Calls Tryz.prog 33 #[.agg #[.int .i64 x0, .int .i64 x1, .int .i64 x2, .slice A3 x3.length c3], .int .i64 left] w fun e w' => ∃ m, e = .returned (.int .i64 m) ∧ Left left (shTop.cost (x0, x1, x2, x3)) m ∧ Below w.heap.size w w' := by
 rw [shTop_cost]
 rw [shTop_fit] at hf
 obtain ⟨ft0, ft1, ft2, ft3⟩ := hf
 have R0 := ((Stand.nil w).add lo hi (fun W => shTop.R W lo hi [.int .i64 x0, .int .i64 x1, .int .i64 x2, .slice A3 x3.length c3] (x0, x1, x2, x3)) (fun _ _ hk h => shTop.R_keep h hk) hhi h).box 28 #[.int .i64 x0, .int .i64 x1, .int .i64 x2, .slice A3 x3.length c3]
 have HR0 := hd_ R0
 clear R0 h
 go_enter Tryz.func33, Tryz.ntmps33
 go_wp2_with fail
 refine (szSeatS_f A3 c3 x3 lo hi _ _ (shTop_f3 (HR0.out.get 1 rfl)) (HR0.out.le 1 rfl) ft3 (by omega) (by omega)).mono ?_
 rintro e3 w3 ⟨m3, rfl, hm3, hb3⟩
 have HR1 := hd_ (HR0.out.below hb3)
 have b3 := (HR1.out.get 0 rfl).cell
 clear hb3 HR0
 rcases hm3 with rfl | ⟨hp3, hm3⟩
 ·go_wp2_with fail
  go_ret
  exact ⟨_, rfl, .inl rfl, HR1.out.1⟩
 have n3 : ¬ (m3 < 0) := by omega
 have u3 : m3 ≤ 1048576 := by omega
 have HM3 := hd_ hm3; clear hm3
 go_wp2_with fail
 go_ret
 refine ⟨_, rfl, .inr ⟨by omega, ?_⟩, HR1.out.1⟩
 have := HM3.out
 omega
theorem szCache_f (x0 : Int) (x1 : List ByteArray) (x2 : List TyPut) (x3 : Int) (x4 : Int) (x5 : Int) (x6 : List TySeat) (x7 : Int) (x8 : Int) (x9 : Int) (x10 : List TySeat) (x11 : List TySeat) (x12 : List Int) (A1 : Option Addr) (c1 : Nat) (A2 : Option Addr) (c2 : Nat) (A6 : Option Addr) (c6 : Nat) (A10 : Option Addr) (c10 : Nat) (A11 : Option Addr) (c11 : Nat) (A12 : Option Addr) (c12 : Nat) (lo hi : Nat) (left : Int) (w : World) (h : shCache.R w lo hi [.int .i64 x0, .slice A1 x1.length c1, .slice A2 x2.length c2, .int .i64 x3, .int .i64 x4, .int .i64 x5, .slice A6 x6.length c6, .int .i64 x7, .int .i64 x8, .int .i64 x9, .slice A10 x10.length c10, .slice A11 x11.length c11, .slice A12 x12.length c12] ((x0, x1, x2), (x3, x4, x5, x6), (x7, x8, x9, x10), x11, x12)) (hhi : hi ≤ w.heap.size) (hf : shCache.fit 9223372036854775807 ((x0, x1, x2), (x3, x4, x5, x6), (x7, x8, x9, x10), x11, x12)) (hl0 : 0 ≤ left) (hl : left ≤ 1048576) :
  Calls Tryz.prog 8 #[.agg #[.int .i64 x0, .slice A1 x1.length c1, .slice A2 x2.length c2, .int .i64 x3, .int .i64 x4, .int .i64 x5, .slice A6 x6.length c6, .int .i64 x7, .int .i64 x8, .int .i64 x9, .slice A10 x10.length c10, .slice A11 x11.length c11, .slice A12 x12.length c12], .int .i64 left] w fun e w' => ∃ m, e = .returned (.int .i64 m) ∧ Left left (shCache.cost ((x0, x1, x2), (x3, x4, x5, x6), (x7, x8, x9, x10), x11, x12)) m ∧ Below w.heap.size w w' := by
 rw [shCache_cost]
 rw [shCache_fit] at hf
 obtain ⟨ft0, ft3, ft7, ft11, ft12⟩ := hf
 have R0 := ((Stand.nil w).add lo hi (fun W => shCache.R W lo hi [.int .i64 x0, .slice A1 x1.length c1, .slice A2 x2.length c2, .int .i64 x3, .int .i64 x4, .int .i64 x5, .slice A6 x6.length c6, .int .i64 x7, .int .i64 x8, .int .i64 x9, .slice A10 x10.length c10, .slice A11 x11.length c11, .slice A12 x12.length c12] ((x0, x1, x2), (x3, x4, x5, x6), (x7, x8, x9, x10), x11, x12)) (fun _ _ hk h => shCache.R_keep h hk) hhi h).box 31 #[.int .i64 x0, .slice A1 x1.length c1, .slice A2 x2.length c2, .int .i64 x3, .int .i64 x4, .int .i64 x5, .slice A6 x6.length c6, .int .i64 x7, .int .i64 x8, .int .i64 x9, .slice A10 x10.length c10, .slice A11 x11.length c11, .slice A12 x12.length c12]
 have HR0 := hd_ R0
 clear R0 h
 go_enter Tryz.func8, Tryz.ntmps8
 go_wp2_with fail
 refine (szDisk_f x0 x1 x2 A1 c1 A2 c2 lo hi _ _ (shCache_f0 (HR0.out.get 1 rfl)) (HR0.out.le 1 rfl) ft0 (by omega) (by omega)).mono ?_
 rintro e0 w0 ⟨m0, rfl, hm0, hb0⟩
 have HR1 := hd_ (HR0.out.below hb0)
 have b0 := (HR1.out.get 0 rfl).cell
 clear hb0 HR0
 rcases hm0 with rfl | ⟨hp0, hm0⟩
 ·go_wp2_with fail
  go_ret
  exact ⟨_, rfl, .inl rfl, HR1.out.1⟩
 have n0 : ¬ (m0 < 0) := by omega
 have u0 : m0 ≤ 1048576 := by omega
 have HM0 := hd_ hm0; clear hm0
 go_wp2_with fail
 refine (szTop_f x3 x4 x5 x6 A6 c6 lo hi _ _ (shCache_f3 (HR1.out.get 1 rfl)) (HR1.out.le 1 rfl) ft3 (by omega) (by omega)).mono ?_
 rintro e3 w3 ⟨m3, rfl, hm3, hb3⟩
 have HR2 := hd_ (HR1.out.below hb3)
 have b3 := (HR2.out.get 0 rfl).cell
 clear hb3 HR1
 rcases hm3 with rfl | ⟨hp3, hm3⟩
 ·go_wp2_with fail
  go_ret
  exact ⟨_, rfl, .inl rfl, HR2.out.1⟩
 have n3 : ¬ (m3 < 0) := by omega
 have u3 : m3 ≤ 1048576 := by omega
 have HM3 := hd_ hm3; clear hm3
 go_wp2_with fail
 refine (szTop_f x7 x8 x9 x10 A10 c10 lo hi _ _ (shCache_f7 (HR2.out.get 1 rfl)) (HR2.out.le 1 rfl) ft7 (by omega) (by omega)).mono ?_
 rintro e7 w7 ⟨m7, rfl, hm7, hb7⟩
 have HR3 := hd_ (HR2.out.below hb7)
 have b7 := (HR3.out.get 0 rfl).cell
 clear hb7 HR2
 rcases hm7 with rfl | ⟨hp7, hm7⟩
 ·go_wp2_with fail
  go_ret
  exact ⟨_, rfl, .inl rfl, HR3.out.1⟩
 have n7 : ¬ (m7 < 0) := by omega
 have u7 : m7 ≤ 1048576 := by omega
 have HM7 := hd_ hm7; clear hm7
 go_wp2_with fail
 refine (szSeatS_f A11 c11 x11 lo hi _ _ (shCache_f11 (HR3.out.get 1 rfl)) (HR3.out.le 1 rfl) ft11 (by omega) (by omega)).mono ?_
 rintro e11 w11 ⟨m11, rfl, hm11, hb11⟩
 have HR4 := hd_ (HR3.out.below hb11)
 have b11 := (HR4.out.get 0 rfl).cell
 clear hb11 HR3
 rcases hm11 with rfl | ⟨hp11, hm11⟩
 ·go_wp2_with fail
  go_ret
  exact ⟨_, rfl, .inl rfl, HR4.out.1⟩
 have n11 : ¬ (m11 < 0) := by omega
 have u11 : m11 ≤ 1048576 := by omega
 have HM11 := hd_ hm11; clear hm11
 go_wp2_with fail
 refine (szInt64S_f A12 c12 x12 lo hi _ _ (shCache_f12 (HR4.out.get 1 rfl)) (HR4.out.le 1 rfl) ft12 (by omega) (by omega)).mono ?_
 rintro e12 w12 ⟨m12, rfl, hm12, hb12⟩
 have HR5 := hd_ (HR4.out.below hb12)
 have b12 := (HR5.out.get 0 rfl).cell
 clear hb12 HR4
 rcases hm12 with rfl | ⟨hp12, hm12⟩
 ·go_wp2_with fail
  go_ret
  exact ⟨_, rfl, .inl rfl, HR5.out.1⟩
 have n12 : ¬ (m12 < 0) := by omega
 have u12 : m12 ≤ 1048576 := by omega
 have HM12 := hd_ hm12; clear hm12
 go_wp2_with fail
 go_ret
 refine ⟨_, rfl, .inr ⟨by omega, ?_⟩, HR5.out.1⟩
 have := HM0.out
 have := HM3.out
 have := HM7.out
 have := HM11.out
 have := HM12.out
 omega
theorem szPage_f (x0 : Bool) (x1 : List ByteArray) (x2 : List ByteArray) (x3 : List Int) (A1 : Option Addr) (c1 : Nat) (A2 : Option Addr) (c2 : Nat) (A3 : Option Addr) (c3 : Nat) (lo hi : Nat) (left : Int) (w : World) (h : shPage.R w lo hi [.bool x0, .slice A1 x1.length c1, .slice A2 x2.length c2, .slice A3 x3.length c3] (x0, x1, x2, x3)) (hhi : hi ≤ w.heap.size) (hf : shPage.fit 9223372036854775807 (x0, x1, x2, x3)) (hl0 : 0 ≤ left) (hl : left ≤ 1048576) :
  Calls Tryz.prog 152 #[.agg #[.bool x0, .slice A1 x1.length c1, .slice A2 x2.length c2, .slice A3 x3.length c3], .int .i64 left] w fun e w' => ∃ m, e = .returned (.int .i64 m) ∧ Left left (shPage.cost (x0, x1, x2, x3)) m ∧ Below w.heap.size w w' := by
 rw [shPage_cost]
 rw [shPage_fit] at hf
 obtain ⟨ft0, ft1, ft2, ft3⟩ := hf
 have R0 := ((Stand.nil w).add lo hi (fun W => shPage.R W lo hi [.bool x0, .slice A1 x1.length c1, .slice A2 x2.length c2, .slice A3 x3.length c3] (x0, x1, x2, x3)) (fun _ _ hk h => shPage.R_keep h hk) hhi h).box 122 #[.bool x0, .slice A1 x1.length c1, .slice A2 x2.length c2, .slice A3 x3.length c3]
 have HR0 := hd_ R0
 clear R0 h
 go_enter Tryz.func152, Tryz.ntmps152
 go_wp2_with fail
 refine (szStringS_f A1 c1 x1 lo hi _ _ (shPage_f1 (HR0.out.get 1 rfl)) (HR0.out.le 1 rfl) ft1 (by omega) (by omega)).mono ?_
 rintro e1 w1 ⟨m1, rfl, hm1, hb1⟩
 have HR1 := hd_ (HR0.out.below hb1)
 have b1 := (HR1.out.get 0 rfl).cell
 clear hb1 HR0
 rcases hm1 with rfl | ⟨hp1, hm1⟩
 ·go_wp2_with fail
  go_ret
  exact ⟨_, rfl, .inl rfl, HR1.out.1⟩
 have n1 : ¬ (m1 < 0) := by omega
 have u1 : m1 ≤ 1048576 := by omega
 have HM1 := hd_ hm1; clear hm1
 go_wp2_with fail
 refine (szStringS_f A2 c2 x2 lo hi _ _ (shPage_f2 (HR1.out.get 1 rfl)) (HR1.out.le 1 rfl) ft2 (by omega) (by omega)).mono ?_
 rintro e2 w2 ⟨m2, rfl, hm2, hb2⟩
 have HR2 := hd_ (HR1.out.below hb2)
 have b2 := (HR2.out.get 0 rfl).cell
 clear hb2 HR1
 rcases hm2 with rfl | ⟨hp2, hm2⟩
 ·go_wp2_with fail
  go_ret
  exact ⟨_, rfl, .inl rfl, HR2.out.1⟩
 have n2 : ¬ (m2 < 0) := by omega
 have u2 : m2 ≤ 1048576 := by omega
 have HM2 := hd_ hm2; clear hm2
 go_wp2_with fail
 refine (szInt64S_f A3 c3 x3 lo hi _ _ (shPage_f3 (HR2.out.get 1 rfl)) (HR2.out.le 1 rfl) ft3 (by omega) (by omega)).mono ?_
 rintro e3 w3 ⟨m3, rfl, hm3, hb3⟩
 have HR3 := hd_ (HR2.out.below hb3)
 have b3 := (HR3.out.get 0 rfl).cell
 clear hb3 HR2
 rcases hm3 with rfl | ⟨hp3, hm3⟩
 ·go_wp2_with fail
  go_ret
  exact ⟨_, rfl, .inl rfl, HR3.out.1⟩
 have n3 : ¬ (m3 < 0) := by omega
 have u3 : m3 ≤ 1048576 := by omega
 have HM3 := hd_ hm3; clear hm3
 go_wp2_with fail
 go_ret
 refine ⟨_, rfl, .inr ⟨by omega, ?_⟩, HR3.out.1⟩
 have := HM1.out
 have := HM2.out
 have := HM3.out
 omega
theorem szSlot_f (x0 : Int) (x1 : Bool) (x2 : List ByteArray) (x3 : List ByteArray) (x4 : List Int) (A2 : Option Addr) (c2 : Nat) (A3 : Option Addr) (c3 : Nat) (A4 : Option Addr) (c4 : Nat) (lo hi : Nat) (left : Int) (w : World) (h : shSlot.R w lo hi [.int .i64 x0, .bool x1, .slice A2 x2.length c2, .slice A3 x3.length c3, .slice A4 x4.length c4] (x0, (x1, x2, x3, x4))) (hhi : hi ≤ w.heap.size) (hf : shSlot.fit 9223372036854775807 (x0, (x1, x2, x3, x4))) (hl0 : 0 ≤ left) (hl : left ≤ 1048576) :
  Calls Tryz.prog 88 #[.agg #[.int .i64 x0, .bool x1, .slice A2 x2.length c2, .slice A3 x3.length c3, .slice A4 x4.length c4], .int .i64 left] w fun e w' => ∃ m, e = .returned (.int .i64 m) ∧ Left left (shSlot.cost (x0, (x1, x2, x3, x4))) m ∧ Below w.heap.size w w' := by
 rw [shSlot_cost]
 rw [shSlot_fit] at hf
 obtain ⟨ft0, ft1⟩ := hf
 have R0 := ((Stand.nil w).add lo hi (fun W => shSlot.R W lo hi [.int .i64 x0, .bool x1, .slice A2 x2.length c2, .slice A3 x3.length c3, .slice A4 x4.length c4] (x0, (x1, x2, x3, x4))) (fun _ _ hk h => shSlot.R_keep h hk) hhi h).box 124 #[.int .i64 x0, .bool x1, .slice A2 x2.length c2, .slice A3 x3.length c3, .slice A4 x4.length c4]
 have HR0 := hd_ R0
 clear R0 h
 go_enter Tryz.func88, Tryz.ntmps88
 go_wp2_with fail
 refine (szPage_f x1 x2 x3 x4 A2 c2 A3 c3 A4 c4 lo hi _ _ (shSlot_f1 (HR0.out.get 1 rfl)) (HR0.out.le 1 rfl) ft1 (by omega) (by omega)).mono ?_
 rintro e1 w1 ⟨m1, rfl, hm1, hb1⟩
 have HR1 := hd_ (HR0.out.below hb1)
 have b1 := (HR1.out.get 0 rfl).cell
 clear hb1 HR0
 rcases hm1 with rfl | ⟨hp1, hm1⟩
 ·go_wp2_with fail
  go_ret
  exact ⟨_, rfl, .inl rfl, HR1.out.1⟩
 have n1 : ¬ (m1 < 0) := by omega
 have u1 : m1 ≤ 1048576 := by omega
 have HM1 := hd_ hm1; clear hm1
 go_wp2_with fail
 go_ret
 refine ⟨_, rfl, .inr ⟨by omega, ?_⟩, HR1.out.1⟩
 have := HM1.out
 omega
theorem szSlotS_f (A : Option Addr) (c : Nat) (xs : List TySlot) (lo hi : Nat) (left : Int) (w : World) (h : (Sh.row 85 shSlot).R w lo hi [.slice A xs.length c] xs) (hhi : hi ≤ w.heap.size) (hf : (Sh.row 85 shSlot).fit 9223372036854775807 xs) (hl0 : 0 ≤ left) (hl : left ≤ 1048576) :
  Calls Tryz.prog 36 #[.slice A xs.length c, .int .i64 left] w fun e w' => ∃ m, e = .returned (.int .i64 m) ∧ Left left ((Sh.row 85 shSlot).cost xs) m ∧ Below w.heap.size w w' := by
 have hn := hf.1
 have HA := hd_ h; have HF := hd_ hf.2
 clear h hf
 go_enter Tryz.func36, Tryz.ntmps36
 by_cases g0 : left - (xs.length : Int) < 0
 ·go_wp2_with fail
  go_ret
  exact ⟨_, rfl, .inl rfl, Below.refl _ _⟩
 go_wp2_with fail
 go_loopw [1, 5] (fun l i wr => ∃ (k : Nat) (m : Int), k ≤ xs.length ∧ i = .int .i64 k ∧ l = .int .i64 m ∧ 0 ≤ m ∧ m + xs.length + costTo shSlot k xs = left ∧ Below w.heap.size w wr) (fun _ i _ => xs.length - (intOf i).toNat)
 case atStart => exact ⟨0, _, Nat.zero_le _, rfl, rfl, by omega, by rw [costTo_zero]; omega, Below.refl _ _⟩
 case round =>
  obtain ⟨k, m, hk, rfl, rfl, hm0, hm, hb⟩ := hrel
  have HM := hd_ hm
  have hml : m ≤ 1048576 := by omega
  clear hm
  by_cases hlt : k < xs.length
  ·obtain ⟨-, b, off, rfl, hb1, hb2, A2, c2, A3, c3, A4, c4, e100, e101, e102, e103, e104, hX⟩ := shSlot_at ((Sh.row 85 shSlot).R_below HA.out hb hhi) hlt
   have HS := hd_ (costTo_succ shSlot hlt)
   have HX := hd_ (HF.out _ (getD_in (d := shSlot.d) hlt))
   generalize xs.getD k shSlot.d = X at *
   obtain ⟨x0, ⟨x1, x2, x3, x4⟩⟩ := X
   try dsimp only at e100 e101 e102 e103 e104
   have HB := hd_ hb; have HR := hd_ hX
   have hsz := hb.size
   clear hb hX
   go_wp2_with fail
   refine (szSlot_f x0 x1 x2 x3 x4 A2 c2 A3 c3 A4 c4 lo hi _ _ HR.out (by omega) HX.out hm0 hml).mono ?_
   rintro e5 w5 ⟨m5, rfl, hm5, hb5⟩
   have HB5 := hd_ (HB.out.trans (hb5.mono hsz))
   clear hb5 e100 e101 e102 e103 e104
   rcases hm5 with rfl | ⟨hm50, hm5⟩
   ·go_wp2_with fail
    go_ret
    exact ⟨_, rfl, .inl rfl, HB5.out⟩
   have n5 : ¬ (m5 < 0) := by omega
   have HM5 := hd_ hm5
   clear hm5
   go_wp2_with fail
   go_roundw
   case rel => exact ⟨k + 1, m5, by omega, by go_num, rfl, hm50, by have := HM.out; have := HM5.out; have := HS.out; omega, HB5.out⟩
   case measure => simp [intOf]; omega
  ·obtain rfl : k = xs.length := by omega
   have HB := hd_ hb; clear hb
   go_wp2_with fail
   go_ret
   refine ⟨_, rfl, .inr ⟨hm0, ?_⟩, HB.out⟩
   have := HM.out
   have e1 := costTo_all shSlot xs
   show m + (costAll shSlot xs : Int) = left
   omega
theorem szBtree_f (x0 : Int) (x1 : List TySlot) (A1 : Option Addr) (c1 : Nat) (lo hi : Nat) (left : Int) (w : World) (h : shBtree.R w lo hi [.int .i64 x0, .slice A1 x1.length c1] (x0, x1)) (hhi : hi ≤ w.heap.size) (hf : shBtree.fit 9223372036854775807 (x0, x1)) (hl0 : 0 ≤ left) (hl : left ≤ 1048576) :
  Calls Tryz.prog 9 #[.agg #[.int .i64 x0, .slice A1 x1.length c1], .int .i64 left] w fun e w' => ∃ m, e = .returned (.int .i64 m) ∧ Left left (shBtree.cost (x0, x1)) m ∧ Below w.heap.size w w' := by
 rw [shBtree_cost]
 rw [shBtree_fit] at hf
 obtain ⟨ft0, ft1⟩ := hf
 have R0 := ((Stand.nil w).add lo hi (fun W => shBtree.R W lo hi [.int .i64 x0, .slice A1 x1.length c1] (x0, x1)) (fun _ _ hk h => shBtree.R_keep h hk) hhi h).box 34 #[.int .i64 x0, .slice A1 x1.length c1]
 have HR0 := hd_ R0
 clear R0 h
 go_enter Tryz.func9, Tryz.ntmps9
 go_wp2_with fail
 refine (szSlotS_f A1 c1 x1 lo hi _ _ (shBtree_f1 (HR0.out.get 1 rfl)) (HR0.out.le 1 rfl) ft1 (by omega) (by omega)).mono ?_
 rintro e1 w1 ⟨m1, rfl, hm1, hb1⟩
 have HR1 := hd_ (HR0.out.below hb1)
 have b1 := (HR1.out.get 0 rfl).cell
 clear hb1 HR0
 rcases hm1 with rfl | ⟨hp1, hm1⟩
 ·go_wp2_with fail
  go_ret
  exact ⟨_, rfl, .inl rfl, HR1.out.1⟩
 have n1 : ¬ (m1 < 0) := by omega
 have u1 : m1 ≤ 1048576 := by omega
 have HM1 := hd_ hm1; clear hm1
 go_wp2_with fail
 go_ret
 refine ⟨_, rfl, .inr ⟨by omega, ?_⟩, HR1.out.1⟩
 have := HM1.out
 omega
end Go.Proofs.YtnnabkldceklmaaGreatDoor
