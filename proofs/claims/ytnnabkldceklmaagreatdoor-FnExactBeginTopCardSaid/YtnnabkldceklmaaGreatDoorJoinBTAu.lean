/- Ins, Entry, Program, Trigger, Lock, Ask, Locks, Event, Trans, Batch, Put, Disk, Seat, Top, Cache, Journal, Page, Slot, Btree: shapes and the laws' walks (eq). Printed by gen_fam.py. -/
import Derived.Test.YtnnabkldceklmaaGreatDoorJoinBTAr
set_option maxHeartbeats 16000000
set_option maxRecDepth 100000
namespace Go.Proofs.YtnnabkldceklmaaGreatDoor
open Go.RowKit
theorem eqPut_f (x0 : Int) (x1 : ByteArray)  (lo hi lo' hi' : Nat) (w : World) (h : shPut.R w lo hi [.int .i64 x0, .string x1] (x0, x1)) (h' : shPut.R w lo' hi' [.int .i64 x0, .string x1] (x0, x1)) (hhi : hi ≤ w.heap.size) (hhi' : hi' ≤ w.heap.size) (hf : shPut.fit 4294967296 (x0, x1)) :
  Calls Tryz.prog 182 #[.agg #[.int .i64 x0, .string x1], .agg #[.int .i64 x0, .string x1]] w fun e w' => e = .returned (.bool true) ∧ Below w.heap.size w w' := by
 rw [shPut_fit] at hf
 obtain ⟨ft0, ft1⟩ := hf
 have R0 := ((((Stand.nil w).add lo hi (fun W => shPut.R W lo hi [.int .i64 x0, .string x1] (x0, x1)) (fun _ _ hk h => shPut.R_keep h hk) hhi h).add lo' hi' (fun W => shPut.R W lo' hi' [.int .i64 x0, .string x1] (x0, x1)) (fun _ _ hk h => shPut.R_keep h hk) hhi' h').box 138 #[.int .i64 x0, .string x1]).box 138 #[.int .i64 x0, .string x1]
 rw [heap_alloc_size1] at R0
 have HR0 := hd_ R0
 clear R0 h h'
 go_enter Tryz.func182, Tryz.ntmps182
 go_wp2_with fail
 go_ret
 exact ⟨rfl, HR0.out.1⟩
theorem eqPutS_f (A B : Option Addr) (c d : Nat) (xs : List TyPut) (lo hi lo' hi' : Nat) (w : World) (h : (Sh.row 138 shPut).R w lo hi [.slice A xs.length c] xs) (h' : (Sh.row 138 shPut).R w lo' hi' [.slice B xs.length d] xs) (hhi : hi ≤ w.heap.size) (hhi' : hi' ≤ w.heap.size) (hf : (Sh.row 138 shPut).fit 4294967296 xs) :
  Calls Tryz.prog 129 #[.slice A xs.length c, .slice B xs.length d] w fun e w' => e = .returned (.bool true) ∧ Below w.heap.size w w' := by
 have hn := hf.1
 have HA := hd_ h; have HA' := hd_ h'; have HF := hd_ hf.2
 clear h h' hf
 go_enter Tryz.func129, Tryz.ntmps129
 go_wp2_with fail
 go_loopw [5] (fun i wr => ∃ k : Nat, k ≤ xs.length ∧ i = .int .i64 k ∧ Below w.heap.size w wr) (fun i _ => xs.length - (intOf i).toNat)
 case atStart => exact ⟨0, Nat.zero_le _, rfl, Below.refl _ _⟩
 case round =>
  obtain ⟨k, hk, rfl, hb⟩ := hrel
  by_cases hlt : k < xs.length
  ·obtain ⟨-, b, off, rfl, hb1, hb2, e100, e101, hX⟩ := shPut_at ((Sh.row 138 shPut).R_below HA.out hb hhi) hlt
   obtain ⟨-, b', off', rfl, hb1', hb2', e100', e101', hX'⟩ := shPut_at ((Sh.row 138 shPut).R_below HA'.out hb hhi') hlt
   have HX := hd_ (HF.out _ (getD_in (d := shPut.d) hlt))
   generalize xs.getD k shPut.d = X at *
   obtain ⟨x0, x1⟩ := X
   try dsimp only at e100 e101 e100' e101'
   have hsz := hb.size
   have HR := hd_ (shPut.R_below hX (below_drewN' wr 1) (by omega)); have HR' := hd_ (shPut.R_below hX' (below_drewN' wr 1) (by omega))
   have HB := hd_ hb
   have HBd := hd_ hb.drew
   clear hb hX hX'
   have hwi : hi ≤ wr.drew.heap.size := (show hi ≤ wr.heap.size by omega)
   have hwi' : hi' ≤ wr.drew.heap.size := (show hi' ≤ wr.heap.size by omega)
   have hbw : b < wr.drew.heap.size := (show b < wr.heap.size by omega)
   have hbw' : b' < wr.drew.heap.size := (show b' < wr.heap.size by omega)
   go_wp2_with fail
   go_region_held3 (fun w' => w'.cell? ⟨b, off + k * 2, none⟩ = some (.int .i64 x0) ∧ w'.cell? ⟨b, off + k * 2 + 1, none⟩ = some (.string x1) ∧ w'.cell? ⟨b', off' + k * 2, none⟩ = some (.int .i64 x0) ∧ w'.cell? ⟨b', off' + k * 2 + 1, none⟩ = some (.string x1) ∧ Below w.heap.size w w')
    (first | exact ⟨e100, e101, e100', e101', HB.out⟩ | exact ⟨e100, e101, e100', e101', HBd.out⟩ | exact ⟨(hb5.cell hbw).trans e100, (hb5.cell hbw).trans e101, (hb5.cell hbw').trans e100', (hb5.cell hbw').trans e101', HBd.out.trans (hb5.mono HBd.out.size)⟩)
    (first | (go_at_call 182; (refine (eqPut_f x0 x1 lo hi lo' hi' wr.drew HR.out HR'.out hwi hwi' HX.out).mono ?_); rintro e5 w5 ⟨rfl, hb5⟩))
   have HB5 := hd_ (HBd.out.trans (hb5.mono HBd.out.size))
   clear hb5 e100 e101 e100' e101'
   go_wp2_with fail
   go_roundw
   case rel => exact ⟨k + 1, by omega, by go_num, HB5.out⟩
   case measure => simp [intOf]; omega
  ·have HB := hd_ hb; clear hb
   go_wp2_with fail
   go_ret
   exact ⟨rfl, HB.out⟩
theorem eqDisk_f (x0 : Int) (x1 : List ByteArray) (x2 : List TyPut) (A1 : Option Addr) (c1 : Nat) (A2 : Option Addr) (c2 : Nat) (B1 : Option Addr) (d1 : Nat) (B2 : Option Addr) (d2 : Nat) (lo hi lo' hi' : Nat) (w : World) (h : shDisk.R w lo hi [.int .i64 x0, .slice A1 x1.length c1, .slice A2 x2.length c2] (x0, x1, x2)) (h' : shDisk.R w lo' hi' [.int .i64 x0, .slice B1 x1.length d1, .slice B2 x2.length d2] (x0, x1, x2)) (hhi : hi ≤ w.heap.size) (hhi' : hi' ≤ w.heap.size) (hf : shDisk.fit 4294967296 (x0, x1, x2)) :
  Calls Tryz.prog 55 #[.agg #[.int .i64 x0, .slice A1 x1.length c1, .slice A2 x2.length c2], .agg #[.int .i64 x0, .slice B1 x1.length d1, .slice B2 x2.length d2]] w fun e w' => e = .returned (.bool true) ∧ Below w.heap.size w w' := by
 rw [shDisk_fit] at hf
 obtain ⟨ft0, ft1, ft2⟩ := hf
 have R0 := ((((Stand.nil w).add lo hi (fun W => shDisk.R W lo hi [.int .i64 x0, .slice A1 x1.length c1, .slice A2 x2.length c2] (x0, x1, x2)) (fun _ _ hk h => shDisk.R_keep h hk) hhi h).add lo' hi' (fun W => shDisk.R W lo' hi' [.int .i64 x0, .slice B1 x1.length d1, .slice B2 x2.length d2] (x0, x1, x2)) (fun _ _ hk h => shDisk.R_keep h hk) hhi' h').box 39 #[.int .i64 x0, .slice A1 x1.length c1, .slice A2 x2.length c2]).box 39 #[.int .i64 x0, .slice B1 x1.length d1, .slice B2 x2.length d2]
 rw [heap_alloc_size1] at R0
 have HR0 := hd_ R0
 clear R0 h h'
 go_enter Tryz.func55, Tryz.ntmps55
 go_wp2_with fail
 refine (eqStringS_f A1 B1 c1 d1 x1 lo hi lo' hi' _ (shDisk_f1 (HR0.out.get 3 rfl)) (shDisk_f1 (HR0.out.get 2 rfl)) (HR0.out.le 3 rfl) (HR0.out.le 2 rfl) ft1).mono ?_
 rintro e1 w1 ⟨rfl, hb1⟩
 have HR1 := hd_ (HR0.out.below hb1)
 have b1 := (HR1.out.get 0 rfl).cell
 have a1 := (HR1.out.get 1 rfl).cell
 clear hb1 HR0
 go_wp2_with fail
 refine (eqPutS_f A2 B2 c2 d2 x2 lo hi lo' hi' _ (shDisk_f2 (HR1.out.get 3 rfl)) (shDisk_f2 (HR1.out.get 2 rfl)) (HR1.out.le 3 rfl) (HR1.out.le 2 rfl) ft2).mono ?_
 rintro e2 w2 ⟨rfl, hb2⟩
 have HR2 := hd_ (HR1.out.below hb2)
 have b2 := (HR2.out.get 0 rfl).cell
 have a2 := (HR2.out.get 1 rfl).cell
 clear hb2 HR1
 go_wp2_with fail
 go_ret
 exact ⟨rfl, HR2.out.1⟩
theorem eqSeat_f (x0 : Int) (x1 : Int)  (lo hi lo' hi' : Nat) (w : World) (h : shSeat.R w lo hi [.int .i64 x0, .int .i64 x1] (x0, x1)) (h' : shSeat.R w lo' hi' [.int .i64 x0, .int .i64 x1] (x0, x1)) (hhi : hi ≤ w.heap.size) (hhi' : hi' ≤ w.heap.size) (hf : shSeat.fit 4294967296 (x0, x1)) :
  Calls Tryz.prog 130 #[.agg #[.int .i64 x0, .int .i64 x1], .agg #[.int .i64 x0, .int .i64 x1]] w fun e w' => e = .returned (.bool true) ∧ Below w.heap.size w w' := by
 rw [shSeat_fit] at hf
 obtain ⟨ft0, ft1⟩ := hf
 have R0 := ((((Stand.nil w).add lo hi (fun W => shSeat.R W lo hi [.int .i64 x0, .int .i64 x1] (x0, x1)) (fun _ _ hk h => shSeat.R_keep h hk) hhi h).add lo' hi' (fun W => shSeat.R W lo' hi' [.int .i64 x0, .int .i64 x1] (x0, x1)) (fun _ _ hk h => shSeat.R_keep h hk) hhi' h').box 88 #[.int .i64 x0, .int .i64 x1]).box 88 #[.int .i64 x0, .int .i64 x1]
 rw [heap_alloc_size1] at R0
 have HR0 := hd_ R0
 clear R0 h h'
 go_enter Tryz.func130, Tryz.ntmps130
 go_wp2_with fail
 go_ret
 exact ⟨rfl, HR0.out.1⟩
theorem eqSeatS_f (A B : Option Addr) (c d : Nat) (xs : List TySeat) (lo hi lo' hi' : Nat) (w : World) (h : (Sh.row 88 shSeat).R w lo hi [.slice A xs.length c] xs) (h' : (Sh.row 88 shSeat).R w lo' hi' [.slice B xs.length d] xs) (hhi : hi ≤ w.heap.size) (hhi' : hi' ≤ w.heap.size) (hf : (Sh.row 88 shSeat).fit 4294967296 xs) :
  Calls Tryz.prog 57 #[.slice A xs.length c, .slice B xs.length d] w fun e w' => e = .returned (.bool true) ∧ Below w.heap.size w w' := by
 have hn := hf.1
 have HA := hd_ h; have HA' := hd_ h'; have HF := hd_ hf.2
 clear h h' hf
 go_enter Tryz.func57, Tryz.ntmps57
 go_wp2_with fail
 go_loopw [5] (fun i wr => ∃ k : Nat, k ≤ xs.length ∧ i = .int .i64 k ∧ Below w.heap.size w wr) (fun i _ => xs.length - (intOf i).toNat)
 case atStart => exact ⟨0, Nat.zero_le _, rfl, Below.refl _ _⟩
 case round =>
  obtain ⟨k, hk, rfl, hb⟩ := hrel
  by_cases hlt : k < xs.length
  ·obtain ⟨-, b, off, rfl, hb1, hb2, e100, e101, hX⟩ := shSeat_at ((Sh.row 88 shSeat).R_below HA.out hb hhi) hlt
   obtain ⟨-, b', off', rfl, hb1', hb2', e100', e101', hX'⟩ := shSeat_at ((Sh.row 88 shSeat).R_below HA'.out hb hhi') hlt
   have HX := hd_ (HF.out _ (getD_in (d := shSeat.d) hlt))
   generalize xs.getD k shSeat.d = X at *
   obtain ⟨x0, x1⟩ := X
   try dsimp only at e100 e101 e100' e101'
   have hsz := hb.size
   have HR := hd_ (shSeat.R_below hX (below_drewN' wr 1) (by omega)); have HR' := hd_ (shSeat.R_below hX' (below_drewN' wr 1) (by omega))
   have HB := hd_ hb
   have HBd := hd_ hb.drew
   clear hb hX hX'
   have hwi : hi ≤ wr.drew.heap.size := (show hi ≤ wr.heap.size by omega)
   have hwi' : hi' ≤ wr.drew.heap.size := (show hi' ≤ wr.heap.size by omega)
   have hbw : b < wr.drew.heap.size := (show b < wr.heap.size by omega)
   have hbw' : b' < wr.drew.heap.size := (show b' < wr.heap.size by omega)
   go_wp2_with fail
   go_region_held3 (fun w' => w'.cell? ⟨b, off + k * 2, none⟩ = some (.int .i64 x0) ∧ w'.cell? ⟨b, off + k * 2 + 1, none⟩ = some (.int .i64 x1) ∧ w'.cell? ⟨b', off' + k * 2, none⟩ = some (.int .i64 x0) ∧ w'.cell? ⟨b', off' + k * 2 + 1, none⟩ = some (.int .i64 x1) ∧ Below w.heap.size w w')
    (first | exact ⟨e100, e101, e100', e101', HB.out⟩ | exact ⟨e100, e101, e100', e101', HBd.out⟩ | exact ⟨(hb5.cell hbw).trans e100, (hb5.cell hbw).trans e101, (hb5.cell hbw').trans e100', (hb5.cell hbw').trans e101', HBd.out.trans (hb5.mono HBd.out.size)⟩)
    (first | (go_at_call 130; (refine (eqSeat_f x0 x1 lo hi lo' hi' wr.drew HR.out HR'.out hwi hwi' HX.out).mono ?_); rintro e5 w5 ⟨rfl, hb5⟩))
   have HB5 := hd_ (HBd.out.trans (hb5.mono HBd.out.size))
   clear hb5 e100 e101 e100' e101'
   go_wp2_with fail
   go_roundw
   case rel => exact ⟨k + 1, by omega, by go_num, HB5.out⟩
   case measure => simp [intOf]; omega
  ·have HB := hd_ hb; clear hb
   go_wp2_with fail
   go_ret
   exact ⟨rfl, HB.out⟩
theorem eqTop_f (x0 : Int) (x1 : Int) (x2 : Int) (x3 : List TySeat) (A3 : Option Addr) (c3 : Nat) (B3 : Option Addr) (d3 : Nat) (lo hi lo' hi' : Nat) (w : World) (h : shTop.R w lo hi [.int .i64 x0, .int .i64 x1, .int .i64 x2, .slice A3 x3.length c3] (x0, x1, x2, x3)) (h' : shTop.R w lo' hi' [.int .i64 x0, .int .i64 x1, .int .i64 x2, .slice B3 x3.length d3] (x0, x1, x2, x3)) (hhi : hi ≤ w.heap.size) (hhi' : hi' ≤ w.heap.size) (hf : shTop.fit 4294967296 (x0, x1, x2, x3)) :
  Calls Tryz.prog 56 #[.agg #[.int .i64 x0, .int .i64 x1, .int .i64 x2, .slice A3 x3.length c3], .agg #[.int .i64 x0, .int .i64 x1, .int .i64 x2, .slice B3 x3.length d3]] w fun e w' => e = .returned (.bool true) ∧ Below w.heap.size w w' := by
 rw [shTop_fit] at hf
 obtain ⟨ft0, ft1, ft2, ft3⟩ := hf
 have R0 := ((((Stand.nil w).add lo hi (fun W => shTop.R W lo hi [.int .i64 x0, .int .i64 x1, .int .i64 x2, .slice A3 x3.length c3] (x0, x1, x2, x3)) (fun _ _ hk h => shTop.R_keep h hk) hhi h).add lo' hi' (fun W => shTop.R W lo' hi' [.int .i64 x0, .int .i64 x1, .int .i64 x2, .slice B3 x3.length d3] (x0, x1, x2, x3)) (fun _ _ hk h => shTop.R_keep h hk) hhi' h').box 42 #[.int .i64 x0, .int .i64 x1, .int .i64 x2, .slice A3 x3.length c3]).box 42 #[.int .i64 x0, .int .i64 x1, .int .i64 x2, .slice B3 x3.length d3]
 rw [heap_alloc_size1] at R0
 have HR0 := hd_ R0
 clear R0 h h'
 go_enter Tryz.func56, Tryz.ntmps56
 go_wp2_with fail
 refine (eqSeatS_f A3 B3 c3 d3 x3 lo hi lo' hi' _ (shTop_f3 (HR0.out.get 3 rfl)) (shTop_f3 (HR0.out.get 2 rfl)) (HR0.out.le 3 rfl) (HR0.out.le 2 rfl) ft3).mono ?_
 rintro e3 w3 ⟨rfl, hb3⟩
 have HR1 := hd_ (HR0.out.below hb3)
 have b3 := (HR1.out.get 0 rfl).cell
 have a3 := (HR1.out.get 1 rfl).cell
 clear hb3 HR0
 go_wp2_with fail
 go_ret
 exact ⟨rfl, HR1.out.1⟩
theorem eqCache_f (x0 : Int) (x1 : List ByteArray) (x2 : List TyPut) (x3 : Int) (x4 : Int) (x5 : Int) (x6 : List TySeat) (x7 : Int) (x8 : Int) (x9 : Int) (x10 : List TySeat) (x11 : List TySeat) (x12 : List Int) (A1 : Option Addr) (c1 : Nat) (A2 : Option Addr) (c2 : Nat) (A6 : Option Addr) (c6 : Nat) (A10 : Option Addr) (c10 : Nat) (A11 : Option Addr) (c11 : Nat) (A12 : Option Addr) (c12 : Nat) (B1 : Option Addr) (d1 : Nat) (B2 : Option Addr) (d2 : Nat) (B6 : Option Addr) (d6 : Nat) (B10 : Option Addr) (d10 : Nat) (B11 : Option Addr) (d11 : Nat) (B12 : Option Addr) (d12 : Nat) (lo hi lo' hi' : Nat) (w : World) (h : shCache.R w lo hi [.int .i64 x0, .slice A1 x1.length c1, .slice A2 x2.length c2, .int .i64 x3, .int .i64 x4, .int .i64 x5, .slice A6 x6.length c6, .int .i64 x7, .int .i64 x8, .int .i64 x9, .slice A10 x10.length c10, .slice A11 x11.length c11, .slice A12 x12.length c12] ((x0, x1, x2), (x3, x4, x5, x6), (x7, x8, x9, x10), x11, x12)) (h' : shCache.R w lo' hi' [.int .i64 x0, .slice B1 x1.length d1, .slice B2 x2.length d2, .int .i64 x3, .int .i64 x4, .int .i64 x5, .slice B6 x6.length d6, .int .i64 x7, .int .i64 x8, .int .i64 x9, .slice B10 x10.length d10, .slice B11 x11.length d11, .slice B12 x12.length d12] ((x0, x1, x2), (x3, x4, x5, x6), (x7, x8, x9, x10), x11, x12)) (hhi : hi ≤ w.heap.size) (hhi' : hi' ≤ w.heap.size) (hf : shCache.fit 4294967296 ((x0, x1, x2), (x3, x4, x5, x6), (x7, x8, x9, x10), x11, x12)) :
  Calls Tryz.prog 14 #[.agg #[.int .i64 x0, .slice A1 x1.length c1, .slice A2 x2.length c2, .int .i64 x3, .int .i64 x4, .int .i64 x5, .slice A6 x6.length c6, .int .i64 x7, .int .i64 x8, .int .i64 x9, .slice A10 x10.length c10, .slice A11 x11.length c11, .slice A12 x12.length c12], .agg #[.int .i64 x0, .slice B1 x1.length d1, .slice B2 x2.length d2, .int .i64 x3, .int .i64 x4, .int .i64 x5, .slice B6 x6.length d6, .int .i64 x7, .int .i64 x8, .int .i64 x9, .slice B10 x10.length d10, .slice B11 x11.length d11, .slice B12 x12.length d12]] w fun e w' => e = .returned (.bool true) ∧ Below w.heap.size w w' := by
 rw [shCache_fit] at hf
 obtain ⟨ft0, ft3, ft7, ft11, ft12⟩ := hf
 have R0 := ((((Stand.nil w).add lo hi (fun W => shCache.R W lo hi [.int .i64 x0, .slice A1 x1.length c1, .slice A2 x2.length c2, .int .i64 x3, .int .i64 x4, .int .i64 x5, .slice A6 x6.length c6, .int .i64 x7, .int .i64 x8, .int .i64 x9, .slice A10 x10.length c10, .slice A11 x11.length c11, .slice A12 x12.length c12] ((x0, x1, x2), (x3, x4, x5, x6), (x7, x8, x9, x10), x11, x12)) (fun _ _ hk h => shCache.R_keep h hk) hhi h).add lo' hi' (fun W => shCache.R W lo' hi' [.int .i64 x0, .slice B1 x1.length d1, .slice B2 x2.length d2, .int .i64 x3, .int .i64 x4, .int .i64 x5, .slice B6 x6.length d6, .int .i64 x7, .int .i64 x8, .int .i64 x9, .slice B10 x10.length d10, .slice B11 x11.length d11, .slice B12 x12.length d12] ((x0, x1, x2), (x3, x4, x5, x6), (x7, x8, x9, x10), x11, x12)) (fun _ _ hk h => shCache.R_keep h hk) hhi' h').box 44 #[.int .i64 x0, .slice A1 x1.length c1, .slice A2 x2.length c2, .int .i64 x3, .int .i64 x4, .int .i64 x5, .slice A6 x6.length c6, .int .i64 x7, .int .i64 x8, .int .i64 x9, .slice A10 x10.length c10, .slice A11 x11.length c11, .slice A12 x12.length c12]).box 44 #[.int .i64 x0, .slice B1 x1.length d1, .slice B2 x2.length d2, .int .i64 x3, .int .i64 x4, .int .i64 x5, .slice B6 x6.length d6, .int .i64 x7, .int .i64 x8, .int .i64 x9, .slice B10 x10.length d10, .slice B11 x11.length d11, .slice B12 x12.length d12]
 rw [heap_alloc_size1] at R0
 have HR0 := hd_ R0
 clear R0 h h'
 go_enter Tryz.func14, Tryz.ntmps14
 go_wp2_with fail
 refine (eqDisk_f x0 x1 x2 A1 c1 A2 c2 B1 d1 B2 d2 lo hi lo' hi' _ (shCache_f0 (HR0.out.get 3 rfl)) (shCache_f0 (HR0.out.get 2 rfl)) (HR0.out.le 3 rfl) (HR0.out.le 2 rfl) ft0).mono ?_
 rintro e0 w0 ⟨rfl, hb0⟩
 have HR1 := hd_ (HR0.out.below hb0)
 have b0 := (HR1.out.get 0 rfl).cell
 have a0 := (HR1.out.get 1 rfl).cell
 clear hb0 HR0
 go_wp2_with fail
 refine (eqTop_f x3 x4 x5 x6 A6 c6 B6 d6 lo hi lo' hi' _ (shCache_f3 (HR1.out.get 3 rfl)) (shCache_f3 (HR1.out.get 2 rfl)) (HR1.out.le 3 rfl) (HR1.out.le 2 rfl) ft3).mono ?_
 rintro e3 w3 ⟨rfl, hb3⟩
 have HR2 := hd_ (HR1.out.below hb3)
 have b3 := (HR2.out.get 0 rfl).cell
 have a3 := (HR2.out.get 1 rfl).cell
 clear hb3 HR1
 go_wp2_with fail
 refine (eqTop_f x7 x8 x9 x10 A10 c10 B10 d10 lo hi lo' hi' _ (shCache_f7 (HR2.out.get 3 rfl)) (shCache_f7 (HR2.out.get 2 rfl)) (HR2.out.le 3 rfl) (HR2.out.le 2 rfl) ft7).mono ?_
 rintro e7 w7 ⟨rfl, hb7⟩
 have HR3 := hd_ (HR2.out.below hb7)
 have b7 := (HR3.out.get 0 rfl).cell
 have a7 := (HR3.out.get 1 rfl).cell
 clear hb7 HR2
 go_wp2_with fail
 refine (eqSeatS_f A11 B11 c11 d11 x11 lo hi lo' hi' _ (shCache_f11 (HR3.out.get 3 rfl)) (shCache_f11 (HR3.out.get 2 rfl)) (HR3.out.le 3 rfl) (HR3.out.le 2 rfl) ft11).mono ?_
 rintro e11 w11 ⟨rfl, hb11⟩
 have HR4 := hd_ (HR3.out.below hb11)
 have b11 := (HR4.out.get 0 rfl).cell
 have a11 := (HR4.out.get 1 rfl).cell
 clear hb11 HR3
 go_wp2_with fail
 refine (eqInt64S_f A12 B12 c12 d12 x12 lo hi lo' hi' _ (shCache_f12 (HR4.out.get 3 rfl)) (shCache_f12 (HR4.out.get 2 rfl)) (HR4.out.le 3 rfl) (HR4.out.le 2 rfl) ft12).mono ?_
 rintro e12 w12 ⟨rfl, hb12⟩
 have HR5 := hd_ (HR4.out.below hb12)
 have b12 := (HR5.out.get 0 rfl).cell
 have a12 := (HR5.out.get 1 rfl).cell
 clear hb12 HR4
 go_wp2_with fail
 go_ret
 exact ⟨rfl, HR5.out.1⟩
theorem eqPage_f (x0 : Bool) (x1 : List ByteArray) (x2 : List ByteArray) (x3 : List Int) (A1 : Option Addr) (c1 : Nat) (A2 : Option Addr) (c2 : Nat) (A3 : Option Addr) (c3 : Nat) (B1 : Option Addr) (d1 : Nat) (B2 : Option Addr) (d2 : Nat) (B3 : Option Addr) (d3 : Nat) (lo hi lo' hi' : Nat) (w : World) (h : shPage.R w lo hi [.bool x0, .slice A1 x1.length c1, .slice A2 x2.length c2, .slice A3 x3.length c3] (x0, x1, x2, x3)) (h' : shPage.R w lo' hi' [.bool x0, .slice B1 x1.length d1, .slice B2 x2.length d2, .slice B3 x3.length d3] (x0, x1, x2, x3)) (hhi : hi ≤ w.heap.size) (hhi' : hi' ≤ w.heap.size) (hf : shPage.fit 4294967296 (x0, x1, x2, x3)) :
  Calls Tryz.prog 183 #[.agg #[.bool x0, .slice A1 x1.length c1, .slice A2 x2.length c2, .slice A3 x3.length c3], .agg #[.bool x0, .slice B1 x1.length d1, .slice B2 x2.length d2, .slice B3 x3.length d3]] w fun e w' => e = .returned (.bool true) ∧ Below w.heap.size w w' := by
 rw [shPage_fit] at hf
 obtain ⟨ft0, ft1, ft2, ft3⟩ := hf
 have R0 := ((((Stand.nil w).add lo hi (fun W => shPage.R W lo hi [.bool x0, .slice A1 x1.length c1, .slice A2 x2.length c2, .slice A3 x3.length c3] (x0, x1, x2, x3)) (fun _ _ hk h => shPage.R_keep h hk) hhi h).add lo' hi' (fun W => shPage.R W lo' hi' [.bool x0, .slice B1 x1.length d1, .slice B2 x2.length d2, .slice B3 x3.length d3] (x0, x1, x2, x3)) (fun _ _ hk h => shPage.R_keep h hk) hhi' h').box 83 #[.bool x0, .slice A1 x1.length c1, .slice A2 x2.length c2, .slice A3 x3.length c3]).box 83 #[.bool x0, .slice B1 x1.length d1, .slice B2 x2.length d2, .slice B3 x3.length d3]
 rw [heap_alloc_size1] at R0
 have HR0 := hd_ R0
 clear R0 h h'
 go_enter Tryz.func183, Tryz.ntmps183
 go_wp2_with fail
 refine (eqStringS_f A1 B1 c1 d1 x1 lo hi lo' hi' _ (shPage_f1 (HR0.out.get 3 rfl)) (shPage_f1 (HR0.out.get 2 rfl)) (HR0.out.le 3 rfl) (HR0.out.le 2 rfl) ft1).mono ?_
 rintro e1 w1 ⟨rfl, hb1⟩
 have HR1 := hd_ (HR0.out.below hb1)
 have b1 := (HR1.out.get 0 rfl).cell
 have a1 := (HR1.out.get 1 rfl).cell
 clear hb1 HR0
 go_wp2_with fail
 refine (eqStringS_f A2 B2 c2 d2 x2 lo hi lo' hi' _ (shPage_f2 (HR1.out.get 3 rfl)) (shPage_f2 (HR1.out.get 2 rfl)) (HR1.out.le 3 rfl) (HR1.out.le 2 rfl) ft2).mono ?_
 rintro e2 w2 ⟨rfl, hb2⟩
 have HR2 := hd_ (HR1.out.below hb2)
 have b2 := (HR2.out.get 0 rfl).cell
 have a2 := (HR2.out.get 1 rfl).cell
 clear hb2 HR1
 go_wp2_with fail
 refine (eqInt64S_f A3 B3 c3 d3 x3 lo hi lo' hi' _ (shPage_f3 (HR2.out.get 3 rfl)) (shPage_f3 (HR2.out.get 2 rfl)) (HR2.out.le 3 rfl) (HR2.out.le 2 rfl) ft3).mono ?_
 rintro e3 w3 ⟨rfl, hb3⟩
 have HR3 := hd_ (HR2.out.below hb3)
 have b3 := (HR3.out.get 0 rfl).cell
 have a3 := (HR3.out.get 1 rfl).cell
 clear hb3 HR2
 go_wp2_with fail
 go_ret
 exact ⟨rfl, HR3.out.1⟩
theorem eqSlot_f (x0 : Int) (x1 : Bool) (x2 : List ByteArray) (x3 : List ByteArray) (x4 : List Int) (A2 : Option Addr) (c2 : Nat) (A3 : Option Addr) (c3 : Nat) (A4 : Option Addr) (c4 : Nat) (B2 : Option Addr) (d2 : Nat) (B3 : Option Addr) (d3 : Nat) (B4 : Option Addr) (d4 : Nat) (lo hi lo' hi' : Nat) (w : World) (h : shSlot.R w lo hi [.int .i64 x0, .bool x1, .slice A2 x2.length c2, .slice A3 x3.length c3, .slice A4 x4.length c4] (x0, (x1, x2, x3, x4))) (h' : shSlot.R w lo' hi' [.int .i64 x0, .bool x1, .slice B2 x2.length d2, .slice B3 x3.length d3, .slice B4 x4.length d4] (x0, (x1, x2, x3, x4))) (hhi : hi ≤ w.heap.size) (hhi' : hi' ≤ w.heap.size) (hf : shSlot.fit 4294967296 (x0, (x1, x2, x3, x4))) :
  Calls Tryz.prog 131 #[.agg #[.int .i64 x0, .bool x1, .slice A2 x2.length c2, .slice A3 x3.length c3, .slice A4 x4.length c4], .agg #[.int .i64 x0, .bool x1, .slice B2 x2.length d2, .slice B3 x3.length d3, .slice B4 x4.length d4]] w fun e w' => e = .returned (.bool true) ∧ Below w.heap.size w w' := by
 rw [shSlot_fit] at hf
 obtain ⟨ft0, ft1⟩ := hf
 have R0 := ((((Stand.nil w).add lo hi (fun W => shSlot.R W lo hi [.int .i64 x0, .bool x1, .slice A2 x2.length c2, .slice A3 x3.length c3, .slice A4 x4.length c4] (x0, (x1, x2, x3, x4))) (fun _ _ hk h => shSlot.R_keep h hk) hhi h).add lo' hi' (fun W => shSlot.R W lo' hi' [.int .i64 x0, .bool x1, .slice B2 x2.length d2, .slice B3 x3.length d3, .slice B4 x4.length d4] (x0, (x1, x2, x3, x4))) (fun _ _ hk h => shSlot.R_keep h hk) hhi' h').box 85 #[.int .i64 x0, .bool x1, .slice A2 x2.length c2, .slice A3 x3.length c3, .slice A4 x4.length c4]).box 85 #[.int .i64 x0, .bool x1, .slice B2 x2.length d2, .slice B3 x3.length d3, .slice B4 x4.length d4]
 rw [heap_alloc_size1] at R0
 have HR0 := hd_ R0
 clear R0 h h'
 go_enter Tryz.func131, Tryz.ntmps131
 go_wp2_with fail
 refine (eqPage_f x1 x2 x3 x4 A2 c2 A3 c3 A4 c4 B2 d2 B3 d3 B4 d4 lo hi lo' hi' _ (shSlot_f1 (HR0.out.get 3 rfl)) (shSlot_f1 (HR0.out.get 2 rfl)) (HR0.out.le 3 rfl) (HR0.out.le 2 rfl) ft1).mono ?_
 rintro e1 w1 ⟨rfl, hb1⟩
 have HR1 := hd_ (HR0.out.below hb1)
 have b1 := (HR1.out.get 0 rfl).cell
 have a1 := (HR1.out.get 1 rfl).cell
 clear hb1 HR0
 go_wp2_with fail
 go_ret
 exact ⟨rfl, HR1.out.1⟩
theorem eqSlotS_f (A B : Option Addr) (c d : Nat) (xs : List TySlot) (lo hi lo' hi' : Nat) (w : World) (h : (Sh.row 85 shSlot).R w lo hi [.slice A xs.length c] xs) (h' : (Sh.row 85 shSlot).R w lo' hi' [.slice B xs.length d] xs) (hhi : hi ≤ w.heap.size) (hhi' : hi' ≤ w.heap.size) (hf : (Sh.row 85 shSlot).fit 4294967296 xs) :
  Calls Tryz.prog 59 #[.slice A xs.length c, .slice B xs.length d] w fun e w' => e = .returned (.bool true) ∧ Below w.heap.size w w' := by
 have hn := hf.1
 have HA := hd_ h; have HA' := hd_ h'; have HF := hd_ hf.2
 clear h h' hf
 go_enter Tryz.func59, Tryz.ntmps59
 go_wp2_with fail
 go_loopw [5] (fun i wr => ∃ k : Nat, k ≤ xs.length ∧ i = .int .i64 k ∧ Below w.heap.size w wr) (fun i _ => xs.length - (intOf i).toNat)
 case atStart => exact ⟨0, Nat.zero_le _, rfl, Below.refl _ _⟩
 case round =>
  obtain ⟨k, hk, rfl, hb⟩ := hrel
  by_cases hlt : k < xs.length
  ·obtain ⟨-, b, off, rfl, hb1, hb2, A2, c2, A3, c3, A4, c4, e100, e101, e102, e103, e104, hX⟩ := shSlot_at ((Sh.row 85 shSlot).R_below HA.out hb hhi) hlt
   obtain ⟨-, b', off', rfl, hb1', hb2', B2, d2, B3, d3, B4, d4, e100', e101', e102', e103', e104', hX'⟩ := shSlot_at ((Sh.row 85 shSlot).R_below HA'.out hb hhi') hlt
   have HX := hd_ (HF.out _ (getD_in (d := shSlot.d) hlt))
   generalize xs.getD k shSlot.d = X at *
   obtain ⟨x0, ⟨x1, x2, x3, x4⟩⟩ := X
   try dsimp only at e100 e101 e102 e103 e104 e100' e101' e102' e103' e104'
   have hsz := hb.size
   have HR := hd_ (shSlot.R_below hX (below_drewN' wr 1) (by omega)); have HR' := hd_ (shSlot.R_below hX' (below_drewN' wr 1) (by omega))
   have HB := hd_ hb
   have HBd := hd_ hb.drew
   clear hb hX hX'
   have hwi : hi ≤ wr.drew.heap.size := (show hi ≤ wr.heap.size by omega)
   have hwi' : hi' ≤ wr.drew.heap.size := (show hi' ≤ wr.heap.size by omega)
   have hbw : b < wr.drew.heap.size := (show b < wr.heap.size by omega)
   have hbw' : b' < wr.drew.heap.size := (show b' < wr.heap.size by omega)
   go_wp2_with fail
   go_region_held3 (fun w' => w'.cell? ⟨b, off + k * 5, none⟩ = some (.int .i64 x0) ∧ w'.cell? ⟨b, off + k * 5 + 1, none⟩ = some (.bool x1) ∧ w'.cell? ⟨b, off + k * 5 + 2, none⟩ = some (.slice A2 x2.length c2) ∧ w'.cell? ⟨b, off + k * 5 + 3, none⟩ = some (.slice A3 x3.length c3) ∧ w'.cell? ⟨b, off + k * 5 + 4, none⟩ = some (.slice A4 x4.length c4) ∧ w'.cell? ⟨b', off' + k * 5, none⟩ = some (.int .i64 x0) ∧ w'.cell? ⟨b', off' + k * 5 + 1, none⟩ = some (.bool x1) ∧ w'.cell? ⟨b', off' + k * 5 + 2, none⟩ = some (.slice B2 x2.length d2) ∧ w'.cell? ⟨b', off' + k * 5 + 3, none⟩ = some (.slice B3 x3.length d3) ∧ w'.cell? ⟨b', off' + k * 5 + 4, none⟩ = some (.slice B4 x4.length d4) ∧ Below w.heap.size w w')
    (first | exact ⟨e100, e101, e102, e103, e104, e100', e101', e102', e103', e104', HB.out⟩ | exact ⟨e100, e101, e102, e103, e104, e100', e101', e102', e103', e104', HBd.out⟩ | exact ⟨(hb5.cell hbw).trans e100, (hb5.cell hbw).trans e101, (hb5.cell hbw).trans e102, (hb5.cell hbw).trans e103, (hb5.cell hbw).trans e104, (hb5.cell hbw').trans e100', (hb5.cell hbw').trans e101', (hb5.cell hbw').trans e102', (hb5.cell hbw').trans e103', (hb5.cell hbw').trans e104', HBd.out.trans (hb5.mono HBd.out.size)⟩)
    (first | (go_at_call 131; (refine (eqSlot_f x0 x1 x2 x3 x4 A2 c2 A3 c3 A4 c4 B2 d2 B3 d3 B4 d4 lo hi lo' hi' wr.drew HR.out HR'.out hwi hwi' HX.out).mono ?_); rintro e5 w5 ⟨rfl, hb5⟩))
   have HB5 := hd_ (HBd.out.trans (hb5.mono HBd.out.size))
   clear hb5 e100 e101 e102 e103 e104 e100' e101' e102' e103' e104'
   go_wp2_with fail
   go_roundw
   case rel => exact ⟨k + 1, by omega, by go_num, HB5.out⟩
   case measure => simp [intOf]; omega
  ·have HB := hd_ hb; clear hb
   go_wp2_with fail
   go_ret
   exact ⟨rfl, HB.out⟩
theorem eqBtree_f (x0 : Int) (x1 : List TySlot) (A1 : Option Addr) (c1 : Nat) (B1 : Option Addr) (d1 : Nat) (lo hi lo' hi' : Nat) (w : World) (h : shBtree.R w lo hi [.int .i64 x0, .slice A1 x1.length c1] (x0, x1)) (h' : shBtree.R w lo' hi' [.int .i64 x0, .slice B1 x1.length d1] (x0, x1)) (hhi : hi ≤ w.heap.size) (hhi' : hi' ≤ w.heap.size) (hf : shBtree.fit 4294967296 (x0, x1)) :
  Calls Tryz.prog 15 #[.agg #[.int .i64 x0, .slice A1 x1.length c1], .agg #[.int .i64 x0, .slice B1 x1.length d1]] w fun e w' => e = .returned (.bool true) ∧ Below w.heap.size w w' := by
 rw [shBtree_fit] at hf
 obtain ⟨ft0, ft1⟩ := hf
 have R0 := ((((Stand.nil w).add lo hi (fun W => shBtree.R W lo hi [.int .i64 x0, .slice A1 x1.length c1] (x0, x1)) (fun _ _ hk h => shBtree.R_keep h hk) hhi h).add lo' hi' (fun W => shBtree.R W lo' hi' [.int .i64 x0, .slice B1 x1.length d1] (x0, x1)) (fun _ _ hk h => shBtree.R_keep h hk) hhi' h').box 50 #[.int .i64 x0, .slice A1 x1.length c1]).box 50 #[.int .i64 x0, .slice B1 x1.length d1]
 rw [heap_alloc_size1] at R0
 have HR0 := hd_ R0
 clear R0 h h'
 go_enter Tryz.func15, Tryz.ntmps15
 go_wp2_with fail
 refine (eqSlotS_f A1 B1 c1 d1 x1 lo hi lo' hi' _ (shBtree_f1 (HR0.out.get 3 rfl)) (shBtree_f1 (HR0.out.get 2 rfl)) (HR0.out.le 3 rfl) (HR0.out.le 2 rfl) ft1).mono ?_
 rintro e1 w1 ⟨rfl, hb1⟩
 have HR1 := hd_ (HR0.out.below hb1)
 have b1 := (HR1.out.get 0 rfl).cell
 have a1 := (HR1.out.get 1 rfl).cell
 clear hb1 HR0
 go_wp2_with fail
 go_ret
 exact ⟨rfl, HR1.out.1⟩
end Go.Proofs.YtnnabkldceklmaaGreatDoor
