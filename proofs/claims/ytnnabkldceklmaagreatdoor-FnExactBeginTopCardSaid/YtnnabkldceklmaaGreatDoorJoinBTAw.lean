/- Put, Disk, Seat, Top, Cache, Page, Slot, Btree: shapes and the laws' walks (held, heldS). Printed by gen_fam.py. -/
import Derived.Test.YtnnabkldceklmaaGreatDoorJoinBTAr
set_option maxHeartbeats 16000000
set_option maxRecDepth 100000
namespace Go.Proofs.YtnnabkldceklmaaGreatDoor
open Go.RowKit
theorem shPut_mark (kn : Nat) (x0 : Int) (x1 : ByteArray) : shPut.mark kn (x0, x1) = (((kn : Nat) : Int), markT ((kn) + 1)) := rfl
theorem heldPutS_f (A : Option Addr) (n c k : Nat) (a : Int) (xs : List TyPut) (lo hi : Nat) (w : World) (h : (Sh.row 138 shPut).R w lo hi [.slice A n c] ((Sh.row 138 shPut).mark k xs)) (hn : n = xs.length) (hhi : hi ≤ w.heap.size) (hf : (Sh.row 138 shPut).fit 4294967296 xs) (ha : a = (k : Int)) (h1 : 1 ≤ k) (h2 : k + (Sh.row 138 shPut).cnt xs ≤ 4294967000) :
  Calls Tryz.prog 135 #[.slice A n c, .int .i64 a] w fun e w' => ∃ r : Int, e = .returned (.int .i64 r) ∧ r = ((k + (Sh.row 138 shPut).cnt xs : Nat) : Int) ∧ Below w.heap.size w w' := by
 subst ha hn
 have H2 := hd_ (show k + cntAll shPut xs ≤ 4294967000 from h2)
 have HA := hd_ h; have hm := hf.1; have HF := hd_ hf.2
 have hk : k ≤ 4294967000 := by omega
 clear h h2 hf
 go_enter Tryz.func135, Tryz.ntmps135
 go_wp2_with fail
 go_loopw [1, 5] (fun s i wr => ∃ (j kn : Nat), j ≤ xs.length ∧ i = .int .i64 j ∧ s = .int .i64 (kn : Int) ∧ 1 ≤ kn ∧ kn ≤ 4294967000 ∧ Hid (kn = k + cntTo shPut j xs) ∧ Below w.heap.size w wr) (fun _ i _ => xs.length - (intOf i).toNat)
 case atStart => exact ⟨0, k, Nat.zero_le _, rfl, rfl, h1, hk, by rw [cntTo_zero]; exact rfl, Below.refl _ _⟩
 case round =>
  obtain ⟨j, kn, hj, rfl, rfl, hk1, hk2, HKN, hb⟩ := hrel
  by_cases hlt : j < xs.length
  ·have HNX := hd_ (cntTo_succ shPut hlt)
   have hroom := cnt_room (s := shPut) hlt H2.out
   obtain ⟨-, b, off, rfl, hb1, hb2, e100, e101, hX⟩ := shPut_at ((Sh.row 138 shPut).R_below HA.out hb hhi) hlt
   rw [show ((Sh.row 138 shPut).mark k xs).getD j shPut.d = shPut.mark (k + cntTo shPut j xs) (xs.getD j shPut.d) from mkAll_getD shPut k hlt, ← HKN.out] at e100 e101 hX
   rw [← HKN.out] at hroom
   have hx := HF.out _ (getD_in (d := shPut.d) hlt)
   generalize xs.getD j shPut.d = X at *
   obtain ⟨x0, x1⟩ := X
   rw [shPut_cnt] at hroom
   obtain ⟨ft0, ft1⟩ := hx
   rw [shPut_mark] at e100 e101 hX
   try dsimp only at e100 e101 hX
   have R0 := (Stand.nil wr)
   have HR0 := hd_ R0; have HBb := hd_ hb; have hsz := hb.size; have hbw0 : b < wr.heap.size := by omega
   have hi0 : (0 : Int) ≤ (j : Int) := by omega
   have hi1 : (j : Int) < (xs.length : Int) := by omega
   clear R0 hb hX
   have e100 : _ = some (Value.int .i64 ((kn : Int))) := e100
   go_wp2_with fail
   have hd0 : b < wr.drew.heap.size := (show b < wr.heap.size from hbw0)
   go_region_held3 (fun w' => w'.cell? ⟨b, off + j * 2 + 1, none⟩ = some (.string (markT (kn + 1))))
    (first | exact e101 | exact (hbe1.cell hd0).trans e101)
    (first | (go_at_call 184; (refine (markText_f _ (kn + 1) wr.drew (by omega) (by omega) (by omega)).mono ?_); rintro y1 w1 ⟨rfl, hbe1⟩))
   have HR1 := hd_ (HR0.out.drew.below hbe1)
   have hbw1 : b < w1.heap.size := Nat.lt_of_lt_of_le hd0 hbe1.size
   clear hbe1 HR0 hd0
   have HFIN := hd_ (show kn + 1 + 1 = k + cntTo shPut (j + 1) xs by have h1 := HNX.out; have h2 := HKN.out; rw [shPut_cnt] at h1; skip; omega)
   go_wp2_with fail
   go_roundw
   case rel => exact ⟨j + 1, kn + 1 + 1, by omega, by go_num, by go_num, by omega, by omega, HFIN.out, HBb.out.trans (HR1.out.1.mono hsz)⟩
   case measure => simp [intOf]; omega
  ·obtain rfl : j = xs.length := by omega
   have HBb := hd_ hb; have hkn := HKN.out; rw [cntTo_all] at hkn; have HKF := hd_ hkn
   clear hb hkn
   go_wp2_with fail
   go_ret
   exact ⟨_, rfl, by rw [HKF.out]; rfl, HBb.out⟩
theorem heldDisk_f (x0 : Int) (x1 : List ByteArray) (x2 : List TyPut) (A1 : Option Addr) (c1 : Nat) (A2 : Option Addr) (c2 : Nat) (n1 n2 k : Nat) (a : Int) (lo hi : Nat) (w : World) (h : shDisk.R w lo hi [.int .i64 x0, .slice A1 n1 c1, .slice A2 n2 c2] (shDisk.top k (x0, x1, x2))) (hn1 : n1 = x1.length) (hn2 : n2 = x2.length) (hhi : hi ≤ w.heap.size) (hf : shDisk.fit 4294967296 (x0, x1, x2)) (ha : a = (k : Int)) (h1 : 1 ≤ k) (h2 : k + shDisk.cntTop (x0, x1, x2) ≤ 4294967000) :
  Calls Tryz.prog 65 #[.agg #[.int .i64 x0, .slice A1 n1 c1, .slice A2 n2 c2], .int .i64 a] w fun e w' => ∃ r : Int, e = .returned (.int .i64 r) ∧ r = ((k + shDisk.cntTop (x0, x1, x2) : Nat) : Int) ∧ Below w.heap.size w w' := by
 subst ha hn1 hn2
 rw [shDisk_fit] at hf
 obtain ⟨ft0, ft1, ft2⟩ := hf
 rw [shDisk_top] at h2 ⊢
 have e1 : ((Sh.row 9 shS).mark ((k) + 0) x1).length = x1.length := mkAll_len _ _ _
 have e2 : ((Sh.row 138 shPut).mark (((k) + 0) + (Sh.row 9 shS).cnt x1) x2).length = x2.length := mkAll_len _ _ _
 have key : shDisk.R w lo hi [.int .i64 x0, .slice A1 ((Sh.row 9 shS).mark ((k) + 0) x1).length c1, .slice A2 ((Sh.row 138 shPut).mark (((k) + 0) + (Sh.row 9 shS).cnt x1) x2).length c2] (x0, ((Sh.row 9 shS).mark ((k) + 0) x1), ((Sh.row 138 shPut).mark (((k) + 0) + (Sh.row 9 shS).cnt x1) x2)) := by simp only [e1, e2]; exact h
 have g1 := shDisk_f1 key
 simp only [e1] at g1
 have g2 := shDisk_f2 key
 simp only [e2] at g2
 have g1' : (Sh.row 9 shS).R w lo hi [.slice A1 x1.length c1] ((Sh.row 9 shS).mark (k) x1) := by
  exact g1
 obtain ⟨kn1, HQ1⟩ : ∃ kq : Nat, kq = k + (Sh.row 9 shS).cnt x1 := ⟨_, rfl⟩
 have g2' : (Sh.row 138 shPut).R w lo hi [.slice A2 x2.length c2] ((Sh.row 138 shPut).mark (kn1) x2) := by
  rw [HQ1]
  exact g2
 obtain ⟨kn2, HQ2⟩ : ∃ kq : Nat, kq = kn1 + (Sh.row 138 shPut).cnt x2 := ⟨_, rfl⟩
 have R0 := (((Stand.nil w).add lo hi (fun W => (Sh.row 9 shS).R W lo hi [.slice A1 x1.length c1] ((Sh.row 9 shS).mark (k) x1)) (fun _ _ hk h => (Sh.row 9 shS).R_keep h hk) hhi g1').add lo hi (fun W => (Sh.row 138 shPut).R W lo hi [.slice A2 x2.length c2] ((Sh.row 138 shPut).mark (kn1) x2)) (fun _ _ hk h => (Sh.row 138 shPut).R_keep h hk) hhi g2').box 39 #[.int .i64 x0, .slice A1 x1.length c1, .slice A2 x2.length c2]
 have HR0 := hd_ R0
 have HEND := hd_ (show kn2 = k + (0 + ((Sh.row 9 shS).cnt x1 + ((Sh.row 138 shPut).cnt x2))) by omega)
 have hk1 : 1 ≤ kn1 := by omega
 have hl1 : ¬ ((kn1 : Int) < 0) := by omega
 have hm1 : kn1 + (0 + (Sh.row 138 shPut).cnt x2) ≤ 4294967000 := by omega
 have hk2 : 1 ≤ kn2 := by omega
 have hl2 : ¬ ((kn2 : Int) < 0) := by omega
 have hm2 : kn2 + (0) ≤ 4294967000 := by omega
 have HK1 := hd_ HQ1
 have HK2 := hd_ HQ2
 clear R0 h key g1 g1' HQ1 g2 g2' HQ2
 go_enter Tryz.func65, Tryz.ntmps65
 go_wp2_with fail
 refine (heldStringS_f A1 x1.length c1 (k) _ x1 lo hi _ (HR0.out.get 2 rfl) rfl (HR0.out.le 2 rfl) ft1 (by omega) (by omega) (by omega)).mono ?_
 rintro e1 w1 ⟨r1, rfl, hr1, hb1⟩
 obtain rfl : r1 = (kn1 : Int) := by rw [hr1, HK1.out]
 have HR1 := hd_ (HR0.out.below hb1)
 have f1 := (HR1.out.get 0 rfl).cell
 clear hr1 hb1 HR0
 go_wp2_with fail
 refine (heldPutS_f A2 x2.length c2 (kn1) _ x2 lo hi _ (HR1.out.get 1 rfl) rfl (HR1.out.le 1 rfl) ft2 (by omega) (by omega) (by omega)).mono ?_
 rintro e2 w2 ⟨r2, rfl, hr2, hb2⟩
 obtain rfl : r2 = (kn2 : Int) := by rw [hr2, HK2.out]
 have HR2 := hd_ (HR1.out.below hb2)
 have f2 := (HR2.out.get 0 rfl).cell
 clear hr2 hb2 HR1 f1
 go_wp2_with fail
 go_ret
 exact ⟨_, rfl, by rw [HEND.out], HR2.out.1⟩
theorem shSeat_mark (kn : Nat) (x0 : Int) (x1 : Int) : shSeat.mark kn (x0, x1) = (((kn : Nat) : Int), (((kn) + 1 : Nat) : Int)) := rfl
theorem heldSeatS_f (A : Option Addr) (n c k : Nat) (a : Int) (xs : List TySeat) (lo hi : Nat) (w : World) (h : (Sh.row 88 shSeat).R w lo hi [.slice A n c] ((Sh.row 88 shSeat).mark k xs)) (hn : n = xs.length) (hhi : hi ≤ w.heap.size) (hf : (Sh.row 88 shSeat).fit 4294967296 xs) (ha : a = (k : Int)) (h1 : 1 ≤ k) (h2 : k + (Sh.row 88 shSeat).cnt xs ≤ 4294967000) :
  Calls Tryz.prog 67 #[.slice A n c, .int .i64 a] w fun e w' => ∃ r : Int, e = .returned (.int .i64 r) ∧ r = ((k + (Sh.row 88 shSeat).cnt xs : Nat) : Int) ∧ Below w.heap.size w w' := by
 subst ha hn
 have H2 := hd_ (show k + cntAll shSeat xs ≤ 4294967000 from h2)
 have HA := hd_ h; have hm := hf.1; have HF := hd_ hf.2
 have hk : k ≤ 4294967000 := by omega
 clear h h2 hf
 go_enter Tryz.func67, Tryz.ntmps67
 go_wp2_with fail
 go_loopw [1, 5] (fun s i wr => ∃ (j kn : Nat), j ≤ xs.length ∧ i = .int .i64 j ∧ s = .int .i64 (kn : Int) ∧ 1 ≤ kn ∧ kn ≤ 4294967000 ∧ Hid (kn = k + cntTo shSeat j xs) ∧ Below w.heap.size w wr) (fun _ i _ => xs.length - (intOf i).toNat)
 case atStart => exact ⟨0, k, Nat.zero_le _, rfl, rfl, h1, hk, by rw [cntTo_zero]; exact rfl, Below.refl _ _⟩
 case round =>
  obtain ⟨j, kn, hj, rfl, rfl, hk1, hk2, HKN, hb⟩ := hrel
  by_cases hlt : j < xs.length
  ·have HNX := hd_ (cntTo_succ shSeat hlt)
   have hroom := cnt_room (s := shSeat) hlt H2.out
   obtain ⟨-, b, off, rfl, hb1, hb2, e100, e101, hX⟩ := shSeat_at ((Sh.row 88 shSeat).R_below HA.out hb hhi) hlt
   rw [show ((Sh.row 88 shSeat).mark k xs).getD j shSeat.d = shSeat.mark (k + cntTo shSeat j xs) (xs.getD j shSeat.d) from mkAll_getD shSeat k hlt, ← HKN.out] at e100 e101 hX
   rw [← HKN.out] at hroom
   have hx := HF.out _ (getD_in (d := shSeat.d) hlt)
   generalize xs.getD j shSeat.d = X at *
   obtain ⟨x0, x1⟩ := X
   rw [shSeat_cnt] at hroom
   obtain ⟨ft0, ft1⟩ := hx
   rw [shSeat_mark] at e100 e101 hX
   try dsimp only at e100 e101 hX
   have R0 := (Stand.nil wr)
   have HR0 := hd_ R0; have HBb := hd_ hb; have hsz := hb.size; have hbw0 : b < wr.heap.size := by omega
   have hi0 : (0 : Int) ≤ (j : Int) := by omega
   have hi1 : (j : Int) < (xs.length : Int) := by omega
   clear R0 hb hX
   have e100 : _ = some (Value.int .i64 ((kn : Int))) := e100
   have e101 : _ = some (Value.int .i64 ((kn : Int) + 1)) := e101
   have HFIN := hd_ (show kn + 1 + 1 = k + cntTo shSeat (j + 1) xs by have h1 := HNX.out; have h2 := HKN.out; rw [shSeat_cnt] at h1; skip; omega)
   go_wp2_with fail
   go_roundw
   case rel => exact ⟨j + 1, kn + 1 + 1, by omega, by go_num, by go_num, by omega, by omega, HFIN.out, HBb.out.trans (HR0.out.1.mono hsz)⟩
   case measure => simp [intOf]; omega
  ·obtain rfl : j = xs.length := by omega
   have HBb := hd_ hb; have hkn := HKN.out; rw [cntTo_all] at hkn; have HKF := hd_ hkn
   clear hb hkn
   go_wp2_with fail
   go_ret
   exact ⟨_, rfl, by rw [HKF.out]; rfl, HBb.out⟩
theorem heldTop_f (x0 : Int) (x1 : Int) (x2 : Int) (x3 : List TySeat) (A3 : Option Addr) (c3 : Nat) (n3 k : Nat) (a : Int) (lo hi : Nat) (w : World) (h : shTop.R w lo hi [.int .i64 x0, .int .i64 x1, .int .i64 x2, .slice A3 n3 c3] (shTop.top k (x0, x1, x2, x3))) (hn3 : n3 = x3.length) (hhi : hi ≤ w.heap.size) (hf : shTop.fit 4294967296 (x0, x1, x2, x3)) (ha : a = (k : Int)) (h1 : 1 ≤ k) (h2 : k + shTop.cntTop (x0, x1, x2, x3) ≤ 4294967000) :
  Calls Tryz.prog 66 #[.agg #[.int .i64 x0, .int .i64 x1, .int .i64 x2, .slice A3 n3 c3], .int .i64 a] w fun e w' => ∃ r : Int, e = .returned (.int .i64 r) ∧ r = ((k + shTop.cntTop (x0, x1, x2, x3) : Nat) : Int) ∧ Below w.heap.size w w' := by
 subst ha hn3
 rw [shTop_fit] at hf
 obtain ⟨ft0, ft1, ft2, ft3⟩ := hf
 rw [shTop_top] at h2 ⊢
 have e3 : ((Sh.row 88 shSeat).mark ((((k) + 0) + 0) + 0) x3).length = x3.length := mkAll_len _ _ _
 have key : shTop.R w lo hi [.int .i64 x0, .int .i64 x1, .int .i64 x2, .slice A3 ((Sh.row 88 shSeat).mark ((((k) + 0) + 0) + 0) x3).length c3] (x0, x1, x2, ((Sh.row 88 shSeat).mark ((((k) + 0) + 0) + 0) x3)) := by simp only [e3]; exact h
 have g3 := shTop_f3 key
 simp only [e3] at g3
 have g3' : (Sh.row 88 shSeat).R w lo hi [.slice A3 x3.length c3] ((Sh.row 88 shSeat).mark (k) x3) := by
  exact g3
 obtain ⟨kn3, HQ3⟩ : ∃ kq : Nat, kq = k + (Sh.row 88 shSeat).cnt x3 := ⟨_, rfl⟩
 have R0 := ((Stand.nil w).add lo hi (fun W => (Sh.row 88 shSeat).R W lo hi [.slice A3 x3.length c3] ((Sh.row 88 shSeat).mark (k) x3)) (fun _ _ hk h => (Sh.row 88 shSeat).R_keep h hk) hhi g3').box 42 #[.int .i64 x0, .int .i64 x1, .int .i64 x2, .slice A3 x3.length c3]
 have HR0 := hd_ R0
 have HEND := hd_ (show kn3 = k + (0 + (0 + (0 + ((Sh.row 88 shSeat).cnt x3)))) by omega)
 have hk3 : 1 ≤ kn3 := by omega
 have hl3 : ¬ ((kn3 : Int) < 0) := by omega
 have hm3 : kn3 + (0) ≤ 4294967000 := by omega
 have HK3 := hd_ HQ3
 clear R0 h key g3 g3' HQ3
 go_enter Tryz.func66, Tryz.ntmps66
 go_wp2_with fail
 refine (heldSeatS_f A3 x3.length c3 (k) _ x3 lo hi _ (HR0.out.get 1 rfl) rfl (HR0.out.le 1 rfl) ft3 (by omega) (by omega) (by omega)).mono ?_
 rintro e1 w1 ⟨r3, rfl, hr3, hb1⟩
 obtain rfl : r3 = (kn3 : Int) := by rw [hr3, HK3.out]
 have HR1 := hd_ (HR0.out.below hb1)
 have f1 := (HR1.out.get 0 rfl).cell
 clear hr3 hb1 HR0
 go_wp2_with fail
 go_ret
 exact ⟨_, rfl, by rw [HEND.out], HR1.out.1⟩
theorem heldCache_f (x0 : Int) (x1 : List ByteArray) (x2 : List TyPut) (x3 : Int) (x4 : Int) (x5 : Int) (x6 : List TySeat) (x7 : Int) (x8 : Int) (x9 : Int) (x10 : List TySeat) (x11 : List TySeat) (x12 : List Int) (A1 : Option Addr) (c1 : Nat) (A2 : Option Addr) (c2 : Nat) (A6 : Option Addr) (c6 : Nat) (A10 : Option Addr) (c10 : Nat) (A11 : Option Addr) (c11 : Nat) (A12 : Option Addr) (c12 : Nat) (n1 n2 n6 n10 n11 n12 k : Nat) (a : Int) (lo hi : Nat) (w : World) (h : shCache.R w lo hi [.int .i64 x0, .slice A1 n1 c1, .slice A2 n2 c2, .int .i64 x3, .int .i64 x4, .int .i64 x5, .slice A6 n6 c6, .int .i64 x7, .int .i64 x8, .int .i64 x9, .slice A10 n10 c10, .slice A11 n11 c11, .slice A12 n12 c12] (shCache.top k ((x0, x1, x2), (x3, x4, x5, x6), (x7, x8, x9, x10), x11, x12))) (hn1 : n1 = x1.length) (hn2 : n2 = x2.length) (hn6 : n6 = x6.length) (hn10 : n10 = x10.length) (hn11 : n11 = x11.length) (hn12 : n12 = x12.length) (hhi : hi ≤ w.heap.size) (hf : shCache.fit 4294967296 ((x0, x1, x2), (x3, x4, x5, x6), (x7, x8, x9, x10), x11, x12)) (ha : a = (k : Int)) (h1 : 1 ≤ k) (h2 : k + shCache.cntTop ((x0, x1, x2), (x3, x4, x5, x6), (x7, x8, x9, x10), x11, x12) ≤ 4294967000) :
  Calls Tryz.prog 18 #[.agg #[.int .i64 x0, .slice A1 n1 c1, .slice A2 n2 c2, .int .i64 x3, .int .i64 x4, .int .i64 x5, .slice A6 n6 c6, .int .i64 x7, .int .i64 x8, .int .i64 x9, .slice A10 n10 c10, .slice A11 n11 c11, .slice A12 n12 c12], .int .i64 a] w fun e w' => ∃ r : Int, e = .returned (.int .i64 r) ∧ r = ((k + shCache.cntTop ((x0, x1, x2), (x3, x4, x5, x6), (x7, x8, x9, x10), x11, x12) : Nat) : Int) ∧ Below w.heap.size w w' := by
 subst ha hn1 hn2 hn6 hn10 hn11 hn12
 rw [shCache_fit] at hf
 obtain ⟨ft0, ft3, ft7, ft11, ft12⟩ := hf
 rw [shCache_top] at h2 ⊢
 have e1 : ((Sh.row 9 shS).mark ((k) + 0) x1).length = x1.length := mkAll_len _ _ _
 have e2 : ((Sh.row 138 shPut).mark (((k) + 0) + (Sh.row 9 shS).cnt x1) x2).length = x2.length := mkAll_len _ _ _
 have e6 : ((Sh.row 88 shSeat).mark (((((k) + shDisk.cntTop (x0, x1, x2)) + 0) + 0) + 0) x6).length = x6.length := mkAll_len _ _ _
 have e10 : ((Sh.row 88 shSeat).mark ((((((k) + shDisk.cntTop (x0, x1, x2)) + shTop.cntTop (x3, x4, x5, x6)) + 0) + 0) + 0) x10).length = x10.length := mkAll_len _ _ _
 have e11 : ((Sh.row 88 shSeat).mark ((((k) + shDisk.cntTop (x0, x1, x2)) + shTop.cntTop (x3, x4, x5, x6)) + shTop.cntTop (x7, x8, x9, x10)) x11).length = x11.length := mkAll_len _ _ _
 have e12 : ((Sh.row 2 shI).mark (((((k) + shDisk.cntTop (x0, x1, x2)) + shTop.cntTop (x3, x4, x5, x6)) + shTop.cntTop (x7, x8, x9, x10)) + (Sh.row 88 shSeat).cnt x11) x12).length = x12.length := mkAll_len _ _ _
 have key : shCache.R w lo hi [.int .i64 x0, .slice A1 ((Sh.row 9 shS).mark ((k) + 0) x1).length c1, .slice A2 ((Sh.row 138 shPut).mark (((k) + 0) + (Sh.row 9 shS).cnt x1) x2).length c2, .int .i64 x3, .int .i64 x4, .int .i64 x5, .slice A6 ((Sh.row 88 shSeat).mark (((((k) + shDisk.cntTop (x0, x1, x2)) + 0) + 0) + 0) x6).length c6, .int .i64 x7, .int .i64 x8, .int .i64 x9, .slice A10 ((Sh.row 88 shSeat).mark ((((((k) + shDisk.cntTop (x0, x1, x2)) + shTop.cntTop (x3, x4, x5, x6)) + 0) + 0) + 0) x10).length c10, .slice A11 ((Sh.row 88 shSeat).mark ((((k) + shDisk.cntTop (x0, x1, x2)) + shTop.cntTop (x3, x4, x5, x6)) + shTop.cntTop (x7, x8, x9, x10)) x11).length c11, .slice A12 ((Sh.row 2 shI).mark (((((k) + shDisk.cntTop (x0, x1, x2)) + shTop.cntTop (x3, x4, x5, x6)) + shTop.cntTop (x7, x8, x9, x10)) + (Sh.row 88 shSeat).cnt x11) x12).length c12] ((x0, ((Sh.row 9 shS).mark ((k) + 0) x1), ((Sh.row 138 shPut).mark (((k) + 0) + (Sh.row 9 shS).cnt x1) x2)), (x3, x4, x5, ((Sh.row 88 shSeat).mark (((((k) + shDisk.cntTop (x0, x1, x2)) + 0) + 0) + 0) x6)), (x7, x8, x9, ((Sh.row 88 shSeat).mark ((((((k) + shDisk.cntTop (x0, x1, x2)) + shTop.cntTop (x3, x4, x5, x6)) + 0) + 0) + 0) x10)), ((Sh.row 88 shSeat).mark ((((k) + shDisk.cntTop (x0, x1, x2)) + shTop.cntTop (x3, x4, x5, x6)) + shTop.cntTop (x7, x8, x9, x10)) x11), ((Sh.row 2 shI).mark (((((k) + shDisk.cntTop (x0, x1, x2)) + shTop.cntTop (x3, x4, x5, x6)) + shTop.cntTop (x7, x8, x9, x10)) + (Sh.row 88 shSeat).cnt x11) x12)) := by simp only [e1, e2, e6, e10, e11, e12]; exact h
 have g0 := shCache_f0 key
 simp only [e1, e2] at g0
 have g3 := shCache_f3 key
 simp only [e6] at g3
 have g7 := shCache_f7 key
 simp only [e10] at g7
 have g11 := shCache_f11 key
 simp only [e11] at g11
 have g12 := shCache_f12 key
 simp only [e12] at g12
 have g0' : (shDisk).R w lo hi [.int .i64 x0, .slice A1 x1.length c1, .slice A2 x2.length c2] (shDisk.top (k) (x0, x1, x2)) := by
  exact g0
 obtain ⟨kn0, HQ0⟩ : ∃ kq : Nat, kq = k + (shDisk).cntTop (x0, x1, x2) := ⟨_, rfl⟩
 have g3' : (shTop).R w lo hi [.int .i64 x3, .int .i64 x4, .int .i64 x5, .slice A6 x6.length c6] (shTop.top (kn0) (x3, x4, x5, x6)) := by
  rw [HQ0]
  exact g3
 obtain ⟨kn3, HQ3⟩ : ∃ kq : Nat, kq = kn0 + (shTop).cntTop (x3, x4, x5, x6) := ⟨_, rfl⟩
 have g7' : (shTop).R w lo hi [.int .i64 x7, .int .i64 x8, .int .i64 x9, .slice A10 x10.length c10] (shTop.top (kn3) (x7, x8, x9, x10)) := by
  rw [HQ3, HQ0]
  exact g7
 obtain ⟨kn7, HQ7⟩ : ∃ kq : Nat, kq = kn3 + (shTop).cntTop (x7, x8, x9, x10) := ⟨_, rfl⟩
 have g11' : (Sh.row 88 shSeat).R w lo hi [.slice A11 x11.length c11] ((Sh.row 88 shSeat).mark (kn7) x11) := by
  rw [HQ7, HQ3, HQ0]
  exact g11
 obtain ⟨kn11, HQ11⟩ : ∃ kq : Nat, kq = kn7 + (Sh.row 88 shSeat).cnt x11 := ⟨_, rfl⟩
 have g12' : (Sh.row 2 shI).R w lo hi [.slice A12 x12.length c12] ((Sh.row 2 shI).mark (kn11) x12) := by
  rw [HQ11, HQ7, HQ3, HQ0]
  exact g12
 obtain ⟨kn12, HQ12⟩ : ∃ kq : Nat, kq = kn11 + (Sh.row 2 shI).cnt x12 := ⟨_, rfl⟩
 have R0 := ((((((Stand.nil w).add lo hi (fun W => (shDisk).R W lo hi [.int .i64 x0, .slice A1 x1.length c1, .slice A2 x2.length c2] (shDisk.top (k) (x0, x1, x2))) (fun _ _ hk h => (shDisk).R_keep h hk) hhi g0').add lo hi (fun W => (shTop).R W lo hi [.int .i64 x3, .int .i64 x4, .int .i64 x5, .slice A6 x6.length c6] (shTop.top (kn0) (x3, x4, x5, x6))) (fun _ _ hk h => (shTop).R_keep h hk) hhi g3').add lo hi (fun W => (shTop).R W lo hi [.int .i64 x7, .int .i64 x8, .int .i64 x9, .slice A10 x10.length c10] (shTop.top (kn3) (x7, x8, x9, x10))) (fun _ _ hk h => (shTop).R_keep h hk) hhi g7').add lo hi (fun W => (Sh.row 88 shSeat).R W lo hi [.slice A11 x11.length c11] ((Sh.row 88 shSeat).mark (kn7) x11)) (fun _ _ hk h => (Sh.row 88 shSeat).R_keep h hk) hhi g11').add lo hi (fun W => (Sh.row 2 shI).R W lo hi [.slice A12 x12.length c12] ((Sh.row 2 shI).mark (kn11) x12)) (fun _ _ hk h => (Sh.row 2 shI).R_keep h hk) hhi g12').box 44 #[.int .i64 x0, .slice A1 x1.length c1, .slice A2 x2.length c2, .int .i64 x3, .int .i64 x4, .int .i64 x5, .slice A6 x6.length c6, .int .i64 x7, .int .i64 x8, .int .i64 x9, .slice A10 x10.length c10, .slice A11 x11.length c11, .slice A12 x12.length c12]
 have HR0 := hd_ R0
 have HEND := hd_ (show kn12 = k + ((shDisk).cntTop (x0, x1, x2) + ((shTop).cntTop (x3, x4, x5, x6) + ((shTop).cntTop (x7, x8, x9, x10) + ((Sh.row 88 shSeat).cnt x11 + ((Sh.row 2 shI).cnt x12))))) by omega)
 have hk0 : 1 ≤ kn0 := by omega
 have hl0 : ¬ ((kn0 : Int) < 0) := by omega
 have hm0 : kn0 + (0 + (shTop).cntTop (x3, x4, x5, x6) + (shTop).cntTop (x7, x8, x9, x10) + (Sh.row 88 shSeat).cnt x11 + (Sh.row 2 shI).cnt x12) ≤ 4294967000 := by omega
 have hk3 : 1 ≤ kn3 := by omega
 have hl3 : ¬ ((kn3 : Int) < 0) := by omega
 have hm3 : kn3 + (0 + (shTop).cntTop (x7, x8, x9, x10) + (Sh.row 88 shSeat).cnt x11 + (Sh.row 2 shI).cnt x12) ≤ 4294967000 := by omega
 have hk7 : 1 ≤ kn7 := by omega
 have hl7 : ¬ ((kn7 : Int) < 0) := by omega
 have hm7 : kn7 + (0 + (Sh.row 88 shSeat).cnt x11 + (Sh.row 2 shI).cnt x12) ≤ 4294967000 := by omega
 have hk11 : 1 ≤ kn11 := by omega
 have hl11 : ¬ ((kn11 : Int) < 0) := by omega
 have hm11 : kn11 + (0 + (Sh.row 2 shI).cnt x12) ≤ 4294967000 := by omega
 have hk12 : 1 ≤ kn12 := by omega
 have hl12 : ¬ ((kn12 : Int) < 0) := by omega
 have hm12 : kn12 + (0) ≤ 4294967000 := by omega
 have HK0 := hd_ HQ0
 have HK3 := hd_ HQ3
 have HK7 := hd_ HQ7
 have HK11 := hd_ HQ11
 have HK12 := hd_ HQ12
 clear R0 h key g0 g0' HQ0 g3 g3' HQ3 g7 g7' HQ7 g11 g11' HQ11 g12 g12' HQ12
 go_enter Tryz.func18, Tryz.ntmps18
 go_wp2_with fail
 refine (heldDisk_f x0 x1 x2 A1 c1 A2 c2 x1.length x2.length (k) _ lo hi _ (HR0.out.get 5 rfl) rfl rfl (HR0.out.le 5 rfl) ft0 (by omega) (by omega) (by omega)).mono ?_
 rintro e1 w1 ⟨r0, rfl, hr0, hb1⟩
 obtain rfl : r0 = (kn0 : Int) := by rw [hr0, HK0.out]
 have HR1 := hd_ (HR0.out.below hb1)
 have f1 := (HR1.out.get 0 rfl).cell
 clear hr0 hb1 HR0
 go_wp2_with fail
 refine (heldTop_f x3 x4 x5 x6 A6 c6 x6.length (kn0) _ lo hi _ (HR1.out.get 4 rfl) rfl (HR1.out.le 4 rfl) ft3 (by omega) (by omega) (by omega)).mono ?_
 rintro e2 w2 ⟨r3, rfl, hr3, hb2⟩
 obtain rfl : r3 = (kn3 : Int) := by rw [hr3, HK3.out]
 have HR2 := hd_ (HR1.out.below hb2)
 have f2 := (HR2.out.get 0 rfl).cell
 clear hr3 hb2 HR1 f1
 go_wp2_with fail
 refine (heldTop_f x7 x8 x9 x10 A10 c10 x10.length (kn3) _ lo hi _ (HR2.out.get 3 rfl) rfl (HR2.out.le 3 rfl) ft7 (by omega) (by omega) (by omega)).mono ?_
 rintro e3 w3 ⟨r7, rfl, hr7, hb3⟩
 obtain rfl : r7 = (kn7 : Int) := by rw [hr7, HK7.out]
 have HR3 := hd_ (HR2.out.below hb3)
 have f3 := (HR3.out.get 0 rfl).cell
 clear hr7 hb3 HR2 f2
 go_wp2_with fail
 refine (heldSeatS_f A11 x11.length c11 (kn7) _ x11 lo hi _ (HR3.out.get 2 rfl) rfl (HR3.out.le 2 rfl) ft11 (by omega) (by omega) (by omega)).mono ?_
 rintro e4 w4 ⟨r11, rfl, hr11, hb4⟩
 obtain rfl : r11 = (kn11 : Int) := by rw [hr11, HK11.out]
 have HR4 := hd_ (HR3.out.below hb4)
 have f4 := (HR4.out.get 0 rfl).cell
 clear hr11 hb4 HR3 f3
 go_wp2_with fail
 refine (heldInt64S_f A12 x12.length c12 (kn11) _ x12 lo hi _ (HR4.out.get 1 rfl) rfl (HR4.out.le 1 rfl) ft12 (by omega) (by omega) (by omega)).mono ?_
 rintro e5 w5 ⟨r12, rfl, hr12, hb5⟩
 obtain rfl : r12 = (kn12 : Int) := by rw [hr12, HK12.out]
 have HR5 := hd_ (HR4.out.below hb5)
 have f5 := (HR5.out.get 0 rfl).cell
 clear hr12 hb5 HR4 f4
 go_wp2_with fail
 go_ret
 exact ⟨_, rfl, by rw [HEND.out], HR5.out.1⟩
end Go.Proofs.YtnnabkldceklmaaGreatDoor
