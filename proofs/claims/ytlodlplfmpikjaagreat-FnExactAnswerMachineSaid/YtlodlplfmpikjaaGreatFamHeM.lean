/- Machine: shapes and the laws' walks (heldS, held). Printed by gen_fam.py. -/
import Derived.Test.YtlodlplfmpikjaaGreatGro
import Derived.Test.YtlodlplfmpikjaaGreatFamShM
import Derived.Test.YtlodlplfmpikjaaGreatFamHe
namespace Go.Proofs.YtlodlplfmpikjaaGreat
open Go.RowKit

set_option maxHeartbeats 4000000 in
set_option maxRecDepth 100000 in
theorem heldMachine_f (x0 : Int) (x1 : Int) (x2 : List ByteArray) (x3 : List TyRef) (x4 : List TyGiven) (x5 : List TyLoop) (x6 : List TyFrame) (x7 : Int) (x8 : List TyBind) (x9 : List TyCell) (x10 : List TyLevel) (x11 : Bool) (x12 : Bool) (x13 : Bool) (x14 : ByteArray) (x15 : List ByteArray) (x16 : Int) (x17 : Int) (x18 : Int) (x19 : Int) (x20 : ByteArray) (A2 : Option Addr) (c2 : Nat) (A3 : Option Addr) (c3 : Nat) (A4 : Option Addr) (c4 : Nat) (A5 : Option Addr) (c5 : Nat) (A6 : Option Addr) (c6 : Nat) (A8 : Option Addr) (c8 : Nat) (A9 : Option Addr) (c9 : Nat) (A10 : Option Addr) (c10 : Nat) (A15 : Option Addr) (c15 : Nat) (n2 n3 n4 n5 n6 n8 n9 n10 n15 k : Nat) (a : Int) (lo hi : Nat) (w : World) (h : shMachine.R w lo hi [.int .i64 x0, .int .i64 x1, .slice A2 n2 c2, .slice A3 n3 c3, .slice A4 n4 c4, .slice A5 n5 c5, .slice A6 n6 c6, .int .i64 x7, .slice A8 n8 c8, .slice A9 n9 c9, .slice A10 n10 c10, .bool x11, .bool x12, .bool x13, .string x14, .slice A15 n15 c15, .int .i64 x16, .int .i64 x17, .int .i64 x18, .int .i64 x19, .string x20] (shMachine.top k (x0, x1, x2, x3, x4, x5, x6, (x7, x8, x9, x10), x11, x12, (x13, x14, x15), x16, x17, x18, x19, x20))) (hn2 : n2 = x2.length) (hn3 : n3 = x3.length) (hn4 : n4 = x4.length) (hn5 : n5 = x5.length) (hn6 : n6 = x6.length) (hn8 : n8 = x8.length) (hn9 : n9 = x9.length) (hn10 : n10 = x10.length) (hn15 : n15 = x15.length) (hhi : hi ≤ w.heap.size) (hf : shMachine.fit 4294967296 (x0, x1, x2, x3, x4, x5, x6, (x7, x8, x9, x10), x11, x12, (x13, x14, x15), x16, x17, x18, x19, x20)) (ha : a = (k : Int)) (h1 : 1 ≤ k) (h2 : k + shMachine.cntTop (x0, x1, x2, x3, x4, x5, x6, (x7, x8, x9, x10), x11, x12, (x13, x14, x15), x16, x17, x18, x19, x20) ≤ 4294967000) :
    Calls Tryz.prog 10 #[.agg #[.int .i64 x0, .int .i64 x1, .slice A2 n2 c2, .slice A3 n3 c3, .slice A4 n4 c4, .slice A5 n5 c5, .slice A6 n6 c6, .int .i64 x7, .slice A8 n8 c8, .slice A9 n9 c9, .slice A10 n10 c10, .bool x11, .bool x12, .bool x13, .string x14, .slice A15 n15 c15, .int .i64 x16, .int .i64 x17, .int .i64 x18, .int .i64 x19, .string x20], .int .i64 a] w fun e w' => ∃ r : Int, e = .returned (.int .i64 r) ∧ r = ((k + shMachine.cntTop (x0, x1, x2, x3, x4, x5, x6, (x7, x8, x9, x10), x11, x12, (x13, x14, x15), x16, x17, x18, x19, x20) : Nat) : Int) ∧ Below w.heap.size w w' := by
  subst ha hn2 hn3 hn4 hn5 hn6 hn8 hn9 hn10 hn15
  rw [shMachine_fit] at hf
  obtain ⟨ft0, ft1, ft2, ft3, ft4, ft5, ft6, ft7, ft11, ft12, ft13, ft16, ft17, ft18, ft19, ft20⟩ := hf
  rw [shMachine_top] at h2 ⊢
  have e2 : ((Sh.row 9 shS).mark (((k) + 0) + 0) x2).length = x2.length := mkAll_len _ _ _
  have e3 : ((Sh.row 46 shRef).mark ((((k) + 0) + 0) + (Sh.row 9 shS).cnt x2) x3).length = x3.length := mkAll_len _ _ _
  have e4 : ((Sh.row 109 shGiven).mark (((((k) + 0) + 0) + (Sh.row 9 shS).cnt x2) + (Sh.row 46 shRef).cnt x3) x4).length = x4.length := mkAll_len _ _ _
  have e5 : ((Sh.row 111 shLoop).mark ((((((k) + 0) + 0) + (Sh.row 9 shS).cnt x2) + (Sh.row 46 shRef).cnt x3) + (Sh.row 109 shGiven).cnt x4) x5).length = x5.length := mkAll_len _ _ _
  have e6 : ((Sh.row 113 shFrame).mark (((((((k) + 0) + 0) + (Sh.row 9 shS).cnt x2) + (Sh.row 46 shRef).cnt x3) + (Sh.row 109 shGiven).cnt x4) + (Sh.row 111 shLoop).cnt x5) x6).length = x6.length := mkAll_len _ _ _
  have e8 : ((Sh.row 151 shBind).mark (((((((((k) + 0) + 0) + (Sh.row 9 shS).cnt x2) + (Sh.row 46 shRef).cnt x3) + (Sh.row 109 shGiven).cnt x4) + (Sh.row 111 shLoop).cnt x5) + (Sh.row 113 shFrame).cnt x6) + 0) x8).length = x8.length := mkAll_len _ _ _
  have e9 : ((Sh.row 105 shCell).mark ((((((((((k) + 0) + 0) + (Sh.row 9 shS).cnt x2) + (Sh.row 46 shRef).cnt x3) + (Sh.row 109 shGiven).cnt x4) + (Sh.row 111 shLoop).cnt x5) + (Sh.row 113 shFrame).cnt x6) + 0) + (Sh.row 151 shBind).cnt x8) x9).length = x9.length := mkAll_len _ _ _
  have e10 : ((Sh.row 108 shLevel).mark (((((((((((k) + 0) + 0) + (Sh.row 9 shS).cnt x2) + (Sh.row 46 shRef).cnt x3) + (Sh.row 109 shGiven).cnt x4) + (Sh.row 111 shLoop).cnt x5) + (Sh.row 113 shFrame).cnt x6) + 0) + (Sh.row 151 shBind).cnt x8) + (Sh.row 105 shCell).cnt x9) x10).length = x10.length := mkAll_len _ _ _
  have e15 : ((Sh.row 9 shS).mark (((((((((((((k) + 0) + 0) + (Sh.row 9 shS).cnt x2) + (Sh.row 46 shRef).cnt x3) + (Sh.row 109 shGiven).cnt x4) + (Sh.row 111 shLoop).cnt x5) + (Sh.row 113 shFrame).cnt x6) + shLocals.cntTop (x7, x8, x9, x10)) + 0) + 0) + 0) + 0) x15).length = x15.length := mkAll_len _ _ _
  have key : shMachine.R w lo hi [.int .i64 x0, .int .i64 x1, .slice A2 ((Sh.row 9 shS).mark (((k) + 0) + 0) x2).length c2, .slice A3 ((Sh.row 46 shRef).mark ((((k) + 0) + 0) + (Sh.row 9 shS).cnt x2) x3).length c3, .slice A4 ((Sh.row 109 shGiven).mark (((((k) + 0) + 0) + (Sh.row 9 shS).cnt x2) + (Sh.row 46 shRef).cnt x3) x4).length c4, .slice A5 ((Sh.row 111 shLoop).mark ((((((k) + 0) + 0) + (Sh.row 9 shS).cnt x2) + (Sh.row 46 shRef).cnt x3) + (Sh.row 109 shGiven).cnt x4) x5).length c5, .slice A6 ((Sh.row 113 shFrame).mark (((((((k) + 0) + 0) + (Sh.row 9 shS).cnt x2) + (Sh.row 46 shRef).cnt x3) + (Sh.row 109 shGiven).cnt x4) + (Sh.row 111 shLoop).cnt x5) x6).length c6, .int .i64 x7, .slice A8 ((Sh.row 151 shBind).mark (((((((((k) + 0) + 0) + (Sh.row 9 shS).cnt x2) + (Sh.row 46 shRef).cnt x3) + (Sh.row 109 shGiven).cnt x4) + (Sh.row 111 shLoop).cnt x5) + (Sh.row 113 shFrame).cnt x6) + 0) x8).length c8, .slice A9 ((Sh.row 105 shCell).mark ((((((((((k) + 0) + 0) + (Sh.row 9 shS).cnt x2) + (Sh.row 46 shRef).cnt x3) + (Sh.row 109 shGiven).cnt x4) + (Sh.row 111 shLoop).cnt x5) + (Sh.row 113 shFrame).cnt x6) + 0) + (Sh.row 151 shBind).cnt x8) x9).length c9, .slice A10 ((Sh.row 108 shLevel).mark (((((((((((k) + 0) + 0) + (Sh.row 9 shS).cnt x2) + (Sh.row 46 shRef).cnt x3) + (Sh.row 109 shGiven).cnt x4) + (Sh.row 111 shLoop).cnt x5) + (Sh.row 113 shFrame).cnt x6) + 0) + (Sh.row 151 shBind).cnt x8) + (Sh.row 105 shCell).cnt x9) x10).length c10, .bool x11, .bool x12, .bool x13, .string x14, .slice A15 ((Sh.row 9 shS).mark (((((((((((((k) + 0) + 0) + (Sh.row 9 shS).cnt x2) + (Sh.row 46 shRef).cnt x3) + (Sh.row 109 shGiven).cnt x4) + (Sh.row 111 shLoop).cnt x5) + (Sh.row 113 shFrame).cnt x6) + shLocals.cntTop (x7, x8, x9, x10)) + 0) + 0) + 0) + 0) x15).length c15, .int .i64 x16, .int .i64 x17, .int .i64 x18, .int .i64 x19, .string x20] (x0, x1, ((Sh.row 9 shS).mark (((k) + 0) + 0) x2), ((Sh.row 46 shRef).mark ((((k) + 0) + 0) + (Sh.row 9 shS).cnt x2) x3), ((Sh.row 109 shGiven).mark (((((k) + 0) + 0) + (Sh.row 9 shS).cnt x2) + (Sh.row 46 shRef).cnt x3) x4), ((Sh.row 111 shLoop).mark ((((((k) + 0) + 0) + (Sh.row 9 shS).cnt x2) + (Sh.row 46 shRef).cnt x3) + (Sh.row 109 shGiven).cnt x4) x5), ((Sh.row 113 shFrame).mark (((((((k) + 0) + 0) + (Sh.row 9 shS).cnt x2) + (Sh.row 46 shRef).cnt x3) + (Sh.row 109 shGiven).cnt x4) + (Sh.row 111 shLoop).cnt x5) x6), (x7, ((Sh.row 151 shBind).mark (((((((((k) + 0) + 0) + (Sh.row 9 shS).cnt x2) + (Sh.row 46 shRef).cnt x3) + (Sh.row 109 shGiven).cnt x4) + (Sh.row 111 shLoop).cnt x5) + (Sh.row 113 shFrame).cnt x6) + 0) x8), ((Sh.row 105 shCell).mark ((((((((((k) + 0) + 0) + (Sh.row 9 shS).cnt x2) + (Sh.row 46 shRef).cnt x3) + (Sh.row 109 shGiven).cnt x4) + (Sh.row 111 shLoop).cnt x5) + (Sh.row 113 shFrame).cnt x6) + 0) + (Sh.row 151 shBind).cnt x8) x9), ((Sh.row 108 shLevel).mark (((((((((((k) + 0) + 0) + (Sh.row 9 shS).cnt x2) + (Sh.row 46 shRef).cnt x3) + (Sh.row 109 shGiven).cnt x4) + (Sh.row 111 shLoop).cnt x5) + (Sh.row 113 shFrame).cnt x6) + 0) + (Sh.row 151 shBind).cnt x8) + (Sh.row 105 shCell).cnt x9) x10)), x11, x12, (x13, x14, ((Sh.row 9 shS).mark (((((((((((((k) + 0) + 0) + (Sh.row 9 shS).cnt x2) + (Sh.row 46 shRef).cnt x3) + (Sh.row 109 shGiven).cnt x4) + (Sh.row 111 shLoop).cnt x5) + (Sh.row 113 shFrame).cnt x6) + shLocals.cntTop (x7, x8, x9, x10)) + 0) + 0) + 0) + 0) x15)), x16, x17, x18, x19, x20) := by simp only [e2, e3, e4, e5, e6, e8, e9, e10, e15]; exact h
  have g2 := shMachine_f2 key
  simp only [e2] at g2
  have g3 := shMachine_f3 key
  simp only [e3] at g3
  have g4 := shMachine_f4 key
  simp only [e4] at g4
  have g5 := shMachine_f5 key
  simp only [e5] at g5
  have g6 := shMachine_f6 key
  simp only [e6] at g6
  have g7 := shMachine_f7 key
  simp only [e8, e9, e10] at g7
  have g13 := shMachine_f13 key
  simp only [e15] at g13
  have g2' : (Sh.row 9 shS).R w lo hi [.slice A2 x2.length c2] ((Sh.row 9 shS).mark (k) x2) := by
    exact g2
  obtain ⟨kn2, HQ2⟩ : ∃ kq : Nat, kq = k + (Sh.row 9 shS).cnt x2 := ⟨_, rfl⟩
  have g3' : (Sh.row 46 shRef).R w lo hi [.slice A3 x3.length c3] ((Sh.row 46 shRef).mark (kn2) x3) := by
    rw [HQ2]
    exact g3
  obtain ⟨kn3, HQ3⟩ : ∃ kq : Nat, kq = kn2 + (Sh.row 46 shRef).cnt x3 := ⟨_, rfl⟩
  have g4' : (Sh.row 109 shGiven).R w lo hi [.slice A4 x4.length c4] ((Sh.row 109 shGiven).mark (kn3) x4) := by
    rw [HQ3, HQ2]
    exact g4
  obtain ⟨kn4, HQ4⟩ : ∃ kq : Nat, kq = kn3 + (Sh.row 109 shGiven).cnt x4 := ⟨_, rfl⟩
  have g5' : (Sh.row 111 shLoop).R w lo hi [.slice A5 x5.length c5] ((Sh.row 111 shLoop).mark (kn4) x5) := by
    rw [HQ4, HQ3, HQ2]
    exact g5
  obtain ⟨kn5, HQ5⟩ : ∃ kq : Nat, kq = kn4 + (Sh.row 111 shLoop).cnt x5 := ⟨_, rfl⟩
  have g6' : (Sh.row 113 shFrame).R w lo hi [.slice A6 x6.length c6] ((Sh.row 113 shFrame).mark (kn5) x6) := by
    rw [HQ5, HQ4, HQ3, HQ2]
    exact g6
  obtain ⟨kn6, HQ6⟩ : ∃ kq : Nat, kq = kn5 + (Sh.row 113 shFrame).cnt x6 := ⟨_, rfl⟩
  have g7' : (shLocals).R w lo hi [.int .i64 x7, .slice A8 x8.length c8, .slice A9 x9.length c9, .slice A10 x10.length c10] (shLocals.top (kn6) (x7, x8, x9, x10)) := by
    rw [HQ6, HQ5, HQ4, HQ3, HQ2]
    exact g7
  obtain ⟨kn7, HQ7⟩ : ∃ kq : Nat, kq = kn6 + (shLocals).cntTop (x7, x8, x9, x10) := ⟨_, rfl⟩
  have g13' : (shRef).R w lo hi [.bool x13, .string x14, .slice A15 x15.length c15] (shRef.top (kn7) (x13, x14, x15)) := by
    rw [HQ7, HQ6, HQ5, HQ4, HQ3, HQ2]
    exact g13
  obtain ⟨kn13, HQ13⟩ : ∃ kq : Nat, kq = kn7 + (shRef).cntTop (x13, x14, x15) := ⟨_, rfl⟩
  have R0 := ((((((((Stand.nil w).add lo hi (fun W => (Sh.row 9 shS).R W lo hi [.slice A2 x2.length c2] ((Sh.row 9 shS).mark (k) x2)) (fun _ _ hk h => (Sh.row 9 shS).R_keep h hk) hhi g2').add lo hi (fun W => (Sh.row 46 shRef).R W lo hi [.slice A3 x3.length c3] ((Sh.row 46 shRef).mark (kn2) x3)) (fun _ _ hk h => (Sh.row 46 shRef).R_keep h hk) hhi g3').add lo hi (fun W => (Sh.row 109 shGiven).R W lo hi [.slice A4 x4.length c4] ((Sh.row 109 shGiven).mark (kn3) x4)) (fun _ _ hk h => (Sh.row 109 shGiven).R_keep h hk) hhi g4').add lo hi (fun W => (Sh.row 111 shLoop).R W lo hi [.slice A5 x5.length c5] ((Sh.row 111 shLoop).mark (kn4) x5)) (fun _ _ hk h => (Sh.row 111 shLoop).R_keep h hk) hhi g5').add lo hi (fun W => (Sh.row 113 shFrame).R W lo hi [.slice A6 x6.length c6] ((Sh.row 113 shFrame).mark (kn5) x6)) (fun _ _ hk h => (Sh.row 113 shFrame).R_keep h hk) hhi g6').add lo hi (fun W => (shLocals).R W lo hi [.int .i64 x7, .slice A8 x8.length c8, .slice A9 x9.length c9, .slice A10 x10.length c10] (shLocals.top (kn6) (x7, x8, x9, x10))) (fun _ _ hk h => (shLocals).R_keep h hk) hhi g7').add lo hi (fun W => (shRef).R W lo hi [.bool x13, .string x14, .slice A15 x15.length c15] (shRef.top (kn7) (x13, x14, x15))) (fun _ _ hk h => (shRef).R_keep h hk) hhi g13').box 48 #[.int .i64 x0, .int .i64 x1, .slice A2 x2.length c2, .slice A3 x3.length c3, .slice A4 x4.length c4, .slice A5 x5.length c5, .slice A6 x6.length c6, .int .i64 x7, .slice A8 x8.length c8, .slice A9 x9.length c9, .slice A10 x10.length c10, .bool x11, .bool x12, .bool x13, .string x14, .slice A15 x15.length c15, .int .i64 x16, .int .i64 x17, .int .i64 x18, .int .i64 x19, .string x20]
  have HR0 := Lib.hid R0
  have HEND := Lib.hid (show kn13 = k + (0 + (0 + ((Sh.row 9 shS).cnt x2 + ((Sh.row 46 shRef).cnt x3 + ((Sh.row 109 shGiven).cnt x4 + ((Sh.row 111 shLoop).cnt x5 + ((Sh.row 113 shFrame).cnt x6 + ((shLocals).cntTop (x7, x8, x9, x10) + (0 + (0 + ((shRef).cntTop (x13, x14, x15) + (0 + (0 + (0 + (0 + (0)))))))))))))))) by omega)
  have hk2 : 1 ≤ kn2 := by omega
  have hl2 : ¬ ((kn2 : Int) < 0) := by omega
  have hm2 : kn2 + (0 + (Sh.row 46 shRef).cnt x3 + (Sh.row 109 shGiven).cnt x4 + (Sh.row 111 shLoop).cnt x5 + (Sh.row 113 shFrame).cnt x6 + (shLocals).cntTop (x7, x8, x9, x10) + (shRef).cntTop (x13, x14, x15)) ≤ 4294967000 := by omega
  have hk3 : 1 ≤ kn3 := by omega
  have hl3 : ¬ ((kn3 : Int) < 0) := by omega
  have hm3 : kn3 + (0 + (Sh.row 109 shGiven).cnt x4 + (Sh.row 111 shLoop).cnt x5 + (Sh.row 113 shFrame).cnt x6 + (shLocals).cntTop (x7, x8, x9, x10) + (shRef).cntTop (x13, x14, x15)) ≤ 4294967000 := by omega
  have hk4 : 1 ≤ kn4 := by omega
  have hl4 : ¬ ((kn4 : Int) < 0) := by omega
  have hm4 : kn4 + (0 + (Sh.row 111 shLoop).cnt x5 + (Sh.row 113 shFrame).cnt x6 + (shLocals).cntTop (x7, x8, x9, x10) + (shRef).cntTop (x13, x14, x15)) ≤ 4294967000 := by omega
  have hk5 : 1 ≤ kn5 := by omega
  have hl5 : ¬ ((kn5 : Int) < 0) := by omega
  have hm5 : kn5 + (0 + (Sh.row 113 shFrame).cnt x6 + (shLocals).cntTop (x7, x8, x9, x10) + (shRef).cntTop (x13, x14, x15)) ≤ 4294967000 := by omega
  have hk6 : 1 ≤ kn6 := by omega
  have hl6 : ¬ ((kn6 : Int) < 0) := by omega
  have hm6 : kn6 + (0 + (shLocals).cntTop (x7, x8, x9, x10) + (shRef).cntTop (x13, x14, x15)) ≤ 4294967000 := by omega
  have hk7 : 1 ≤ kn7 := by omega
  have hl7 : ¬ ((kn7 : Int) < 0) := by omega
  have hm7 : kn7 + (0 + (shRef).cntTop (x13, x14, x15)) ≤ 4294967000 := by omega
  have hk13 : 1 ≤ kn13 := by omega
  have hl13 : ¬ ((kn13 : Int) < 0) := by omega
  have hm13 : kn13 + (0) ≤ 4294967000 := by omega
  have HK2 := Lib.hid HQ2
  have HK3 := Lib.hid HQ3
  have HK4 := Lib.hid HQ4
  have HK5 := Lib.hid HQ5
  have HK6 := Lib.hid HQ6
  have HK7 := Lib.hid HQ7
  have HK13 := Lib.hid HQ13
  clear R0 h key g2 g2' HQ2 g3 g3' HQ3 g4 g4' HQ4 g5 g5' HQ5 g6 g6' HQ6 g7 g7' HQ7 g13 g13' HQ13
  go_enter Tryz.func10, Tryz.ntmps10
  go_wp2_with fail
  refine (heldStringS_f A2 x2.length c2 (k) _ x2 lo hi _ (HR0.out.get 7 rfl) rfl (HR0.out.le 7 rfl) ft2 (by omega) (by omega) (by omega)).mono ?_
  rintro e1 w1 ⟨r2, rfl, hr2, hb1⟩
  obtain rfl : r2 = (kn2 : Int) := by rw [hr2, HK2.out]
  have HR1 := Lib.hid (HR0.out.below hb1)
  have f1 := (HR1.out.get 0 rfl).cell
  clear hr2 hb1 HR0
  go_wp2_with fail
  refine (heldRefS_f A3 x3.length c3 (kn2) _ x3 lo hi _ (HR1.out.get 6 rfl) rfl (HR1.out.le 6 rfl) ft3 (by omega) (by omega) (by omega)).mono ?_
  rintro e2 w2 ⟨r3, rfl, hr3, hb2⟩
  obtain rfl : r3 = (kn3 : Int) := by rw [hr3, HK3.out]
  have HR2 := Lib.hid (HR1.out.below hb2)
  have f2 := (HR2.out.get 0 rfl).cell
  clear hr3 hb2 HR1 f1
  go_wp2_with fail
  refine (heldGivenS_f A4 x4.length c4 (kn3) _ x4 lo hi _ (HR2.out.get 5 rfl) rfl (HR2.out.le 5 rfl) ft4 (by omega) (by omega) (by omega)).mono ?_
  rintro e3 w3 ⟨r4, rfl, hr4, hb3⟩
  obtain rfl : r4 = (kn4 : Int) := by rw [hr4, HK4.out]
  have HR3 := Lib.hid (HR2.out.below hb3)
  have f3 := (HR3.out.get 0 rfl).cell
  clear hr4 hb3 HR2 f2
  go_wp2_with fail
  refine (heldLoopS_f A5 x5.length c5 (kn4) _ x5 lo hi _ (HR3.out.get 4 rfl) rfl (HR3.out.le 4 rfl) ft5 (by omega) (by omega) (by omega)).mono ?_
  rintro e4 w4 ⟨r5, rfl, hr5, hb4⟩
  obtain rfl : r5 = (kn5 : Int) := by rw [hr5, HK5.out]
  have HR4 := Lib.hid (HR3.out.below hb4)
  have f4 := (HR4.out.get 0 rfl).cell
  clear hr5 hb4 HR3 f3
  go_wp2_with fail
  refine (heldFrameS_f A6 x6.length c6 (kn5) _ x6 lo hi _ (HR4.out.get 3 rfl) rfl (HR4.out.le 3 rfl) ft6 (by omega) (by omega) (by omega)).mono ?_
  rintro e5 w5 ⟨r6, rfl, hr6, hb5⟩
  obtain rfl : r6 = (kn6 : Int) := by rw [hr6, HK6.out]
  have HR5 := Lib.hid (HR4.out.below hb5)
  have f5 := (HR5.out.get 0 rfl).cell
  clear hr6 hb5 HR4 f4
  go_wp2_with fail
  refine (heldLocals_f x7 x8 x9 x10 A8 c8 A9 c9 A10 c10 x8.length x9.length x10.length (kn6) _ lo hi _ (HR5.out.get 2 rfl) rfl rfl rfl (HR5.out.le 2 rfl) ft7 (by omega) (by omega) (by omega)).mono ?_
  rintro e6 w6 ⟨r7, rfl, hr7, hb6⟩
  obtain rfl : r7 = (kn7 : Int) := by rw [hr7, HK7.out]
  have HR6 := Lib.hid (HR5.out.below hb6)
  have f6 := (HR6.out.get 0 rfl).cell
  clear hr7 hb6 HR5 f5
  go_wp2_with fail
  refine (heldRef_f x13 x14 x15 A15 c15 x15.length (kn7) _ lo hi _ (HR6.out.get 1 rfl) rfl (HR6.out.le 1 rfl) ft13 (by omega) (by omega) (by omega)).mono ?_
  rintro e7 w7 ⟨r13, rfl, hr13, hb7⟩
  obtain rfl : r13 = (kn13 : Int) := by rw [hr13, HK13.out]
  have HR7 := Lib.hid (HR6.out.below hb7)
  have f7 := (HR7.out.get 0 rfl).cell
  clear hr13 hb7 HR6 f6
  go_wp2_with fail
  go_ret
  exact ⟨_, rfl, by rw [HEND.out], HR7.out.1⟩

theorem shMachine_mark (kn : Nat) (x0 : Int) (x1 : Int) (x2 : List ByteArray) (x3 : List TyRef) (x4 : List TyGiven) (x5 : List TyLoop) (x6 : List TyFrame) (x7 : Int) (x8 : List TyBind) (x9 : List TyCell) (x10 : List TyLevel) (x11 : Bool) (x12 : Bool) (x13 : Bool) (x14 : ByteArray) (x15 : List ByteArray) (x16 : Int) (x17 : Int) (x18 : Int) (x19 : Int) (x20 : ByteArray) : shMachine.mark kn (x0, x1, x2, x3, x4, x5, x6, (x7, x8, x9, x10), x11, x12, (x13, x14, x15), x16, x17, x18, x19, x20) = (((kn : Nat) : Int), (((kn) + 1 : Nat) : Int), ((Sh.row 9 shS).mark (((kn) + 1) + 1) x2), ((Sh.row 46 shRef).mark ((((kn) + 1) + 1) + (Sh.row 9 shS).cnt x2) x3), ((Sh.row 109 shGiven).mark (((((kn) + 1) + 1) + (Sh.row 9 shS).cnt x2) + (Sh.row 46 shRef).cnt x3) x4), ((Sh.row 111 shLoop).mark ((((((kn) + 1) + 1) + (Sh.row 9 shS).cnt x2) + (Sh.row 46 shRef).cnt x3) + (Sh.row 109 shGiven).cnt x4) x5), ((Sh.row 113 shFrame).mark (((((((kn) + 1) + 1) + (Sh.row 9 shS).cnt x2) + (Sh.row 46 shRef).cnt x3) + (Sh.row 109 shGiven).cnt x4) + (Sh.row 111 shLoop).cnt x5) x6), ((((((((((kn) + 1) + 1) + (Sh.row 9 shS).cnt x2) + (Sh.row 46 shRef).cnt x3) + (Sh.row 109 shGiven).cnt x4) + (Sh.row 111 shLoop).cnt x5) + (Sh.row 113 shFrame).cnt x6 : Nat) : Int), ((Sh.row 151 shBind).mark (((((((((kn) + 1) + 1) + (Sh.row 9 shS).cnt x2) + (Sh.row 46 shRef).cnt x3) + (Sh.row 109 shGiven).cnt x4) + (Sh.row 111 shLoop).cnt x5) + (Sh.row 113 shFrame).cnt x6) + 1) x8), ((Sh.row 105 shCell).mark ((((((((((kn) + 1) + 1) + (Sh.row 9 shS).cnt x2) + (Sh.row 46 shRef).cnt x3) + (Sh.row 109 shGiven).cnt x4) + (Sh.row 111 shLoop).cnt x5) + (Sh.row 113 shFrame).cnt x6) + 1) + (Sh.row 151 shBind).cnt x8) x9), ((Sh.row 108 shLevel).mark (((((((((((kn) + 1) + 1) + (Sh.row 9 shS).cnt x2) + (Sh.row 46 shRef).cnt x3) + (Sh.row 109 shGiven).cnt x4) + (Sh.row 111 shLoop).cnt x5) + (Sh.row 113 shFrame).cnt x6) + 1) + (Sh.row 151 shBind).cnt x8) + (Sh.row 105 shCell).cnt x9) x10)), (((((((((((kn) + 1) + 1) + (Sh.row 9 shS).cnt x2) + (Sh.row 46 shRef).cnt x3) + (Sh.row 109 shGiven).cnt x4) + (Sh.row 111 shLoop).cnt x5) + (Sh.row 113 shFrame).cnt x6) + (1 + ((Sh.row 151 shBind).cnt x8 + ((Sh.row 105 shCell).cnt x9 + ((Sh.row 108 shLevel).cnt x10)))) : Nat) : Int) % 3 == 0), ((((((((((((kn) + 1) + 1) + (Sh.row 9 shS).cnt x2) + (Sh.row 46 shRef).cnt x3) + (Sh.row 109 shGiven).cnt x4) + (Sh.row 111 shLoop).cnt x5) + (Sh.row 113 shFrame).cnt x6) + (1 + ((Sh.row 151 shBind).cnt x8 + ((Sh.row 105 shCell).cnt x9 + ((Sh.row 108 shLevel).cnt x10))))) + 1 : Nat) : Int) % 3 == 0), ((((((((((((((kn) + 1) + 1) + (Sh.row 9 shS).cnt x2) + (Sh.row 46 shRef).cnt x3) + (Sh.row 109 shGiven).cnt x4) + (Sh.row 111 shLoop).cnt x5) + (Sh.row 113 shFrame).cnt x6) + (1 + ((Sh.row 151 shBind).cnt x8 + ((Sh.row 105 shCell).cnt x9 + ((Sh.row 108 shLevel).cnt x10))))) + 1) + 1 : Nat) : Int) % 3 == 0), markT ((((((((((((kn) + 1) + 1) + (Sh.row 9 shS).cnt x2) + (Sh.row 46 shRef).cnt x3) + (Sh.row 109 shGiven).cnt x4) + (Sh.row 111 shLoop).cnt x5) + (Sh.row 113 shFrame).cnt x6) + (1 + ((Sh.row 151 shBind).cnt x8 + ((Sh.row 105 shCell).cnt x9 + ((Sh.row 108 shLevel).cnt x10))))) + 1) + 1) + 1), ((Sh.row 9 shS).mark (((((((((((((kn) + 1) + 1) + (Sh.row 9 shS).cnt x2) + (Sh.row 46 shRef).cnt x3) + (Sh.row 109 shGiven).cnt x4) + (Sh.row 111 shLoop).cnt x5) + (Sh.row 113 shFrame).cnt x6) + (1 + ((Sh.row 151 shBind).cnt x8 + ((Sh.row 105 shCell).cnt x9 + ((Sh.row 108 shLevel).cnt x10))))) + 1) + 1) + 1) + 1) x15)), (((((((((((((kn) + 1) + 1) + (Sh.row 9 shS).cnt x2) + (Sh.row 46 shRef).cnt x3) + (Sh.row 109 shGiven).cnt x4) + (Sh.row 111 shLoop).cnt x5) + (Sh.row 113 shFrame).cnt x6) + (1 + ((Sh.row 151 shBind).cnt x8 + ((Sh.row 105 shCell).cnt x9 + ((Sh.row 108 shLevel).cnt x10))))) + 1) + 1) + (1 + (1 + ((Sh.row 9 shS).cnt x15))) : Nat) : Int), ((((((((((((((kn) + 1) + 1) + (Sh.row 9 shS).cnt x2) + (Sh.row 46 shRef).cnt x3) + (Sh.row 109 shGiven).cnt x4) + (Sh.row 111 shLoop).cnt x5) + (Sh.row 113 shFrame).cnt x6) + (1 + ((Sh.row 151 shBind).cnt x8 + ((Sh.row 105 shCell).cnt x9 + ((Sh.row 108 shLevel).cnt x10))))) + 1) + 1) + (1 + (1 + ((Sh.row 9 shS).cnt x15)))) + 1 : Nat) : Int), (((((((((((((((kn) + 1) + 1) + (Sh.row 9 shS).cnt x2) + (Sh.row 46 shRef).cnt x3) + (Sh.row 109 shGiven).cnt x4) + (Sh.row 111 shLoop).cnt x5) + (Sh.row 113 shFrame).cnt x6) + (1 + ((Sh.row 151 shBind).cnt x8 + ((Sh.row 105 shCell).cnt x9 + ((Sh.row 108 shLevel).cnt x10))))) + 1) + 1) + (1 + (1 + ((Sh.row 9 shS).cnt x15)))) + 1) + 1 : Nat) : Int), ((((((((((((((((kn) + 1) + 1) + (Sh.row 9 shS).cnt x2) + (Sh.row 46 shRef).cnt x3) + (Sh.row 109 shGiven).cnt x4) + (Sh.row 111 shLoop).cnt x5) + (Sh.row 113 shFrame).cnt x6) + (1 + ((Sh.row 151 shBind).cnt x8 + ((Sh.row 105 shCell).cnt x9 + ((Sh.row 108 shLevel).cnt x10))))) + 1) + 1) + (1 + (1 + ((Sh.row 9 shS).cnt x15)))) + 1) + 1) + 1 : Nat) : Int), markT ((((((((((((((((kn) + 1) + 1) + (Sh.row 9 shS).cnt x2) + (Sh.row 46 shRef).cnt x3) + (Sh.row 109 shGiven).cnt x4) + (Sh.row 111 shLoop).cnt x5) + (Sh.row 113 shFrame).cnt x6) + (1 + ((Sh.row 151 shBind).cnt x8 + ((Sh.row 105 shCell).cnt x9 + ((Sh.row 108 shLevel).cnt x10))))) + 1) + 1) + (1 + (1 + ((Sh.row 9 shS).cnt x15)))) + 1) + 1) + 1) + 1)) := rfl
end Go.Proofs.YtlodlplfmpikjaaGreat
