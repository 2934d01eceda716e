/- Put, Disk, Seat, Top, Cache, Page, Slot, Btree: shapes and the laws' walks (markS, mark). Printed by gen_fam.py. -/
import Derived.Test.YtnnabkldceklmaaGreatDoorJoinBTAr
set_option maxHeartbeats 16000000
set_option maxRecDepth 100000
namespace Go.Proofs.YtnnabkldceklmaaGreatDoor
open Go.RowKit
theorem shPut_markO {w : World} (kn : Nat) (x0 : Int) (x1 : ByteArray)   : shPut.O w ([] ++ []) [.int .i64 ((kn : Nat) : Int), .string (markT ((kn) + 1))] (shPut.mark kn (x0, x1)) := by
 have key : shPut.O w ([] ++ []) [.int .i64 ((kn : Nat) : Int), .string (markT ((kn) + 1))] (((kn : Nat) : Int), markT ((kn) + 1)) := shPut_O.2 ⟨rfl, rfl⟩
 exact key
theorem markPutS_f (A : Option Addr) (c k : Nat) (a : Int) (xs : List TyPut) (F : List Nat) (w : World) (h : (Sh.row 138 shPut).O w F [.slice A xs.length c] xs) (hF : F.Nodup) (ha : a = (k : Int)) (h1 : 1 ≤ k) (h2 : k + (Sh.row 138 shPut).cnt xs ≤ 4294967000) :
  Calls Tryz.prog 133 #[.slice A xs.length c, .int .i64 a] w fun e w' => ∃ r : Int, e = .returned (.int .i64 r) ∧ r = ((k + (Sh.row 138 shPut).cnt xs : Nat) : Int) ∧ (Sh.row 138 shPut).O w' F [.slice A xs.length c] ((Sh.row 138 shPut).mark k xs) ∧ Out F w w' := by
 subst ha
 have H2 := hd_ (show k + cntAll shPut xs ≤ 4294967000 from h2)
 have hn := (O_len h).2
 unfold maxLen at hn
 have HO := hd_ h; have HF := hd_ hF
 have hk : k ≤ 4294967000 := by omega
 have HE := hd_ (markTo_all shPut k xs); have HZ := hd_ (markTo_zero shPut k xs)
 clear h hF h2
 go_enter Tryz.func133, Tryz.ntmps133
 go_wp2_with fail
 go_loopw [1, 5] (fun s i wr => ∃ (j kn : Nat), j ≤ xs.length ∧ i = .int .i64 j ∧ s = .int .i64 (kn : Int) ∧ 1 ≤ kn ∧ kn ≤ 4294967000 ∧ Hid (kn = k + cntTo shPut j xs) ∧ (Sh.row 138 shPut).O wr F [.slice A xs.length c] (markTo shPut k j xs) ∧ Out F w wr) (fun _ i _ => xs.length - (intOf i).toNat)
 case atStart => exact ⟨0, k, Nat.zero_le _, rfl, rfl, h1, hk, by rw [cntTo_zero]; exact rfl, by rw [HZ.out]; exact HO.out, Out.refl _ _⟩
 case round =>
  obtain ⟨j, kn, hj, rfl, rfl, hk1, hk2, HKN, ho, hout⟩ := hrel
  by_cases hlt : j < xs.length
  ·have HNX := hd_ (cntTo_succ shPut hlt)
   have hroom := cnt_room (s := shPut) hlt H2.out
   obtain ⟨g, cur, FF, uu, rfl, hg, hN, ho, hm, hcl⟩ := mark_at ho rfl HF.out hlt
   simp only [shPut_k] at hm hcl
   rw [← HKN.out] at hroom hcl
   generalize xs.getD j shPut.d = X at *
   obtain ⟨x0, x1⟩ := X
   rw [shPut_cnt] at hroom
   obtain ⟨rfl, eFF⟩ := shPut_O.1 ho
   subst FF
   have HCL := hd_ hcl; have HM0 := hd_ hm; have HOUT := hd_ hout
   clear hcl hm hout ho hN hg
   have f0 : _ = some (Value.int .i64 x0) := HM0.out.cell0 (by decide)
   have f1 : _ = some (Value.string x1) := HM0.out.cell (i := 1) (by decide)
   have z := HM0.out.frozen
   go_wp2_with fail
   refine (markText_f _ (kn + 1) _ (by omega) (by omega) (by omega)).mono ?_
   rintro e1 w1 ⟨rfl, hb1⟩
   have HM1 := hd_ ((HM0.out.set0 (List.mem_cons_self ..) (by decide) _).below hb1)
   clear hb1 HM0 z f0 f1
   have f0 : _ = some (Value.int .i64 ((kn : Nat) : Int)) := HM1.out.cell0 (by decide)
   have f1 : _ = some (Value.string x1) := HM1.out.cell (i := 1) (by decide)
   have z := HM1.out.frozen
   have HFIN := hd_ (show kn + 1 + 1 = k + cntTo shPut (j + 1) xs by have h1 := HNX.out; have h2 := HKN.out; rw [shPut_cnt] at h1; skip; omega)
   go_wp2_with fail
   go_roundw
   case rel =>
    have hL := HCL.out _ _ (HM1.out.set_ (List.mem_cons_self ..) (i := 1) (by decide) _) (by
     exact shPut_markO kn x0 x1)
    exact ⟨j + 1, kn + 1 + 1, by omega, by go_num, by go_num, by omega, by omega, HFIN.out, hL.1, HOUT.out.trans hL.2 fun _ h => h⟩
   case measure => simp [intOf]; omega
  ·obtain rfl : j = xs.length := by omega
   rw [HE.out] at ho
   have HOF := hd_ ho; have HOUT := hd_ hout; have hkn := HKN.out; rw [cntTo_all] at hkn; have HKF := hd_ hkn
   clear ho hout hkn
   go_wp2_with fail
   go_ret
   exact ⟨_, rfl, by rw [HKF.out]; rfl, HOF.out, HOUT.out⟩
theorem markDisk_f (x0 : Int) (x1 : List ByteArray) (x2 : List TyPut) (A1 : Option Addr) (c1 : Nat) (A2 : Option Addr) (c2 : Nat) (k : Nat) (a : Int) (F : List Nat) (w : World) (h : shDisk.O w F [.int .i64 x0, .slice A1 x1.length c1, .slice A2 x2.length c2] (x0, x1, x2)) (hF : F.Nodup) (ha : a = (k : Int)) (h1 : 1 ≤ k) (h2 : k + shDisk.cntTop (x0, x1, x2) ≤ 4294967000) :
  Calls Tryz.prog 60 #[.agg #[.int .i64 x0, .slice A1 x1.length c1, .slice A2 x2.length c2], .int .i64 a] w fun e w' => ∃ r : Int, e = .returned (.int .i64 r) ∧ r = ((k + shDisk.cntTop (x0, x1, x2) : Nat) : Int) ∧ shDisk.O w' F [.int .i64 x0, .slice A1 x1.length c1, .slice A2 x2.length c2] (shDisk.top k (x0, x1, x2)) ∧ Out F w w' := by
 subst ha
 rw [shDisk_top] at h2 ⊢
 obtain ⟨A1', c1', F1, A2', c2', F2, e, eF, q1, q2⟩ := shDisk_O.1 h
 subst F
 simp only [List.cons.injEq, Value.slice.injEq] at e
 simp only [true_and, and_true] at e
 obtain ⟨⟨rfl, rfl⟩, ⟨rfl, rfl⟩⟩ := e
 have ho1 := q1
 have ho2 := q2
 have hS0 := hF
 have hS1 := (List.nodup_append.1 hS0).2.1
 have hS2 := (List.nodup_append.1 hS1).2.1
 have HN1 : Hid (F1).Nodup := hd_ (List.nodup_append.1 hS1).1
 have HG1 : Hid (w.heap.size ∉ F1) := hd_ (fun hh => by have := (Sh.row 9 shS).O_lt ho1 _ hh; omega)
 have HD1_2 : Hid (∀ b ∈ F1, b ∉ F2) := hd_ (fun b hb hb' => (List.nodup_append.1 hS1).2.2 b hb b hb' rfl)
 have HN2 : Hid (F2).Nodup := hd_ hS2
 have HG2 : Hid (w.heap.size ∉ F2) := hd_ (fun hh => by have := (Sh.row 138 shPut).O_lt ho2 _ hh; omega)
 have HD2_1 : Hid (∀ b ∈ F2, b ∉ F1) := hd_ (fun b hb hb' => (List.nodup_append.1 hS1).2.2 b hb' b hb rfl)
 clear hS0 hS1 hS2
 have BL0 := hd_ (Blk.new w 39 #[.int .i64 x0, .slice A1 x1.length c1, .slice A2 x2.length c2])
 have HOUT0 := hd_ (Out.alloc_ (([] ++ (F1 ++ F2))) w (.cells #[.int .i64 x0, .slice A1 x1.length c1, .slice A2 x2.length c2] 39))
 have HO1 := hd_ (O_below ho1 ((Below.refl w.heap.size w).alloc (Nat.le_refl _) (.cells #[.int .i64 x0, .slice A1 x1.length c1, .slice A2 x2.length c2] 39)))
 have HO2 := hd_ (O_below ho2 ((Below.refl w.heap.size w).alloc (Nat.le_refl _) (.cells #[.int .i64 x0, .slice A1 x1.length c1, .slice A2 x2.length c2] 39)))
 clear h hF q1 q2 ho1 ho2
 go_enter Tryz.func60, Tryz.ntmps60
 go_wp2_with fail
 refine (markStringS_f A1 c1 (k) _ x1 (F1) _ HO1.out HN1.out (by omega) (by omega) (by omega)).mono ?_
 rintro e1 w1 ⟨r1, rfl, hr1, hq1, hb1⟩
 obtain ⟨kn1, rfl, HK1⟩ : ∃ kq : Nat, r1 = (kq : Int) ∧ Hid (kq = k + (Sh.row 9 shS).cnt x1) := ⟨_, hr1, rfl⟩
 have BL1 := hd_ (BL0.out.out_ hb1 HG1.out)
 have HOUT1 := hd_ (HOUT0.out.trans hb1 (fun b hb => (List.mem_append_right _ (List.mem_append_left _ hb))))
 have HO2 := hd_ (O_out HO2.out hb1 HD2_1.out)
 have HO1 := hd_ hq1
 have f1 := BL1.out.cell
 have hk1 : 1 ≤ kn1 := by have := HK1.out; omega
 have hm1 : kn1 + (0 + (Sh.row 138 shPut).cnt x2) ≤ 4294967000 := by have := HK1.out; omega
 clear hr1 hq1 hb1 BL0 HOUT0
 go_wp2_with fail
 refine (markPutS_f A2 c2 (kn1) _ x2 (F2) _ HO2.out HN2.out (by omega) (by omega) (by omega)).mono ?_
 rintro e2 w2 ⟨r2, rfl, hr2, hq2, hb2⟩
 obtain ⟨kn2, rfl, HK2⟩ : ∃ kq : Nat, r2 = (kq : Int) ∧ Hid (kq = kn1 + (Sh.row 138 shPut).cnt x2) := ⟨_, hr2, rfl⟩
 have BL2 := hd_ (BL1.out.out_ hb2 HG2.out)
 have HOUT2 := hd_ (HOUT1.out.trans hb2 (fun b hb => (List.mem_append_right _ (List.mem_append_right _ hb))))
 have HO1 := hd_ (O_out HO1.out hb2 HD1_2.out)
 have HO2 := hd_ hq2
 have f2 := BL2.out.cell
 have hk2 : 1 ≤ kn2 := by have := HK2.out; omega
 have hm2 : kn2 + (0) ≤ 4294967000 := by have := HK2.out; omega
 clear hr2 hq2 hb2 BL1 HOUT1 f1
 go_wp2_with fail
 go_ret
 have E1 := HK1.out; subst E1
 have E2 := HK2.out; subst E2
 refine ⟨_, rfl, ?_, ?_, HOUT2.out⟩
 ·congr 1; omega
 ·exact ⟨[.int .i64 x0], [.slice A1 x1.length c1, .slice A2 x2.length c2], [], (F1 ++ F2), rfl, rfl, ⟨rfl, rfl⟩, ⟨[.slice A1 x1.length c1], [.slice A2 x2.length c2], F1, F2, rfl, rfl, HO1.out, HO2.out⟩⟩
theorem shSeat_markO {w : World} (kn : Nat) (x0 : Int) (x1 : Int)   : shSeat.O w ([] ++ []) [.int .i64 ((kn : Nat) : Int), .int .i64 (((kn) + 1 : Nat) : Int)] (shSeat.mark kn (x0, x1)) := by
 have key : shSeat.O w ([] ++ []) [.int .i64 ((kn : Nat) : Int), .int .i64 (((kn) + 1 : Nat) : Int)] (((kn : Nat) : Int), (((kn) + 1 : Nat) : Int)) := shSeat_O.2 ⟨rfl, rfl⟩
 exact key
theorem markSeatS_f (A : Option Addr) (c k : Nat) (a : Int) (xs : List TySeat) (F : List Nat) (w : World) (h : (Sh.row 88 shSeat).O w F [.slice A xs.length c] xs) (hF : F.Nodup) (ha : a = (k : Int)) (h1 : 1 ≤ k) (h2 : k + (Sh.row 88 shSeat).cnt xs ≤ 4294967000) :
  Calls Tryz.prog 62 #[.slice A xs.length c, .int .i64 a] w fun e w' => ∃ r : Int, e = .returned (.int .i64 r) ∧ r = ((k + (Sh.row 88 shSeat).cnt xs : Nat) : Int) ∧ (Sh.row 88 shSeat).O w' F [.slice A xs.length c] ((Sh.row 88 shSeat).mark k xs) ∧ Out F w w' := by
 subst ha
 have H2 := hd_ (show k + cntAll shSeat xs ≤ 4294967000 from h2)
 have hn := (O_len h).2
 unfold maxLen at hn
 have HO := hd_ h; have HF := hd_ hF
 have hk : k ≤ 4294967000 := by omega
 have HE := hd_ (markTo_all shSeat k xs); have HZ := hd_ (markTo_zero shSeat k xs)
 clear h hF h2
 go_enter Tryz.func62, Tryz.ntmps62
 go_wp2_with fail
 go_loopw [1, 5] (fun s i wr => ∃ (j kn : Nat), j ≤ xs.length ∧ i = .int .i64 j ∧ s = .int .i64 (kn : Int) ∧ 1 ≤ kn ∧ kn ≤ 4294967000 ∧ Hid (kn = k + cntTo shSeat j xs) ∧ (Sh.row 88 shSeat).O wr F [.slice A xs.length c] (markTo shSeat k j xs) ∧ Out F w wr) (fun _ i _ => xs.length - (intOf i).toNat)
 case atStart => exact ⟨0, k, Nat.zero_le _, rfl, rfl, h1, hk, by rw [cntTo_zero]; exact rfl, by rw [HZ.out]; exact HO.out, Out.refl _ _⟩
 case round =>
  obtain ⟨j, kn, hj, rfl, rfl, hk1, hk2, HKN, ho, hout⟩ := hrel
  by_cases hlt : j < xs.length
  ·have HNX := hd_ (cntTo_succ shSeat hlt)
   have hroom := cnt_room (s := shSeat) hlt H2.out
   obtain ⟨g, cur, FF, uu, rfl, hg, hN, ho, hm, hcl⟩ := mark_at ho rfl HF.out hlt
   simp only [shSeat_k] at hm hcl
   rw [← HKN.out] at hroom hcl
   generalize xs.getD j shSeat.d = X at *
   obtain ⟨x0, x1⟩ := X
   rw [shSeat_cnt] at hroom
   obtain ⟨rfl, eFF⟩ := shSeat_O.1 ho
   subst FF
   have HCL := hd_ hcl; have HM0 := hd_ hm; have HOUT := hd_ hout
   clear hcl hm hout ho hN hg
   have f0 : _ = some (Value.int .i64 x0) := HM0.out.cell0 (by decide)
   have f1 : _ = some (Value.int .i64 x1) := HM0.out.cell (i := 1) (by decide)
   have z := HM0.out.frozen
   have HFIN := hd_ (show kn + 1 + 1 = k + cntTo shSeat (j + 1) xs by have h1 := HNX.out; have h2 := HKN.out; rw [shSeat_cnt] at h1; skip; omega)
   go_wp2_with fail
   go_roundw
   case rel =>
    have hL := HCL.out _ _ ((HM0.out.set0 (List.mem_cons_self ..) (by decide) _).set_ (List.mem_cons_self ..) (i := 1) (by decide) _) (by
     exact shSeat_markO kn x0 x1)
    exact ⟨j + 1, kn + 1 + 1, by omega, by go_num, by go_num, by omega, by omega, HFIN.out, hL.1, HOUT.out.trans hL.2 fun _ h => h⟩
   case measure => simp [intOf]; omega
  ·obtain rfl : j = xs.length := by omega
   rw [HE.out] at ho
   have HOF := hd_ ho; have HOUT := hd_ hout; have hkn := HKN.out; rw [cntTo_all] at hkn; have HKF := hd_ hkn
   clear ho hout hkn
   go_wp2_with fail
   go_ret
   exact ⟨_, rfl, by rw [HKF.out]; rfl, HOF.out, HOUT.out⟩
theorem markTop_f (x0 : Int) (x1 : Int) (x2 : Int) (x3 : List TySeat) (A3 : Option Addr) (c3 : Nat) (k : Nat) (a : Int) (F : List Nat) (w : World) (h : shTop.O w F [.int .i64 x0, .int .i64 x1, .int .i64 x2, .slice A3 x3.length c3] (x0, x1, x2, x3)) (hF : F.Nodup) (ha : a = (k : Int)) (h1 : 1 ≤ k) (h2 : k + shTop.cntTop (x0, x1, x2, x3) ≤ 4294967000) :
  Calls Tryz.prog 61 #[.agg #[.int .i64 x0, .int .i64 x1, .int .i64 x2, .slice A3 x3.length c3], .int .i64 a] w fun e w' => ∃ r : Int, e = .returned (.int .i64 r) ∧ r = ((k + shTop.cntTop (x0, x1, x2, x3) : Nat) : Int) ∧ shTop.O w' F [.int .i64 x0, .int .i64 x1, .int .i64 x2, .slice A3 x3.length c3] (shTop.top k (x0, x1, x2, x3)) ∧ Out F w w' := by
 subst ha
 rw [shTop_top] at h2 ⊢
 obtain ⟨A3', c3', F3, e, eF, q3⟩ := shTop_O.1 h
 subst F
 simp only [List.cons.injEq, Value.slice.injEq] at e
 simp only [true_and, and_true] at e
 obtain ⟨rfl, rfl⟩ := e
 have ho3 := q3
 have hS0 := hF
 have hS1 := (List.nodup_append.1 hS0).2.1
 have hS2 := (List.nodup_append.1 hS1).2.1
 have hS3 := (List.nodup_append.1 hS2).2.1
 have HN3 : Hid (F3).Nodup := hd_ hS3
 have HG3 : Hid (w.heap.size ∉ F3) := hd_ (fun hh => by have := (Sh.row 88 shSeat).O_lt ho3 _ hh; omega)
 clear hS0 hS1 hS2 hS3
 have BL0 := hd_ (Blk.new w 42 #[.int .i64 x0, .int .i64 x1, .int .i64 x2, .slice A3 x3.length c3])
 have HOUT0 := hd_ (Out.alloc_ (([] ++ ([] ++ ([] ++ F3)))) w (.cells #[.int .i64 x0, .int .i64 x1, .int .i64 x2, .slice A3 x3.length c3] 42))
 have HO3 := hd_ (O_below ho3 ((Below.refl w.heap.size w).alloc (Nat.le_refl _) (.cells #[.int .i64 x0, .int .i64 x1, .int .i64 x2, .slice A3 x3.length c3] 42)))
 clear h hF q3 ho3
 go_enter Tryz.func61, Tryz.ntmps61
 go_wp2_with fail
 refine (markSeatS_f A3 c3 (k) _ x3 (F3) _ HO3.out HN3.out (by omega) (by omega) (by omega)).mono ?_
 rintro e1 w1 ⟨r3, rfl, hr3, hq3, hb1⟩
 obtain ⟨kn3, rfl, HK3⟩ : ∃ kq : Nat, r3 = (kq : Int) ∧ Hid (kq = k + (Sh.row 88 shSeat).cnt x3) := ⟨_, hr3, rfl⟩
 have BL1 := hd_ (BL0.out.out_ hb1 HG3.out)
 have HOUT1 := hd_ (HOUT0.out.trans hb1 (fun b hb => (List.mem_append_right _ (List.mem_append_right _ (List.mem_append_right _ hb)))))
 have HO3 := hd_ hq3
 have f1 := BL1.out.cell
 have hk3 : 1 ≤ kn3 := by have := HK3.out; omega
 have hm3 : kn3 + (0) ≤ 4294967000 := by have := HK3.out; omega
 clear hr3 hq3 hb1 BL0 HOUT0
 go_wp2_with fail
 go_ret
 have E3 := HK3.out; subst E3
 refine ⟨_, rfl, ?_, ?_, HOUT1.out⟩
 ·congr 1; omega
 ·exact ⟨[.int .i64 x0], [.int .i64 x1, .int .i64 x2, .slice A3 x3.length c3], [], ([] ++ ([] ++ F3)), rfl, rfl, ⟨rfl, rfl⟩, ⟨[.int .i64 x1], [.int .i64 x2, .slice A3 x3.length c3], [], ([] ++ F3), rfl, rfl, ⟨rfl, rfl⟩, ⟨[.int .i64 x2], [.slice A3 x3.length c3], [], F3, rfl, rfl, ⟨rfl, rfl⟩, HO3.out⟩⟩⟩
theorem markCache_f (x0 : Int) (x1 : List ByteArray) (x2 : List TyPut) (x3 : Int) (x4 : Int) (x5 : Int) (x6 : List TySeat) (x7 : Int) (x8 : Int) (x9 : Int) (x10 : List TySeat) (x11 : List TySeat) (x12 : List Int) (A1 : Option Addr) (c1 : Nat) (A2 : Option Addr) (c2 : Nat) (A6 : Option Addr) (c6 : Nat) (A10 : Option Addr) (c10 : Nat) (A11 : Option Addr) (c11 : Nat) (A12 : Option Addr) (c12 : Nat) (k : Nat) (a : Int) (F : List Nat) (w : World) (h : shCache.O w F [.int .i64 x0, .slice A1 x1.length c1, .slice A2 x2.length c2, .int .i64 x3, .int .i64 x4, .int .i64 x5, .slice A6 x6.length c6, .int .i64 x7, .int .i64 x8, .int .i64 x9, .slice A10 x10.length c10, .slice A11 x11.length c11, .slice A12 x12.length c12] ((x0, x1, x2), (x3, x4, x5, x6), (x7, x8, x9, x10), x11, x12)) (hF : F.Nodup) (ha : a = (k : Int)) (h1 : 1 ≤ k) (h2 : k + shCache.cntTop ((x0, x1, x2), (x3, x4, x5, x6), (x7, x8, x9, x10), x11, x12) ≤ 4294967000) :
  Calls Tryz.prog 16 #[.agg #[.int .i64 x0, .slice A1 x1.length c1, .slice A2 x2.length c2, .int .i64 x3, .int .i64 x4, .int .i64 x5, .slice A6 x6.length c6, .int .i64 x7, .int .i64 x8, .int .i64 x9, .slice A10 x10.length c10, .slice A11 x11.length c11, .slice A12 x12.length c12], .int .i64 a] w fun e w' => ∃ r : Int, e = .returned (.int .i64 r) ∧ r = ((k + shCache.cntTop ((x0, x1, x2), (x3, x4, x5, x6), (x7, x8, x9, x10), x11, x12) : Nat) : Int) ∧ shCache.O w' F [.int .i64 x0, .slice A1 x1.length c1, .slice A2 x2.length c2, .int .i64 x3, .int .i64 x4, .int .i64 x5, .slice A6 x6.length c6, .int .i64 x7, .int .i64 x8, .int .i64 x9, .slice A10 x10.length c10, .slice A11 x11.length c11, .slice A12 x12.length c12] (shCache.top k ((x0, x1, x2), (x3, x4, x5, x6), (x7, x8, x9, x10), x11, x12)) ∧ Out F w w' := by
 subst ha
 rw [shCache_top] at h2 ⊢
 obtain ⟨A1', c1', F1, A2', c2', F2, A6', c6', F6, A10', c10', F10, A11', c11', F11, A12', c12', F12, e, eF, q1, q2, q6, q10, q11, q12⟩ := shCache_O.1 h
 subst F
 simp only [List.cons.injEq, Value.slice.injEq] at e
 simp only [true_and, and_true] at e
 obtain ⟨⟨rfl, rfl⟩, ⟨rfl, rfl⟩, ⟨rfl, rfl⟩, ⟨rfl, rfl⟩, ⟨rfl, rfl⟩, ⟨rfl, rfl⟩⟩ := e
 have ho0 : shDisk.O w ([] ++ (F1 ++ F2)) [.int .i64 x0, .slice A1 x1.length c1, .slice A2 x2.length c2] (x0, x1, x2) := shDisk_O.2 ⟨A1, c1, F1, A2, c2, F2, rfl, rfl, q1, q2⟩
 have ho3 : shTop.O w ([] ++ ([] ++ ([] ++ F6))) [.int .i64 x3, .int .i64 x4, .int .i64 x5, .slice A6 x6.length c6] (x3, x4, x5, x6) := shTop_O.2 ⟨A6, c6, F6, rfl, rfl, q6⟩
 have ho7 : shTop.O w ([] ++ ([] ++ ([] ++ F10))) [.int .i64 x7, .int .i64 x8, .int .i64 x9, .slice A10 x10.length c10] (x7, x8, x9, x10) := shTop_O.2 ⟨A10, c10, F10, rfl, rfl, q10⟩
 have ho11 := q11
 have ho12 := q12
 have hS0 := hF
 have hS1 := (List.nodup_append.1 hS0).2.1
 have hS2 := (List.nodup_append.1 hS1).2.1
 have hS3 := (List.nodup_append.1 hS2).2.1
 have hS4 := (List.nodup_append.1 hS3).2.1
 have HN0 : Hid (([] ++ (F1 ++ F2))).Nodup := hd_ (List.nodup_append.1 hS0).1
 have HG0 : Hid (w.heap.size ∉ ([] ++ (F1 ++ F2))) := hd_ (fun hh => by have := (shDisk).O_lt ho0 _ hh; omega)
 have HD0_3 : Hid (∀ b ∈ ([] ++ (F1 ++ F2)), b ∉ ([] ++ ([] ++ ([] ++ F6)))) := hd_ (fun b hb hb' => (List.nodup_append.1 hS0).2.2 b hb b (List.mem_append_left _ hb') rfl)
 have HD0_7 : Hid (∀ b ∈ ([] ++ (F1 ++ F2)), b ∉ ([] ++ ([] ++ ([] ++ F10)))) := hd_ (fun b hb hb' => (List.nodup_append.1 hS0).2.2 b hb b (List.mem_append_right _ (List.mem_append_left _ hb')) rfl)
 have HD0_11 : Hid (∀ b ∈ ([] ++ (F1 ++ F2)), b ∉ F11) := hd_ (fun b hb hb' => (List.nodup_append.1 hS0).2.2 b hb b (List.mem_append_right _ (List.mem_append_right _ (List.mem_append_left _ hb'))) rfl)
 have HD0_12 : Hid (∀ b ∈ ([] ++ (F1 ++ F2)), b ∉ F12) := hd_ (fun b hb hb' => (List.nodup_append.1 hS0).2.2 b hb b (List.mem_append_right _ (List.mem_append_right _ (List.mem_append_right _ hb'))) rfl)
 have HN3 : Hid (([] ++ ([] ++ ([] ++ F6)))).Nodup := hd_ (List.nodup_append.1 hS1).1
 have HG3 : Hid (w.heap.size ∉ ([] ++ ([] ++ ([] ++ F6)))) := hd_ (fun hh => by have := (shTop).O_lt ho3 _ hh; omega)
 have HD3_0 : Hid (∀ b ∈ ([] ++ ([] ++ ([] ++ F6))), b ∉ ([] ++ (F1 ++ F2))) := hd_ (fun b hb hb' => (List.nodup_append.1 hS0).2.2 b hb' b (List.mem_append_left _ hb) rfl)
 have HD3_7 : Hid (∀ b ∈ ([] ++ ([] ++ ([] ++ F6))), b ∉ ([] ++ ([] ++ ([] ++ F10)))) := hd_ (fun b hb hb' => (List.nodup_append.1 hS1).2.2 b hb b (List.mem_append_left _ hb') rfl)
 have HD3_11 : Hid (∀ b ∈ ([] ++ ([] ++ ([] ++ F6))), b ∉ F11) := hd_ (fun b hb hb' => (List.nodup_append.1 hS1).2.2 b hb b (List.mem_append_right _ (List.mem_append_left _ hb')) rfl)
 have HD3_12 : Hid (∀ b ∈ ([] ++ ([] ++ ([] ++ F6))), b ∉ F12) := hd_ (fun b hb hb' => (List.nodup_append.1 hS1).2.2 b hb b (List.mem_append_right _ (List.mem_append_right _ hb')) rfl)
 have HN7 : Hid (([] ++ ([] ++ ([] ++ F10)))).Nodup := hd_ (List.nodup_append.1 hS2).1
 have HG7 : Hid (w.heap.size ∉ ([] ++ ([] ++ ([] ++ F10)))) := hd_ (fun hh => by have := (shTop).O_lt ho7 _ hh; omega)
 have HD7_0 : Hid (∀ b ∈ ([] ++ ([] ++ ([] ++ F10))), b ∉ ([] ++ (F1 ++ F2))) := hd_ (fun b hb hb' => (List.nodup_append.1 hS0).2.2 b hb' b (List.mem_append_right _ (List.mem_append_left _ hb)) rfl)
 have HD7_3 : Hid (∀ b ∈ ([] ++ ([] ++ ([] ++ F10))), b ∉ ([] ++ ([] ++ ([] ++ F6)))) := hd_ (fun b hb hb' => (List.nodup_append.1 hS1).2.2 b hb' b (List.mem_append_left _ hb) rfl)
 have HD7_11 : Hid (∀ b ∈ ([] ++ ([] ++ ([] ++ F10))), b ∉ F11) := hd_ (fun b hb hb' => (List.nodup_append.1 hS2).2.2 b hb b (List.mem_append_left _ hb') rfl)
 have HD7_12 : Hid (∀ b ∈ ([] ++ ([] ++ ([] ++ F10))), b ∉ F12) := hd_ (fun b hb hb' => (List.nodup_append.1 hS2).2.2 b hb b (List.mem_append_right _ hb') rfl)
 have HN11 : Hid (F11).Nodup := hd_ (List.nodup_append.1 hS3).1
 have HG11 : Hid (w.heap.size ∉ F11) := hd_ (fun hh => by have := (Sh.row 88 shSeat).O_lt ho11 _ hh; omega)
 have HD11_0 : Hid (∀ b ∈ F11, b ∉ ([] ++ (F1 ++ F2))) := hd_ (fun b hb hb' => (List.nodup_append.1 hS0).2.2 b hb' b (List.mem_append_right _ (List.mem_append_right _ (List.mem_append_left _ hb))) rfl)
 have HD11_3 : Hid (∀ b ∈ F11, b ∉ ([] ++ ([] ++ ([] ++ F6)))) := hd_ (fun b hb hb' => (List.nodup_append.1 hS1).2.2 b hb' b (List.mem_append_right _ (List.mem_append_left _ hb)) rfl)
 have HD11_7 : Hid (∀ b ∈ F11, b ∉ ([] ++ ([] ++ ([] ++ F10)))) := hd_ (fun b hb hb' => (List.nodup_append.1 hS2).2.2 b hb' b (List.mem_append_left _ hb) rfl)
 have HD11_12 : Hid (∀ b ∈ F11, b ∉ F12) := hd_ (fun b hb hb' => (List.nodup_append.1 hS3).2.2 b hb b hb' rfl)
 have HN12 : Hid (F12).Nodup := hd_ hS4
 have HG12 : Hid (w.heap.size ∉ F12) := hd_ (fun hh => by have := (Sh.row 2 shI).O_lt ho12 _ hh; omega)
 have HD12_0 : Hid (∀ b ∈ F12, b ∉ ([] ++ (F1 ++ F2))) := hd_ (fun b hb hb' => (List.nodup_append.1 hS0).2.2 b hb' b (List.mem_append_right _ (List.mem_append_right _ (List.mem_append_right _ hb))) rfl)
 have HD12_3 : Hid (∀ b ∈ F12, b ∉ ([] ++ ([] ++ ([] ++ F6)))) := hd_ (fun b hb hb' => (List.nodup_append.1 hS1).2.2 b hb' b (List.mem_append_right _ (List.mem_append_right _ hb)) rfl)
 have HD12_7 : Hid (∀ b ∈ F12, b ∉ ([] ++ ([] ++ ([] ++ F10)))) := hd_ (fun b hb hb' => (List.nodup_append.1 hS2).2.2 b hb' b (List.mem_append_right _ hb) rfl)
 have HD12_11 : Hid (∀ b ∈ F12, b ∉ F11) := hd_ (fun b hb hb' => (List.nodup_append.1 hS3).2.2 b hb' b hb rfl)
 clear hS0 hS1 hS2 hS3 hS4
 have BL0 := hd_ (Blk.new w 44 #[.int .i64 x0, .slice A1 x1.length c1, .slice A2 x2.length c2, .int .i64 x3, .int .i64 x4, .int .i64 x5, .slice A6 x6.length c6, .int .i64 x7, .int .i64 x8, .int .i64 x9, .slice A10 x10.length c10, .slice A11 x11.length c11, .slice A12 x12.length c12])
 have HOUT0 := hd_ (Out.alloc_ ((([] ++ (F1 ++ F2)) ++ (([] ++ ([] ++ ([] ++ F6))) ++ (([] ++ ([] ++ ([] ++ F10))) ++ (F11 ++ F12))))) w (.cells #[.int .i64 x0, .slice A1 x1.length c1, .slice A2 x2.length c2, .int .i64 x3, .int .i64 x4, .int .i64 x5, .slice A6 x6.length c6, .int .i64 x7, .int .i64 x8, .int .i64 x9, .slice A10 x10.length c10, .slice A11 x11.length c11, .slice A12 x12.length c12] 44))
 have HO0 := hd_ (O_below ho0 ((Below.refl w.heap.size w).alloc (Nat.le_refl _) (.cells #[.int .i64 x0, .slice A1 x1.length c1, .slice A2 x2.length c2, .int .i64 x3, .int .i64 x4, .int .i64 x5, .slice A6 x6.length c6, .int .i64 x7, .int .i64 x8, .int .i64 x9, .slice A10 x10.length c10, .slice A11 x11.length c11, .slice A12 x12.length c12] 44)))
 have HO3 := hd_ (O_below ho3 ((Below.refl w.heap.size w).alloc (Nat.le_refl _) (.cells #[.int .i64 x0, .slice A1 x1.length c1, .slice A2 x2.length c2, .int .i64 x3, .int .i64 x4, .int .i64 x5, .slice A6 x6.length c6, .int .i64 x7, .int .i64 x8, .int .i64 x9, .slice A10 x10.length c10, .slice A11 x11.length c11, .slice A12 x12.length c12] 44)))
 have HO7 := hd_ (O_below ho7 ((Below.refl w.heap.size w).alloc (Nat.le_refl _) (.cells #[.int .i64 x0, .slice A1 x1.length c1, .slice A2 x2.length c2, .int .i64 x3, .int .i64 x4, .int .i64 x5, .slice A6 x6.length c6, .int .i64 x7, .int .i64 x8, .int .i64 x9, .slice A10 x10.length c10, .slice A11 x11.length c11, .slice A12 x12.length c12] 44)))
 have HO11 := hd_ (O_below ho11 ((Below.refl w.heap.size w).alloc (Nat.le_refl _) (.cells #[.int .i64 x0, .slice A1 x1.length c1, .slice A2 x2.length c2, .int .i64 x3, .int .i64 x4, .int .i64 x5, .slice A6 x6.length c6, .int .i64 x7, .int .i64 x8, .int .i64 x9, .slice A10 x10.length c10, .slice A11 x11.length c11, .slice A12 x12.length c12] 44)))
 have HO12 := hd_ (O_below ho12 ((Below.refl w.heap.size w).alloc (Nat.le_refl _) (.cells #[.int .i64 x0, .slice A1 x1.length c1, .slice A2 x2.length c2, .int .i64 x3, .int .i64 x4, .int .i64 x5, .slice A6 x6.length c6, .int .i64 x7, .int .i64 x8, .int .i64 x9, .slice A10 x10.length c10, .slice A11 x11.length c11, .slice A12 x12.length c12] 44)))
 clear h hF q1 q2 q6 q10 q11 q12 ho0 ho3 ho7 ho11 ho12
 go_enter Tryz.func16, Tryz.ntmps16
 go_wp2_with fail
 refine (markDisk_f x0 x1 x2 A1 c1 A2 c2 (k) _ (([] ++ (F1 ++ F2))) _ HO0.out HN0.out (by omega) (by omega) (by omega)).mono ?_
 rintro e1 w1 ⟨r0, rfl, hr0, hq0, hb1⟩
 obtain ⟨kn0, rfl, HK0⟩ : ∃ kq : Nat, r0 = (kq : Int) ∧ Hid (kq = k + (shDisk).cntTop (x0, x1, x2)) := ⟨_, hr0, rfl⟩
 have BL1 := hd_ (BL0.out.out_ hb1 HG0.out)
 have HOUT1 := hd_ (HOUT0.out.trans hb1 (fun b hb => (List.mem_append_left _ hb)))
 have HO3 := hd_ (O_out HO3.out hb1 HD3_0.out)
 have HO7 := hd_ (O_out HO7.out hb1 HD7_0.out)
 have HO11 := hd_ (O_out HO11.out hb1 HD11_0.out)
 have HO12 := hd_ (O_out HO12.out hb1 HD12_0.out)
 have HO0 := hd_ hq0
 have f1 := BL1.out.cell
 have hk0 : 1 ≤ kn0 := by have := HK0.out; omega
 have hm0 : kn0 + (0 + (shTop).cntTop (x3, x4, x5, x6) + (shTop).cntTop (x7, x8, x9, x10) + (Sh.row 88 shSeat).cnt x11 + (Sh.row 2 shI).cnt x12) ≤ 4294967000 := by have := HK0.out; omega
 clear hr0 hq0 hb1 BL0 HOUT0
 go_wp2_with fail
 refine (markTop_f x3 x4 x5 x6 A6 c6 (kn0) _ (([] ++ ([] ++ ([] ++ F6)))) _ HO3.out HN3.out (by omega) (by omega) (by omega)).mono ?_
 rintro e2 w2 ⟨r3, rfl, hr3, hq3, hb2⟩
 obtain ⟨kn3, rfl, HK3⟩ : ∃ kq : Nat, r3 = (kq : Int) ∧ Hid (kq = kn0 + (shTop).cntTop (x3, x4, x5, x6)) := ⟨_, hr3, rfl⟩
 have BL2 := hd_ (BL1.out.out_ hb2 HG3.out)
 have HOUT2 := hd_ (HOUT1.out.trans hb2 (fun b hb => (List.mem_append_right _ (List.mem_append_left _ hb))))
 have HO0 := hd_ (O_out HO0.out hb2 HD0_3.out)
 have HO7 := hd_ (O_out HO7.out hb2 HD7_3.out)
 have HO11 := hd_ (O_out HO11.out hb2 HD11_3.out)
 have HO12 := hd_ (O_out HO12.out hb2 HD12_3.out)
 have HO3 := hd_ hq3
 have f2 := BL2.out.cell
 have hk3 : 1 ≤ kn3 := by have := HK3.out; omega
 have hm3 : kn3 + (0 + (shTop).cntTop (x7, x8, x9, x10) + (Sh.row 88 shSeat).cnt x11 + (Sh.row 2 shI).cnt x12) ≤ 4294967000 := by have := HK3.out; omega
 clear hr3 hq3 hb2 BL1 HOUT1 f1
 go_wp2_with fail
 refine (markTop_f x7 x8 x9 x10 A10 c10 (kn3) _ (([] ++ ([] ++ ([] ++ F10)))) _ HO7.out HN7.out (by omega) (by omega) (by omega)).mono ?_
 rintro e3 w3 ⟨r7, rfl, hr7, hq7, hb3⟩
 obtain ⟨kn7, rfl, HK7⟩ : ∃ kq : Nat, r7 = (kq : Int) ∧ Hid (kq = kn3 + (shTop).cntTop (x7, x8, x9, x10)) := ⟨_, hr7, rfl⟩
 have BL3 := hd_ (BL2.out.out_ hb3 HG7.out)
 have HOUT3 := hd_ (HOUT2.out.trans hb3 (fun b hb => (List.mem_append_right _ (List.mem_append_right _ (List.mem_append_left _ hb)))))
 have HO0 := hd_ (O_out HO0.out hb3 HD0_7.out)
 have HO3 := hd_ (O_out HO3.out hb3 HD3_7.out)
 have HO11 := hd_ (O_out HO11.out hb3 HD11_7.out)
 have HO12 := hd_ (O_out HO12.out hb3 HD12_7.out)
 have HO7 := hd_ hq7
 have f3 := BL3.out.cell
 have hk7 : 1 ≤ kn7 := by have := HK7.out; omega
 have hm7 : kn7 + (0 + (Sh.row 88 shSeat).cnt x11 + (Sh.row 2 shI).cnt x12) ≤ 4294967000 := by have := HK7.out; omega
 clear hr7 hq7 hb3 BL2 HOUT2 f2
 go_wp2_with fail
 refine (markSeatS_f A11 c11 (kn7) _ x11 (F11) _ HO11.out HN11.out (by omega) (by omega) (by omega)).mono ?_
 rintro e4 w4 ⟨r11, rfl, hr11, hq11, hb4⟩
 obtain ⟨kn11, rfl, HK11⟩ : ∃ kq : Nat, r11 = (kq : Int) ∧ Hid (kq = kn7 + (Sh.row 88 shSeat).cnt x11) := ⟨_, hr11, rfl⟩
 have BL4 := hd_ (BL3.out.out_ hb4 HG11.out)
 have HOUT4 := hd_ (HOUT3.out.trans hb4 (fun b hb => (List.mem_append_right _ (List.mem_append_right _ (List.mem_append_right _ (List.mem_append_left _ hb))))))
 have HO0 := hd_ (O_out HO0.out hb4 HD0_11.out)
 have HO3 := hd_ (O_out HO3.out hb4 HD3_11.out)
 have HO7 := hd_ (O_out HO7.out hb4 HD7_11.out)
 have HO12 := hd_ (O_out HO12.out hb4 HD12_11.out)
 have HO11 := hd_ hq11
 have f4 := BL4.out.cell
 have hk11 : 1 ≤ kn11 := by have := HK11.out; omega
 have hm11 : kn11 + (0 + (Sh.row 2 shI).cnt x12) ≤ 4294967000 := by have := HK11.out; omega
 clear hr11 hq11 hb4 BL3 HOUT3 f3
 go_wp2_with fail
 refine (markInt64S_f A12 c12 (kn11) _ x12 (F12) _ HO12.out HN12.out (by omega) (by omega) (by omega)).mono ?_
 rintro e5 w5 ⟨r12, rfl, hr12, hq12, hb5⟩
 obtain ⟨kn12, rfl, HK12⟩ : ∃ kq : Nat, r12 = (kq : Int) ∧ Hid (kq = kn11 + (Sh.row 2 shI).cnt x12) := ⟨_, hr12, rfl⟩
 have BL5 := hd_ (BL4.out.out_ hb5 HG12.out)
 have HOUT5 := hd_ (HOUT4.out.trans hb5 (fun b hb => (List.mem_append_right _ (List.mem_append_right _ (List.mem_append_right _ (List.mem_append_right _ hb))))))
 have HO0 := hd_ (O_out HO0.out hb5 HD0_12.out)
 have HO3 := hd_ (O_out HO3.out hb5 HD3_12.out)
 have HO7 := hd_ (O_out HO7.out hb5 HD7_12.out)
 have HO11 := hd_ (O_out HO11.out hb5 HD11_12.out)
 have HO12 := hd_ hq12
 have f5 := BL5.out.cell
 have hk12 : 1 ≤ kn12 := by have := HK12.out; omega
 have hm12 : kn12 + (0) ≤ 4294967000 := by have := HK12.out; omega
 clear hr12 hq12 hb5 BL4 HOUT4 f4
 go_wp2_with fail
 go_ret
 have E0 := HK0.out; subst E0
 have E3 := HK3.out; subst E3
 have E7 := HK7.out; subst E7
 have E11 := HK11.out; subst E11
 have E12 := HK12.out; subst E12
 refine ⟨_, rfl, ?_, ?_, HOUT5.out⟩
 ·congr 1; omega
 ·exact ⟨[.int .i64 x0, .slice A1 x1.length c1, .slice A2 x2.length c2], [.int .i64 x3, .int .i64 x4, .int .i64 x5, .slice A6 x6.length c6, .int .i64 x7, .int .i64 x8, .int .i64 x9, .slice A10 x10.length c10, .slice A11 x11.length c11, .slice A12 x12.length c12], ([] ++ (F1 ++ F2)), (([] ++ ([] ++ ([] ++ F6))) ++ (([] ++ ([] ++ ([] ++ F10))) ++ (F11 ++ F12))), rfl, rfl, HO0.out, ⟨[.int .i64 x3, .int .i64 x4, .int .i64 x5, .slice A6 x6.length c6], [.int .i64 x7, .int .i64 x8, .int .i64 x9, .slice A10 x10.length c10, .slice A11 x11.length c11, .slice A12 x12.length c12], ([] ++ ([] ++ ([] ++ F6))), (([] ++ ([] ++ ([] ++ F10))) ++ (F11 ++ F12)), rfl, rfl, HO3.out, ⟨[.int .i64 x7, .int .i64 x8, .int .i64 x9, .slice A10 x10.length c10], [.slice A11 x11.length c11, .slice A12 x12.length c12], ([] ++ ([] ++ ([] ++ F10))), (F11 ++ F12), rfl, rfl, HO7.out, ⟨[.slice A11 x11.length c11], [.slice A12 x12.length c12], F11, F12, rfl, rfl, HO11.out, HO12.out⟩⟩⟩⟩
theorem shSlot_markO {w : World} (kn : Nat) (x0 : Int) (x1 : Bool) (x2 : List ByteArray) (x3 : List ByteArray) (x4 : List Int) (A2 : Option Addr) (c2 : Nat) (A3 : Option Addr) (c3 : Nat) (A4 : Option Addr) (c4 : Nat) {F2 F3 F4 : List Nat} (h2 : (Sh.row 9 shS).O w F2 [.slice A2 x2.length c2] ((Sh.row 9 shS).mark (((kn) + 1) + 1) x2)) (h3 : (Sh.row 9 shS).O w F3 [.slice A3 x3.length c3] ((Sh.row 9 shS).mark ((((kn) + 1) + 1) + (Sh.row 9 shS).cnt x2) x3)) (h4 : (Sh.row 2 shI).O w F4 [.slice A4 x4.length c4] ((Sh.row 2 shI).mark (((((kn) + 1) + 1) + (Sh.row 9 shS).cnt x2) + (Sh.row 9 shS).cnt x3) x4)) : shSlot.O w ([] ++ ([] ++ (F2 ++ (F3 ++ F4)))) [.int .i64 ((kn : Nat) : Int), .bool ((((kn) + 1 : Nat) : Int) % 3 == 0), .slice A2 x2.length c2, .slice A3 x3.length c3, .slice A4 x4.length c4] (shSlot.mark kn (x0, (x1, x2, x3, x4))) := by
 have e2 : ((Sh.row 9 shS).mark (((kn) + 1) + 1) x2).length = x2.length := mkAll_len _ _ _
 have e3 : ((Sh.row 9 shS).mark ((((kn) + 1) + 1) + (Sh.row 9 shS).cnt x2) x3).length = x3.length := mkAll_len _ _ _
 have e4 : ((Sh.row 2 shI).mark (((((kn) + 1) + 1) + (Sh.row 9 shS).cnt x2) + (Sh.row 9 shS).cnt x3) x4).length = x4.length := mkAll_len _ _ _
 rw [← e2] at h2
 rw [← e3] at h3
 rw [← e4] at h4
 have key : shSlot.O w ([] ++ ([] ++ (F2 ++ (F3 ++ F4)))) [.int .i64 ((kn : Nat) : Int), .bool ((((kn) + 1 : Nat) : Int) % 3 == 0), .slice A2 x2.length c2, .slice A3 x3.length c3, .slice A4 x4.length c4] (((kn : Nat) : Int), (((((kn) + 1 : Nat) : Int) % 3 == 0), ((Sh.row 9 shS).mark (((kn) + 1) + 1) x2), ((Sh.row 9 shS).mark ((((kn) + 1) + 1) + (Sh.row 9 shS).cnt x2) x3), ((Sh.row 2 shI).mark (((((kn) + 1) + 1) + (Sh.row 9 shS).cnt x2) + (Sh.row 9 shS).cnt x3) x4))) := shSlot_O.2 ⟨A2, c2, F2, A3, c3, F3, A4, c4, F4, by simp only [e2, e3, e4], rfl, h2, h3, h4⟩
 exact key
theorem markSlotS_f (A : Option Addr) (c k : Nat) (a : Int) (xs : List TySlot) (F : List Nat) (w : World) (h : (Sh.row 85 shSlot).O w F [.slice A xs.length c] xs) (hF : F.Nodup) (ha : a = (k : Int)) (h1 : 1 ≤ k) (h2 : k + (Sh.row 85 shSlot).cnt xs ≤ 4294967000) :
  Calls Tryz.prog 64 #[.slice A xs.length c, .int .i64 a] w fun e w' => ∃ r : Int, e = .returned (.int .i64 r) ∧ r = ((k + (Sh.row 85 shSlot).cnt xs : Nat) : Int) ∧ (Sh.row 85 shSlot).O w' F [.slice A xs.length c] ((Sh.row 85 shSlot).mark k xs) ∧ Out F w w' := by
 subst ha
 have H2 := hd_ (show k + cntAll shSlot xs ≤ 4294967000 from h2)
 have hn := (O_len h).2
 unfold maxLen at hn
 have HO := hd_ h; have HF := hd_ hF
 have hk : k ≤ 4294967000 := by omega
 have HE := hd_ (markTo_all shSlot k xs); have HZ := hd_ (markTo_zero shSlot k xs)
 clear h hF h2
 go_enter Tryz.func64, Tryz.ntmps64
 go_wp2_with fail
 go_loopw [1, 5] (fun s i wr => ∃ (j kn : Nat), j ≤ xs.length ∧ i = .int .i64 j ∧ s = .int .i64 (kn : Int) ∧ 1 ≤ kn ∧ kn ≤ 4294967000 ∧ Hid (kn = k + cntTo shSlot j xs) ∧ (Sh.row 85 shSlot).O wr F [.slice A xs.length c] (markTo shSlot k j xs) ∧ Out F w wr) (fun _ i _ => xs.length - (intOf i).toNat)
 case atStart => exact ⟨0, k, Nat.zero_le _, rfl, rfl, h1, hk, by rw [cntTo_zero]; exact rfl, by rw [HZ.out]; exact HO.out, Out.refl _ _⟩
 case round =>
  obtain ⟨j, kn, hj, rfl, rfl, hk1, hk2, HKN, ho, hout⟩ := hrel
  by_cases hlt : j < xs.length
  ·have HNX := hd_ (cntTo_succ shSlot hlt)
   have hroom := cnt_room (s := shSlot) hlt H2.out
   obtain ⟨g, cur, FF, uu, rfl, hg, hN, ho, hm, hcl⟩ := mark_at ho rfl HF.out hlt
   simp only [shSlot_k] at hm hcl
   rw [← HKN.out] at hroom hcl
   generalize xs.getD j shSlot.d = X at *
   obtain ⟨x0, ⟨x1, x2, x3, x4⟩⟩ := X
   rw [shSlot_cnt] at hroom
   obtain ⟨A2, c2, F2, A3, c3, F3, A4, c4, F4, rfl, eFF, ho2, ho3, ho4⟩ := shSlot_O.1 ho
   subst FF
   have HCL := hd_ hcl; have HM0 := hd_ hm; have HOUT := hd_ hout
   have hg2 : g ∉ F2 := fun hh => hg (by simp [hh])
   have HG2 := hd_ hg2
   have HN2 : Hid F2.Nodup := hd_ (by have := hN; (try simp only [List.nil_append, List.nodup_append] at this); grind)
   have HO2 := hd_ ho2
   have hg3 : g ∉ F3 := fun hh => hg (by simp [hh])
   have HG3 := hd_ hg3
   have HN3 : Hid F3.Nodup := hd_ (by have := hN; (try simp only [List.nil_append, List.nodup_append] at this); grind)
   have HO3 := hd_ ho3
   have hg4 : g ∉ F4 := fun hh => hg (by simp [hh])
   have HG4 := hd_ hg4
   have HN4 : Hid F4.Nodup := hd_ (by have := hN; (try simp only [List.nil_append, List.nodup_append] at this); grind)
   have HO4 := hd_ ho4
   have HD2_3 : Hid (∀ b ∈ F2, b ∉ F3) := hd_ (by have := hN; (try simp only [List.nil_append, List.nodup_append] at this); grind)
   have HD3_2 : Hid (∀ b ∈ F3, b ∉ F2) := hd_ (by have := hN; (try simp only [List.nil_append, List.nodup_append] at this); grind)
   have HD2_4 : Hid (∀ b ∈ F2, b ∉ F4) := hd_ (by have := hN; (try simp only [List.nil_append, List.nodup_append] at this); grind)
   have HD4_2 : Hid (∀ b ∈ F4, b ∉ F2) := hd_ (by have := hN; (try simp only [List.nil_append, List.nodup_append] at this); grind)
   have HD3_4 : Hid (∀ b ∈ F3, b ∉ F4) := hd_ (by have := hN; (try simp only [List.nil_append, List.nodup_append] at this); grind)
   have HD4_3 : Hid (∀ b ∈ F4, b ∉ F3) := hd_ (by have := hN; (try simp only [List.nil_append, List.nodup_append] at this); grind)
   clear hcl hm hout ho hN hg ho2 hg2 ho3 hg3 ho4 hg4
   have f0 : _ = some (Value.int .i64 x0) := HM0.out.cell0 (by decide)
   have f1 : _ = some (Value.bool x1) := HM0.out.cell (i := 1) (by decide)
   have f2 : _ = some (Value.slice A2 x2.length c2) := HM0.out.cell (i := 2) (by decide)
   have f3 : _ = some (Value.slice A3 x3.length c3) := HM0.out.cell (i := 3) (by decide)
   have f4 : _ = some (Value.slice A4 x4.length c4) := HM0.out.cell (i := 4) (by decide)
   have z := HM0.out.frozen
   go_wp2_with fail
   refine (markStringS_f A2 c2 (kn + 1 + 1) _ x2 F2 _ (O_set (O_set HO2.out HG2.out _) HG2.out _) HN2.out (by omega) (by omega) (by omega)).mono ?_
   rintro e1 w1 ⟨r2, rfl, hr2, hq2, hb1⟩
   obtain ⟨kn2, rfl, HK2⟩ : ∃ kq : Nat, r2 = (kq : Int) ∧ Hid (kq = kn + 1 + 1 + (Sh.row 9 shS).cnt x2) := ⟨_, hr2, rfl⟩
   have HM1 := hd_ (((HM0.out.set0 (List.mem_cons_self ..) (by decide) _).set_ (List.mem_cons_self ..) (i := 1) (by decide) _).call hb1 (fun b hb => List.mem_cons_of_mem _ (by simp [hb])) HG2.out)
   have HO3 := hd_ (O_out (O_set (O_set HO3.out HG3.out _) HG3.out _) hb1 HD3_2.out)
   have HO4 := hd_ (O_out (O_set (O_set HO4.out HG4.out _) HG4.out _) hb1 HD4_2.out)
   have HO2 := hd_ hq2
   have hroom : kn2 + (0 + (Sh.row 9 shS).cnt x3 + (Sh.row 2 shI).cnt x4) ≤ 4294967000 := by have := HK2.out; omega
   have hk2 : 1 ≤ kn2 := by have := HK2.out; omega
   clear hr2 hb1 hq2 HM0 z f0 f1 f2 f3 f4
   have f0 : _ = some (Value.int .i64 ((kn : Nat) : Int)) := HM1.out.cell0 (by decide)
   have f1 : _ = some (Value.bool (((kn + 1 : Nat) : Int) % 3 == 0)) := HM1.out.cell (i := 1) (by decide)
   have f2 : _ = some (Value.slice A2 x2.length c2) := HM1.out.cell (i := 2) (by decide)
   have f3 : _ = some (Value.slice A3 x3.length c3) := HM1.out.cell (i := 3) (by decide)
   have f4 : _ = some (Value.slice A4 x4.length c4) := HM1.out.cell (i := 4) (by decide)
   have z := HM1.out.frozen
   go_wp2_with fail
   refine (markStringS_f A3 c3 (kn2) _ x3 F3 _ HO3.out HN3.out (by omega) (by omega) (by omega)).mono ?_
   rintro e2 w2 ⟨r3, rfl, hr3, hq3, hb2⟩
   obtain ⟨kn3, rfl, HK3⟩ : ∃ kq : Nat, r3 = (kq : Int) ∧ Hid (kq = kn2 + (Sh.row 9 shS).cnt x3) := ⟨_, hr3, rfl⟩
   have HM2 := hd_ (HM1.out.call hb2 (fun b hb => List.mem_cons_of_mem _ (by simp [hb])) HG3.out)
   have HO2 := hd_ (O_out HO2.out hb2 HD2_3.out)
   have HO4 := hd_ (O_out HO4.out hb2 HD4_3.out)
   have HO3 := hd_ hq3
   have hroom : kn3 + (0 + (Sh.row 2 shI).cnt x4) ≤ 4294967000 := by have := HK3.out; omega
   have hk3 : 1 ≤ kn3 := by have := HK3.out; omega
   clear hr3 hb2 hq3 HM1 z f0 f1 f2 f3 f4
   have f0 : _ = some (Value.int .i64 ((kn : Nat) : Int)) := HM2.out.cell0 (by decide)
   have f1 : _ = some (Value.bool (((kn + 1 : Nat) : Int) % 3 == 0)) := HM2.out.cell (i := 1) (by decide)
   have f2 : _ = some (Value.slice A2 x2.length c2) := HM2.out.cell (i := 2) (by decide)
   have f3 : _ = some (Value.slice A3 x3.length c3) := HM2.out.cell (i := 3) (by decide)
   have f4 : _ = some (Value.slice A4 x4.length c4) := HM2.out.cell (i := 4) (by decide)
   have z := HM2.out.frozen
   go_wp2_with fail
   refine (markInt64S_f A4 c4 (kn3) _ x4 F4 _ HO4.out HN4.out (by omega) (by omega) (by omega)).mono ?_
   rintro e3 w3 ⟨r4, rfl, hr4, hq4, hb3⟩
   obtain ⟨kn4, rfl, HK4⟩ : ∃ kq : Nat, r4 = (kq : Int) ∧ Hid (kq = kn3 + (Sh.row 2 shI).cnt x4) := ⟨_, hr4, rfl⟩
   have HM3 := hd_ (HM2.out.call hb3 (fun b hb => List.mem_cons_of_mem _ (by simp [hb])) HG4.out)
   have HO2 := hd_ (O_out HO2.out hb3 HD2_4.out)
   have HO3 := hd_ (O_out HO3.out hb3 HD3_4.out)
   have HO4 := hd_ hq4
   have hroom : kn4 + (0) ≤ 4294967000 := by have := HK4.out; omega
   have hk4 : 1 ≤ kn4 := by have := HK4.out; omega
   clear hr4 hb3 hq4 HM2 z f0 f1 f2 f3 f4
   have f0 : _ = some (Value.int .i64 ((kn : Nat) : Int)) := HM3.out.cell0 (by decide)
   have f1 : _ = some (Value.bool (((kn + 1 : Nat) : Int) % 3 == 0)) := HM3.out.cell (i := 1) (by decide)
   have f2 : _ = some (Value.slice A2 x2.length c2) := HM3.out.cell (i := 2) (by decide)
   have f3 : _ = some (Value.slice A3 x3.length c3) := HM3.out.cell (i := 3) (by decide)
   have f4 : _ = some (Value.slice A4 x4.length c4) := HM3.out.cell (i := 4) (by decide)
   have z := HM3.out.frozen
   have HFIN := hd_ (show kn4 = k + cntTo shSlot (j + 1) xs by have h1 := HNX.out; have h2 := HKN.out; rw [shSlot_cnt] at h1; skip; have h102 := HK2.out; have h103 := HK3.out; have h104 := HK4.out; omega)
   go_wp2_with fail
   go_roundw
   case rel =>
    have e202 := HK2.out; subst e202
    have e203 := HK3.out; subst e203
    have e204 := HK4.out; subst e204
    have hL := HCL.out _ _ HM3.out (by
     exact shSlot_markO kn x0 x1 x2 x3 x4 A2 c2 A3 c3 A4 c4 HO2.out HO3.out HO4.out)
    exact ⟨j + 1, _, by omega, by go_num, by go_num, by omega, by omega, HFIN.out, hL.1, HOUT.out.trans hL.2 fun _ h => h⟩
   case measure => simp [intOf]; omega
  ·obtain rfl : j = xs.length := by omega
   rw [HE.out] at ho
   have HOF := hd_ ho; have HOUT := hd_ hout; have hkn := HKN.out; rw [cntTo_all] at hkn; have HKF := hd_ hkn
   clear ho hout hkn
   go_wp2_with fail
   go_ret
   exact ⟨_, rfl, by rw [HKF.out]; rfl, HOF.out, HOUT.out⟩
theorem markBtree_f (x0 : Int) (x1 : List TySlot) (A1 : Option Addr) (c1 : Nat) (k : Nat) (a : Int) (F : List Nat) (w : World) (h : shBtree.O w F [.int .i64 x0, .slice A1 x1.length c1] (x0, x1)) (hF : F.Nodup) (ha : a = (k : Int)) (h1 : 1 ≤ k) (h2 : k + shBtree.cntTop (x0, x1) ≤ 4294967000) :
  Calls Tryz.prog 17 #[.agg #[.int .i64 x0, .slice A1 x1.length c1], .int .i64 a] w fun e w' => ∃ r : Int, e = .returned (.int .i64 r) ∧ r = ((k + shBtree.cntTop (x0, x1) : Nat) : Int) ∧ shBtree.O w' F [.int .i64 x0, .slice A1 x1.length c1] (shBtree.top k (x0, x1)) ∧ Out F w w' := by
 subst ha
 rw [shBtree_top] at h2 ⊢
 obtain ⟨A1', c1', F1, e, eF, q1⟩ := shBtree_O.1 h
 subst F
 simp only [List.cons.injEq, Value.slice.injEq] at e
 simp only [true_and, and_true] at e
 obtain ⟨rfl, rfl⟩ := e
 have ho1 := q1
 have hS0 := hF
 have hS1 := (List.nodup_append.1 hS0).2.1
 have HN1 : Hid (F1).Nodup := hd_ hS1
 have HG1 : Hid (w.heap.size ∉ F1) := hd_ (fun hh => by have := (Sh.row 85 shSlot).O_lt ho1 _ hh; omega)
 clear hS0 hS1
 have BL0 := hd_ (Blk.new w 50 #[.int .i64 x0, .slice A1 x1.length c1])
 have HOUT0 := hd_ (Out.alloc_ (([] ++ F1)) w (.cells #[.int .i64 x0, .slice A1 x1.length c1] 50))
 have HO1 := hd_ (O_below ho1 ((Below.refl w.heap.size w).alloc (Nat.le_refl _) (.cells #[.int .i64 x0, .slice A1 x1.length c1] 50)))
 clear h hF q1 ho1
 go_enter Tryz.func17, Tryz.ntmps17
 go_wp2_with fail
 refine (markSlotS_f A1 c1 (k) _ x1 (F1) _ HO1.out HN1.out (by omega) (by omega) (by omega)).mono ?_
 rintro e1 w1 ⟨r1, rfl, hr1, hq1, hb1⟩
 obtain ⟨kn1, rfl, HK1⟩ : ∃ kq : Nat, r1 = (kq : Int) ∧ Hid (kq = k + (Sh.row 85 shSlot).cnt x1) := ⟨_, hr1, rfl⟩
 have BL1 := hd_ (BL0.out.out_ hb1 HG1.out)
 have HOUT1 := hd_ (HOUT0.out.trans hb1 (fun b hb => (List.mem_append_right _ hb)))
 have HO1 := hd_ hq1
 have f1 := BL1.out.cell
 have hk1 : 1 ≤ kn1 := by have := HK1.out; omega
 have hm1 : kn1 + (0) ≤ 4294967000 := by have := HK1.out; omega
 clear hr1 hq1 hb1 BL0 HOUT0
 go_wp2_with fail
 go_ret
 have E1 := HK1.out; subst E1
 refine ⟨_, rfl, ?_, ?_, HOUT1.out⟩
 ·congr 1; omega
 ·exact ⟨[.int .i64 x0], [.slice A1 x1.length c1], [], F1, rfl, rfl, ⟨rfl, rfl⟩, HO1.out⟩
end Go.Proofs.YtnnabkldceklmaaGreatDoor
