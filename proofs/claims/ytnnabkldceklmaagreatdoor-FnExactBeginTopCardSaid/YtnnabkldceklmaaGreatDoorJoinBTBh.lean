/- The program's copies of pages, disks, superblocks and caches. Printed by gen_cpo.py. -/
import Derived.Test.YtnnabkldceklmaaGreatDoorJoinBTBf
set_option maxHeartbeats 16000000
set_option maxRecDepth 100000
namespace Go.Proofs.YtnnabkldceklmaaGreatDoor
open Go.RowKit
def laysI_ren : Go.Shelf.Ren := ⟨fun | 41 => 124 | n => n, fun | 22 => 29 | 23 => 2 | 4 => 4 | n => n, fun | n => n⟩
theorem laysI : SlLaysE0.n41 Tryz.prog laysI_ren := {
 mixed := by kernel_rfl
 f41 := ⟨Tryz.f124.name, by decide, Tryz.func124.trans (congrArg some (by kernel_rfl))⟩
 t4 := Tryz.underlying4
 a4 := Tryz.isAgg4
 z4 := Tryz.sizeOf4
 v4 := Tryz.zeroValue4
 t22 := Tryz.underlying29
 a22 := Tryz.isAgg29
 z22 := Tryz.sizeOf29
 v22 := Tryz.zeroValue29 }
theorem cloneI_f (A : Option Addr) (c : Nat) (xs : List Int) (lo hi : Nat) (w : World) (h : (Sh.row 2 shI).R w lo hi [.slice A xs.length c] xs) (hhi : hi ≤ w.heap.size) (hf : (Sh.row 2 shI).fit 1048576 xs) :
  Calls Tryz.prog 124 #[.slice A xs.length c] w fun e w' => ∃ (B : Option Addr) (d : Nat), e = .returned (.slice B xs.length d) ∧ Own (Sh.row 2 shI) w' w.heap.size w'.heap.size [.slice B xs.length d] xs ∧ Below w.heap.size w w' := by
 obtain ⟨A', c', e, hg⟩ := h
 injection e with e _
 injection e with e1 e2 e3
 subst e1
 exact clone_flat (s := shI) (ρ := laysI_ren) laysI infoI8 (by rfl) (by decide) (by decide) flatI A c xs lo hi w hg hhi hf.1
def laysSeat_ren : Go.Shelf.Ren := ⟨fun | 41 => 123 | n => n, fun | 22 => 40 | 23 => 88 | 4 => 4 | n => n, fun | n => n⟩
theorem laysSeat : SlLaysE0.n41 Tryz.prog laysSeat_ren := {
 mixed := by kernel_rfl
 f41 := ⟨Tryz.f123.name, by decide, Tryz.func123.trans (congrArg some (by kernel_rfl))⟩
 t4 := Tryz.underlying4
 a4 := Tryz.isAgg4
 z4 := Tryz.sizeOf4
 v4 := Tryz.zeroValue4
 t22 := Tryz.underlying40
 a22 := Tryz.isAgg40
 z22 := Tryz.sizeOf40
 v22 := Tryz.zeroValue40 }
theorem cloneSeat_f (A : Option Addr) (c : Nat) (xs : List TySeat) (lo hi : Nat) (w : World) (h : (Sh.row 88 shSeat).R w lo hi [.slice A xs.length c] xs) (hhi : hi ≤ w.heap.size) (hf : (Sh.row 88 shSeat).fit 1048576 xs) :
  Calls Tryz.prog 123 #[.slice A xs.length c] w fun e w' => ∃ (B : Option Addr) (d : Nat), e = .returned (.slice B xs.length d) ∧ Own (Sh.row 88 shSeat) w' w.heap.size w'.heap.size [.slice B xs.length d] xs ∧ Below w.heap.size w w' := by
 obtain ⟨A', c', e, hg⟩ := h
 injection e with e _
 injection e with e1 e2 e3
 subst e1
 exact clone_flat (s := shSeat) (ρ := laysSeat_ren) laysSeat infoSeat (by rfl) (by decide) (by decide) flatSeat A c xs lo hi w hg hhi hf.1
def laysPut_ren : Go.Shelf.Ren := ⟨fun | 41 => 176 | n => n, fun | 22 => 37 | 23 => 138 | 4 => 4 | n => n, fun | n => n⟩
theorem laysPut : SlLaysE0.n41 Tryz.prog laysPut_ren := {
 mixed := by kernel_rfl
 f41 := ⟨Tryz.f176.name, by decide, Tryz.func176.trans (congrArg some (by kernel_rfl))⟩
 t4 := Tryz.underlying4
 a4 := Tryz.isAgg4
 z4 := Tryz.sizeOf4
 v4 := Tryz.zeroValue4
 t22 := Tryz.underlying37
 a22 := Tryz.isAgg37
 z22 := Tryz.sizeOf37
 v22 := Tryz.zeroValue37 }
theorem clonePut_f (A : Option Addr) (c : Nat) (xs : List TyPut) (lo hi : Nat) (w : World) (h : (Sh.row 138 shPut).R w lo hi [.slice A xs.length c] xs) (hhi : hi ≤ w.heap.size) (hf : (Sh.row 138 shPut).fit 1048576 xs) :
  Calls Tryz.prog 176 #[.slice A xs.length c] w fun e w' => ∃ (B : Option Addr) (d : Nat), e = .returned (.slice B xs.length d) ∧ Own (Sh.row 138 shPut) w' w.heap.size w'.heap.size [.slice B xs.length d] xs ∧ Below w.heap.size w w' := by
 obtain ⟨A', c', e, hg⟩ := h
 injection e with e _
 injection e with e1 e2 e3
 subst e1
 exact clone_flat (s := shPut) (ρ := laysPut_ren) laysPut infoPut (by rfl) (by decide) (by decide) flatPut A c xs lo hi w hg hhi hf.1
theorem copyPage_f (x0 : Bool) (x1 : List ByteArray) (x2 : List ByteArray) (x3 : List Int) (A1 : Option Addr) (c1 : Nat) (A2 : Option Addr) (c2 : Nat) (A3 : Option Addr) (c3 : Nat) (lo hi : Nat) (w : World) (h : shPage.R w lo hi [.bool x0, .slice A1 x1.length c1, .slice A2 x2.length c2, .slice A3 x3.length c3] (x0, x1, x2, x3)) (hhi : hi ≤ w.heap.size) (hf : shPage.fit 1048576 (x0, x1, x2, x3)) :
  Calls Tryz.prog 173 #[.agg #[.bool x0, .slice A1 x1.length c1, .slice A2 x2.length c2, .slice A3 x3.length c3]] w fun e w' => ∃ (B1 : Option Addr) (d1 : Nat) (B2 : Option Addr) (d2 : Nat) (B3 : Option Addr) (d3 : Nat), e = .returned (.agg #[.bool x0, .slice B1 x1.length d1, .slice B2 x2.length d2, .slice B3 x3.length d3]) ∧ Own shPage w' w.heap.size w'.heap.size [.bool x0, .slice B1 x1.length d1, .slice B2 x2.length d2, .slice B3 x3.length d3] (x0, x1, x2, x3) ∧ Below w.heap.size w w' := by
 obtain ⟨ft0, ft1, ft2, ft3⟩ := hf
 have HS : Hid (Stand w [(w.heap.size + 1, w.heap.size + 1 + 1, fun W => Blk W (w.heap.size + 1) 83 zz11), (w.heap.size, w.heap.size + 1, fun W => Blk W w.heap.size 83 #[.bool x0, .slice A1 x1.length c1, .slice A2 x2.length c2, .slice A3 x3.length c3])] ((w.alloc (.cells #[.bool x0, .slice A1 x1.length c1, .slice A2 x2.length c2, .slice A3 x3.length c3] 83)).alloc (.cells zz11 83))) := hd_ (by
  have := ((Stand.nil w).box 83 #[.bool x0, .slice A1 x1.length c1, .slice A2 x2.length c2, .slice A3 x3.length c3]).box 83 zz11
  rw [heap_alloc_size1] at this
  exact this)
 have HZ := hd_ (show ((w.alloc (.cells #[.bool x0, .slice A1 x1.length c1, .slice A2 x2.length c2, .slice A3 x3.length c3] 83)).alloc (.cells zz11 83)).heap.size = w.heap.size + 1 + 1 by simp)
 have HRp := hd_ h
 clear h
 go_enter Tryz.func173, Tryz.ntmps173
 go_upto_region 1 with fail
 generalize ((w.alloc (.cells #[.bool x0, .slice A1 x1.length c1, .slice A2 x2.length c2, .slice A3 x3.length c3] 83)).alloc (.cells zz11 83)) = qi at *
 refine AnyT.region (fun _ => false) (fun W => ∀ i, W.cell? ⟨w.heap.size, i, none⟩ = (#[.bool x0, .slice A1 x1.length c1, .slice A2 x2.length c2, .slice A3 x3.length c3] : Array Value)[i]?) (by kernel_rfl) (HS.out.drew.get 1 rfl).cell (fun hHeld => ?_)
 have HS := hd_ HS.out.drew
 have HZ := hd_ (show qi.drew.heap.size = w.heap.size + 1 + 1 from HZ.out)
 generalize qi.drew = q0 at *
 (refine tA 0 3 ?_; simp only [pz])
 (refine tK 1 4 ?_; simp only [pz])
 (refine tA 2 5 ?_; simp only [pz])
 (refine tK 3 6 ?_; simp only [pz])
 (refine tA 5 8 ?_; simp only [pz])
 (refine tK 6 9 ?_; simp only [pz])
 (refine tA 8 11 ?_; simp only [pz])
 (refine tK 9 12 ?_; simp only [pz])
 refine oNe 4 fun K hK => ?_
 go_simp
 refine (cloneString_f A1 c1 x1 lo hi _ (shPage_f1 (shPage.R_below HRp.out HS.out.1 hhi)) (Nat.le_trans hhi HS.out.1.size) ft1).mono ?_
 rintro e1 q1 ⟨B1, d1, rfl, ho, hb⟩
 go_simp
 have hs1 := hb.size
 have HS := hd_ ((HS.out.below hb).add q0.heap.size q1.heap.size (fun W => Own (Sh.row 9 shS) W q0.heap.size q1.heap.size [.slice B1 x1.length d1] x1) (loc_own _ _ _ _ _) (Nat.le_refl _) ho)
 refine hK.out _ _ (HS.out.get 2 rfl).cell (fun hHeld => ?_)
 clear hK K ho hb
 (try simp only [pz])
 refine oNe 7 fun K hK => ?_
 go_simp
 refine (cloneString_f A2 c2 x2 lo hi _ (shPage_f2 (shPage.R_below HRp.out HS.out.1 hhi)) (Nat.le_trans hhi HS.out.1.size) ft2).mono ?_
 rintro e2 q2 ⟨B2, d2, rfl, ho, hb⟩
 go_simp
 have hs2 := hb.size
 have HS := hd_ ((HS.out.below hb).add q1.heap.size q2.heap.size (fun W => Own (Sh.row 9 shS) W q1.heap.size q2.heap.size [.slice B2 x2.length d2] x2) (loc_own _ _ _ _ _) (Nat.le_refl _) ho)
 refine hK.out _ _ (HS.out.get 3 rfl).cell (fun hHeld => ?_)
 clear hK K ho hb
 (try simp only [pz])
 refine oNe 10 fun K hK => ?_
 go_simp
 refine (cloneI_f A3 c3 x3 lo hi _ (shPage_f3 (shPage.R_below HRp.out HS.out.1 hhi)) (Nat.le_trans hhi HS.out.1.size) ft3).mono ?_
 rintro e3 q3 ⟨B3, d3, rfl, ho, hb⟩
 go_simp
 have hs3 := hb.size
 have HS := hd_ ((HS.out.below hb).add q2.heap.size q3.heap.size (fun W => Own (Sh.row 2 shI) W q2.heap.size q3.heap.size [.slice B3 x3.length d3] x3) (loc_own _ _ _ _ _) (Nat.le_refl _) ho)
 refine hK.out _ _ (HS.out.get 4 rfl).cell (fun hHeld => ?_)
 clear hK K ho hb
 (try simp only [pz])
 (refine tA 11 14 ?_; simp only [pz])
 have HONE := hd_ (show ∀ u ∈ (#[.bool x0, .slice B1 x1.length d1, .slice B2 x2.length d2, .slice B3 x3.length d3] : Array Value).toList, u.oneCell' = true from by
  intro u hu; simp only [List.mem_cons, List.not_mem_nil, or_false] at hu; rcases hu with rfl | rfl | rfl | rfl <;> rfl)
 refine AnyT.storeAll (i := 12) (by kernel_rfl) rfl (by kernel_rfl) 83 (.tmp 2) (.tmp 14) rfl (w.heap.size + 1) #[.bool x0, .slice B1 x1.length d1, .slice B2 x2.length d2, .slice B3 x3.length d3] rfl rfl (HS.out.get 3 rfl) (by kernel_rfl) rfl HONE.out ?_
 intro wF hbF hoF hzF
 have hz := HZ.out
 refine ⟨((HS.out.get 4 rfl).outOf hoF (by omega)).cell, fun hHeld => ?_⟩
 have o0 := (HS.out.get 2 rfl).keepOut hoF (fun b hb => by have := List.mem_singleton.1 hb; omega)
 have o1 := (HS.out.get 1 rfl).keepOut hoF (fun b hb => by have := List.mem_singleton.1 hb; omega)
 have o2 := (HS.out.get 0 rfl).keepOut hoF (fun b hb => by have := List.mem_singleton.1 hb; omega)
 have HO0 := hd_ o0
 have HO1 := hd_ o1
 have HO2 := hd_ o2
 have HBF := hd_ (show Below w.heap.size w wF from HS.out.1.trans (hoF.below1 (by omega) HS.out.1.size))
 clear o0 o1 o2 hHeld
 refine AnyT.done (by kernel_rfl) ?_ _
 go_wp2_with fail
 refine bodyPost_ret (results_cell_row (P := Tryz.prog) rfl _ _ (w.heap.size + 1) 83 #[.bool x0, .slice B1 x1.length d1, .slice B2 x2.length d2, .slice B3 x3.length d3] (0, 0) _ rfl hbF Tryz.underlying83 rfl (by kernel_rfl)) rfl ⟨B1, d1, B2, d2, B3, d3, rfl, ?_, HBF.out⟩
 have o0 := HO0.out
 have o1 := HO1.out
 have o2 := HO2.out
 have hzz := hzF
 exact Own.more (lo := q0.heap.size) (hi := q3.heap.size) (Own.prod (Own.one wF q0.heap.size q0.heap.size _) (Own.prod o0 (Own.prod o1 o2 (by omega) (by omega) (by omega)) (by omega) (by omega) (by omega)) (by omega) (by omega) (by omega)) (by omega) (by omega)
theorem copyDisk_f (x0 : Int) (x1 : List ByteArray) (x2 : List TyPut) (A1 : Option Addr) (c1 : Nat) (A2 : Option Addr) (c2 : Nat) (lo hi : Nat) (w : World) (h : shDisk.R w lo hi [.int .i64 x0, .slice A1 x1.length c1, .slice A2 x2.length c2] (x0, x1, x2)) (hhi : hi ≤ w.heap.size) (hf : shDisk.fit 1048576 (x0, x1, x2)) :
  Calls Tryz.prog 121 #[.agg #[.int .i64 x0, .slice A1 x1.length c1, .slice A2 x2.length c2]] w fun e w' => ∃ (B1 : Option Addr) (d1 : Nat) (B2 : Option Addr) (d2 : Nat), e = .returned (.agg #[.int .i64 x0, .slice B1 x1.length d1, .slice B2 x2.length d2]) ∧ Own shDisk w' w.heap.size w'.heap.size [.int .i64 x0, .slice B1 x1.length d1, .slice B2 x2.length d2] (x0, x1, x2) ∧ Below w.heap.size w w' := by
 obtain ⟨ft0, ft1, ft2⟩ := hf
 have HS : Hid (Stand w [(w.heap.size + 1, w.heap.size + 1 + 1, fun W => Blk W (w.heap.size + 1) 39 #[.int .i64 0, .slice none 0 0, .slice none 0 0]), (w.heap.size, w.heap.size + 1, fun W => Blk W w.heap.size 39 #[.int .i64 x0, .slice A1 x1.length c1, .slice A2 x2.length c2])] ((w.alloc (.cells #[.int .i64 x0, .slice A1 x1.length c1, .slice A2 x2.length c2] 39)).alloc (.cells #[.int .i64 0, .slice none 0 0, .slice none 0 0] 39))) := hd_ (by
  have := ((Stand.nil w).box 39 #[.int .i64 x0, .slice A1 x1.length c1, .slice A2 x2.length c2]).box 39 #[.int .i64 0, .slice none 0 0, .slice none 0 0]
  rw [heap_alloc_size1] at this
  exact this)
 have HZ := hd_ (show ((w.alloc (.cells #[.int .i64 x0, .slice A1 x1.length c1, .slice A2 x2.length c2] 39)).alloc (.cells #[.int .i64 0, .slice none 0 0, .slice none 0 0] 39)).heap.size = w.heap.size + 1 + 1 by simp)
 have HRp := hd_ h
 clear h
 go_enter Tryz.func121, Tryz.ntmps121
 go_upto_region 1 with fail
 generalize ((w.alloc (.cells #[.int .i64 x0, .slice A1 x1.length c1, .slice A2 x2.length c2] 39)).alloc (.cells #[.int .i64 0, .slice none 0 0, .slice none 0 0] 39)) = qi at *
 refine AnyT.region (fun _ => false) (fun W => ∀ i, W.cell? ⟨w.heap.size, i, none⟩ = (#[.int .i64 x0, .slice A1 x1.length c1, .slice A2 x2.length c2] : Array Value)[i]?) (by kernel_rfl) (HS.out.drew.get 1 rfl).cell (fun hHeld => ?_)
 have HS := hd_ HS.out.drew
 have HZ := hd_ (show qi.drew.heap.size = w.heap.size + 1 + 1 from HZ.out)
 generalize qi.drew = q0 at *
 (refine tA 0 3 ?_; simp only [pz])
 (refine tK 1 4 ?_; simp only [pz])
 (refine tA 2 5 ?_; simp only [pz])
 (refine tK 3 6 ?_; simp only [pz])
 (refine tA 5 8 ?_; simp only [pz])
 (refine tK 6 9 ?_; simp only [pz])
 refine oNe 4 fun K hK => ?_
 go_simp
 refine (cloneString_f A1 c1 x1 lo hi _ (shDisk_f1 (shDisk.R_below HRp.out HS.out.1 hhi)) (Nat.le_trans hhi HS.out.1.size) ft1).mono ?_
 rintro e1 q1 ⟨B1, d1, rfl, ho, hb⟩
 go_simp
 have hs1 := hb.size
 have HS := hd_ ((HS.out.below hb).add q0.heap.size q1.heap.size (fun W => Own (Sh.row 9 shS) W q0.heap.size q1.heap.size [.slice B1 x1.length d1] x1) (loc_own _ _ _ _ _) (Nat.le_refl _) ho)
 refine hK.out _ _ (HS.out.get 2 rfl).cell (fun hHeld => ?_)
 clear hK K ho hb
 (try simp only [pz])
 refine oNe 7 fun K hK => ?_
 go_simp
 refine (clonePut_f A2 c2 x2 lo hi _ (shDisk_f2 (shDisk.R_below HRp.out HS.out.1 hhi)) (Nat.le_trans hhi HS.out.1.size) ft2).mono ?_
 rintro e2 q2 ⟨B2, d2, rfl, ho, hb⟩
 go_simp
 have hs2 := hb.size
 have HS := hd_ ((HS.out.below hb).add q1.heap.size q2.heap.size (fun W => Own (Sh.row 138 shPut) W q1.heap.size q2.heap.size [.slice B2 x2.length d2] x2) (loc_own _ _ _ _ _) (Nat.le_refl _) ho)
 refine hK.out _ _ (HS.out.get 3 rfl).cell (fun hHeld => ?_)
 clear hK K ho hb
 (try simp only [pz])
 (refine tA 8 11 ?_; simp only [pz])
 have HONE := hd_ (show ∀ u ∈ (#[.int .i64 x0, .slice B1 x1.length d1, .slice B2 x2.length d2] : Array Value).toList, u.oneCell' = true from by
  intro u hu; simp only [List.mem_cons, List.not_mem_nil, or_false] at hu; rcases hu with rfl | rfl | rfl <;> rfl)
 refine AnyT.storeAll (i := 9) (by kernel_rfl) rfl (by kernel_rfl) 39 (.tmp 2) (.tmp 11) rfl (w.heap.size + 1) #[.int .i64 x0, .slice B1 x1.length d1, .slice B2 x2.length d2] rfl rfl (HS.out.get 2 rfl) (by kernel_rfl) rfl HONE.out ?_
 intro wF hbF hoF hzF
 have hz := HZ.out
 refine ⟨((HS.out.get 3 rfl).outOf hoF (by omega)).cell, fun hHeld => ?_⟩
 have o0 := (HS.out.get 1 rfl).keepOut hoF (fun b hb => by have := List.mem_singleton.1 hb; omega)
 have o1 := (HS.out.get 0 rfl).keepOut hoF (fun b hb => by have := List.mem_singleton.1 hb; omega)
 have HO0 := hd_ o0
 have HO1 := hd_ o1
 have HBF := hd_ (show Below w.heap.size w wF from HS.out.1.trans (hoF.below1 (by omega) HS.out.1.size))
 clear o0 o1 hHeld
 refine AnyT.done (by kernel_rfl) ?_ _
 go_wp2_with fail
 refine bodyPost_ret (results_cell_row (P := Tryz.prog) rfl _ _ (w.heap.size + 1) 39 #[.int .i64 x0, .slice B1 x1.length d1, .slice B2 x2.length d2] (0, 0) _ rfl hbF Tryz.underlying39 rfl (by kernel_rfl)) rfl ⟨B1, d1, B2, d2, rfl, ?_, HBF.out⟩
 have o0 := HO0.out
 have o1 := HO1.out
 have hzz := hzF
 exact Own.more (lo := q0.heap.size) (hi := q2.heap.size) (Own.prod (Own.one wF q0.heap.size q0.heap.size _) (Own.prod o0 o1 (by omega) (by omega) (by omega)) (by omega) (by omega) (by omega)) (by omega) (by omega)
theorem copyTop_f (x0 x1 x2 : Int) (x3 : List TySeat) (A3 : Option Addr) (c3 lo hi : Nat) (w : World) (h : shTop.R w lo hi [.int .i64 x0, .int .i64 x1, .int .i64 x2, .slice A3 x3.length c3] (x0, x1, x2, x3)) (hhi : hi ≤ w.heap.size) (hf : shTop.fit 1048576 (x0, x1, x2, x3)) :
  Calls Tryz.prog 122 #[.agg #[.int .i64 x0, .int .i64 x1, .int .i64 x2, .slice A3 x3.length c3]] w fun e w' => ∃ (B3 : Option Addr) (d3 : Nat), e = .returned (.agg #[.int .i64 x0, .int .i64 x1, .int .i64 x2, .slice B3 x3.length d3]) ∧ Own shTop w' w.heap.size w'.heap.size [.int .i64 x0, .int .i64 x1, .int .i64 x2, .slice B3 x3.length d3] (x0, x1, x2, x3) ∧ Below w.heap.size w w' := by
 obtain ⟨_, _, _, ft3⟩ := hf
 have hb2 := ((Below.refl w.heap.size w).alloc (Nat.le_refl _) (.cells #[.int .i64 x0, .int .i64 x1, .int .i64 x2, .slice A3 x3.length c3] 42)).alloc (by simp) (.cells zz8 42)
 have hz2 : ((w.alloc (.cells #[.int .i64 x0, .int .i64 x1, .int .i64 x2, .slice A3 x3.length c3] 42)).alloc (.cells zz8 42)).heap.size = w.heap.size + 1 + 1 := by simp
 have hk1 : Blk ((w.alloc (.cells #[.int .i64 x0, .int .i64 x1, .int .i64 x2, .slice A3 x3.length c3] 42)).alloc (.cells zz8 42)) w.heap.size 42 #[.int .i64 x0, .int .i64 x1, .int .i64 x2, .slice A3 x3.length c3] := (Blk.new w 42 #[.int .i64 x0, .int .i64 x1, .int .i64 x2, .slice A3 x3.length c3]).alloc _
 have hk2 : Blk ((w.alloc (.cells #[.int .i64 x0, .int .i64 x1, .int .i64 x2, .slice A3 x3.length c3] 42)).alloc (.cells zz8 42)) (w.heap.size + 1) 42 zz8 := by
  have := Blk.new (w.alloc (.cells #[.int .i64 x0, .int .i64 x1, .int .i64 x2, .slice A3 x3.length c3] 42)) 42 zz8
  rw [heap_alloc_size1] at this
  exact this
 have HK1 := hd_ hk1; have HK2 := hd_ hk2; have HB2 := hd_ hb2
 have HR := hd_ (shTop_f3 (shTop.R_below h hb2 hhi))
 clear h hk1 hk2 hb2
 go_enter Tryz.func122, Tryz.ntmps122
 go_upto_region 1 with fail
 generalize ((w.alloc (.cells #[.int .i64 x0, .int .i64 x1, .int .i64 x2, .slice A3 x3.length c3] 42)).alloc (.cells zz8 42)) = w2 at *
 have HC := hd_ (cloneSeat_f A3 c3 x3 lo hi w2 HR.out (by omega) ft3)
 have f0 := HK1.out.cell 3
 simp only [List.getElem?_toArray, List.getElem?_cons_zero, List.getElem?_cons_succ] at f0
 go_wp2_with fail
 refine HC.out.mono ?_; rintro e1 w3 ⟨B3, d3, rfl, ho, hb⟩
 have hs3 := hb.size
 have HO := hd_ ho
 have hk1 := HK1.out.below hb (by omega)
 have HK2 := hd_ (HK2.out.below hb (by omega))
 have HBW := hd_ (HB2.out.trans (hb.mono (by omega)))
 have HSET := hd_ (hk1.set_ 3 (.slice B3 x3.length d3))
 have HK2' := hd_ (HK2.out.far (p := ⟨w.heap.size, 3, none⟩) (by dsimp only; omega) (.slice B3 x3.length d3))
 have HO' := hd_ (HO.out.setCell (p := ⟨w.heap.size, 3, none⟩) (by dsimp only; omega) (.slice B3 x3.length d3))
 have HBW' := hd_ (HBW.out.setCell (p := ⟨w.heap.size, 3, none⟩) (by dsimp only; omega) (.slice B3 x3.length d3))
 have hz6 : (w3.setCell ⟨w.heap.size, 3, none⟩ (.slice B3 x3.length d3)).heap.size = w3.heap.size := by simp [World.setCell]
 have f1 := hk1.cell 3
 have z1 := hk1.frozen 3
 simp only [List.getElem?_toArray, List.getElem?_cons_zero, List.getElem?_cons_succ] at f1
 clear f0 ho hb hk1 HC HR HK2 HO HBW
 go_upto_region 2 with fail
 clear f1 z1
 generalize (w3.setCell ⟨w.heap.size, 3, none⟩ (.slice B3 x3.length d3)) = w6 at *
 have HONE := hd_ (show ∀ u ∈ (#[.int .i64 x0, .int .i64 x1, .int .i64 x2, .slice B3 x3.length d3] : Array Value).toList, u.oneCell' = true from by
  intro u hu; simp only [List.mem_cons, List.not_mem_nil, or_false] at hu; rcases hu with rfl | rfl | rfl | rfl <;> rfl)
 have f6 : ∀ i, w6.cell? ⟨w.heap.size, i, none⟩ = (#[.int .i64 x0, .int .i64 x1, .int .i64 x2, .slice B3 x3.length d3] : Array Value)[i]? := HSET.out.cell
 go_wp2_with (first | fail | (refine wpList_storeAll rfl 42 (.tmp 2) (.tmp 7) rfl (w.heap.size + 1) #[.int .i64 x0, .int .i64 x1, .int .i64 x2, .slice B3 x3.length d3] rfl rfl HK2'.out (by kernel_rfl) rfl HONE.out ?_; intro w7 hb7 ho7 hz7))
 have hB7 : Below w.heap.size w w7 := HBW'.out.trans (ho7.below1 (by omega) HBW'.out.size)
 refine bodyPost_ret (results_cell_row (P := Tryz.prog) rfl _ _ (w.heap.size + 1) 42 #[.int .i64 x0, .int .i64 x1, .int .i64 x2, .slice B3 x3.length d3] (0, 0) _ rfl hb7 Tryz.underlying42 rfl (by kernel_rfl)) rfl ⟨B3, d3, rfl, ?_, hB7⟩
 have o0 := HO'.out.outOf ho7 (.inl (by omega))
 exact Own.more (lo := w2.heap.size) (hi := w3.heap.size) (Own.prod (Own.one w7 w2.heap.size w2.heap.size _) (Own.prod (Own.one w7 w2.heap.size w2.heap.size _) (Own.prod (Own.one w7 w2.heap.size w2.heap.size _) o0 (by omega) (by omega) (by omega)) (by omega) (by omega) (by omega)) (by omega) (by omega) (by omega)) (by omega) (by omega)
theorem copyCache_f (x0 : Int) (x1 : List ByteArray) (x2 : List TyPut) (x3 : Int) (x4 : Int) (x5 : Int) (x6 : List TySeat) (x7 : Int) (x8 : Int) (x9 : Int) (x10 : List TySeat) (x11 : List TySeat) (x12 : List Int) (A1 : Option Addr) (c1 : Nat) (A2 : Option Addr) (c2 : Nat) (A6 : Option Addr) (c6 : Nat) (A10 : Option Addr) (c10 : Nat) (A11 : Option Addr) (c11 : Nat) (A12 : Option Addr) (c12 : Nat) (lo hi : Nat) (w : World) (h : shCache.R w lo hi [.int .i64 x0, .slice A1 x1.length c1, .slice A2 x2.length c2, .int .i64 x3, .int .i64 x4, .int .i64 x5, .slice A6 x6.length c6, .int .i64 x7, .int .i64 x8, .int .i64 x9, .slice A10 x10.length c10, .slice A11 x11.length c11, .slice A12 x12.length c12] ((x0, x1, x2), (x3, x4, x5, x6), (x7, x8, x9, x10), x11, x12)) (hhi : hi ≤ w.heap.size) (hf : shCache.fit 1048576 ((x0, x1, x2), (x3, x4, x5, x6), (x7, x8, x9, x10), x11, x12)) :
  Calls Tryz.prog 53 #[.agg #[.int .i64 x0, .slice A1 x1.length c1, .slice A2 x2.length c2, .int .i64 x3, .int .i64 x4, .int .i64 x5, .slice A6 x6.length c6, .int .i64 x7, .int .i64 x8, .int .i64 x9, .slice A10 x10.length c10, .slice A11 x11.length c11, .slice A12 x12.length c12]] w fun e w' => ∃ (g : Nat), e = .returned (.pointer (some ⟨g, 0, none⟩)) ∧ w.heap.size ≤ g ∧ ∃ (B1 : Option Addr) (d1 : Nat) (B2 : Option Addr) (d2 : Nat) (B6 : Option Addr) (d6 : Nat) (B10 : Option Addr) (d10 : Nat) (B11 : Option Addr) (d11 : Nat) (B12 : Option Addr) (d12 : Nat), Blk w' g 44 #[.int .i64 x0, .slice B1 x1.length d1, .slice B2 x2.length d2, .int .i64 x3, .int .i64 x4, .int .i64 x5, .slice B6 x6.length d6, .int .i64 x7, .int .i64 x8, .int .i64 x9, .slice B10 x10.length d10, .slice B11 x11.length d11, .slice B12 x12.length d12] ∧ Own shCache w' w.heap.size g [.int .i64 x0, .slice B1 x1.length d1, .slice B2 x2.length d2, .int .i64 x3, .int .i64 x4, .int .i64 x5, .slice B6 x6.length d6, .int .i64 x7, .int .i64 x8, .int .i64 x9, .slice B10 x10.length d10, .slice B11 x11.length d11, .slice B12 x12.length d12] ((x0, x1, x2), (x3, x4, x5, x6), (x7, x8, x9, x10), x11, x12) ∧ Below w.heap.size w w' := by
 obtain ⟨ft0, ft1, ft2, ft3, ft4⟩ := hf
 have HS : Hid (Stand w [(w.heap.size, w.heap.size + 1, fun W => Blk W w.heap.size 44 #[.int .i64 x0, .slice A1 x1.length c1, .slice A2 x2.length c2, .int .i64 x3, .int .i64 x4, .int .i64 x5, .slice A6 x6.length c6, .int .i64 x7, .int .i64 x8, .int .i64 x9, .slice A10 x10.length c10, .slice A11 x11.length c11, .slice A12 x12.length c12])] (w.alloc (.cells #[.int .i64 x0, .slice A1 x1.length c1, .slice A2 x2.length c2, .int .i64 x3, .int .i64 x4, .int .i64 x5, .slice A6 x6.length c6, .int .i64 x7, .int .i64 x8, .int .i64 x9, .slice A10 x10.length c10, .slice A11 x11.length c11, .slice A12 x12.length c12] 44))) := hd_ (by
  have := ((Stand.nil w).box 44 #[.int .i64 x0, .slice A1 x1.length c1, .slice A2 x2.length c2, .int .i64 x3, .int .i64 x4, .int .i64 x5, .slice A6 x6.length c6, .int .i64 x7, .int .i64 x8, .int .i64 x9, .slice A10 x10.length c10, .slice A11 x11.length c11, .slice A12 x12.length c12])
  exact this)
 have HZ := hd_ (show (w.alloc (.cells #[.int .i64 x0, .slice A1 x1.length c1, .slice A2 x2.length c2, .int .i64 x3, .int .i64 x4, .int .i64 x5, .slice A6 x6.length c6, .int .i64 x7, .int .i64 x8, .int .i64 x9, .slice A10 x10.length c10, .slice A11 x11.length c11, .slice A12 x12.length c12] 44)).heap.size = w.heap.size + 1 by simp)
 have HRp := hd_ h
 clear h
 go_enter Tryz.func53, Tryz.ntmps53
 go_upto_region 1 with fail
 generalize (w.alloc (.cells #[.int .i64 x0, .slice A1 x1.length c1, .slice A2 x2.length c2, .int .i64 x3, .int .i64 x4, .int .i64 x5, .slice A6 x6.length c6, .int .i64 x7, .int .i64 x8, .int .i64 x9, .slice A10 x10.length c10, .slice A11 x11.length c11, .slice A12 x12.length c12] 44)) = qi at *
 refine AnyT.region (fun _ => false) (fun W => ∀ i, W.cell? ⟨w.heap.size, i, none⟩ = (#[.int .i64 x0, .slice A1 x1.length c1, .slice A2 x2.length c2, .int .i64 x3, .int .i64 x4, .int .i64 x5, .slice A6 x6.length c6, .int .i64 x7, .int .i64 x8, .int .i64 x9, .slice A10 x10.length c10, .slice A11 x11.length c11, .slice A12 x12.length c12] : Array Value)[i]?) (by kernel_rfl) (HS.out.drew.get 0 rfl).cell (fun hHeld => ?_)
 have HS := hd_ HS.out.drew
 have HZ := hd_ (show qi.drew.heap.size = w.heap.size + 1 from HZ.out)
 generalize qi.drew = q0 at *
 (refine tA 0 3 ?_; simp only [pz])
 (refine tK 1 4 ?_; simp only [pz])
 (refine tA 3 6 ?_; simp only [pz])
 (refine tK 4 7 ?_; simp only [pz])
 (refine tA 6 9 ?_; simp only [pz])
 (refine tK 7 10 ?_; simp only [pz])
 (refine tA 9 12 ?_; simp only [pz])
 (refine tK 10 13 ?_; simp only [pz])
 (refine tA 12 15 ?_; simp only [pz])
 (refine tK 13 16 ?_; simp only [pz])
 refine oNe 2 fun K hK => ?_
 go_simp
 refine (copyDisk_f x0 x1 x2 A1 c1 A2 c2 lo hi _ (shCache_f0 (shCache.R_below HRp.out HS.out.1 hhi)) (Nat.le_trans hhi HS.out.1.size) ft0).mono ?_
 rintro e1 q1 ⟨B1, d1, B2, d2, rfl, ho, hb⟩
 go_simp
 have hs1 := hb.size
 have HS := hd_ ((HS.out.below hb).add q0.heap.size q1.heap.size (fun W => Own shDisk W q0.heap.size q1.heap.size [.int .i64 x0, .slice B1 x1.length d1, .slice B2 x2.length d2] (x0, x1, x2)) (loc_own _ _ _ _ _) (Nat.le_refl _) ho)
 refine hK.out _ _ (HS.out.get 1 rfl).cell (fun hHeld => ?_)
 clear hK K ho hb
 (try simp only [pz])
 refine oNe 5 fun K hK => ?_
 go_simp
 refine (copyTop_f x3 x4 x5 x6 A6 c6 lo hi _ (shCache_f3 (shCache.R_below HRp.out HS.out.1 hhi)) (Nat.le_trans hhi HS.out.1.size) ft1).mono ?_
 rintro e2 q2 ⟨B6, d6, rfl, ho, hb⟩
 go_simp
 have hs2 := hb.size
 have HS := hd_ ((HS.out.below hb).add q1.heap.size q2.heap.size (fun W => Own shTop W q1.heap.size q2.heap.size [.int .i64 x3, .int .i64 x4, .int .i64 x5, .slice B6 x6.length d6] (x3, x4, x5, x6)) (loc_own _ _ _ _ _) (Nat.le_refl _) ho)
 refine hK.out _ _ (HS.out.get 2 rfl).cell (fun hHeld => ?_)
 clear hK K ho hb
 (try simp only [pz])
 refine oNe 8 fun K hK => ?_
 go_simp
 refine (copyTop_f x7 x8 x9 x10 A10 c10 lo hi _ (shCache_f7 (shCache.R_below HRp.out HS.out.1 hhi)) (Nat.le_trans hhi HS.out.1.size) ft2).mono ?_
 rintro e3 q3 ⟨B10, d10, rfl, ho, hb⟩
 go_simp
 have hs3 := hb.size
 have HS := hd_ ((HS.out.below hb).add q2.heap.size q3.heap.size (fun W => Own shTop W q2.heap.size q3.heap.size [.int .i64 x7, .int .i64 x8, .int .i64 x9, .slice B10 x10.length d10] (x7, x8, x9, x10)) (loc_own _ _ _ _ _) (Nat.le_refl _) ho)
 refine hK.out _ _ (HS.out.get 3 rfl).cell (fun hHeld => ?_)
 clear hK K ho hb
 (try simp only [pz])
 refine oNe 11 fun K hK => ?_
 go_simp
 refine (cloneSeat_f A11 c11 x11 lo hi _ (shCache_f11 (shCache.R_below HRp.out HS.out.1 hhi)) (Nat.le_trans hhi HS.out.1.size) ft3).mono ?_
 rintro e4 q4 ⟨B11, d11, rfl, ho, hb⟩
 go_simp
 have hs4 := hb.size
 have HS := hd_ ((HS.out.below hb).add q3.heap.size q4.heap.size (fun W => Own (Sh.row 88 shSeat) W q3.heap.size q4.heap.size [.slice B11 x11.length d11] x11) (loc_own _ _ _ _ _) (Nat.le_refl _) ho)
 refine hK.out _ _ (HS.out.get 4 rfl).cell (fun hHeld => ?_)
 clear hK K ho hb
 (try simp only [pz])
 refine oNe 14 fun K hK => ?_
 go_simp
 refine (cloneI_f A12 c12 x12 lo hi _ (shCache_f12 (shCache.R_below HRp.out HS.out.1 hhi)) (Nat.le_trans hhi HS.out.1.size) ft4).mono ?_
 rintro e5 q5 ⟨B12, d12, rfl, ho, hb⟩
 go_simp
 have hs5 := hb.size
 have HS := hd_ ((HS.out.below hb).add q4.heap.size q5.heap.size (fun W => Own (Sh.row 2 shI) W q4.heap.size q5.heap.size [.slice B12 x12.length d12] x12) (loc_own _ _ _ _ _) (Nat.le_refl _) ho)
 refine hK.out _ _ (HS.out.get 5 rfl).cell (fun hHeld => ?_)
 clear hK K ho hb
 (try simp only [pz])
 (refine tA 15 18 ?_; simp only [pz])
 refine oNe 16 fun K hK => ?_
 go_simp
 have HS := hd_ (HS.out.box 44 #[.int .i64 x0, .slice B1 x1.length d1, .slice B2 x2.length d2, .int .i64 x3, .int .i64 x4, .int .i64 x5, .slice B6 x6.length d6, .int .i64 x7, .int .i64 x8, .int .i64 x9, .slice B10 x10.length d10, .slice B11 x11.length d11, .slice B12 x12.length d12])
 refine hK.out _ _ (HS.out.get 6 rfl).cell (fun hHeld => ?_)
 clear hK K
 (try simp only [pz])
 refine oNe 17 fun K hK => ?_
 go_simp
 refine hK.out _ _ (HS.out.get 6 rfl).cell (fun hHeld => ?_)
 clear hK K
 (try simp only [pz])
 refine AnyT.done (by kernel_rfl) ?_ _
 clear hHeld
 have HB9 := hd_ (HS.out.get 0 rfl)
 generalize hqF : q5.alloc (.cells #[.int .i64 x0, .slice B1 x1.length d1, .slice B2 x2.length d2, .int .i64 x3, .int .i64 x4, .int .i64 x5, .slice B6 x6.length d6, .int .i64 x7, .int .i64 x8, .int .i64 x9, .slice B10 x10.length d10, .slice B11 x11.length d11, .slice B12 x12.length d12] 44) = wF at *
 have HQ := hd_ hqF; clear hqF
 go_wp2_with fail
 have hz := HZ.out
 have o0 := HS.out.get 5 rfl
 have o1 := HS.out.get 4 rfl
 have o2 := HS.out.get 3 rfl
 have o3 := HS.out.get 2 rfl
 have o4 := HS.out.get 1 rfl
 refine bodyPost_ret (v := .pointer (some ⟨q5.heap.size, 0, none⟩)) (by simp [results, Tryz.results53, go_sem]) rfl ⟨q5.heap.size, rfl, by omega, B1, d1, B2, d2, B6, d6, B10, d10, B11, d11, B12, d12, HB9.out, Own.more (lo := q0.heap.size) (hi := q5.heap.size) (Own.prod o0 (Own.prod o1 (Own.prod o2 (Own.prod o3 o4 (by omega) (by omega) (by omega)) (by omega) (by omega) (by omega)) (by omega) (by omega) (by omega)) (by omega) (by omega) (by omega)) (by omega) (Nat.le_refl _), HS.out.1⟩
end Go.Proofs.YtnnabkldceklmaaGreatDoor
