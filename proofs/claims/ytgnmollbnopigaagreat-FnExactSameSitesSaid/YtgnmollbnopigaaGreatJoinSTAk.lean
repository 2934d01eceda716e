/- Node, Tree, Bind, Cell, Level, Given, Locals, Ref, Loop, Frame: shapes and the laws' walks (sz). Printed by gen_fam.py. -/
import Derived.Test.YtgnmollbnopigaaGreatJoinSTAf
import Derived.Test.YtgnmollbnopigaaGreatJoinSTAg
set_option maxHeartbeats 16000000
set_option maxRecDepth 100000
namespace Go.Proofs.YtgnmollbnopigaaGreat
open Go.RowKit
theorem szNode_f (x0 : ByteArray) (x1 : List ByteArray) (x2 : ByteArray) (A1 : Option Addr) (c1 : Nat) (lo hi : Nat) (left : Int) (w : World) (h : shNode.R w lo hi [.string x0, .slice A1 x1.length c1, .string x2] (x0, x1, x2)) (hhi : hi ≤ w.heap.size) (hf : shNode.fit 9223372036854775807 (x0, x1, x2)) (hl0 : 0 ≤ left) (hl : left ≤ 1048576) :
  Calls Tryz.prog 112 #[.agg #[.string x0, .slice A1 x1.length c1, .string x2], .int .i64 left] w fun e w' => ∃ m, e = .returned (.int .i64 m) ∧ Left left (shNode.cost (x0, x1, x2)) m ∧ Below w.heap.size w w' := by
 rw [shNode_cost]
 rw [shNode_fit] at hf
 obtain ⟨ft0, ft1, ft2⟩ := hf
 have R0 := ((Stand.nil w).add lo hi (fun W => shNode.R W lo hi [.string x0, .slice A1 x1.length c1, .string x2] (x0, x1, x2)) (fun _ _ hk h => shNode.R_keep h hk) hhi h).box 223 #[.string x0, .slice A1 x1.length c1, .string x2]
 have HR0 := Lib.hid R0
 clear R0 h
 go_enter Tryz.func112, Tryz.ntmps112
 by_cases g0 : left - (x0.size : Int) < 0
 ·go_wp2_with fail
  go_ret
  exact ⟨_, rfl, .inl rfl, HR0.out.1⟩
 go_wp2_with fail
 refine (szStringS_f A1 c1 x1 lo hi _ _ (shNode_f1 (HR0.out.get 1 rfl)) (HR0.out.le 1 rfl) ft1 (by omega) (by omega)).mono ?_
 rintro e1 w1 ⟨m1, rfl, hm1, hb1⟩
 have HR1 := Lib.hid (HR0.out.below hb1)
 have b1 := (HR1.out.get 0 rfl).cell
 clear hb1 HR0
 rcases hm1 with rfl | ⟨hp1, hm1⟩
 ·go_wp2_with fail
  go_ret
  exact ⟨_, rfl, .inl rfl, HR1.out.1⟩
 have n1 : ¬ (m1 < 0) := by omega
 have u1 : m1 ≤ 1048576 := by omega
 have HM1 := Lib.hid hm1; clear hm1
 by_cases g2 : m1 - (x2.size : Int) < 0
 ·go_wp2_with fail
  go_ret
  exact ⟨_, rfl, .inl rfl, HR1.out.1⟩
 go_wp2_with fail
 go_ret
 refine ⟨_, rfl, .inr ⟨by omega, ?_⟩, HR1.out.1⟩
 have := HM1.out
 omega
theorem szNodeS_f (A : Option Addr) (c : Nat) (xs : List TyNode) (lo hi : Nat) (left : Int) (w : World) (h : (Sh.row 165 shNode).R w lo hi [.slice A xs.length c] xs) (hhi : hi ≤ w.heap.size) (hf : (Sh.row 165 shNode).fit 9223372036854775807 xs) (hl0 : 0 ≤ left) (hl : left ≤ 1048576) :
  Calls Tryz.prog 52 #[.slice A xs.length c, .int .i64 left] w fun e w' => ∃ m, e = .returned (.int .i64 m) ∧ Left left ((Sh.row 165 shNode).cost xs) m ∧ Below w.heap.size w w' := by
 have hn := hf.1
 have HA := Lib.hid h; have HF := Lib.hid hf.2
 clear h hf
 go_enter Tryz.func52, Tryz.ntmps52
 by_cases g0 : left - (xs.length : Int) < 0
 ·go_wp2_with fail
  go_ret
  exact ⟨_, rfl, .inl rfl, Below.refl _ _⟩
 go_wp2_with fail
 go_loopw [1, 5] (fun l i wr => ∃ (k : Nat) (m : Int), k ≤ xs.length ∧ i = .int .i64 k ∧ l = .int .i64 m ∧ 0 ≤ m ∧ m + xs.length + costTo shNode k xs = left ∧ Below w.heap.size w wr) (fun _ i _ => xs.length - (intOf i).toNat)
 case atStart => exact ⟨0, _, Nat.zero_le _, rfl, rfl, by omega, by rw [costTo_zero]; omega, Below.refl _ _⟩
 case round =>
  obtain ⟨k, m, hk, rfl, rfl, hm0, hm, hb⟩ := hrel
  have HM := Lib.hid hm
  have hml : m ≤ 1048576 := by omega
  clear hm
  by_cases hlt : k < xs.length
  ·obtain ⟨-, b, off, rfl, hb1, hb2, A1, c1, e100, e101, e102, hX⟩ := shNode_at ((Sh.row 165 shNode).R_below HA.out hb hhi) hlt
   have HS := Lib.hid (costTo_succ shNode hlt)
   have HX := Lib.hid (HF.out _ (getD_in (d := shNode.d) hlt))
   generalize xs.getD k shNode.d = X at *
   obtain ⟨x0, x1, x2⟩ := X
   try dsimp only at e100 e101 e102
   have HB := Lib.hid hb; have HR := Lib.hid hX
   have hsz := hb.size
   clear hb hX
   go_wp2_with fail
   refine (szNode_f x0 x1 x2 A1 c1 lo hi _ _ HR.out (by omega) HX.out hm0 hml).mono ?_
   rintro e5 w5 ⟨m5, rfl, hm5, hb5⟩
   have HB5 := Lib.hid (HB.out.trans (hb5.mono hsz))
   clear hb5 e100 e101 e102
   rcases hm5 with rfl | ⟨hm50, hm5⟩
   ·go_wp2_with fail
    go_ret
    exact ⟨_, rfl, .inl rfl, HB5.out⟩
   have n5 : ¬ (m5 < 0) := by omega
   have HM5 := Lib.hid hm5
   clear hm5
   go_wp2_with fail
   go_roundw
   case rel => exact ⟨k + 1, m5, by omega, by go_num, rfl, hm50, by have := HM.out; have := HM5.out; have := HS.out; omega, HB5.out⟩
   case measure => simp [intOf]; omega
  ·obtain rfl : k = xs.length := by omega
   have HB := Lib.hid hb; clear hb
   go_wp2_with fail
   go_ret
   refine ⟨_, rfl, .inr ⟨hm0, ?_⟩, HB.out⟩
   have := HM.out
   have e1 := costTo_all shNode xs
   show m + (costAll shNode xs : Int) = left
   omega
theorem szTree_f (x0 : List TyNode) (A0 : Option Addr) (c0 : Nat) (lo hi : Nat) (left : Int) (w : World) (h : shTree.R w lo hi [.slice A0 x0.length c0] x0) (hhi : hi ≤ w.heap.size) (hf : shTree.fit 9223372036854775807 x0) (hl0 : 0 ≤ left) (hl : left ≤ 1048576) :
  Calls Tryz.prog 17 #[.agg #[.slice A0 x0.length c0], .int .i64 left] w fun e w' => ∃ m, e = .returned (.int .i64 m) ∧ Left left (shTree.cost x0) m ∧ Below w.heap.size w w' := by
 rw [shTree_cost]
 rw [shTree_fit] at hf
 have ft0 := hf
 have R0 := ((Stand.nil w).ad shTree.R [.slice A0 x0.length c0] x0 hhi h shTree.R_keep).box 29 #[.slice A0 x0.length c0]
 have HR0 := Lib.hid R0
 clear R0 h
 go_enter Tryz.func17, Tryz.ntmps17
 go_wp2_with fail
 refine (szNodeS_f A0 c0 x0 lo hi _ _ (shTree_f0 (HR0.out.get 1 rfl)) (HR0.out.le 1 rfl) ft0 (by omega) (by omega)).mono ?_
 rintro e0 w0 ⟨m0, rfl, hm0, hb0⟩
 have HR1 := Lib.hid (HR0.out.below hb0)
 have b0 := (HR1.out.get 0 rfl).cell
 clear hb0 HR0
 rcases hm0 with rfl | ⟨hp0, hm0⟩
 ·go_wp2_with fail
  go_ret
  exact ⟨_, rfl, .inl rfl, HR1.out.1⟩
 have n0 : ¬ (m0 < 0) := by omega
 have u0 : m0 ≤ 1048576 := by omega
 have HM0 := Lib.hid hm0; clear hm0
 go_wp2_with fail
 go_ret
 refine ⟨_, rfl, .inr ⟨by omega, ?_⟩, HR1.out.1⟩
 have := HM0.out
 omega
theorem szBind_f (x0 : ByteArray) (x1 : Int) (lo hi : Nat) (left : Int) (w : World) (h : shBind.R w lo hi [.string x0, .int .i64 x1] (x0, x1)) (hhi : hi ≤ w.heap.size) (hf : shBind.fit 9223372036854775807 (x0, x1)) (hl0 : 0 ≤ left) (hl : left ≤ 1048576) :
  Calls Tryz.prog 268 #[.agg #[.string x0, .int .i64 x1], .int .i64 left] w fun e w' => ∃ m, e = .returned (.int .i64 m) ∧ Left left (shBind.cost (x0, x1)) m ∧ Below w.heap.size w w' := by
 rw [shBind_cost]
 rw [shBind_fit] at hf
 obtain ⟨ft0, ft1⟩ := hf
 have R0 := ((Stand.nil w).add lo hi (fun W => shBind.R W lo hi [.string x0, .int .i64 x1] (x0, x1)) (fun _ _ hk h => shBind.R_keep h hk) hhi h).box 389 #[.string x0, .int .i64 x1]
 have HR0 := Lib.hid R0
 clear R0 h
 go_enter Tryz.func268, Tryz.ntmps268
 by_cases g0 : left - (x0.size : Int) < 0
 ·go_wp2_with fail
  go_ret
  exact ⟨_, rfl, .inl rfl, HR0.out.1⟩
 go_wp2_with fail
 go_ret
 refine ⟨_, rfl, .inr ⟨by omega, ?_⟩, HR0.out.1⟩
 omega
theorem szBindS_f (A : Option Addr) (c : Nat) (xs : List TyBind) (lo hi : Nat) (left : Int) (w : World) (h : (Sh.row 359 shBind).R w lo hi [.slice A xs.length c] xs) (hhi : hi ≤ w.heap.size) (hf : (Sh.row 359 shBind).fit 9223372036854775807 xs) (hl0 : 0 ≤ left) (hl : left ≤ 1048576) :
  Calls Tryz.prog 252 #[.slice A xs.length c, .int .i64 left] w fun e w' => ∃ m, e = .returned (.int .i64 m) ∧ Left left ((Sh.row 359 shBind).cost xs) m ∧ Below w.heap.size w w' := by
 have hn := hf.1
 have HA := Lib.hid h; have HF := Lib.hid hf.2
 clear h hf
 go_enter Tryz.func252, Tryz.ntmps252
 by_cases g0 : left - (xs.length : Int) < 0
 ·go_wp2_with fail
  go_ret
  exact ⟨_, rfl, .inl rfl, Below.refl _ _⟩
 go_wp2_with fail
 go_loopw [1, 5] (fun l i wr => ∃ (k : Nat) (m : Int), k ≤ xs.length ∧ i = .int .i64 k ∧ l = .int .i64 m ∧ 0 ≤ m ∧ m + xs.length + costTo shBind k xs = left ∧ Below w.heap.size w wr) (fun _ i _ => xs.length - (intOf i).toNat)
 case atStart => exact ⟨0, _, Nat.zero_le _, rfl, rfl, by omega, by rw [costTo_zero]; omega, Below.refl _ _⟩
 case round =>
  obtain ⟨k, m, hk, rfl, rfl, hm0, hm, hb⟩ := hrel
  have HM := Lib.hid hm
  have hml : m ≤ 1048576 := by omega
  clear hm
  by_cases hlt : k < xs.length
  ·obtain ⟨-, b, off, rfl, hb1, hb2, e100, e101, hX⟩ := shBind_at ((Sh.row 359 shBind).R_below HA.out hb hhi) hlt
   have HS := Lib.hid (costTo_succ shBind hlt)
   have HX := Lib.hid (HF.out _ (getD_in (d := shBind.d) hlt))
   generalize xs.getD k shBind.d = X at *
   obtain ⟨x0, x1⟩ := X
   try dsimp only at e100 e101
   have HB := Lib.hid hb; have HR := Lib.hid hX
   have hsz := hb.size
   clear hb hX
   go_wp2_with fail
   refine (szBind_f x0 x1 lo hi _ _ HR.out (by omega) HX.out hm0 hml).mono ?_
   rintro e5 w5 ⟨m5, rfl, hm5, hb5⟩
   have HB5 := Lib.hid (HB.out.trans (hb5.mono hsz))
   clear hb5 e100 e101
   rcases hm5 with rfl | ⟨hm50, hm5⟩
   ·go_wp2_with fail
    go_ret
    exact ⟨_, rfl, .inl rfl, HB5.out⟩
   have n5 : ¬ (m5 < 0) := by omega
   have HM5 := Lib.hid hm5
   clear hm5
   go_wp2_with fail
   go_roundw
   case rel => exact ⟨k + 1, m5, by omega, by go_num, rfl, hm50, by have := HM.out; have := HM5.out; have := HS.out; omega, HB5.out⟩
   case measure => simp [intOf]; omega
  ·obtain rfl : k = xs.length := by omega
   have HB := Lib.hid hb; clear hb
   go_wp2_with fail
   go_ret
   refine ⟨_, rfl, .inr ⟨hm0, ?_⟩, HB.out⟩
   have := HM.out
   have e1 := costTo_all shBind xs
   show m + (costAll shBind xs : Int) = left
   omega
theorem szCell_f (x0 : Int) (x1 : List TyNode) (A1 : Option Addr) (c1 : Nat) (lo hi : Nat) (left : Int) (w : World) (h : shCell.R w lo hi [.int .i64 x0, .slice A1 x1.length c1] (x0, x1)) (hhi : hi ≤ w.heap.size) (hf : shCell.fit 9223372036854775807 (x0, x1)) (hl0 : 0 ≤ left) (hl : left ≤ 1048576) :
  Calls Tryz.prog 269 #[.agg #[.int .i64 x0, .slice A1 x1.length c1], .int .i64 left] w fun e w' => ∃ m, e = .returned (.int .i64 m) ∧ Left left (shCell.cost (x0, x1)) m ∧ Below w.heap.size w w' := by
 rw [shCell_cost]
 rw [shCell_fit] at hf
 obtain ⟨ft0, ft1⟩ := hf
 have R0 := ((Stand.nil w).add lo hi (fun W => shCell.R W lo hi [.int .i64 x0, .slice A1 x1.length c1] (x0, x1)) (fun _ _ hk h => shCell.R_keep h hk) hhi h).box 392 #[.int .i64 x0, .slice A1 x1.length c1]
 have HR0 := Lib.hid R0
 clear R0 h
 go_enter Tryz.func269, Tryz.ntmps269
 go_wp2_with fail
 refine (szTree_f x1 A1 c1 lo hi _ _ (shCell_f1 (HR0.out.get 1 rfl)) (HR0.out.le 1 rfl) ft1 (by omega) (by omega)).mono ?_
 rintro e1 w1 ⟨m1, rfl, hm1, hb1⟩
 have HR1 := Lib.hid (HR0.out.below hb1)
 have b1 := (HR1.out.get 0 rfl).cell
 clear hb1 HR0
 rcases hm1 with rfl | ⟨hp1, hm1⟩
 ·go_wp2_with fail
  go_ret
  exact ⟨_, rfl, .inl rfl, HR1.out.1⟩
 have n1 : ¬ (m1 < 0) := by omega
 have u1 : m1 ≤ 1048576 := by omega
 have HM1 := Lib.hid hm1; clear hm1
 go_wp2_with fail
 go_ret
 refine ⟨_, rfl, .inr ⟨by omega, ?_⟩, HR1.out.1⟩
 have := HM1.out
 omega
theorem szCellS_f (A : Option Addr) (c : Nat) (xs : List TyCell) (lo hi : Nat) (left : Int) (w : World) (h : (Sh.row 353 shCell).R w lo hi [.slice A xs.length c] xs) (hhi : hi ≤ w.heap.size) (hf : (Sh.row 353 shCell).fit 9223372036854775807 xs) (hl0 : 0 ≤ left) (hl : left ≤ 1048576) :
  Calls Tryz.prog 253 #[.slice A xs.length c, .int .i64 left] w fun e w' => ∃ m, e = .returned (.int .i64 m) ∧ Left left ((Sh.row 353 shCell).cost xs) m ∧ Below w.heap.size w w' := by
 have hn := hf.1
 have HA := Lib.hid h; have HF := Lib.hid hf.2
 clear h hf
 go_enter Tryz.func253, Tryz.ntmps253
 by_cases g0 : left - (xs.length : Int) < 0
 ·go_wp2_with fail
  go_ret
  exact ⟨_, rfl, .inl rfl, Below.refl _ _⟩
 go_wp2_with fail
 go_loopw [1, 5] (fun l i wr => ∃ (k : Nat) (m : Int), k ≤ xs.length ∧ i = .int .i64 k ∧ l = .int .i64 m ∧ 0 ≤ m ∧ m + xs.length + costTo shCell k xs = left ∧ Below w.heap.size w wr) (fun _ i _ => xs.length - (intOf i).toNat)
 case atStart => exact ⟨0, _, Nat.zero_le _, rfl, rfl, by omega, by rw [costTo_zero]; omega, Below.refl _ _⟩
 case round =>
  obtain ⟨k, m, hk, rfl, rfl, hm0, hm, hb⟩ := hrel
  have HM := Lib.hid hm
  have hml : m ≤ 1048576 := by omega
  clear hm
  by_cases hlt : k < xs.length
  ·obtain ⟨-, b, off, rfl, hb1, hb2, A1, c1, e100, e101, hX⟩ := shCell_at ((Sh.row 353 shCell).R_below HA.out hb hhi) hlt
   have HS := Lib.hid (costTo_succ shCell hlt)
   have HX := Lib.hid (HF.out _ (getD_in (d := shCell.d) hlt))
   generalize xs.getD k shCell.d = X at *
   obtain ⟨x0, x1⟩ := X
   try dsimp only at e100 e101
   have HB := Lib.hid hb; have HR := Lib.hid hX
   have hsz := hb.size
   clear hb hX
   go_wp2_with fail
   refine (szCell_f x0 x1 A1 c1 lo hi _ _ HR.out (by omega) HX.out hm0 hml).mono ?_
   rintro e5 w5 ⟨m5, rfl, hm5, hb5⟩
   have HB5 := Lib.hid (HB.out.trans (hb5.mono hsz))
   clear hb5 e100 e101
   rcases hm5 with rfl | ⟨hm50, hm5⟩
   ·go_wp2_with fail
    go_ret
    exact ⟨_, rfl, .inl rfl, HB5.out⟩
   have n5 : ¬ (m5 < 0) := by omega
   have HM5 := Lib.hid hm5
   clear hm5
   go_wp2_with fail
   go_roundw
   case rel => exact ⟨k + 1, m5, by omega, by go_num, rfl, hm50, by have := HM.out; have := HM5.out; have := HS.out; omega, HB5.out⟩
   case measure => simp [intOf]; omega
  ·obtain rfl : k = xs.length := by omega
   have HB := Lib.hid hb; clear hb
   go_wp2_with fail
   go_ret
   refine ⟨_, rfl, .inr ⟨hm0, ?_⟩, HB.out⟩
   have := HM.out
   have e1 := costTo_all shCell xs
   show m + (costAll shCell xs : Int) = left
   omega
theorem szLevel_f (x0 : List TyBind) (A0 : Option Addr) (c0 : Nat) (lo hi : Nat) (left : Int) (w : World) (h : shLevel.R w lo hi [.slice A0 x0.length c0] x0) (hhi : hi ≤ w.heap.size) (hf : shLevel.fit 9223372036854775807 x0) (hl0 : 0 ≤ left) (hl : left ≤ 1048576) :
  Calls Tryz.prog 270 #[.agg #[.slice A0 x0.length c0], .int .i64 left] w fun e w' => ∃ m, e = .returned (.int .i64 m) ∧ Left left (shLevel.cost x0) m ∧ Below w.heap.size w w' := by
 rw [shLevel_cost]
 rw [shLevel_fit] at hf
 have ft0 := hf
 have R0 := ((Stand.nil w).ad shLevel.R [.slice A0 x0.length c0] x0 hhi h shLevel.R_keep).box 395 #[.slice A0 x0.length c0]
 have HR0 := Lib.hid R0
 clear R0 h
 go_enter Tryz.func270, Tryz.ntmps270
 go_wp2_with fail
 refine (szBindS_f A0 c0 x0 lo hi _ _ (shLevel_f0 (HR0.out.get 1 rfl)) (HR0.out.le 1 rfl) ft0 (by omega) (by omega)).mono ?_
 rintro e0 w0 ⟨m0, rfl, hm0, hb0⟩
 have HR1 := Lib.hid (HR0.out.below hb0)
 have b0 := (HR1.out.get 0 rfl).cell
 clear hb0 HR0
 rcases hm0 with rfl | ⟨hp0, hm0⟩
 ·go_wp2_with fail
  go_ret
  exact ⟨_, rfl, .inl rfl, HR1.out.1⟩
 have n0 : ¬ (m0 < 0) := by omega
 have u0 : m0 ≤ 1048576 := by omega
 have HM0 := Lib.hid hm0; clear hm0
 go_wp2_with fail
 go_ret
 refine ⟨_, rfl, .inr ⟨by omega, ?_⟩, HR1.out.1⟩
 have := HM0.out
 omega
theorem szLevelS_f (A : Option Addr) (c : Nat) (xs : List TyLevel) (lo hi : Nat) (left : Int) (w : World) (h : (Sh.row 356 shLevel).R w lo hi [.slice A xs.length c] xs) (hhi : hi ≤ w.heap.size) (hf : (Sh.row 356 shLevel).fit 9223372036854775807 xs) (hl0 : 0 ≤ left) (hl : left ≤ 1048576) :
  Calls Tryz.prog 254 #[.slice A xs.length c, .int .i64 left] w fun e w' => ∃ m, e = .returned (.int .i64 m) ∧ Left left ((Sh.row 356 shLevel).cost xs) m ∧ Below w.heap.size w w' := by
 have hn := hf.1
 have HA := Lib.hid h; have HF := Lib.hid hf.2
 clear h hf
 go_enter Tryz.func254, Tryz.ntmps254
 by_cases g0 : left - (xs.length : Int) < 0
 ·go_wp2_with fail
  go_ret
  exact ⟨_, rfl, .inl rfl, Below.refl _ _⟩
 go_wp2_with fail
 go_loopw [1, 5] (fun l i wr => ∃ (k : Nat) (m : Int), k ≤ xs.length ∧ i = .int .i64 k ∧ l = .int .i64 m ∧ 0 ≤ m ∧ m + xs.length + costTo shLevel k xs = left ∧ Below w.heap.size w wr) (fun _ i _ => xs.length - (intOf i).toNat)
 case atStart => exact ⟨0, _, Nat.zero_le _, rfl, rfl, by omega, by rw [costTo_zero]; omega, Below.refl _ _⟩
 case round =>
  obtain ⟨k, m, hk, rfl, rfl, hm0, hm, hb⟩ := hrel
  have HM := Lib.hid hm
  have hml : m ≤ 1048576 := by omega
  clear hm
  by_cases hlt : k < xs.length
  ·obtain ⟨-, b, off, rfl, hb1, hb2, A0, c0, e100, hX⟩ := shLevel_at ((Sh.row 356 shLevel).R_below HA.out hb hhi) hlt
   have HS := Lib.hid (costTo_succ shLevel hlt)
   have HX := Lib.hid (HF.out _ (getD_in (d := shLevel.d) hlt))
   generalize xs.getD k shLevel.d = x0 at *
   try dsimp only at e100
   have HB := Lib.hid hb; have HR := Lib.hid hX
   have hsz := hb.size
   clear hb hX
   go_wp2_with fail
   refine (szLevel_f x0 A0 c0 lo hi _ _ HR.out (by omega) HX.out hm0 hml).mono ?_
   rintro e5 w5 ⟨m5, rfl, hm5, hb5⟩
   have HB5 := Lib.hid (HB.out.trans (hb5.mono hsz))
   clear hb5 e100
   rcases hm5 with rfl | ⟨hm50, hm5⟩
   ·go_wp2_with fail
    go_ret
    exact ⟨_, rfl, .inl rfl, HB5.out⟩
   have n5 : ¬ (m5 < 0) := by omega
   have HM5 := Lib.hid hm5
   clear hm5
   go_wp2_with fail
   go_roundw
   case rel => exact ⟨k + 1, m5, by omega, by go_num, rfl, hm50, by have := HM.out; have := HM5.out; have := HS.out; omega, HB5.out⟩
   case measure => simp [intOf]; omega
  ·obtain rfl : k = xs.length := by omega
   have HB := Lib.hid hb; clear hb
   go_wp2_with fail
   go_ret
   refine ⟨_, rfl, .inr ⟨hm0, ?_⟩, HB.out⟩
   have := HM.out
   have e1 := costTo_all shLevel xs
   show m + (costAll shLevel xs : Int) = left
   omega
theorem szGiven_f (x0 : Bool) (x1 : ByteArray) (lo hi : Nat) (left : Int) (w : World) (h : shGiven.R w lo hi [.bool x0, .string x1] (x0, x1)) (hhi : hi ≤ w.heap.size) (hf : shGiven.fit 9223372036854775807 (x0, x1)) (hl0 : 0 ≤ left) (hl : left ≤ 1048576) :
  Calls Tryz.prog 249 #[.agg #[.bool x0, .string x1], .int .i64 left] w fun e w' => ∃ m, e = .returned (.int .i64 m) ∧ Left left (shGiven.cost (x0, x1)) m ∧ Below w.heap.size w w' := by
 rw [shGiven_cost]
 rw [shGiven_fit] at hf
 obtain ⟨ft0, ft1⟩ := hf
 have R0 := ((Stand.nil w).add lo hi (fun W => shGiven.R W lo hi [.bool x0, .string x1] (x0, x1)) (fun _ _ hk h => shGiven.R_keep h hk) hhi h).box 369 #[.bool x0, .string x1]
 have HR0 := Lib.hid R0
 clear R0 h
 go_enter Tryz.func249, Tryz.ntmps249
 by_cases g1 : left - (x1.size : Int) < 0
 ·go_wp2_with fail
  go_ret
  exact ⟨_, rfl, .inl rfl, HR0.out.1⟩
 go_wp2_with fail
 go_ret
 refine ⟨_, rfl, .inr ⟨by omega, ?_⟩, HR0.out.1⟩
 omega
theorem szGivenS_f (A : Option Addr) (c : Nat) (xs : List TyGiven) (lo hi : Nat) (left : Int) (w : World) (h : (Sh.row 322 shGiven).R w lo hi [.slice A xs.length c] xs) (hhi : hi ≤ w.heap.size) (hf : (Sh.row 322 shGiven).fit 9223372036854775807 xs) (hl0 : 0 ≤ left) (hl : left ≤ 1048576) :
  Calls Tryz.prog 216 #[.slice A xs.length c, .int .i64 left] w fun e w' => ∃ m, e = .returned (.int .i64 m) ∧ Left left ((Sh.row 322 shGiven).cost xs) m ∧ Below w.heap.size w w' := by
 have hn := hf.1
 have HA := Lib.hid h; have HF := Lib.hid hf.2
 clear h hf
 go_enter Tryz.func216, Tryz.ntmps216
 by_cases g0 : left - (xs.length : Int) < 0
 ·go_wp2_with fail
  go_ret
  exact ⟨_, rfl, .inl rfl, Below.refl _ _⟩
 go_wp2_with fail
 go_loopw [1, 5] (fun l i wr => ∃ (k : Nat) (m : Int), k ≤ xs.length ∧ i = .int .i64 k ∧ l = .int .i64 m ∧ 0 ≤ m ∧ m + xs.length + costTo shGiven k xs = left ∧ Below w.heap.size w wr) (fun _ i _ => xs.length - (intOf i).toNat)
 case atStart => exact ⟨0, _, Nat.zero_le _, rfl, rfl, by omega, by rw [costTo_zero]; omega, Below.refl _ _⟩
 case round =>
  obtain ⟨k, m, hk, rfl, rfl, hm0, hm, hb⟩ := hrel
  have HM := Lib.hid hm
  have hml : m ≤ 1048576 := by omega
  clear hm
  by_cases hlt : k < xs.length
  ·obtain ⟨-, b, off, rfl, hb1, hb2, e100, e101, hX⟩ := shGiven_at ((Sh.row 322 shGiven).R_below HA.out hb hhi) hlt
   have HS := Lib.hid (costTo_succ shGiven hlt)
   have HX := Lib.hid (HF.out _ (getD_in (d := shGiven.d) hlt))
   generalize xs.getD k shGiven.d = X at *
   obtain ⟨x0, x1⟩ := X
   try dsimp only at e100 e101
   have HB := Lib.hid hb; have HR := Lib.hid hX
   have hsz := hb.size
   clear hb hX
   go_wp2_with fail
   refine (szGiven_f x0 x1 lo hi _ _ HR.out (by omega) HX.out hm0 hml).mono ?_
   rintro e5 w5 ⟨m5, rfl, hm5, hb5⟩
   have HB5 := Lib.hid (HB.out.trans (hb5.mono hsz))
   clear hb5 e100 e101
   rcases hm5 with rfl | ⟨hm50, hm5⟩
   ·go_wp2_with fail
    go_ret
    exact ⟨_, rfl, .inl rfl, HB5.out⟩
   have n5 : ¬ (m5 < 0) := by omega
   have HM5 := Lib.hid hm5
   clear hm5
   go_wp2_with fail
   go_roundw
   case rel => exact ⟨k + 1, m5, by omega, by go_num, rfl, hm50, by have := HM.out; have := HM5.out; have := HS.out; omega, HB5.out⟩
   case measure => simp [intOf]; omega
  ·obtain rfl : k = xs.length := by omega
   have HB := Lib.hid hb; clear hb
   go_wp2_with fail
   go_ret
   refine ⟨_, rfl, .inr ⟨hm0, ?_⟩, HB.out⟩
   have := HM.out
   have e1 := costTo_all shGiven xs
   show m + (costAll shGiven xs : Int) = left
   omega
theorem szLocals_f (x0 : Int) (x1 : List TyBind) (x2 : List TyCell) (x3 : List TyLevel) (A1 : Option Addr) (c1 : Nat) (A2 : Option Addr) (c2 : Nat) (A3 : Option Addr) (c3 : Nat) (lo hi : Nat) (left : Int) (w : World) (h : shLocals.R w lo hi [.int .i64 x0, .slice A1 x1.length c1, .slice A2 x2.length c2, .slice A3 x3.length c3] (x0, x1, x2, x3)) (hhi : hi ≤ w.heap.size) (hf : shLocals.fit 9223372036854775807 (x0, x1, x2, x3)) (hl0 : 0 ≤ left) (hl : left ≤ 1048576) :
  Calls Tryz.prog 219 #[.agg #[.int .i64 x0, .slice A1 x1.length c1, .slice A2 x2.length c2, .slice A3 x3.length c3], .int .i64 left] w fun e w' => ∃ m, e = .returned (.int .i64 m) ∧ Left left (shLocals.cost (x0, x1, x2, x3)) m ∧ Below w.heap.size w w' := by
 rw [shLocals_cost]
 rw [shLocals_fit] at hf
 obtain ⟨ft0, ft1, ft2, ft3⟩ := hf
 have R0 := ((Stand.nil w).add lo hi (fun W => shLocals.R W lo hi [.int .i64 x0, .slice A1 x1.length c1, .slice A2 x2.length c2, .slice A3 x3.length c3] (x0, x1, x2, x3)) (fun _ _ hk h => shLocals.R_keep h hk) hhi h).box 209 #[.int .i64 x0, .slice A1 x1.length c1, .slice A2 x2.length c2, .slice A3 x3.length c3]
 have HR0 := Lib.hid R0
 clear R0 h
 go_enter Tryz.func219, Tryz.ntmps219
 go_wp2_with fail
 refine (szBindS_f A1 c1 x1 lo hi _ _ (shLocals_f1 (HR0.out.get 1 rfl)) (HR0.out.le 1 rfl) ft1 (by omega) (by omega)).mono ?_
 rintro e1 w1 ⟨m1, rfl, hm1, hb1⟩
 have HR1 := Lib.hid (HR0.out.below hb1)
 have b1 := (HR1.out.get 0 rfl).cell
 clear hb1 HR0
 rcases hm1 with rfl | ⟨hp1, hm1⟩
 ·go_wp2_with fail
  go_ret
  exact ⟨_, rfl, .inl rfl, HR1.out.1⟩
 have n1 : ¬ (m1 < 0) := by omega
 have u1 : m1 ≤ 1048576 := by omega
 have HM1 := Lib.hid hm1; clear hm1
 go_wp2_with fail
 refine (szCellS_f A2 c2 x2 lo hi _ _ (shLocals_f2 (HR1.out.get 1 rfl)) (HR1.out.le 1 rfl) ft2 (by omega) (by omega)).mono ?_
 rintro e2 w2 ⟨m2, rfl, hm2, hb2⟩
 have HR2 := Lib.hid (HR1.out.below hb2)
 have b2 := (HR2.out.get 0 rfl).cell
 clear hb2 HR1
 rcases hm2 with rfl | ⟨hp2, hm2⟩
 ·go_wp2_with fail
  go_ret
  exact ⟨_, rfl, .inl rfl, HR2.out.1⟩
 have n2 : ¬ (m2 < 0) := by omega
 have u2 : m2 ≤ 1048576 := by omega
 have HM2 := Lib.hid hm2; clear hm2
 go_wp2_with fail
 refine (szLevelS_f A3 c3 x3 lo hi _ _ (shLocals_f3 (HR2.out.get 1 rfl)) (HR2.out.le 1 rfl) ft3 (by omega) (by omega)).mono ?_
 rintro e3 w3 ⟨m3, rfl, hm3, hb3⟩
 have HR3 := Lib.hid (HR2.out.below hb3)
 have b3 := (HR3.out.get 0 rfl).cell
 clear hb3 HR2
 rcases hm3 with rfl | ⟨hp3, hm3⟩
 ·go_wp2_with fail
  go_ret
  exact ⟨_, rfl, .inl rfl, HR3.out.1⟩
 have n3 : ¬ (m3 < 0) := by omega
 have u3 : m3 ≤ 1048576 := by omega
 have HM3 := Lib.hid hm3; clear hm3
 go_wp2_with fail
 go_ret
 refine ⟨_, rfl, .inr ⟨by omega, ?_⟩, HR3.out.1⟩
 have := HM1.out
 have := HM2.out
 have := HM3.out
 omega
theorem szRef_f (x0 : Bool) (x1 : ByteArray) (x2 : List ByteArray) (A2 : Option Addr) (c2 : Nat) (lo hi : Nat) (left : Int) (w : World) (h : shRef.R w lo hi [.bool x0, .string x1, .slice A2 x2.length c2] (x0, x1, x2)) (hhi : hi ≤ w.heap.size) (hf : shRef.fit 9223372036854775807 (x0, x1, x2)) (hl0 : 0 ≤ left) (hl : left ≤ 1048576) :
  Calls Tryz.prog 220 #[.agg #[.bool x0, .string x1, .slice A2 x2.length c2], .int .i64 left] w fun e w' => ∃ m, e = .returned (.int .i64 m) ∧ Left left (shRef.cost (x0, x1, x2)) m ∧ Below w.heap.size w w' := by
 rw [shRef_cost]
 rw [shRef_fit] at hf
 obtain ⟨ft0, ft1, ft2⟩ := hf
 have R0 := ((Stand.nil w).add lo hi (fun W => shRef.R W lo hi [.bool x0, .string x1, .slice A2 x2.length c2] (x0, x1, x2)) (fun _ _ hk h => shRef.R_keep h hk) hhi h).box 210 #[.bool x0, .string x1, .slice A2 x2.length c2]
 have HR0 := Lib.hid R0
 clear R0 h
 go_enter Tryz.func220, Tryz.ntmps220
 by_cases g1 : left - (x1.size : Int) < 0
 ·go_wp2_with fail
  go_ret
  exact ⟨_, rfl, .inl rfl, HR0.out.1⟩
 go_wp2_with fail
 refine (szStringS_f A2 c2 x2 lo hi _ _ (shRef_f2 (HR0.out.get 1 rfl)) (HR0.out.le 1 rfl) ft2 (by omega) (by omega)).mono ?_
 rintro e2 w2 ⟨m2, rfl, hm2, hb2⟩
 have HR1 := Lib.hid (HR0.out.below hb2)
 have b2 := (HR1.out.get 0 rfl).cell
 clear hb2 HR0
 rcases hm2 with rfl | ⟨hp2, hm2⟩
 ·go_wp2_with fail
  go_ret
  exact ⟨_, rfl, .inl rfl, HR1.out.1⟩
 have n2 : ¬ (m2 < 0) := by omega
 have u2 : m2 ≤ 1048576 := by omega
 have HM2 := Lib.hid hm2; clear hm2
 go_wp2_with fail
 go_ret
 refine ⟨_, rfl, .inr ⟨by omega, ?_⟩, HR1.out.1⟩
 have := HM2.out
 omega
theorem szRefS_f (A : Option Addr) (c : Nat) (xs : List TyRef) (lo hi : Nat) (left : Int) (w : World) (h : (Sh.row 152 shRef).R w lo hi [.slice A xs.length c] xs) (hhi : hi ≤ w.heap.size) (hf : (Sh.row 152 shRef).fit 9223372036854775807 xs) (hl0 : 0 ≤ left) (hl : left ≤ 1048576) :
  Calls Tryz.prog 215 #[.slice A xs.length c, .int .i64 left] w fun e w' => ∃ m, e = .returned (.int .i64 m) ∧ Left left ((Sh.row 152 shRef).cost xs) m ∧ Below w.heap.size w w' := by
 have hn := hf.1
 have HA := Lib.hid h; have HF := Lib.hid hf.2
 clear h hf
 go_enter Tryz.func215, Tryz.ntmps215
 by_cases g0 : left - (xs.length : Int) < 0
 ·go_wp2_with fail
  go_ret
  exact ⟨_, rfl, .inl rfl, Below.refl _ _⟩
 go_wp2_with fail
 go_loopw [1, 5] (fun l i wr => ∃ (k : Nat) (m : Int), k ≤ xs.length ∧ i = .int .i64 k ∧ l = .int .i64 m ∧ 0 ≤ m ∧ m + xs.length + costTo shRef k xs = left ∧ Below w.heap.size w wr) (fun _ i _ => xs.length - (intOf i).toNat)
 case atStart => exact ⟨0, _, Nat.zero_le _, rfl, rfl, by omega, by rw [costTo_zero]; omega, Below.refl _ _⟩
 case round =>
  obtain ⟨k, m, hk, rfl, rfl, hm0, hm, hb⟩ := hrel
  have HM := Lib.hid hm
  have hml : m ≤ 1048576 := by omega
  clear hm
  by_cases hlt : k < xs.length
  ·obtain ⟨-, b, off, rfl, hb1, hb2, A2, c2, e100, e101, e102, hX⟩ := shRef_at ((Sh.row 152 shRef).R_below HA.out hb hhi) hlt
   have HS := Lib.hid (costTo_succ shRef hlt)
   have HX := Lib.hid (HF.out _ (getD_in (d := shRef.d) hlt))
   generalize xs.getD k shRef.d = X at *
   obtain ⟨x0, x1, x2⟩ := X
   try dsimp only at e100 e101 e102
   have HB := Lib.hid hb; have HR := Lib.hid hX
   have hsz := hb.size
   clear hb hX
   go_wp2_with fail
   refine (szRef_f x0 x1 x2 A2 c2 lo hi _ _ HR.out (by omega) HX.out hm0 hml).mono ?_
   rintro e5 w5 ⟨m5, rfl, hm5, hb5⟩
   have HB5 := Lib.hid (HB.out.trans (hb5.mono hsz))
   clear hb5 e100 e101 e102
   rcases hm5 with rfl | ⟨hm50, hm5⟩
   ·go_wp2_with fail
    go_ret
    exact ⟨_, rfl, .inl rfl, HB5.out⟩
   have n5 : ¬ (m5 < 0) := by omega
   have HM5 := Lib.hid hm5
   clear hm5
   go_wp2_with fail
   go_roundw
   case rel => exact ⟨k + 1, m5, by omega, by go_num, rfl, hm50, by have := HM.out; have := HM5.out; have := HS.out; omega, HB5.out⟩
   case measure => simp [intOf]; omega
  ·obtain rfl : k = xs.length := by omega
   have HB := Lib.hid hb; clear hb
   go_wp2_with fail
   go_ret
   refine ⟨_, rfl, .inr ⟨hm0, ?_⟩, HB.out⟩
   have := HM.out
   have e1 := costTo_all shRef xs
   show m + (costAll shRef xs : Int) = left
   omega
theorem szLoop_f (x0 : ByteArray) (x1 : Int) (x2 : Int) (x3 : Bool) (x4 : Int) (x5 : Int) (lo hi : Nat) (left : Int) (w : World) (h : shLoop.R w lo hi [.string x0, .int .i64 x1, .int .i64 x2, .bool x3, .int .i64 x4, .int .i64 x5] (x0, x1, x2, x3, x4, x5)) (hhi : hi ≤ w.heap.size) (hf : shLoop.fit 9223372036854775807 (x0, x1, x2, x3, x4, x5)) (hl0 : 0 ≤ left) (hl : left ≤ 1048576) :
  Calls Tryz.prog 250 #[.agg #[.string x0, .int .i64 x1, .int .i64 x2, .bool x3, .int .i64 x4, .int .i64 x5], .int .i64 left] w fun e w' => ∃ m, e = .returned (.int .i64 m) ∧ Left left (shLoop.cost (x0, x1, x2, x3, x4, x5)) m ∧ Below w.heap.size w w' := by
 rw [shLoop_cost]
 rw [shLoop_fit] at hf
 obtain ⟨ft0, ft1, ft2, ft3, ft4, ft5⟩ := hf
 have R0 := ((Stand.nil w).add lo hi (fun W => shLoop.R W lo hi [.string x0, .int .i64 x1, .int .i64 x2, .bool x3, .int .i64 x4, .int .i64 x5] (x0, x1, x2, x3, x4, x5)) (fun _ _ hk h => shLoop.R_keep h hk) hhi h).box 371 #[.string x0, .int .i64 x1, .int .i64 x2, .bool x3, .int .i64 x4, .int .i64 x5]
 have HR0 := Lib.hid R0
 clear R0 h
 go_enter Tryz.func250, Tryz.ntmps250
 by_cases g0 : left - (x0.size : Int) < 0
 ·go_wp2_with fail
  go_ret
  exact ⟨_, rfl, .inl rfl, HR0.out.1⟩
 go_wp2_with fail
 go_ret
 refine ⟨_, rfl, .inr ⟨by omega, ?_⟩, HR0.out.1⟩
 omega
theorem szLoopS_f (A : Option Addr) (c : Nat) (xs : List TyLoop) (lo hi : Nat) (left : Int) (w : World) (h : (Sh.row 325 shLoop).R w lo hi [.slice A xs.length c] xs) (hhi : hi ≤ w.heap.size) (hf : (Sh.row 325 shLoop).fit 9223372036854775807 xs) (hl0 : 0 ≤ left) (hl : left ≤ 1048576) :
  Calls Tryz.prog 217 #[.slice A xs.length c, .int .i64 left] w fun e w' => ∃ m, e = .returned (.int .i64 m) ∧ Left left ((Sh.row 325 shLoop).cost xs) m ∧ Below w.heap.size w w' := by
 have hn := hf.1
 have HA := Lib.hid h; have HF := Lib.hid hf.2
 clear h hf
 go_enter Tryz.func217, Tryz.ntmps217
 by_cases g0 : left - (xs.length : Int) < 0
 ·go_wp2_with fail
  go_ret
  exact ⟨_, rfl, .inl rfl, Below.refl _ _⟩
 go_wp2_with fail
 go_loopw [1, 5] (fun l i wr => ∃ (k : Nat) (m : Int), k ≤ xs.length ∧ i = .int .i64 k ∧ l = .int .i64 m ∧ 0 ≤ m ∧ m + xs.length + costTo shLoop k xs = left ∧ Below w.heap.size w wr) (fun _ i _ => xs.length - (intOf i).toNat)
 case atStart => exact ⟨0, _, Nat.zero_le _, rfl, rfl, by omega, by rw [costTo_zero]; omega, Below.refl _ _⟩
 case round =>
  obtain ⟨k, m, hk, rfl, rfl, hm0, hm, hb⟩ := hrel
  have HM := Lib.hid hm
  have hml : m ≤ 1048576 := by omega
  clear hm
  by_cases hlt : k < xs.length
  ·obtain ⟨-, b, off, rfl, hb1, hb2, e100, e101, e102, e103, e104, e105, hX⟩ := shLoop_at ((Sh.row 325 shLoop).R_below HA.out hb hhi) hlt
   have HS := Lib.hid (costTo_succ shLoop hlt)
   have HX := Lib.hid (HF.out _ (getD_in (d := shLoop.d) hlt))
   generalize xs.getD k shLoop.d = X at *
   obtain ⟨x0, x1, x2, x3, x4, x5⟩ := X
   try dsimp only at e100 e101 e102 e103 e104 e105
   have HB := Lib.hid hb; have HR := Lib.hid hX
   have hsz := hb.size
   clear hb hX
   go_wp2_with fail
   refine (szLoop_f x0 x1 x2 x3 x4 x5 lo hi _ _ HR.out (by omega) HX.out hm0 hml).mono ?_
   rintro e5 w5 ⟨m5, rfl, hm5, hb5⟩
   have HB5 := Lib.hid (HB.out.trans (hb5.mono hsz))
   clear hb5 e100 e101 e102 e103 e104 e105
   rcases hm5 with rfl | ⟨hm50, hm5⟩
   ·go_wp2_with fail
    go_ret
    exact ⟨_, rfl, .inl rfl, HB5.out⟩
   have n5 : ¬ (m5 < 0) := by omega
   have HM5 := Lib.hid hm5
   clear hm5
   go_wp2_with fail
   go_roundw
   case rel => exact ⟨k + 1, m5, by omega, by go_num, rfl, hm50, by have := HM.out; have := HM5.out; have := HS.out; omega, HB5.out⟩
   case measure => simp [intOf]; omega
  ·obtain rfl : k = xs.length := by omega
   have HB := Lib.hid hb; clear hb
   go_wp2_with fail
   go_ret
   refine ⟨_, rfl, .inr ⟨hm0, ?_⟩, HB.out⟩
   have := HM.out
   have e1 := costTo_all shLoop xs
   show m + (costAll shLoop xs : Int) = left
   omega
theorem szFrame_f (x0 : Int) (x1 : Bool) (x2 : Bool) (x3 : Int) (x4 : Int) (x5 : Int) (x6 : Int) (x7 : ByteArray) (x8 : ByteArray) (lo hi : Nat) (left : Int) (w : World) (h : shFrame.R w lo hi [.int .i64 x0, .bool x1, .bool x2, .int .i64 x3, .int .i64 x4, .int .i64 x5, .int .i64 x6, .string x7, .string x8] (x0, x1, x2, x3, x4, x5, x6, x7, x8)) (hhi : hi ≤ w.heap.size) (hf : shFrame.fit 9223372036854775807 (x0, x1, x2, x3, x4, x5, x6, x7, x8)) (hl0 : 0 ≤ left) (hl : left ≤ 1048576) :
  Calls Tryz.prog 251 #[.agg #[.int .i64 x0, .bool x1, .bool x2, .int .i64 x3, .int .i64 x4, .int .i64 x5, .int .i64 x6, .string x7, .string x8], .int .i64 left] w fun e w' => ∃ m, e = .returned (.int .i64 m) ∧ Left left (shFrame.cost (x0, x1, x2, x3, x4, x5, x6, x7, x8)) m ∧ Below w.heap.size w w' := by
 rw [shFrame_cost]
 rw [shFrame_fit] at hf
 obtain ⟨ft0, ft1, ft2, ft3, ft4, ft5, ft6, ft7, ft8⟩ := hf
 have R0 := ((Stand.nil w).add lo hi (fun W => shFrame.R W lo hi [.int .i64 x0, .bool x1, .bool x2, .int .i64 x3, .int .i64 x4, .int .i64 x5, .int .i64 x6, .string x7, .string x8] (x0, x1, x2, x3, x4, x5, x6, x7, x8)) (fun _ _ hk h => shFrame.R_keep h hk) hhi h).box 373 #[.int .i64 x0, .bool x1, .bool x2, .int .i64 x3, .int .i64 x4, .int .i64 x5, .int .i64 x6, .string x7, .string x8]
 have HR0 := Lib.hid R0
 clear R0 h
 go_enter Tryz.func251, Tryz.ntmps251
 by_cases g7 : left - (x7.size : Int) < 0
 ·go_wp2_with fail
  go_ret
  exact ⟨_, rfl, .inl rfl, HR0.out.1⟩
 by_cases g8 : left - (x7.size : Int) - (x8.size : Int) < 0
 ·go_wp2_with fail
  go_ret
  exact ⟨_, rfl, .inl rfl, HR0.out.1⟩
 go_wp2_with fail
 go_ret
 refine ⟨_, rfl, .inr ⟨by omega, ?_⟩, HR0.out.1⟩
 omega
theorem szFrameS_f (A : Option Addr) (c : Nat) (xs : List TyFrame) (lo hi : Nat) (left : Int) (w : World) (h : (Sh.row 328 shFrame).R w lo hi [.slice A xs.length c] xs) (hhi : hi ≤ w.heap.size) (hf : (Sh.row 328 shFrame).fit 9223372036854775807 xs) (hl0 : 0 ≤ left) (hl : left ≤ 1048576) :
  Calls Tryz.prog 218 #[.slice A xs.length c, .int .i64 left] w fun e w' => ∃ m, e = .returned (.int .i64 m) ∧ Left left ((Sh.row 328 shFrame).cost xs) m ∧ Below w.heap.size w w' := by
 have hn := hf.1
 have HA := Lib.hid h; have HF := Lib.hid hf.2
 clear h hf
 go_enter Tryz.func218, Tryz.ntmps218
 by_cases g0 : left - (xs.length : Int) < 0
 ·go_wp2_with fail
  go_ret
  exact ⟨_, rfl, .inl rfl, Below.refl _ _⟩
 go_wp2_with fail
 go_loopw [1, 5] (fun l i wr => ∃ (k : Nat) (m : Int), k ≤ xs.length ∧ i = .int .i64 k ∧ l = .int .i64 m ∧ 0 ≤ m ∧ m + xs.length + costTo shFrame k xs = left ∧ Below w.heap.size w wr) (fun _ i _ => xs.length - (intOf i).toNat)
 case atStart => exact ⟨0, _, Nat.zero_le _, rfl, rfl, by omega, by rw [costTo_zero]; omega, Below.refl _ _⟩
 case round =>
  obtain ⟨k, m, hk, rfl, rfl, hm0, hm, hb⟩ := hrel
  have HM := Lib.hid hm
  have hml : m ≤ 1048576 := by omega
  clear hm
  by_cases hlt : k < xs.length
  ·obtain ⟨-, b, off, rfl, hb1, hb2, e100, e101, e102, e103, e104, e105, e106, e107, e108, hX⟩ := shFrame_at ((Sh.row 328 shFrame).R_below HA.out hb hhi) hlt
   have HS := Lib.hid (costTo_succ shFrame hlt)
   have HX := Lib.hid (HF.out _ (getD_in (d := shFrame.d) hlt))
   generalize xs.getD k shFrame.d = X at *
   obtain ⟨x0, x1, x2, x3, x4, x5, x6, x7, x8⟩ := X
   try dsimp only at e100 e101 e102 e103 e104 e105 e106 e107 e108
   have HB := Lib.hid hb; have HR := Lib.hid hX
   have hsz := hb.size
   clear hb hX
   go_wp2_with fail
   refine (szFrame_f x0 x1 x2 x3 x4 x5 x6 x7 x8 lo hi _ _ HR.out (by omega) HX.out hm0 hml).mono ?_
   rintro e5 w5 ⟨m5, rfl, hm5, hb5⟩
   have HB5 := Lib.hid (HB.out.trans (hb5.mono hsz))
   clear hb5 e100 e101 e102 e103 e104 e105 e106 e107 e108
   rcases hm5 with rfl | ⟨hm50, hm5⟩
   ·go_wp2_with fail
    go_ret
    exact ⟨_, rfl, .inl rfl, HB5.out⟩
   have n5 : ¬ (m5 < 0) := by omega
   have HM5 := Lib.hid hm5
   clear hm5
   go_wp2_with fail
   go_roundw
   case rel => exact ⟨k + 1, m5, by omega, by go_num, rfl, hm50, by have := HM.out; have := HM5.out; have := HS.out; omega, HB5.out⟩
   case measure => simp [intOf]; omega
  ·obtain rfl : k = xs.length := by omega
   have HB := Lib.hid hb; clear hb
   go_wp2_with fail
   go_ret
   refine ⟨_, rfl, .inr ⟨hm0, ?_⟩, HB.out⟩
   have := HM.out
   have e1 := costTo_all shFrame xs
   show m + (costAll shFrame xs : Int) = left
   omega
end Go.Proofs.YtgnmollbnopigaaGreat
