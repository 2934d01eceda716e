/- Node, Tree, Bind, Cell, Level, Given, Locals, Ref, Loop, Frame: shapes and the laws' walks (eq). Printed by gen_fam.py. -/
import Derived.Test.YtgnmollbnopigaaGreatJoinSTAf
import Derived.Test.YtgnmollbnopigaaGreatJoinSTAg
set_option maxHeartbeats 16000000
set_option maxRecDepth 100000
namespace Go.Proofs.YtgnmollbnopigaaGreat
open Go.RowKit
theorem eqNode_f (x0 : ByteArray) (x1 : List ByteArray) (x2 : ByteArray) (A1 : Option Addr) (c1 : Nat) (B1 : Option Addr) (d1 : Nat) (lo hi lo' hi' : Nat) (w : World) (h : shNode.R w lo hi [.string x0, .slice A1 x1.length c1, .string x2] (x0, x1, x2)) (h' : shNode.R w lo' hi' [.string x0, .slice B1 x1.length d1, .string x2] (x0, x1, x2)) (hhi : hi ≤ w.heap.size) (hhi' : hi' ≤ w.heap.size) (hf : shNode.fit 4294967296 (x0, x1, x2)) :
  Calls Tryz.prog 167 #[.agg #[.string x0, .slice A1 x1.length c1, .string x2], .agg #[.string x0, .slice B1 x1.length d1, .string x2]] w fun e w' => e = .returned (.bool true) ∧ Below w.heap.size w w' := by
 rw [shNode_fit] at hf
 obtain ⟨ft0, ft1, ft2⟩ := hf
 have R0 := ((((Stand.nil w).add lo hi (fun W => shNode.R W lo hi [.string x0, .slice A1 x1.length c1, .string x2] (x0, x1, x2)) (fun _ _ hk h => shNode.R_keep h hk) hhi h).add lo' hi' (fun W => shNode.R W lo' hi' [.string x0, .slice B1 x1.length d1, .string x2] (x0, x1, x2)) (fun _ _ hk h => shNode.R_keep h hk) hhi' h').box 165 #[.string x0, .slice A1 x1.length c1, .string x2]).box 165 #[.string x0, .slice B1 x1.length d1, .string x2]
 rw [heap_alloc_size1] at R0
 have HR0 := Lib.hid R0
 clear R0 h h'
 go_enter Tryz.func167, Tryz.ntmps167
 go_wp2_with fail
 refine (eqStringS_f A1 B1 c1 d1 x1 lo hi lo' hi' _ (shNode_f1 (HR0.out.get 3 rfl)) (shNode_f1 (HR0.out.get 2 rfl)) (HR0.out.le 3 rfl) (HR0.out.le 2 rfl) ft1).mono ?_
 rintro e1 w1 ⟨rfl, hb1⟩
 have HR1 := Lib.hid (HR0.out.below hb1)
 have b1 := (HR1.out.get 0 rfl).cell
 have a1 := (HR1.out.get 1 rfl).cell
 clear hb1 HR0
 go_wp2_with fail
 go_ret
 exact ⟨rfl, HR1.out.1⟩
theorem eqNodeS_f (A B : Option Addr) (c d : Nat) (xs : List TyNode) (lo hi lo' hi' : Nat) (w : World) (h : (Sh.row 165 shNode).R w lo hi [.slice A xs.length c] xs) (h' : (Sh.row 165 shNode).R w lo' hi' [.slice B xs.length d] xs) (hhi : hi ≤ w.heap.size) (hhi' : hi' ≤ w.heap.size) (hf : (Sh.row 165 shNode).fit 4294967296 xs) :
  Calls Tryz.prog 92 #[.slice A xs.length c, .slice B xs.length d] w fun e w' => e = .returned (.bool true) ∧ Below w.heap.size w w' := by
 have hn := hf.1
 have HA := Lib.hid h; have HA' := Lib.hid h'; have HF := Lib.hid hf.2
 clear h h' hf
 go_enter Tryz.func92, Tryz.ntmps92
 go_wp2_with fail
 go_loopw [5] (fun i wr => ∃ k : Nat, k ≤ xs.length ∧ i = .int .i64 k ∧ Below w.heap.size w wr) (fun i _ => xs.length - (intOf i).toNat)
 case atStart => exact ⟨0, Nat.zero_le _, rfl, Below.refl _ _⟩
 case round =>
  obtain ⟨k, hk, rfl, hb⟩ := hrel
  by_cases hlt : k < xs.length
  ·obtain ⟨-, b, off, rfl, hb1, hb2, A1, c1, e100, e101, e102, hX⟩ := shNode_at ((Sh.row 165 shNode).R_below HA.out hb hhi) hlt
   obtain ⟨-, b', off', rfl, hb1', hb2', B1, d1, e100', e101', e102', hX'⟩ := shNode_at ((Sh.row 165 shNode).R_below HA'.out hb hhi') hlt
   have HX := Lib.hid (HF.out _ (getD_in (d := shNode.d) hlt))
   generalize xs.getD k shNode.d = X at *
   obtain ⟨x0, x1, x2⟩ := X
   try dsimp only at e100 e101 e102 e100' e101' e102'
   have hsz := hb.size
   have HR := Lib.hid (shNode.R_below hX (below_drewN' wr 1) (by omega)); have HR' := Lib.hid (shNode.R_below hX' (below_drewN' wr 1) (by omega))
   have HB := Lib.hid hb
   have HBd := Lib.hid hb.drew
   clear hb hX hX'
   have hwi : hi ≤ wr.drew.heap.size := (show hi ≤ wr.heap.size by omega)
   have hwi' : hi' ≤ wr.drew.heap.size := (show hi' ≤ wr.heap.size by omega)
   have hbw : b < wr.drew.heap.size := (show b < wr.heap.size by omega)
   have hbw' : b' < wr.drew.heap.size := (show b' < wr.heap.size by omega)
   go_wp2_with fail
   go_region_held3 (fun w' => w'.cell? ⟨b, off + k * 3, none⟩ = some (.string x0) ∧ w'.cell? ⟨b, off + k * 3 + 1, none⟩ = some (.slice A1 x1.length c1) ∧ w'.cell? ⟨b, off + k * 3 + 2, none⟩ = some (.string x2) ∧ w'.cell? ⟨b', off' + k * 3, none⟩ = some (.string x0) ∧ w'.cell? ⟨b', off' + k * 3 + 1, none⟩ = some (.slice B1 x1.length d1) ∧ w'.cell? ⟨b', off' + k * 3 + 2, none⟩ = some (.string x2) ∧ Below w.heap.size w w')
    (first | exact ⟨e100, e101, e102, e100', e101', e102', HB.out⟩ | exact ⟨e100, e101, e102, e100', e101', e102', HBd.out⟩ | exact ⟨(hb5.cell hbw).trans e100, (hb5.cell hbw).trans e101, (hb5.cell hbw).trans e102, (hb5.cell hbw').trans e100', (hb5.cell hbw').trans e101', (hb5.cell hbw').trans e102', HBd.out.trans (hb5.mono HBd.out.size)⟩)
    (first | (go_at_call 167; (refine (eqNode_f x0 x1 x2 A1 c1 B1 d1 lo hi lo' hi' wr.drew HR.out HR'.out hwi hwi' HX.out).mono ?_); rintro e5 w5 ⟨rfl, hb5⟩))
   have HB5 := Lib.hid (HBd.out.trans (hb5.mono HBd.out.size))
   clear hb5 e100 e101 e102 e100' e101' e102'
   go_wp2_with fail
   go_roundw
   case rel => exact ⟨k + 1, by omega, by go_num, HB5.out⟩
   case measure => simp [intOf]; omega
  ·have HB := Lib.hid hb; clear hb
   go_wp2_with fail
   go_ret
   exact ⟨rfl, HB.out⟩
theorem eqTree_f (x0 : List TyNode) (A0 : Option Addr) (c0 : Nat) (B0 : Option Addr) (d0 : Nat) (lo hi lo' hi' : Nat) (w : World) (h : shTree.R w lo hi [.slice A0 x0.length c0] x0) (h' : shTree.R w lo' hi' [.slice B0 x0.length d0] x0) (hhi : hi ≤ w.heap.size) (hhi' : hi' ≤ w.heap.size) (hf : shTree.fit 4294967296 x0) :
  Calls Tryz.prog 33 #[.agg #[.slice A0 x0.length c0], .agg #[.slice B0 x0.length d0]] w fun e w' => e = .returned (.bool true) ∧ Below w.heap.size w w' := by
 rw [shTree_fit] at hf
 have ft0 := hf
 have R0 := ((((Stand.nil w).ad shTree.R [.slice A0 x0.length c0] x0 hhi h shTree.R_keep).ad shTree.R [.slice B0 x0.length d0] x0 hhi' h' shTree.R_keep).box 66 #[.slice A0 x0.length c0]).box 66 #[.slice B0 x0.length d0]
 rw [heap_alloc_size1] at R0
 have HR0 := Lib.hid R0
 clear R0 h h'
 go_enter Tryz.func33, Tryz.ntmps33
 go_wp2_with fail
 refine (eqNodeS_f A0 B0 c0 d0 x0 lo hi lo' hi' _ (shTree_f0 (HR0.out.get 3 rfl)) (shTree_f0 (HR0.out.get 2 rfl)) (HR0.out.le 3 rfl) (HR0.out.le 2 rfl) ft0).mono ?_
 rintro e0 w0 ⟨rfl, hb0⟩
 have HR1 := Lib.hid (HR0.out.below hb0)
 have b0 := (HR1.out.get 0 rfl).cell
 have a0 := (HR1.out.get 1 rfl).cell
 clear hb0 HR0
 go_wp2_with fail
 go_ret
 exact ⟨rfl, HR1.out.1⟩
theorem eqBind_f (x0 : ByteArray) (x1 : Int)  (lo hi lo' hi' : Nat) (w : World) (h : shBind.R w lo hi [.string x0, .int .i64 x1] (x0, x1)) (h' : shBind.R w lo' hi' [.string x0, .int .i64 x1] (x0, x1)) (hhi : hi ≤ w.heap.size) (hhi' : hi' ≤ w.heap.size) (hf : shBind.fit 4294967296 (x0, x1)) :
  Calls Tryz.prog 274 #[.agg #[.string x0, .int .i64 x1], .agg #[.string x0, .int .i64 x1]] w fun e w' => e = .returned (.bool true) ∧ Below w.heap.size w w' := by
 rw [shBind_fit] at hf
 obtain ⟨ft0, ft1⟩ := hf
 have R0 := ((((Stand.nil w).add lo hi (fun W => shBind.R W lo hi [.string x0, .int .i64 x1] (x0, x1)) (fun _ _ hk h => shBind.R_keep h hk) hhi h).add lo' hi' (fun W => shBind.R W lo' hi' [.string x0, .int .i64 x1] (x0, x1)) (fun _ _ hk h => shBind.R_keep h hk) hhi' h').box 359 #[.string x0, .int .i64 x1]).box 359 #[.string x0, .int .i64 x1]
 rw [heap_alloc_size1] at R0
 have HR0 := Lib.hid R0
 clear R0 h h'
 go_enter Tryz.func274, Tryz.ntmps274
 go_wp2_with fail
 go_ret
 exact ⟨rfl, HR0.out.1⟩
theorem eqBindS_f (A B : Option Addr) (c d : Nat) (xs : List TyBind) (lo hi lo' hi' : Nat) (w : World) (h : (Sh.row 359 shBind).R w lo hi [.slice A xs.length c] xs) (h' : (Sh.row 359 shBind).R w lo' hi' [.slice B xs.length d] xs) (hhi : hi ≤ w.heap.size) (hhi' : hi' ≤ w.heap.size) (hf : (Sh.row 359 shBind).fit 4294967296 xs) :
  Calls Tryz.prog 265 #[.slice A xs.length c, .slice B xs.length d] w fun e w' => e = .returned (.bool true) ∧ Below w.heap.size w w' := by
 have hn := hf.1
 have HA := Lib.hid h; have HA' := Lib.hid h'; have HF := Lib.hid hf.2
 clear h h' hf
 go_enter Tryz.func265, Tryz.ntmps265
 go_wp2_with fail
 go_loopw [5] (fun i wr => ∃ k : Nat, k ≤ xs.length ∧ i = .int .i64 k ∧ Below w.heap.size w wr) (fun i _ => xs.length - (intOf i).toNat)
 case atStart => exact ⟨0, Nat.zero_le _, rfl, Below.refl _ _⟩
 case round =>
  obtain ⟨k, hk, rfl, hb⟩ := hrel
  by_cases hlt : k < xs.length
  ·obtain ⟨-, b, off, rfl, hb1, hb2, e100, e101, hX⟩ := shBind_at ((Sh.row 359 shBind).R_below HA.out hb hhi) hlt
   obtain ⟨-, b', off', rfl, hb1', hb2', e100', e101', hX'⟩ := shBind_at ((Sh.row 359 shBind).R_below HA'.out hb hhi') hlt
   have HX := Lib.hid (HF.out _ (getD_in (d := shBind.d) hlt))
   generalize xs.getD k shBind.d = X at *
   obtain ⟨x0, x1⟩ := X
   try dsimp only at e100 e101 e100' e101'
   have hsz := hb.size
   have HR := Lib.hid (shBind.R_below hX (below_drewN' wr 1) (by omega)); have HR' := Lib.hid (shBind.R_below hX' (below_drewN' wr 1) (by omega))
   have HB := Lib.hid hb
   have HBd := Lib.hid hb.drew
   clear hb hX hX'
   have hwi : hi ≤ wr.drew.heap.size := (show hi ≤ wr.heap.size by omega)
   have hwi' : hi' ≤ wr.drew.heap.size := (show hi' ≤ wr.heap.size by omega)
   have hbw : b < wr.drew.heap.size := (show b < wr.heap.size by omega)
   have hbw' : b' < wr.drew.heap.size := (show b' < wr.heap.size by omega)
   go_wp2_with fail
   go_region_held3 (fun w' => w'.cell? ⟨b, off + k * 2, none⟩ = some (.string x0) ∧ w'.cell? ⟨b, off + k * 2 + 1, none⟩ = some (.int .i64 x1) ∧ w'.cell? ⟨b', off' + k * 2, none⟩ = some (.string x0) ∧ w'.cell? ⟨b', off' + k * 2 + 1, none⟩ = some (.int .i64 x1) ∧ Below w.heap.size w w')
    (first | exact ⟨e100, e101, e100', e101', HB.out⟩ | exact ⟨e100, e101, e100', e101', HBd.out⟩ | exact ⟨(hb5.cell hbw).trans e100, (hb5.cell hbw).trans e101, (hb5.cell hbw').trans e100', (hb5.cell hbw').trans e101', HBd.out.trans (hb5.mono HBd.out.size)⟩)
    (first | (go_at_call 274; (refine (eqBind_f x0 x1 lo hi lo' hi' wr.drew HR.out HR'.out hwi hwi' HX.out).mono ?_); rintro e5 w5 ⟨rfl, hb5⟩))
   have HB5 := Lib.hid (HBd.out.trans (hb5.mono HBd.out.size))
   clear hb5 e100 e101 e100' e101'
   go_wp2_with fail
   go_roundw
   case rel => exact ⟨k + 1, by omega, by go_num, HB5.out⟩
   case measure => simp [intOf]; omega
  ·have HB := Lib.hid hb; clear hb
   go_wp2_with fail
   go_ret
   exact ⟨rfl, HB.out⟩
theorem eqCell_f (x0 : Int) (x1 : List TyNode) (A1 : Option Addr) (c1 : Nat) (B1 : Option Addr) (d1 : Nat) (lo hi lo' hi' : Nat) (w : World) (h : shCell.R w lo hi [.int .i64 x0, .slice A1 x1.length c1] (x0, x1)) (h' : shCell.R w lo' hi' [.int .i64 x0, .slice B1 x1.length d1] (x0, x1)) (hhi : hi ≤ w.heap.size) (hhi' : hi' ≤ w.heap.size) (hf : shCell.fit 4294967296 (x0, x1)) :
  Calls Tryz.prog 275 #[.agg #[.int .i64 x0, .slice A1 x1.length c1], .agg #[.int .i64 x0, .slice B1 x1.length d1]] w fun e w' => e = .returned (.bool true) ∧ Below w.heap.size w w' := by
 rw [shCell_fit] at hf
 obtain ⟨ft0, ft1⟩ := hf
 have R0 := ((((Stand.nil w).add lo hi (fun W => shCell.R W lo hi [.int .i64 x0, .slice A1 x1.length c1] (x0, x1)) (fun _ _ hk h => shCell.R_keep h hk) hhi h).add lo' hi' (fun W => shCell.R W lo' hi' [.int .i64 x0, .slice B1 x1.length d1] (x0, x1)) (fun _ _ hk h => shCell.R_keep h hk) hhi' h').box 353 #[.int .i64 x0, .slice A1 x1.length c1]).box 353 #[.int .i64 x0, .slice B1 x1.length d1]
 rw [heap_alloc_size1] at R0
 have HR0 := Lib.hid R0
 clear R0 h h'
 go_enter Tryz.func275, Tryz.ntmps275
 go_wp2_with fail
 refine (eqTree_f x1 A1 c1 B1 d1 lo hi lo' hi' _ (shCell_f1 (HR0.out.get 3 rfl)) (shCell_f1 (HR0.out.get 2 rfl)) (HR0.out.le 3 rfl) (HR0.out.le 2 rfl) ft1).mono ?_
 rintro e1 w1 ⟨rfl, hb1⟩
 have HR1 := Lib.hid (HR0.out.below hb1)
 have b1 := (HR1.out.get 0 rfl).cell
 have a1 := (HR1.out.get 1 rfl).cell
 clear hb1 HR0
 go_wp2_with fail
 go_ret
 exact ⟨rfl, HR1.out.1⟩
theorem eqCellS_f (A B : Option Addr) (c d : Nat) (xs : List TyCell) (lo hi lo' hi' : Nat) (w : World) (h : (Sh.row 353 shCell).R w lo hi [.slice A xs.length c] xs) (h' : (Sh.row 353 shCell).R w lo' hi' [.slice B xs.length d] xs) (hhi : hi ≤ w.heap.size) (hhi' : hi' ≤ w.heap.size) (hf : (Sh.row 353 shCell).fit 4294967296 xs) :
  Calls Tryz.prog 266 #[.slice A xs.length c, .slice B xs.length d] w fun e w' => e = .returned (.bool true) ∧ Below w.heap.size w w' := by
 have hn := hf.1
 have HA := Lib.hid h; have HA' := Lib.hid h'; have HF := Lib.hid hf.2
 clear h h' hf
 go_enter Tryz.func266, Tryz.ntmps266
 go_wp2_with fail
 go_loopw [5] (fun i wr => ∃ k : Nat, k ≤ xs.length ∧ i = .int .i64 k ∧ Below w.heap.size w wr) (fun i _ => xs.length - (intOf i).toNat)
 case atStart => exact ⟨0, Nat.zero_le _, rfl, Below.refl _ _⟩
 case round =>
  obtain ⟨k, hk, rfl, hb⟩ := hrel
  by_cases hlt : k < xs.length
  ·obtain ⟨-, b, off, rfl, hb1, hb2, A1, c1, e100, e101, hX⟩ := shCell_at ((Sh.row 353 shCell).R_below HA.out hb hhi) hlt
   obtain ⟨-, b', off', rfl, hb1', hb2', B1, d1, e100', e101', hX'⟩ := shCell_at ((Sh.row 353 shCell).R_below HA'.out hb hhi') hlt
   have HX := Lib.hid (HF.out _ (getD_in (d := shCell.d) hlt))
   generalize xs.getD k shCell.d = X at *
   obtain ⟨x0, x1⟩ := X
   try dsimp only at e100 e101 e100' e101'
   have hsz := hb.size
   have HR := Lib.hid (shCell.R_below hX (below_drewN' wr 1) (by omega)); have HR' := Lib.hid (shCell.R_below hX' (below_drewN' wr 1) (by omega))
   have HB := Lib.hid hb
   have HBd := Lib.hid hb.drew
   clear hb hX hX'
   have hwi : hi ≤ wr.drew.heap.size := (show hi ≤ wr.heap.size by omega)
   have hwi' : hi' ≤ wr.drew.heap.size := (show hi' ≤ wr.heap.size by omega)
   have hbw : b < wr.drew.heap.size := (show b < wr.heap.size by omega)
   have hbw' : b' < wr.drew.heap.size := (show b' < wr.heap.size by omega)
   go_wp2_with fail
   go_region_held3 (fun w' => w'.cell? ⟨b, off + k * 2, none⟩ = some (.int .i64 x0) ∧ w'.cell? ⟨b, off + k * 2 + 1, none⟩ = some (.slice A1 x1.length c1) ∧ w'.cell? ⟨b', off' + k * 2, none⟩ = some (.int .i64 x0) ∧ w'.cell? ⟨b', off' + k * 2 + 1, none⟩ = some (.slice B1 x1.length d1) ∧ Below w.heap.size w w')
    (first | exact ⟨e100, e101, e100', e101', HB.out⟩ | exact ⟨e100, e101, e100', e101', HBd.out⟩ | exact ⟨(hb5.cell hbw).trans e100, (hb5.cell hbw).trans e101, (hb5.cell hbw').trans e100', (hb5.cell hbw').trans e101', HBd.out.trans (hb5.mono HBd.out.size)⟩)
    (first | (go_at_call 275; (refine (eqCell_f x0 x1 A1 c1 B1 d1 lo hi lo' hi' wr.drew HR.out HR'.out hwi hwi' HX.out).mono ?_); rintro e5 w5 ⟨rfl, hb5⟩))
   have HB5 := Lib.hid (HBd.out.trans (hb5.mono HBd.out.size))
   clear hb5 e100 e101 e100' e101'
   go_wp2_with fail
   go_roundw
   case rel => exact ⟨k + 1, by omega, by go_num, HB5.out⟩
   case measure => simp [intOf]; omega
  ·have HB := Lib.hid hb; clear hb
   go_wp2_with fail
   go_ret
   exact ⟨rfl, HB.out⟩
theorem eqLevel_f (x0 : List TyBind) (A0 : Option Addr) (c0 : Nat) (B0 : Option Addr) (d0 : Nat) (lo hi lo' hi' : Nat) (w : World) (h : shLevel.R w lo hi [.slice A0 x0.length c0] x0) (h' : shLevel.R w lo' hi' [.slice B0 x0.length d0] x0) (hhi : hi ≤ w.heap.size) (hhi' : hi' ≤ w.heap.size) (hf : shLevel.fit 4294967296 x0) :
  Calls Tryz.prog 276 #[.agg #[.slice A0 x0.length c0], .agg #[.slice B0 x0.length d0]] w fun e w' => e = .returned (.bool true) ∧ Below w.heap.size w w' := by
 rw [shLevel_fit] at hf
 have ft0 := hf
 have R0 := ((((Stand.nil w).ad shLevel.R [.slice A0 x0.length c0] x0 hhi h shLevel.R_keep).ad shLevel.R [.slice B0 x0.length d0] x0 hhi' h' shLevel.R_keep).box 356 #[.slice A0 x0.length c0]).box 356 #[.slice B0 x0.length d0]
 rw [heap_alloc_size1] at R0
 have HR0 := Lib.hid R0
 clear R0 h h'
 go_enter Tryz.func276, Tryz.ntmps276
 go_wp2_with fail
 refine (eqBindS_f A0 B0 c0 d0 x0 lo hi lo' hi' _ (shLevel_f0 (HR0.out.get 3 rfl)) (shLevel_f0 (HR0.out.get 2 rfl)) (HR0.out.le 3 rfl) (HR0.out.le 2 rfl) ft0).mono ?_
 rintro e0 w0 ⟨rfl, hb0⟩
 have HR1 := Lib.hid (HR0.out.below hb0)
 have b0 := (HR1.out.get 0 rfl).cell
 have a0 := (HR1.out.get 1 rfl).cell
 clear hb0 HR0
 go_wp2_with fail
 go_ret
 exact ⟨rfl, HR1.out.1⟩
theorem eqLevelS_f (A B : Option Addr) (c d : Nat) (xs : List TyLevel) (lo hi lo' hi' : Nat) (w : World) (h : (Sh.row 356 shLevel).R w lo hi [.slice A xs.length c] xs) (h' : (Sh.row 356 shLevel).R w lo' hi' [.slice B xs.length d] xs) (hhi : hi ≤ w.heap.size) (hhi' : hi' ≤ w.heap.size) (hf : (Sh.row 356 shLevel).fit 4294967296 xs) :
  Calls Tryz.prog 267 #[.slice A xs.length c, .slice B xs.length d] w fun e w' => e = .returned (.bool true) ∧ Below w.heap.size w w' := by
 have hn := hf.1
 have HA := Lib.hid h; have HA' := Lib.hid h'; have HF := Lib.hid hf.2
 clear h h' hf
 go_enter Tryz.func267, Tryz.ntmps267
 go_wp2_with fail
 go_loopw [5] (fun i wr => ∃ k : Nat, k ≤ xs.length ∧ i = .int .i64 k ∧ Below w.heap.size w wr) (fun i _ => xs.length - (intOf i).toNat)
 case atStart => exact ⟨0, Nat.zero_le _, rfl, Below.refl _ _⟩
 case round =>
  obtain ⟨k, hk, rfl, hb⟩ := hrel
  by_cases hlt : k < xs.length
  ·obtain ⟨-, b, off, rfl, hb1, hb2, A0, c0, e100, hX⟩ := shLevel_at ((Sh.row 356 shLevel).R_below HA.out hb hhi) hlt
   obtain ⟨-, b', off', rfl, hb1', hb2', B0, d0, e100', hX'⟩ := shLevel_at ((Sh.row 356 shLevel).R_below HA'.out hb hhi') hlt
   have HX := Lib.hid (HF.out _ (getD_in (d := shLevel.d) hlt))
   generalize xs.getD k shLevel.d = x0 at *
   try dsimp only at e100 e100'
   have hsz := hb.size
   have HR := Lib.hid (shLevel.R_below hX (below_drewN' wr 1) (by omega)); have HR' := Lib.hid (shLevel.R_below hX' (below_drewN' wr 1) (by omega))
   have HB := Lib.hid hb
   have HBd := Lib.hid hb.drew
   clear hb hX hX'
   have hwi : hi ≤ wr.drew.heap.size := (show hi ≤ wr.heap.size by omega)
   have hwi' : hi' ≤ wr.drew.heap.size := (show hi' ≤ wr.heap.size by omega)
   have hbw : b < wr.drew.heap.size := (show b < wr.heap.size by omega)
   have hbw' : b' < wr.drew.heap.size := (show b' < wr.heap.size by omega)
   go_wp2_with fail
   go_region_held3 (fun w' => w'.cell? ⟨b, off + k, none⟩ = some (.slice A0 x0.length c0) ∧ w'.cell? ⟨b', off' + k, none⟩ = some (.slice B0 x0.length d0) ∧ Below w.heap.size w w')
    (first | exact ⟨e100, e100', HB.out⟩ | exact ⟨e100, e100', HBd.out⟩ | exact ⟨(hb5.cell hbw).trans e100, (hb5.cell hbw').trans e100', HBd.out.trans (hb5.mono HBd.out.size)⟩)
    (first | (go_at_call 276; (refine (eqLevel_f x0 A0 c0 B0 d0 lo hi lo' hi' wr.drew HR.out HR'.out hwi hwi' HX.out).mono ?_); rintro e5 w5 ⟨rfl, hb5⟩))
   have HB5 := Lib.hid (HBd.out.trans (hb5.mono HBd.out.size))
   clear hb5 e100 e100'
   go_wp2_with fail
   go_roundw
   case rel => exact ⟨k + 1, by omega, by go_num, HB5.out⟩
   case measure => simp [intOf]; omega
  ·have HB := Lib.hid hb; clear hb
   go_wp2_with fail
   go_ret
   exact ⟨rfl, HB.out⟩
theorem eqGiven_f (x0 : Bool) (x1 : ByteArray)  (lo hi lo' hi' : Nat) (w : World) (h : shGiven.R w lo hi [.bool x0, .string x1] (x0, x1)) (h' : shGiven.R w lo' hi' [.bool x0, .string x1] (x0, x1)) (hhi : hi ≤ w.heap.size) (hhi' : hi' ≤ w.heap.size) (hf : shGiven.fit 4294967296 (x0, x1)) :
  Calls Tryz.prog 262 #[.agg #[.bool x0, .string x1], .agg #[.bool x0, .string x1]] w fun e w' => e = .returned (.bool true) ∧ Below w.heap.size w w' := by
 rw [shGiven_fit] at hf
 obtain ⟨ft0, ft1⟩ := hf
 have R0 := ((((Stand.nil w).add lo hi (fun W => shGiven.R W lo hi [.bool x0, .string x1] (x0, x1)) (fun _ _ hk h => shGiven.R_keep h hk) hhi h).add lo' hi' (fun W => shGiven.R W lo' hi' [.bool x0, .string x1] (x0, x1)) (fun _ _ hk h => shGiven.R_keep h hk) hhi' h').box 322 #[.bool x0, .string x1]).box 322 #[.bool x0, .string x1]
 rw [heap_alloc_size1] at R0
 have HR0 := Lib.hid R0
 clear R0 h h'
 go_enter Tryz.func262, Tryz.ntmps262
 go_wp2_with fail
 go_ret
 exact ⟨rfl, HR0.out.1⟩
theorem eqGivenS_f (A B : Option Addr) (c d : Nat) (xs : List TyGiven) (lo hi lo' hi' : Nat) (w : World) (h : (Sh.row 322 shGiven).R w lo hi [.slice A xs.length c] xs) (h' : (Sh.row 322 shGiven).R w lo' hi' [.slice B xs.length d] xs) (hhi : hi ≤ w.heap.size) (hhi' : hi' ≤ w.heap.size) (hf : (Sh.row 322 shGiven).fit 4294967296 xs) :
  Calls Tryz.prog 239 #[.slice A xs.length c, .slice B xs.length d] w fun e w' => e = .returned (.bool true) ∧ Below w.heap.size w w' := by
 have hn := hf.1
 have HA := Lib.hid h; have HA' := Lib.hid h'; have HF := Lib.hid hf.2
 clear h h' hf
 go_enter Tryz.func239, Tryz.ntmps239
 go_wp2_with fail
 go_loopw [5] (fun i wr => ∃ k : Nat, k ≤ xs.length ∧ i = .int .i64 k ∧ Below w.heap.size w wr) (fun i _ => xs.length - (intOf i).toNat)
 case atStart => exact ⟨0, Nat.zero_le _, rfl, Below.refl _ _⟩
 case round =>
  obtain ⟨k, hk, rfl, hb⟩ := hrel
  by_cases hlt : k < xs.length
  ·obtain ⟨-, b, off, rfl, hb1, hb2, e100, e101, hX⟩ := shGiven_at ((Sh.row 322 shGiven).R_below HA.out hb hhi) hlt
   obtain ⟨-, b', off', rfl, hb1', hb2', e100', e101', hX'⟩ := shGiven_at ((Sh.row 322 shGiven).R_below HA'.out hb hhi') hlt
   have HX := Lib.hid (HF.out _ (getD_in (d := shGiven.d) hlt))
   generalize xs.getD k shGiven.d = X at *
   obtain ⟨x0, x1⟩ := X
   try dsimp only at e100 e101 e100' e101'
   have hsz := hb.size
   have HR := Lib.hid (shGiven.R_below hX (below_drewN' wr 1) (by omega)); have HR' := Lib.hid (shGiven.R_below hX' (below_drewN' wr 1) (by omega))
   have HB := Lib.hid hb
   have HBd := Lib.hid hb.drew
   clear hb hX hX'
   have hwi : hi ≤ wr.drew.heap.size := (show hi ≤ wr.heap.size by omega)
   have hwi' : hi' ≤ wr.drew.heap.size := (show hi' ≤ wr.heap.size by omega)
   have hbw : b < wr.drew.heap.size := (show b < wr.heap.size by omega)
   have hbw' : b' < wr.drew.heap.size := (show b' < wr.heap.size by omega)
   go_wp2_with fail
   go_region_held3 (fun w' => w'.cell? ⟨b, off + k * 2, none⟩ = some (.bool x0) ∧ w'.cell? ⟨b, off + k * 2 + 1, none⟩ = some (.string x1) ∧ w'.cell? ⟨b', off' + k * 2, none⟩ = some (.bool x0) ∧ w'.cell? ⟨b', off' + k * 2 + 1, none⟩ = some (.string x1) ∧ Below w.heap.size w w')
    (first | exact ⟨e100, e101, e100', e101', HB.out⟩ | exact ⟨e100, e101, e100', e101', HBd.out⟩ | exact ⟨(hb5.cell hbw).trans e100, (hb5.cell hbw).trans e101, (hb5.cell hbw').trans e100', (hb5.cell hbw').trans e101', HBd.out.trans (hb5.mono HBd.out.size)⟩)
    (first | (go_at_call 262; (refine (eqGiven_f x0 x1 lo hi lo' hi' wr.drew HR.out HR'.out hwi hwi' HX.out).mono ?_); rintro e5 w5 ⟨rfl, hb5⟩))
   have HB5 := Lib.hid (HBd.out.trans (hb5.mono HBd.out.size))
   clear hb5 e100 e101 e100' e101'
   go_wp2_with fail
   go_roundw
   case rel => exact ⟨k + 1, by omega, by go_num, HB5.out⟩
   case measure => simp [intOf]; omega
  ·have HB := Lib.hid hb; clear hb
   go_wp2_with fail
   go_ret
   exact ⟨rfl, HB.out⟩
theorem eqLocals_f (x0 : Int) (x1 : List TyBind) (x2 : List TyCell) (x3 : List TyLevel) (A1 : Option Addr) (c1 : Nat) (A2 : Option Addr) (c2 : Nat) (A3 : Option Addr) (c3 : Nat) (B1 : Option Addr) (d1 : Nat) (B2 : Option Addr) (d2 : Nat) (B3 : Option Addr) (d3 : Nat) (lo hi lo' hi' : Nat) (w : World) (h : shLocals.R w lo hi [.int .i64 x0, .slice A1 x1.length c1, .slice A2 x2.length c2, .slice A3 x3.length c3] (x0, x1, x2, x3)) (h' : shLocals.R w lo' hi' [.int .i64 x0, .slice B1 x1.length d1, .slice B2 x2.length d2, .slice B3 x3.length d3] (x0, x1, x2, x3)) (hhi : hi ≤ w.heap.size) (hhi' : hi' ≤ w.heap.size) (hf : shLocals.fit 4294967296 (x0, x1, x2, x3)) :
  Calls Tryz.prog 242 #[.agg #[.int .i64 x0, .slice A1 x1.length c1, .slice A2 x2.length c2, .slice A3 x3.length c3], .agg #[.int .i64 x0, .slice B1 x1.length d1, .slice B2 x2.length d2, .slice B3 x3.length d3]] w fun e w' => e = .returned (.bool true) ∧ Below w.heap.size w w' := by
 rw [shLocals_fit] at hf
 obtain ⟨ft0, ft1, ft2, ft3⟩ := hf
 have R0 := ((((Stand.nil w).add lo hi (fun W => shLocals.R W lo hi [.int .i64 x0, .slice A1 x1.length c1, .slice A2 x2.length c2, .slice A3 x3.length c3] (x0, x1, x2, x3)) (fun _ _ hk h => shLocals.R_keep h hk) hhi h).add lo' hi' (fun W => shLocals.R W lo' hi' [.int .i64 x0, .slice B1 x1.length d1, .slice B2 x2.length d2, .slice B3 x3.length d3] (x0, x1, x2, x3)) (fun _ _ hk h => shLocals.R_keep h hk) hhi' h').box 150 #[.int .i64 x0, .slice A1 x1.length c1, .slice A2 x2.length c2, .slice A3 x3.length c3]).box 150 #[.int .i64 x0, .slice B1 x1.length d1, .slice B2 x2.length d2, .slice B3 x3.length d3]
 rw [heap_alloc_size1] at R0
 have HR0 := Lib.hid R0
 clear R0 h h'
 go_enter Tryz.func242, Tryz.ntmps242
 go_wp2_with fail
 refine (eqBindS_f A1 B1 c1 d1 x1 lo hi lo' hi' _ (shLocals_f1 (HR0.out.get 3 rfl)) (shLocals_f1 (HR0.out.get 2 rfl)) (HR0.out.le 3 rfl) (HR0.out.le 2 rfl) ft1).mono ?_
 rintro e1 w1 ⟨rfl, hb1⟩
 have HR1 := Lib.hid (HR0.out.below hb1)
 have b1 := (HR1.out.get 0 rfl).cell
 have a1 := (HR1.out.get 1 rfl).cell
 clear hb1 HR0
 go_wp2_with fail
 refine (eqCellS_f A2 B2 c2 d2 x2 lo hi lo' hi' _ (shLocals_f2 (HR1.out.get 3 rfl)) (shLocals_f2 (HR1.out.get 2 rfl)) (HR1.out.le 3 rfl) (HR1.out.le 2 rfl) ft2).mono ?_
 rintro e2 w2 ⟨rfl, hb2⟩
 have HR2 := Lib.hid (HR1.out.below hb2)
 have b2 := (HR2.out.get 0 rfl).cell
 have a2 := (HR2.out.get 1 rfl).cell
 clear hb2 HR1
 go_wp2_with fail
 refine (eqLevelS_f A3 B3 c3 d3 x3 lo hi lo' hi' _ (shLocals_f3 (HR2.out.get 3 rfl)) (shLocals_f3 (HR2.out.get 2 rfl)) (HR2.out.le 3 rfl) (HR2.out.le 2 rfl) ft3).mono ?_
 rintro e3 w3 ⟨rfl, hb3⟩
 have HR3 := Lib.hid (HR2.out.below hb3)
 have b3 := (HR3.out.get 0 rfl).cell
 have a3 := (HR3.out.get 1 rfl).cell
 clear hb3 HR2
 go_wp2_with fail
 go_ret
 exact ⟨rfl, HR3.out.1⟩
theorem eqRef_f (x0 : Bool) (x1 : ByteArray) (x2 : List ByteArray) (A2 : Option Addr) (c2 : Nat) (B2 : Option Addr) (d2 : Nat) (lo hi lo' hi' : Nat) (w : World) (h : shRef.R w lo hi [.bool x0, .string x1, .slice A2 x2.length c2] (x0, x1, x2)) (h' : shRef.R w lo' hi' [.bool x0, .string x1, .slice B2 x2.length d2] (x0, x1, x2)) (hhi : hi ≤ w.heap.size) (hhi' : hi' ≤ w.heap.size) (hf : shRef.fit 4294967296 (x0, x1, x2)) :
  Calls Tryz.prog 243 #[.agg #[.bool x0, .string x1, .slice A2 x2.length c2], .agg #[.bool x0, .string x1, .slice B2 x2.length d2]] w fun e w' => e = .returned (.bool true) ∧ Below w.heap.size w w' := by
 rw [shRef_fit] at hf
 obtain ⟨ft0, ft1, ft2⟩ := hf
 have R0 := ((((Stand.nil w).add lo hi (fun W => shRef.R W lo hi [.bool x0, .string x1, .slice A2 x2.length c2] (x0, x1, x2)) (fun _ _ hk h => shRef.R_keep h hk) hhi h).add lo' hi' (fun W => shRef.R W lo' hi' [.bool x0, .string x1, .slice B2 x2.length d2] (x0, x1, x2)) (fun _ _ hk h => shRef.R_keep h hk) hhi' h').box 152 #[.bool x0, .string x1, .slice A2 x2.length c2]).box 152 #[.bool x0, .string x1, .slice B2 x2.length d2]
 rw [heap_alloc_size1] at R0
 have HR0 := Lib.hid R0
 clear R0 h h'
 go_enter Tryz.func243, Tryz.ntmps243
 go_wp2_with fail
 refine (eqStringS_f A2 B2 c2 d2 x2 lo hi lo' hi' _ (shRef_f2 (HR0.out.get 3 rfl)) (shRef_f2 (HR0.out.get 2 rfl)) (HR0.out.le 3 rfl) (HR0.out.le 2 rfl) ft2).mono ?_
 rintro e2 w2 ⟨rfl, hb2⟩
 have HR1 := Lib.hid (HR0.out.below hb2)
 have b2 := (HR1.out.get 0 rfl).cell
 have a2 := (HR1.out.get 1 rfl).cell
 clear hb2 HR0
 go_wp2_with fail
 go_ret
 exact ⟨rfl, HR1.out.1⟩
theorem eqRefS_f (A B : Option Addr) (c d : Nat) (xs : List TyRef) (lo hi lo' hi' : Nat) (w : World) (h : (Sh.row 152 shRef).R w lo hi [.slice A xs.length c] xs) (h' : (Sh.row 152 shRef).R w lo' hi' [.slice B xs.length d] xs) (hhi : hi ≤ w.heap.size) (hhi' : hi' ≤ w.heap.size) (hf : (Sh.row 152 shRef).fit 4294967296 xs) :
  Calls Tryz.prog 238 #[.slice A xs.length c, .slice B xs.length d] w fun e w' => e = .returned (.bool true) ∧ Below w.heap.size w w' := by
 have hn := hf.1
 have HA := Lib.hid h; have HA' := Lib.hid h'; have HF := Lib.hid hf.2
 clear h h' hf
 go_enter Tryz.func238, Tryz.ntmps238
 go_wp2_with fail
 go_loopw [5] (fun i wr => ∃ k : Nat, k ≤ xs.length ∧ i = .int .i64 k ∧ Below w.heap.size w wr) (fun i _ => xs.length - (intOf i).toNat)
 case atStart => exact ⟨0, Nat.zero_le _, rfl, Below.refl _ _⟩
 case round =>
  obtain ⟨k, hk, rfl, hb⟩ := hrel
  by_cases hlt : k < xs.length
  ·obtain ⟨-, b, off, rfl, hb1, hb2, A2, c2, e100, e101, e102, hX⟩ := shRef_at ((Sh.row 152 shRef).R_below HA.out hb hhi) hlt
   obtain ⟨-, b', off', rfl, hb1', hb2', B2, d2, e100', e101', e102', hX'⟩ := shRef_at ((Sh.row 152 shRef).R_below HA'.out hb hhi') hlt
   have HX := Lib.hid (HF.out _ (getD_in (d := shRef.d) hlt))
   generalize xs.getD k shRef.d = X at *
   obtain ⟨x0, x1, x2⟩ := X
   try dsimp only at e100 e101 e102 e100' e101' e102'
   have hsz := hb.size
   have HR := Lib.hid (shRef.R_below hX (below_drewN' wr 1) (by omega)); have HR' := Lib.hid (shRef.R_below hX' (below_drewN' wr 1) (by omega))
   have HB := Lib.hid hb
   have HBd := Lib.hid hb.drew
   clear hb hX hX'
   have hwi : hi ≤ wr.drew.heap.size := (show hi ≤ wr.heap.size by omega)
   have hwi' : hi' ≤ wr.drew.heap.size := (show hi' ≤ wr.heap.size by omega)
   have hbw : b < wr.drew.heap.size := (show b < wr.heap.size by omega)
   have hbw' : b' < wr.drew.heap.size := (show b' < wr.heap.size by omega)
   go_wp2_with fail
   go_region_held3 (fun w' => w'.cell? ⟨b, off + k * 3, none⟩ = some (.bool x0) ∧ w'.cell? ⟨b, off + k * 3 + 1, none⟩ = some (.string x1) ∧ w'.cell? ⟨b, off + k * 3 + 2, none⟩ = some (.slice A2 x2.length c2) ∧ w'.cell? ⟨b', off' + k * 3, none⟩ = some (.bool x0) ∧ w'.cell? ⟨b', off' + k * 3 + 1, none⟩ = some (.string x1) ∧ w'.cell? ⟨b', off' + k * 3 + 2, none⟩ = some (.slice B2 x2.length d2) ∧ Below w.heap.size w w')
    (first | exact ⟨e100, e101, e102, e100', e101', e102', HB.out⟩ | exact ⟨e100, e101, e102, e100', e101', e102', HBd.out⟩ | exact ⟨(hb5.cell hbw).trans e100, (hb5.cell hbw).trans e101, (hb5.cell hbw).trans e102, (hb5.cell hbw').trans e100', (hb5.cell hbw').trans e101', (hb5.cell hbw').trans e102', HBd.out.trans (hb5.mono HBd.out.size)⟩)
    (first | (go_at_call 243; (refine (eqRef_f x0 x1 x2 A2 c2 B2 d2 lo hi lo' hi' wr.drew HR.out HR'.out hwi hwi' HX.out).mono ?_); rintro e5 w5 ⟨rfl, hb5⟩))
   have HB5 := Lib.hid (HBd.out.trans (hb5.mono HBd.out.size))
   clear hb5 e100 e101 e102 e100' e101' e102'
   go_wp2_with fail
   go_roundw
   case rel => exact ⟨k + 1, by omega, by go_num, HB5.out⟩
   case measure => simp [intOf]; omega
  ·have HB := Lib.hid hb; clear hb
   go_wp2_with fail
   go_ret
   exact ⟨rfl, HB.out⟩
theorem eqLoop_f (x0 : ByteArray) (x1 : Int) (x2 : Int) (x3 : Bool) (x4 : Int) (x5 : Int)  (lo hi lo' hi' : Nat) (w : World) (h : shLoop.R w lo hi [.string x0, .int .i64 x1, .int .i64 x2, .bool x3, .int .i64 x4, .int .i64 x5] (x0, x1, x2, x3, x4, x5)) (h' : shLoop.R w lo' hi' [.string x0, .int .i64 x1, .int .i64 x2, .bool x3, .int .i64 x4, .int .i64 x5] (x0, x1, x2, x3, x4, x5)) (hhi : hi ≤ w.heap.size) (hhi' : hi' ≤ w.heap.size) (hf : shLoop.fit 4294967296 (x0, x1, x2, x3, x4, x5)) :
  Calls Tryz.prog 263 #[.agg #[.string x0, .int .i64 x1, .int .i64 x2, .bool x3, .int .i64 x4, .int .i64 x5], .agg #[.string x0, .int .i64 x1, .int .i64 x2, .bool x3, .int .i64 x4, .int .i64 x5]] w fun e w' => e = .returned (.bool true) ∧ Below w.heap.size w w' := by
 rw [shLoop_fit] at hf
 obtain ⟨ft0, ft1, ft2, ft3, ft4, ft5⟩ := hf
 have R0 := ((((Stand.nil w).add lo hi (fun W => shLoop.R W lo hi [.string x0, .int .i64 x1, .int .i64 x2, .bool x3, .int .i64 x4, .int .i64 x5] (x0, x1, x2, x3, x4, x5)) (fun _ _ hk h => shLoop.R_keep h hk) hhi h).add lo' hi' (fun W => shLoop.R W lo' hi' [.string x0, .int .i64 x1, .int .i64 x2, .bool x3, .int .i64 x4, .int .i64 x5] (x0, x1, x2, x3, x4, x5)) (fun _ _ hk h => shLoop.R_keep h hk) hhi' h').box 325 #[.string x0, .int .i64 x1, .int .i64 x2, .bool x3, .int .i64 x4, .int .i64 x5]).box 325 #[.string x0, .int .i64 x1, .int .i64 x2, .bool x3, .int .i64 x4, .int .i64 x5]
 rw [heap_alloc_size1] at R0
 have HR0 := Lib.hid R0
 clear R0 h h'
 go_enter Tryz.func263, Tryz.ntmps263
 go_wp2_with fail
 go_ret
 exact ⟨rfl, HR0.out.1⟩
theorem eqLoopS_f (A B : Option Addr) (c d : Nat) (xs : List TyLoop) (lo hi lo' hi' : Nat) (w : World) (h : (Sh.row 325 shLoop).R w lo hi [.slice A xs.length c] xs) (h' : (Sh.row 325 shLoop).R w lo' hi' [.slice B xs.length d] xs) (hhi : hi ≤ w.heap.size) (hhi' : hi' ≤ w.heap.size) (hf : (Sh.row 325 shLoop).fit 4294967296 xs) :
  Calls Tryz.prog 240 #[.slice A xs.length c, .slice B xs.length d] w fun e w' => e = .returned (.bool true) ∧ Below w.heap.size w w' := by
 have hn := hf.1
 have HA := Lib.hid h; have HA' := Lib.hid h'; have HF := Lib.hid hf.2
 clear h h' hf
 go_enter Tryz.func240, Tryz.ntmps240
 go_wp2_with fail
 go_loopw [5] (fun i wr => ∃ k : Nat, k ≤ xs.length ∧ i = .int .i64 k ∧ Below w.heap.size w wr) (fun i _ => xs.length - (intOf i).toNat)
 case atStart => exact ⟨0, Nat.zero_le _, rfl, Below.refl _ _⟩
 case round =>
  obtain ⟨k, hk, rfl, hb⟩ := hrel
  by_cases hlt : k < xs.length
  ·obtain ⟨-, b, off, rfl, hb1, hb2, e100, e101, e102, e103, e104, e105, hX⟩ := shLoop_at ((Sh.row 325 shLoop).R_below HA.out hb hhi) hlt
   obtain ⟨-, b', off', rfl, hb1', hb2', e100', e101', e102', e103', e104', e105', hX'⟩ := shLoop_at ((Sh.row 325 shLoop).R_below HA'.out hb hhi') hlt
   have HX := Lib.hid (HF.out _ (getD_in (d := shLoop.d) hlt))
   generalize xs.getD k shLoop.d = X at *
   obtain ⟨x0, x1, x2, x3, x4, x5⟩ := X
   try dsimp only at e100 e101 e102 e103 e104 e105 e100' e101' e102' e103' e104' e105'
   have hsz := hb.size
   have HR := Lib.hid (shLoop.R_below hX (below_drewN' wr 1) (by omega)); have HR' := Lib.hid (shLoop.R_below hX' (below_drewN' wr 1) (by omega))
   have HB := Lib.hid hb
   have HBd := Lib.hid hb.drew
   clear hb hX hX'
   have hwi : hi ≤ wr.drew.heap.size := (show hi ≤ wr.heap.size by omega)
   have hwi' : hi' ≤ wr.drew.heap.size := (show hi' ≤ wr.heap.size by omega)
   have hbw : b < wr.drew.heap.size := (show b < wr.heap.size by omega)
   have hbw' : b' < wr.drew.heap.size := (show b' < wr.heap.size by omega)
   go_wp2_with fail
   go_region_held3 (fun w' => w'.cell? ⟨b, off + k * 6, none⟩ = some (.string x0) ∧ w'.cell? ⟨b, off + k * 6 + 1, none⟩ = some (.int .i64 x1) ∧ w'.cell? ⟨b, off + k * 6 + 2, none⟩ = some (.int .i64 x2) ∧ w'.cell? ⟨b, off + k * 6 + 3, none⟩ = some (.bool x3) ∧ w'.cell? ⟨b, off + k * 6 + 4, none⟩ = some (.int .i64 x4) ∧ w'.cell? ⟨b, off + k * 6 + 5, none⟩ = some (.int .i64 x5) ∧ w'.cell? ⟨b', off' + k * 6, none⟩ = some (.string x0) ∧ w'.cell? ⟨b', off' + k * 6 + 1, none⟩ = some (.int .i64 x1) ∧ w'.cell? ⟨b', off' + k * 6 + 2, none⟩ = some (.int .i64 x2) ∧ w'.cell? ⟨b', off' + k * 6 + 3, none⟩ = some (.bool x3) ∧ w'.cell? ⟨b', off' + k * 6 + 4, none⟩ = some (.int .i64 x4) ∧ w'.cell? ⟨b', off' + k * 6 + 5, none⟩ = some (.int .i64 x5) ∧ Below w.heap.size w w')
    (first | exact ⟨e100, e101, e102, e103, e104, e105, e100', e101', e102', e103', e104', e105', HB.out⟩ | exact ⟨e100, e101, e102, e103, e104, e105, e100', e101', e102', e103', e104', e105', HBd.out⟩ | exact ⟨(hb5.cell hbw).trans e100, (hb5.cell hbw).trans e101, (hb5.cell hbw).trans e102, (hb5.cell hbw).trans e103, (hb5.cell hbw).trans e104, (hb5.cell hbw).trans e105, (hb5.cell hbw').trans e100', (hb5.cell hbw').trans e101', (hb5.cell hbw').trans e102', (hb5.cell hbw').trans e103', (hb5.cell hbw').trans e104', (hb5.cell hbw').trans e105', HBd.out.trans (hb5.mono HBd.out.size)⟩)
    (first | (go_at_call 263; (refine (eqLoop_f x0 x1 x2 x3 x4 x5 lo hi lo' hi' wr.drew HR.out HR'.out hwi hwi' HX.out).mono ?_); rintro e5 w5 ⟨rfl, hb5⟩))
   have HB5 := Lib.hid (HBd.out.trans (hb5.mono HBd.out.size))
   clear hb5 e100 e101 e102 e103 e104 e105 e100' e101' e102' e103' e104' e105'
   go_wp2_with fail
   go_roundw
   case rel => exact ⟨k + 1, by omega, by go_num, HB5.out⟩
   case measure => simp [intOf]; omega
  ·have HB := Lib.hid hb; clear hb
   go_wp2_with fail
   go_ret
   exact ⟨rfl, HB.out⟩
theorem eqFrame_f (x0 : Int) (x1 : Bool) (x2 : Bool) (x3 : Int) (x4 : Int) (x5 : Int) (x6 : Int) (x7 : ByteArray) (x8 : ByteArray)  (lo hi lo' hi' : Nat) (w : World) (h : shFrame.R w lo hi [.int .i64 x0, .bool x1, .bool x2, .int .i64 x3, .int .i64 x4, .int .i64 x5, .int .i64 x6, .string x7, .string x8] (x0, x1, x2, x3, x4, x5, x6, x7, x8)) (h' : shFrame.R w lo' hi' [.int .i64 x0, .bool x1, .bool x2, .int .i64 x3, .int .i64 x4, .int .i64 x5, .int .i64 x6, .string x7, .string x8] (x0, x1, x2, x3, x4, x5, x6, x7, x8)) (hhi : hi ≤ w.heap.size) (hhi' : hi' ≤ w.heap.size) (hf : shFrame.fit 4294967296 (x0, x1, x2, x3, x4, x5, x6, x7, x8)) :
  Calls Tryz.prog 264 #[.agg #[.int .i64 x0, .bool x1, .bool x2, .int .i64 x3, .int .i64 x4, .int .i64 x5, .int .i64 x6, .string x7, .string x8], .agg #[.int .i64 x0, .bool x1, .bool x2, .int .i64 x3, .int .i64 x4, .int .i64 x5, .int .i64 x6, .string x7, .string x8]] w fun e w' => e = .returned (.bool true) ∧ Below w.heap.size w w' := by
 rw [shFrame_fit] at hf
 obtain ⟨ft0, ft1, ft2, ft3, ft4, ft5, ft6, ft7, ft8⟩ := hf
 have R0 := ((((Stand.nil w).add lo hi (fun W => shFrame.R W lo hi [.int .i64 x0, .bool x1, .bool x2, .int .i64 x3, .int .i64 x4, .int .i64 x5, .int .i64 x6, .string x7, .string x8] (x0, x1, x2, x3, x4, x5, x6, x7, x8)) (fun _ _ hk h => shFrame.R_keep h hk) hhi h).add lo' hi' (fun W => shFrame.R W lo' hi' [.int .i64 x0, .bool x1, .bool x2, .int .i64 x3, .int .i64 x4, .int .i64 x5, .int .i64 x6, .string x7, .string x8] (x0, x1, x2, x3, x4, x5, x6, x7, x8)) (fun _ _ hk h => shFrame.R_keep h hk) hhi' h').box 328 #[.int .i64 x0, .bool x1, .bool x2, .int .i64 x3, .int .i64 x4, .int .i64 x5, .int .i64 x6, .string x7, .string x8]).box 328 #[.int .i64 x0, .bool x1, .bool x2, .int .i64 x3, .int .i64 x4, .int .i64 x5, .int .i64 x6, .string x7, .string x8]
 rw [heap_alloc_size1] at R0
 have HR0 := Lib.hid R0
 clear R0 h h'
 go_enter Tryz.func264, Tryz.ntmps264
 go_wp2_with fail
 go_ret
 exact ⟨rfl, HR0.out.1⟩
theorem eqFrameS_f (A B : Option Addr) (c d : Nat) (xs : List TyFrame) (lo hi lo' hi' : Nat) (w : World) (h : (Sh.row 328 shFrame).R w lo hi [.slice A xs.length c] xs) (h' : (Sh.row 328 shFrame).R w lo' hi' [.slice B xs.length d] xs) (hhi : hi ≤ w.heap.size) (hhi' : hi' ≤ w.heap.size) (hf : (Sh.row 328 shFrame).fit 4294967296 xs) :
  Calls Tryz.prog 241 #[.slice A xs.length c, .slice B xs.length d] w fun e w' => e = .returned (.bool true) ∧ Below w.heap.size w w' := by
 have hn := hf.1
 have HA := Lib.hid h; have HA' := Lib.hid h'; have HF := Lib.hid hf.2
 clear h h' hf
 go_enter Tryz.func241, Tryz.ntmps241
 go_wp2_with fail
 go_loopw [5] (fun i wr => ∃ k : Nat, k ≤ xs.length ∧ i = .int .i64 k ∧ Below w.heap.size w wr) (fun i _ => xs.length - (intOf i).toNat)
 case atStart => exact ⟨0, Nat.zero_le _, rfl, Below.refl _ _⟩
 case round =>
  obtain ⟨k, hk, rfl, hb⟩ := hrel
  by_cases hlt : k < xs.length
  ·obtain ⟨-, b, off, rfl, hb1, hb2, e100, e101, e102, e103, e104, e105, e106, e107, e108, hX⟩ := shFrame_at ((Sh.row 328 shFrame).R_below HA.out hb hhi) hlt
   obtain ⟨-, b', off', rfl, hb1', hb2', e100', e101', e102', e103', e104', e105', e106', e107', e108', hX'⟩ := shFrame_at ((Sh.row 328 shFrame).R_below HA'.out hb hhi') hlt
   have HX := Lib.hid (HF.out _ (getD_in (d := shFrame.d) hlt))
   generalize xs.getD k shFrame.d = X at *
   obtain ⟨x0, x1, x2, x3, x4, x5, x6, x7, x8⟩ := X
   try dsimp only at e100 e101 e102 e103 e104 e105 e106 e107 e108 e100' e101' e102' e103' e104' e105' e106' e107' e108'
   have hsz := hb.size
   have HR := Lib.hid (shFrame.R_below hX (below_drewN' wr 1) (by omega)); have HR' := Lib.hid (shFrame.R_below hX' (below_drewN' wr 1) (by omega))
   have HB := Lib.hid hb
   have HBd := Lib.hid hb.drew
   clear hb hX hX'
   have hwi : hi ≤ wr.drew.heap.size := (show hi ≤ wr.heap.size by omega)
   have hwi' : hi' ≤ wr.drew.heap.size := (show hi' ≤ wr.heap.size by omega)
   have hbw : b < wr.drew.heap.size := (show b < wr.heap.size by omega)
   have hbw' : b' < wr.drew.heap.size := (show b' < wr.heap.size by omega)
   go_wp2_with fail
   go_region_held3 (fun w' => w'.cell? ⟨b, off + k * 9, none⟩ = some (.int .i64 x0) ∧ w'.cell? ⟨b, off + k * 9 + 1, none⟩ = some (.bool x1) ∧ w'.cell? ⟨b, off + k * 9 + 2, none⟩ = some (.bool x2) ∧ w'.cell? ⟨b, off + k * 9 + 3, none⟩ = some (.int .i64 x3) ∧ w'.cell? ⟨b, off + k * 9 + 4, none⟩ = some (.int .i64 x4) ∧ w'.cell? ⟨b, off + k * 9 + 5, none⟩ = some (.int .i64 x5) ∧ w'.cell? ⟨b, off + k * 9 + 6, none⟩ = some (.int .i64 x6) ∧ w'.cell? ⟨b, off + k * 9 + 7, none⟩ = some (.string x7) ∧ w'.cell? ⟨b, off + k * 9 + 8, none⟩ = some (.string x8) ∧ w'.cell? ⟨b', off' + k * 9, none⟩ = some (.int .i64 x0) ∧ w'.cell? ⟨b', off' + k * 9 + 1, none⟩ = some (.bool x1) ∧ w'.cell? ⟨b', off' + k * 9 + 2, none⟩ = some (.bool x2) ∧ w'.cell? ⟨b', off' + k * 9 + 3, none⟩ = some (.int .i64 x3) ∧ w'.cell? ⟨b', off' + k * 9 + 4, none⟩ = some (.int .i64 x4) ∧ w'.cell? ⟨b', off' + k * 9 + 5, none⟩ = some (.int .i64 x5) ∧ w'.cell? ⟨b', off' + k * 9 + 6, none⟩ = some (.int .i64 x6) ∧ w'.cell? ⟨b', off' + k * 9 + 7, none⟩ = some (.string x7) ∧ w'.cell? ⟨b', off' + k * 9 + 8, none⟩ = some (.string x8) ∧ Below w.heap.size w w')
    (first | exact ⟨e100, e101, e102, e103, e104, e105, e106, e107, e108, e100', e101', e102', e103', e104', e105', e106', e107', e108', HB.out⟩ | exact ⟨e100, e101, e102, e103, e104, e105, e106, e107, e108, e100', e101', e102', e103', e104', e105', e106', e107', e108', HBd.out⟩ | exact ⟨(hb5.cell hbw).trans e100, (hb5.cell hbw).trans e101, (hb5.cell hbw).trans e102, (hb5.cell hbw).trans e103, (hb5.cell hbw).trans e104, (hb5.cell hbw).trans e105, (hb5.cell hbw).trans e106, (hb5.cell hbw).trans e107, (hb5.cell hbw).trans e108, (hb5.cell hbw').trans e100', (hb5.cell hbw').trans e101', (hb5.cell hbw').trans e102', (hb5.cell hbw').trans e103', (hb5.cell hbw').trans e104', (hb5.cell hbw').trans e105', (hb5.cell hbw').trans e106', (hb5.cell hbw').trans e107', (hb5.cell hbw').trans e108', HBd.out.trans (hb5.mono HBd.out.size)⟩)
    (first | (go_at_call 264; (refine (eqFrame_f x0 x1 x2 x3 x4 x5 x6 x7 x8 lo hi lo' hi' wr.drew HR.out HR'.out hwi hwi' HX.out).mono ?_); rintro e5 w5 ⟨rfl, hb5⟩))
   have HB5 := Lib.hid (HBd.out.trans (hb5.mono HBd.out.size))
   clear hb5 e100 e101 e102 e103 e104 e105 e106 e107 e108 e100' e101' e102' e103' e104' e105' e106' e107' e108'
   go_wp2_with fail
   go_roundw
   case rel => exact ⟨k + 1, by omega, by go_num, HB5.out⟩
   case measure => simp [intOf]; omega
  ·have HB := Lib.hid hb; clear hb
   go_wp2_with fail
   go_ret
   exact ⟨rfl, HB.out⟩
end Go.Proofs.YtgnmollbnopigaaGreat
