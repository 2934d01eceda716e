/- Image, Parcel, Replica: shapes and the laws' walks (eq). Printed by gen_fam.py. -/
import Derived.Test.YtgnmollbnopigaaGreatJoinSTAf
import Derived.Test.YtgnmollbnopigaaGreatJoinSTAr
import Derived.Test.YtgnmollbnopigaaGreatJoinSTAt
import Derived.Test.YtgnmollbnopigaaGreatJoinSTAu
import Derived.Test.YtgnmollbnopigaaGreatJoinSTAw
import Derived.Test.YtgnmollbnopigaaGreatJoinSTAz
set_option maxHeartbeats 16000000
set_option maxRecDepth 100000
namespace Go.Proofs.YtgnmollbnopigaaGreat
open Go.RowKit
theorem eqImage_f (x0 : ByteArray) (x1 : List ByteArray) (x2 : Bool) (x3 : ByteArray) (x4 : Bool) (x5 : ByteArray) (A1 : Option Addr) (c1 : Nat) (B1 : Option Addr) (d1 : Nat) (lo hi lo' hi' : Nat) (w : World) (h : shImage.R w lo hi [.string x0, .slice A1 x1.length c1, .bool x2, .string x3, .bool x4, .string x5] (x0, x1, x2, x3, x4, x5)) (h' : shImage.R w lo' hi' [.string x0, .slice B1 x1.length d1, .bool x2, .string x3, .bool x4, .string x5] (x0, x1, x2, x3, x4, x5)) (hhi : hi ≤ w.heap.size) (hhi' : hi' ≤ w.heap.size) (hf : shImage.fit 4294967296 (x0, x1, x2, x3, x4, x5)) :
  Calls Tryz.prog 248 #[.agg #[.string x0, .slice A1 x1.length c1, .bool x2, .string x3, .bool x4, .string x5], .agg #[.string x0, .slice B1 x1.length d1, .bool x2, .string x3, .bool x4, .string x5]] w fun e w' => e = .returned (.bool true) ∧ Below w.heap.size w w' := by
 rw [shImage_fit] at hf
 obtain ⟨ft0, ft1, ft2, ft3, ft4, ft5⟩ := hf
 have R0 := ((((Stand.nil w).add lo hi (fun W => shImage.R W lo hi [.string x0, .slice A1 x1.length c1, .bool x2, .string x3, .bool x4, .string x5] (x0, x1, x2, x3, x4, x5)) (fun _ _ hk h => shImage.R_keep h hk) hhi h).add lo' hi' (fun W => shImage.R W lo' hi' [.string x0, .slice B1 x1.length d1, .bool x2, .string x3, .bool x4, .string x5] (x0, x1, x2, x3, x4, x5)) (fun _ _ hk h => shImage.R_keep h hk) hhi' h').box 284 #[.string x0, .slice A1 x1.length c1, .bool x2, .string x3, .bool x4, .string x5]).box 284 #[.string x0, .slice B1 x1.length d1, .bool x2, .string x3, .bool x4, .string x5]
 rw [heap_alloc_size1] at R0
 have HR0 := Lib.hid R0
 clear R0 h h'
 go_enter Tryz.func248, Tryz.ntmps248
 go_wp2_with fail
 refine (eqStringS_f A1 B1 c1 d1 x1 lo hi lo' hi' _ (shImage_f1 (HR0.out.get 3 rfl)) (shImage_f1 (HR0.out.get 2 rfl)) (HR0.out.le 3 rfl) (HR0.out.le 2 rfl) ft1).mono ?_
 rintro e1 w1 ⟨rfl, hb1⟩
 have HR1 := Lib.hid (HR0.out.below hb1)
 have b1 := (HR1.out.get 0 rfl).cell
 have a1 := (HR1.out.get 1 rfl).cell
 clear hb1 HR0
 go_wp2_with fail
 go_ret
 exact ⟨rfl, HR1.out.1⟩
theorem eqImageS_f (A B : Option Addr) (c d : Nat) (xs : List TyImage) (lo hi lo' hi' : Nat) (w : World) (h : (Sh.row 284 shImage).R w lo hi [.slice A xs.length c] xs) (h' : (Sh.row 284 shImage).R w lo' hi' [.slice B xs.length d] xs) (hhi : hi ≤ w.heap.size) (hhi' : hi' ≤ w.heap.size) (hf : (Sh.row 284 shImage).fit 4294967296 xs) :
  Calls Tryz.prog 214 #[.slice A xs.length c, .slice B xs.length d] w fun e w' => e = .returned (.bool true) ∧ Below w.heap.size w w' := by
 have hn := hf.1
 have HA := Lib.hid h; have HA' := Lib.hid h'; have HF := Lib.hid hf.2
 clear h h' hf
 go_enter Tryz.func214, Tryz.ntmps214
 go_wp2_with fail
 go_loopw [5] (fun i wr => ∃ k : Nat, k ≤ xs.length ∧ i = .int .i64 k ∧ Below w.heap.size w wr) (fun i _ => xs.length - (intOf i).toNat)
 case atStart => exact ⟨0, Nat.zero_le _, rfl, Below.refl _ _⟩
 case round =>
  obtain ⟨k, hk, rfl, hb⟩ := hrel
  by_cases hlt : k < xs.length
  ·obtain ⟨-, b, off, rfl, hb1, hb2, A1, c1, e100, e101, e102, e103, e104, e105, hX⟩ := shImage_at ((Sh.row 284 shImage).R_below HA.out hb hhi) hlt
   obtain ⟨-, b', off', rfl, hb1', hb2', B1, d1, e100', e101', e102', e103', e104', e105', hX'⟩ := shImage_at ((Sh.row 284 shImage).R_below HA'.out hb hhi') hlt
   have HX := Lib.hid (HF.out _ (getD_in (d := shImage.d) hlt))
   generalize xs.getD k shImage.d = X at *
   obtain ⟨x0, x1, x2, x3, x4, x5⟩ := X
   try dsimp only at e100 e101 e102 e103 e104 e105 e100' e101' e102' e103' e104' e105'
   have hsz := hb.size
   have HR := Lib.hid (shImage.R_below hX (below_drewN' wr 1) (by omega)); have HR' := Lib.hid (shImage.R_below hX' (below_drewN' wr 1) (by omega))
   have HB := Lib.hid hb
   have HBd := Lib.hid hb.drew
   clear hb hX hX'
   have hwi : hi ≤ wr.drew.heap.size := (show hi ≤ wr.heap.size by omega)
   have hwi' : hi' ≤ wr.drew.heap.size := (show hi' ≤ wr.heap.size by omega)
   have hbw : b < wr.drew.heap.size := (show b < wr.heap.size by omega)
   have hbw' : b' < wr.drew.heap.size := (show b' < wr.heap.size by omega)
   go_wp2_with fail
   go_region_held3 (fun w' => w'.cell? ⟨b, off + k * 6, none⟩ = some (.string x0) ∧ w'.cell? ⟨b, off + k * 6 + 1, none⟩ = some (.slice A1 x1.length c1) ∧ w'.cell? ⟨b, off + k * 6 + 2, none⟩ = some (.bool x2) ∧ w'.cell? ⟨b, off + k * 6 + 3, none⟩ = some (.string x3) ∧ w'.cell? ⟨b, off + k * 6 + 4, none⟩ = some (.bool x4) ∧ w'.cell? ⟨b, off + k * 6 + 5, none⟩ = some (.string x5) ∧ w'.cell? ⟨b', off' + k * 6, none⟩ = some (.string x0) ∧ w'.cell? ⟨b', off' + k * 6 + 1, none⟩ = some (.slice B1 x1.length d1) ∧ w'.cell? ⟨b', off' + k * 6 + 2, none⟩ = some (.bool x2) ∧ w'.cell? ⟨b', off' + k * 6 + 3, none⟩ = some (.string x3) ∧ w'.cell? ⟨b', off' + k * 6 + 4, none⟩ = some (.bool x4) ∧ w'.cell? ⟨b', off' + k * 6 + 5, none⟩ = some (.string x5) ∧ Below w.heap.size w w')
    (first | exact ⟨e100, e101, e102, e103, e104, e105, e100', e101', e102', e103', e104', e105', HB.out⟩ | exact ⟨e100, e101, e102, e103, e104, e105, e100', e101', e102', e103', e104', e105', HBd.out⟩ | exact ⟨(hb5.cell hbw).trans e100, (hb5.cell hbw).trans e101, (hb5.cell hbw).trans e102, (hb5.cell hbw).trans e103, (hb5.cell hbw).trans e104, (hb5.cell hbw).trans e105, (hb5.cell hbw').trans e100', (hb5.cell hbw').trans e101', (hb5.cell hbw').trans e102', (hb5.cell hbw').trans e103', (hb5.cell hbw').trans e104', (hb5.cell hbw').trans e105', HBd.out.trans (hb5.mono HBd.out.size)⟩)
    (first | (go_at_call 248; (refine (eqImage_f x0 x1 x2 x3 x4 x5 A1 c1 B1 d1 lo hi lo' hi' wr.drew HR.out HR'.out hwi hwi' HX.out).mono ?_); rintro e5 w5 ⟨rfl, hb5⟩))
   have HB5 := Lib.hid (HBd.out.trans (hb5.mono HBd.out.size))
   clear hb5 e100 e101 e102 e103 e104 e105 e100' e101' e102' e103' e104' e105'
   go_wp2_with fail
   go_roundw
   case rel => exact ⟨k + 1, by omega, by go_num, HB5.out⟩
   case measure => simp [intOf]; omega
  ·have HB := Lib.hid hb; clear hb
   go_wp2_with fail
   go_ret
   exact ⟨rfl, HB.out⟩
theorem eqParcel_f (x0 : Int) (x1 : List TyImage) (A1 : Option Addr) (c1 : Nat) (B1 : Option Addr) (d1 : Nat) (lo hi lo' hi' : Nat) (w : World) (h : shParcel.R w lo hi [.int .i64 x0, .slice A1 x1.length c1] (x0, x1)) (h' : shParcel.R w lo' hi' [.int .i64 x0, .slice B1 x1.length d1] (x0, x1)) (hhi : hi ≤ w.heap.size) (hhi' : hi' ≤ w.heap.size) (hf : shParcel.fit 4294967296 (x0, x1)) :
  Calls Tryz.prog 173 #[.agg #[.int .i64 x0, .slice A1 x1.length c1], .agg #[.int .i64 x0, .slice B1 x1.length d1]] w fun e w' => e = .returned (.bool true) ∧ Below w.heap.size w w' := by
 rw [shParcel_fit] at hf
 obtain ⟨ft0, ft1⟩ := hf
 have R0 := ((((Stand.nil w).add lo hi (fun W => shParcel.R W lo hi [.int .i64 x0, .slice A1 x1.length c1] (x0, x1)) (fun _ _ hk h => shParcel.R_keep h hk) hhi h).add lo' hi' (fun W => shParcel.R W lo' hi' [.int .i64 x0, .slice B1 x1.length d1] (x0, x1)) (fun _ _ hk h => shParcel.R_keep h hk) hhi' h').box 187 #[.int .i64 x0, .slice A1 x1.length c1]).box 187 #[.int .i64 x0, .slice B1 x1.length d1]
 rw [heap_alloc_size1] at R0
 have HR0 := Lib.hid R0
 clear R0 h h'
 go_enter Tryz.func173, Tryz.ntmps173
 go_wp2_with fail
 refine (eqImageS_f A1 B1 c1 d1 x1 lo hi lo' hi' _ (shParcel_f1 (HR0.out.get 3 rfl)) (shParcel_f1 (HR0.out.get 2 rfl)) (HR0.out.le 3 rfl) (HR0.out.le 2 rfl) ft1).mono ?_
 rintro e1 w1 ⟨rfl, hb1⟩
 have HR1 := Lib.hid (HR0.out.below hb1)
 have b1 := (HR1.out.get 0 rfl).cell
 have a1 := (HR1.out.get 1 rfl).cell
 clear hb1 HR0
 go_wp2_with fail
 go_ret
 exact ⟨rfl, HR1.out.1⟩
theorem eqParcelS_f (A B : Option Addr) (c d : Nat) (xs : List TyParcel) (lo hi lo' hi' : Nat) (w : World) (h : (Sh.row 187 shParcel).R w lo hi [.slice A xs.length c] xs) (h' : (Sh.row 187 shParcel).R w lo' hi' [.slice B xs.length d] xs) (hhi : hi ≤ w.heap.size) (hhi' : hi' ≤ w.heap.size) (hf : (Sh.row 187 shParcel).fit 4294967296 xs) :
  Calls Tryz.prog 100 #[.slice A xs.length c, .slice B xs.length d] w fun e w' => e = .returned (.bool true) ∧ Below w.heap.size w w' := by
 have hn := hf.1
 have HA := Lib.hid h; have HA' := Lib.hid h'; have HF := Lib.hid hf.2
 clear h h' hf
 go_enter Tryz.func100, Tryz.ntmps100
 go_wp2_with fail
 go_loopw [5] (fun i wr => ∃ k : Nat, k ≤ xs.length ∧ i = .int .i64 k ∧ Below w.heap.size w wr) (fun i _ => xs.length - (intOf i).toNat)
 case atStart => exact ⟨0, Nat.zero_le _, rfl, Below.refl _ _⟩
 case round =>
  obtain ⟨k, hk, rfl, hb⟩ := hrel
  by_cases hlt : k < xs.length
  ·obtain ⟨-, b, off, rfl, hb1, hb2, A1, c1, e100, e101, hX⟩ := shParcel_at ((Sh.row 187 shParcel).R_below HA.out hb hhi) hlt
   obtain ⟨-, b', off', rfl, hb1', hb2', B1, d1, e100', e101', hX'⟩ := shParcel_at ((Sh.row 187 shParcel).R_below HA'.out hb hhi') hlt
   have HX := Lib.hid (HF.out _ (getD_in (d := shParcel.d) hlt))
   generalize xs.getD k shParcel.d = X at *
   obtain ⟨x0, x1⟩ := X
   try dsimp only at e100 e101 e100' e101'
   have hsz := hb.size
   have HR := Lib.hid (shParcel.R_below hX (below_drewN' wr 1) (by omega)); have HR' := Lib.hid (shParcel.R_below hX' (below_drewN' wr 1) (by omega))
   have HB := Lib.hid hb
   have HBd := Lib.hid hb.drew
   clear hb hX hX'
   have hwi : hi ≤ wr.drew.heap.size := (show hi ≤ wr.heap.size by omega)
   have hwi' : hi' ≤ wr.drew.heap.size := (show hi' ≤ wr.heap.size by omega)
   have hbw : b < wr.drew.heap.size := (show b < wr.heap.size by omega)
   have hbw' : b' < wr.drew.heap.size := (show b' < wr.heap.size by omega)
   go_wp2_with fail
   go_region_held3 (fun w' => w'.cell? ⟨b, off + k * 2, none⟩ = some (.int .i64 x0) ∧ w'.cell? ⟨b, off + k * 2 + 1, none⟩ = some (.slice A1 x1.length c1) ∧ w'.cell? ⟨b', off' + k * 2, none⟩ = some (.int .i64 x0) ∧ w'.cell? ⟨b', off' + k * 2 + 1, none⟩ = some (.slice B1 x1.length d1) ∧ Below w.heap.size w w')
    (first | exact ⟨e100, e101, e100', e101', HB.out⟩ | exact ⟨e100, e101, e100', e101', HBd.out⟩ | exact ⟨(hb5.cell hbw).trans e100, (hb5.cell hbw).trans e101, (hb5.cell hbw').trans e100', (hb5.cell hbw').trans e101', HBd.out.trans (hb5.mono HBd.out.size)⟩)
    (first | (go_at_call 173; (refine (eqParcel_f x0 x1 A1 c1 B1 d1 lo hi lo' hi' wr.drew HR.out HR'.out hwi hwi' HX.out).mono ?_); rintro e5 w5 ⟨rfl, hb5⟩))
   have HB5 := Lib.hid (HBd.out.trans (hb5.mono HBd.out.size))
   clear hb5 e100 e101 e100' e101'
   go_wp2_with fail
   go_roundw
   case rel => exact ⟨k + 1, by omega, by go_num, HB5.out⟩
   case measure => simp [intOf]; omega
  ·have HB := Lib.hid hb; clear hb
   go_wp2_with fail
   go_ret
   exact ⟨rfl, HB.out⟩
theorem eqReplica_f (x0 : List TyNode) (x1 : Int) (x2 : List TyParcel) (A0 : Option Addr) (c0 : Nat) (A2 : Option Addr) (c2 : Nat) (B0 : Option Addr) (d0 : Nat) (B2 : Option Addr) (d2 : Nat) (lo hi lo' hi' : Nat) (w : World) (h : shReplica.R w lo hi [.slice A0 x0.length c0, .int .i64 x1, .slice A2 x2.length c2] (x0, x1, x2)) (h' : shReplica.R w lo' hi' [.slice B0 x0.length d0, .int .i64 x1, .slice B2 x2.length d2] (x0, x1, x2)) (hhi : hi ≤ w.heap.size) (hhi' : hi' ≤ w.heap.size) (hf : shReplica.fit 4294967296 (x0, x1, x2)) :
  Calls Tryz.prog 43 #[.agg #[.slice A0 x0.length c0, .int .i64 x1, .slice A2 x2.length c2], .agg #[.slice B0 x0.length d0, .int .i64 x1, .slice B2 x2.length d2]] w fun e w' => e = .returned (.bool true) ∧ Below w.heap.size w w' := by
 rw [shReplica_fit] at hf
 obtain ⟨ft0, ft1, ft2⟩ := hf
 have R0 := ((((Stand.nil w).add lo hi (fun W => shReplica.R W lo hi [.slice A0 x0.length c0, .int .i64 x1, .slice A2 x2.length c2] (x0, x1, x2)) (fun _ _ hk h => shReplica.R_keep h hk) hhi h).add lo' hi' (fun W => shReplica.R W lo' hi' [.slice B0 x0.length d0, .int .i64 x1, .slice B2 x2.length d2] (x0, x1, x2)) (fun _ _ hk h => shReplica.R_keep h hk) hhi' h').box 103 #[.slice A0 x0.length c0, .int .i64 x1, .slice A2 x2.length c2]).box 103 #[.slice B0 x0.length d0, .int .i64 x1, .slice B2 x2.length d2]
 rw [heap_alloc_size1] at R0
 have HR0 := Lib.hid R0
 clear R0 h h'
 go_enter Tryz.func43, Tryz.ntmps43
 go_wp2_with fail
 refine (eqTree_f x0 A0 c0 B0 d0 lo hi lo' hi' _ (shReplica_f0 (HR0.out.get 3 rfl)) (shReplica_f0 (HR0.out.get 2 rfl)) (HR0.out.le 3 rfl) (HR0.out.le 2 rfl) ft0).mono ?_
 rintro e0 w0 ⟨rfl, hb0⟩
 have HR1 := Lib.hid (HR0.out.below hb0)
 have b0 := (HR1.out.get 0 rfl).cell
 have a0 := (HR1.out.get 1 rfl).cell
 clear hb0 HR0
 go_wp2_with fail
 refine (eqParcelS_f A2 B2 c2 d2 x2 lo hi lo' hi' _ (shReplica_f2 (HR1.out.get 3 rfl)) (shReplica_f2 (HR1.out.get 2 rfl)) (HR1.out.le 3 rfl) (HR1.out.le 2 rfl) ft2).mono ?_
 rintro e2 w2 ⟨rfl, hb2⟩
 have HR2 := Lib.hid (HR1.out.below hb2)
 have b2 := (HR2.out.get 0 rfl).cell
 have a2 := (HR2.out.get 1 rfl).cell
 clear hb2 HR1
 go_wp2_with fail
 go_ret
 exact ⟨rfl, HR2.out.1⟩
end Go.Proofs.YtgnmollbnopigaaGreat
/- Replica: walks field by field (o). Printed by gen_big.py. -/
namespace Go.Proofs.YtgnmollbnopigaaGreat
open Go.RowKit
theorem sizeLReplica : (Tryz.prog.info? 96).map (·.size) = some shReplica.k := by kernel_rfl
theorem sizeIReplica : (Tryz.prog.info? 103).map (·.size) = some shReplica.k := by kernel_rfl
theorem szReplica_o (X : TyReplica) (vs : List Value) (lo hi : Nat) (left : Int) (w : World) (h : shReplica.R w lo hi vs X) (hhi : hi ≤ w.heap.size) (hf : shReplica.fit 9223372036854775807 X) (hl0 : 0 ≤ left) (hl : left ≤ 1048576) :
  Calls Tryz.prog 35 #[.agg vs.toArray, .int .i64 left] w fun e w' => ∃ m, e = .returned (.int .i64 m) ∧ Left left (shReplica.cost X) m ∧ Below w.heap.size w w' := by
 obtain ⟨x0, x1, x2⟩ := X
 have h0 := h
 obtain ⟨A0, c0, A2, c2, rfl, _⟩ := shReplica_R.1 h0
 exact szReplica_f x0 x1 x2 A0 c0 A2 c2 lo hi left w h hhi hf hl0 hl
theorem toReplica_o (X : TyReplica) (vs : List Value) (lo hi : Nat) (w : World) (h : shReplica.R w lo hi vs X) (hhi : hi ≤ w.heap.size) (hf : shReplica.fit 1048576 X) :
  Calls Tryz.prog 39 #[.agg vs.toArray] w fun e w' => ∃ us : List Value, e = .returned (.agg us.toArray) ∧ shReplica.R w' w.heap.size w'.heap.size us X ∧ Below w.heap.size w w' := by
 obtain ⟨x0, x1, x2⟩ := X
 have h0 := h
 obtain ⟨A0, c0, A2, c2, rfl, _⟩ := shReplica_R.1 h0
 refine (toReplica_f x0 x1 x2 A0 c0 A2 c2 lo hi w h hhi hf).mono ?_
 rintro e w' ⟨B0, d0, B2, d2, rfl, ho, hb⟩
 exact ⟨_, rfl, ho.reads, hb⟩
theorem eqReplica_o (X : TyReplica) (vs us : List Value) (lo hi lo' hi' : Nat) (w : World) (h : shReplica.R w lo hi vs X) (h' : shReplica.R w lo' hi' us X) (hhi : hi ≤ w.heap.size) (hhi' : hi' ≤ w.heap.size) (hf : shReplica.fit 4294967296 X) :
  Calls Tryz.prog 43 #[.agg vs.toArray, .agg us.toArray] w fun e w' => e = .returned (.bool true) ∧ Below w.heap.size w w' := by
 obtain ⟨x0, x1, x2⟩ := X
 have h0 := h; have h1 := h'
 obtain ⟨A0, c0, A2, c2, rfl, _⟩ := shReplica_R.1 h0
 obtain ⟨B0, d0, B2, d2, rfl, _⟩ := shReplica_R.1 h1
 exact eqReplica_f x0 x1 x2 A0 c0 A2 c2 B0 d0 B2 d2 lo hi lo' hi' w h h' hhi hhi' hf
end Go.Proofs.YtgnmollbnopigaaGreat
/- Sites: walks field by field (sz). Printed by gen_big.py. -/
namespace Go.Proofs.YtgnmollbnopigaaGreat
open Go.RowKit
theorem szSites_o (X : TySites) (vs : List Value) (lo hi : Nat) (left : Int) (w : World) (h : shSites.R w lo hi vs X) (hhi : hi ≤ w.heap.size) (hf : shSites.fit 9223372036854775807 X) (hl0 : 0 ≤ left) (hl : left ≤ 1048576) :
  Calls Tryz.prog 10 #[.agg vs.toArray, .int .i64 left] w fun e w' => ∃ m, e = .returned (.int .i64 m) ∧ Left left (shSites.cost X) m ∧ Below w.heap.size w w' := by
 obtain ⟨X0, X1, x2, x3⟩ := X
 obtain ⟨ft0, ft1, ft2, ft3⟩ := hf
 obtain ⟨u0, ru0, eu0, k0, u1, ru1, eu1, k1, u2, ru2, eu2, k2, k3⟩ := h
 generalize ru2 = u3 at *
 have qk2 := k2; obtain ⟨A2, c2, rfl, _⟩ := qk2
 obtain rfl := (show u3 = [.int .i64 x3] from k3)
 have HG := Lib.hid (show ∀ (W : World) (b : Nat) (t : TypeId), Blk W b t vs.toArray → W.rangeAt b 0 u0 ∧ W.rangeAt b 37 u1 ∧ W.cell? ⟨b, 40, none⟩ = some (.slice A2 x2.length c2) ∧ W.cell? ⟨b, 41, none⟩ = some (.int .i64 x3) from fun W b t hB => by
  have q := blk_all hB
  obtain ⟨p0, q⟩ := rsp eu0 (shSite.R_len k0) q
  obtain ⟨p1, q⟩ := rsp eu1 (shReplica.R_len k1) q
  obtain ⟨p2, q⟩ := rsp eu2 rfl q
  exact ⟨p0, p1, rng_one p2, rng_one q⟩)
 clear eu0 eu1 eu2
 have HR0 := Lib.hid (((((Stand.nil w).ad shSite.R u0 X0 hhi k0 shSite.R_keep).ad shReplica.R u1 X1 hhi k1 shReplica.R_keep).ad (Sh.row 9 shS).R [.slice A2 x2.length c2] x2 hhi k2 (Sh.row 9 shS).R_keep).box 98 vs.toArray)
 have HCO := Lib.hid (show shSites.cost (X0, X1, x2, x3) = shSite.cost X0 + (shReplica.cost X1 + ((Sh.row 9 shS).cost x2 + (0))) from rfl)
 have HZ0 := slH sizeLSite k0
 have HZ1 := slH sizeLReplica k1
 clear k0 k1 k2
 generalize shSites.cost (X0, X1, x2, x3) = CO at *
 go_enter Tryz.func10, Tryz.ntmps10
 go_wp2_with (first | fail | (refine wlg w.heap.size 0 u0 (HG.out _ _ _ (HR0.out.get 0 rfl)).1 Tryz.underlying56 HZ0.out ?_))
 refine (szSite_o X0 u0 lo hi _ _ (HR0.out.get 3 rfl) (HR0.out.le 3 rfl) ft0 (by omega) (by omega)).mono ?_
 rintro e0 w0 ⟨m0, rfl, hm0, hb0⟩
 have HR1 := Lib.hid (HR0.out.below hb0)
 clear hb0 HR0 
 rcases hm0 with rfl | ⟨hp0, hm0⟩
 ·go_wp2_with fail
  go_ret
  exact ⟨_, rfl, .inl rfl, HR1.out.1⟩
 have n0 : ¬ (m0 < 0) := by omega
 have v0 : m0 ≤ 1048576 := by omega
 have HM0 := Lib.hid hm0; clear hm0
 go_wp2_with (first | fail | (refine wlg w.heap.size 37 u1 (HG.out _ _ _ (HR1.out.get 0 rfl)).2.1 Tryz.underlying96 HZ1.out ?_))
 refine (szReplica_o X1 u1 lo hi _ _ (HR1.out.get 2 rfl) (HR1.out.le 2 rfl) ft1 (by omega) (by omega)).mono ?_
 rintro e1 w1 ⟨m1, rfl, hm1, hb1⟩
 have HR2 := Lib.hid (HR1.out.below hb1)
 clear hb1 HR1 
 rcases hm1 with rfl | ⟨hp1, hm1⟩
 ·go_wp2_with fail
  go_ret
  exact ⟨_, rfl, .inl rfl, HR2.out.1⟩
 have n1 : ¬ (m1 < 0) := by omega
 have v1 : m1 ≤ 1048576 := by omega
 have HM1 := Lib.hid hm1; clear hm1
 have f2 := (HG.out _ _ _ (HR2.out.get 0 rfl)).2.2.1
 go_wp2_with fail
 refine (szStringS_f A2 c2 x2 lo hi _ _ (HR2.out.get 1 rfl) (HR2.out.le 1 rfl) ft2 (by omega) (by omega)).mono ?_
 rintro e2 w2 ⟨m2, rfl, hm2, hb2⟩
 have HR3 := Lib.hid (HR2.out.below hb2)
 clear hb2 HR2 f2
 rcases hm2 with rfl | ⟨hp2, hm2⟩
 ·go_wp2_with fail
  go_ret
  exact ⟨_, rfl, .inl rfl, HR3.out.1⟩
 have n2 : ¬ (m2 < 0) := by omega
 have v2 : m2 ≤ 1048576 := by omega
 have HM2 := Lib.hid hm2; clear hm2
 go_wp2_with fail
 go_ret
 refine ⟨_, rfl, .inr ⟨by omega, ?_⟩, HR3.out.1⟩
 rw [HCO.out]
 have := HM0.out
 have := HM1.out
 have := HM2.out
 omega
end Go.Proofs.YtgnmollbnopigaaGreat
/- Sites: walks field by field (eq). Printed by gen_big.py. -/
namespace Go.Proofs.YtgnmollbnopigaaGreat
open Go.RowKit
theorem eqSites_o (X : TySites) (vs us : List Value) (lo hi lo' hi' : Nat) (w : World) (h : shSites.R w lo hi vs X) (h' : shSites.R w lo' hi' us X) (hhi : hi ≤ w.heap.size) (hhi' : hi' ≤ w.heap.size) (hf : shSites.fit 4294967296 X) :
  Calls Tryz.prog 14 #[.agg vs.toArray, .agg us.toArray] w fun e w' => e = .returned (.bool true) ∧ Below w.heap.size w w' := by
 obtain ⟨X0, X1, x2, x3⟩ := X
 obtain ⟨ft0, ft1, ft2, ft3⟩ := hf
 obtain ⟨u0, ru0, eu0, k0, u1, ru1, eu1, k1, u2, ru2, eu2, k2, k3⟩ := h
 generalize ru2 = u3 at *
 have qk2 := k2; obtain ⟨A2, c2, rfl, _⟩ := qk2
 obtain rfl := (show u3 = [.int .i64 x3] from k3)
 have HG := Lib.hid (show ∀ (W : World) (b : Nat) (t : TypeId), Blk W b t vs.toArray → W.rangeAt b 0 u0 ∧ W.rangeAt b 37 u1 ∧ W.cell? ⟨b, 40, none⟩ = some (.slice A2 x2.length c2) ∧ W.cell? ⟨b, 41, none⟩ = some (.int .i64 x3) from fun W b t hB => by
  have q := blk_all hB
  obtain ⟨p0, q⟩ := rsp eu0 (shSite.R_len k0) q
  obtain ⟨p1, q⟩ := rsp eu1 (shReplica.R_len k1) q
  obtain ⟨p2, q⟩ := rsp eu2 rfl q
  exact ⟨p0, p1, rng_one p2, rng_one q⟩)
 clear eu0 eu1 eu2
 obtain ⟨v0, rv0, ev0, l0, v1, rv1, ev1, l1, v2, rv2, ev2, l2, l3⟩ := h'
 generalize rv2 = v3 at *
 have ql2 := l2; obtain ⟨B2, d2, rfl, _⟩ := ql2
 obtain rfl := (show v3 = [.int .i64 x3] from l3)
 have HH := Lib.hid (show ∀ (W : World) (b : Nat) (t : TypeId), Blk W b t us.toArray → W.rangeAt b 0 v0 ∧ W.rangeAt b 37 v1 ∧ W.cell? ⟨b, 40, none⟩ = some (.slice B2 x2.length d2) ∧ W.cell? ⟨b, 41, none⟩ = some (.int .i64 x3) from fun W b t hB => by
  have q := blk_all hB
  obtain ⟨p0, q⟩ := rsp ev0 (shSite.R_len l0) q
  obtain ⟨p1, q⟩ := rsp ev1 (shReplica.R_len l1) q
  obtain ⟨p2, q⟩ := rsp ev2 rfl q
  exact ⟨p0, p1, rng_one p2, rng_one q⟩)
 clear ev0 ev1 ev2
 have R0 := (((((((((Stand.nil w).ad shSite.R u0 X0 hhi k0 shSite.R_keep).ad shReplica.R u1 X1 hhi k1 shReplica.R_keep).ad (Sh.row 9 shS).R [.slice A2 x2.length c2] x2 hhi k2 (Sh.row 9 shS).R_keep).ad shSite.R v0 X0 hhi' l0 shSite.R_keep).ad shReplica.R v1 X1 hhi' l1 shReplica.R_keep).ad (Sh.row 9 shS).R [.slice B2 x2.length d2] x2 hhi' l2 (Sh.row 9 shS).R_keep).box 105 vs.toArray).box 105 us.toArray)
 rw [heap_alloc_size1] at R0
 have HR0 := Lib.hid R0
 have HZ0 := slH sizeISite k0
 have HY0 := slH sizeISite l0
 have HZ1 := slH sizeIReplica k1
 have HY1 := slH sizeIReplica l1
 clear R0 k0 l0 k1 l1 k2 l2
 go_enter Tryz.func14, Tryz.ntmps14
 go_wp2_with (first | fail | (refine wlg w.heap.size 0 u0 (HG.out _ _ _ (HR0.out.get 1 rfl)).1 Tryz.underlying91 HZ0.out ?_) | (refine wlg (w.heap.size + 1) 0 v0 (HH.out _ _ _ (HR0.out.get 0 rfl)).1 Tryz.underlying91 HY0.out ?_))
 refine (eqSite_o X0 u0 v0 lo hi lo' hi' _ (HR0.out.get 7 rfl) (HR0.out.get 4 rfl) (HR0.out.le 7 rfl) (HR0.out.le 4 rfl) ft0).mono ?_
 rintro e0 w0 ⟨rfl, hb0⟩
 have HR1 := Lib.hid (HR0.out.below hb0)
 clear hb0 HR0
 go_wp2_with (first | fail | (refine wlg w.heap.size 37 u1 (HG.out _ _ _ (HR1.out.get 1 rfl)).2.1 Tryz.underlying103 HZ1.out ?_) | (refine wlg (w.heap.size + 1) 37 v1 (HH.out _ _ _ (HR1.out.get 0 rfl)).2.1 Tryz.underlying103 HY1.out ?_))
 refine (eqReplica_o X1 u1 v1 lo hi lo' hi' _ (HR1.out.get 6 rfl) (HR1.out.get 3 rfl) (HR1.out.le 6 rfl) (HR1.out.le 3 rfl) ft1).mono ?_
 rintro e1 w1 ⟨rfl, hb1⟩
 have HR2 := Lib.hid (HR1.out.below hb1)
 clear hb1 HR1
 have f2 := (HG.out _ _ _ (HR2.out.get 1 rfl)).2.2.1
 have g2 := (HH.out _ _ _ (HR2.out.get 0 rfl)).2.2.1
 go_wp2_with fail
 refine (eqStringS_f A2 B2 c2 d2 x2 lo hi lo' hi' _ (HR2.out.get 5 rfl) (HR2.out.get 2 rfl) (HR2.out.le 5 rfl) (HR2.out.le 2 rfl) ft2).mono ?_
 rintro e2 w2 ⟨rfl, hb2⟩
 have HR3 := Lib.hid (HR2.out.below hb2)
 clear f2 g2
 clear hb2 HR2
 have f3 := (HG.out _ _ _ (HR3.out.get 1 rfl)).2.2.2
 have g3 := (HH.out _ _ _ (HR3.out.get 0 rfl)).2.2.2
 go_wp2_with fail
 go_ret
 exact ⟨rfl, HR3.out.1⟩
end Go.Proofs.YtgnmollbnopigaaGreat
