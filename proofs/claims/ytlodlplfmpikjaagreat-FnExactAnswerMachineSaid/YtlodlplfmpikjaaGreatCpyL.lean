/- copyLocals of the program walked. -/
import Derived.Test.YtlodlplfmpikjaaGreatCpyT
namespace Go.Proofs.YtlodlplfmpikjaaGreat
open Go.RowKit

/-- What stands while copyLocals makes its copy: the parameter's block, the copy's block p, the rows of the copy. -/
structure LocMid (w wr : World) (par : Array Value) (p : Nat) (x0 : Int) (x1 : List TyBind) (B1 : Option Addr) (d1 : Nat) (xc : List TyCell) (B2 : Option Addr) (n2 d2 : Nat) (q : Nat) (xl : List TyLevel) (B3 : Option Addr) (n3 d3 : Nat) : Prop where
  par : Blk wr w.heap.size 45 par
  out : Blk wr p 45 #[.int .i64 x0, .slice B1 x1.length d1, .slice B2 n2 d2, .slice B3 n3 d3]
  binds : Own (Sh.row 151 shBind) wr (w.heap.size + 1) p [.slice B1 x1.length d1] x1
  cells : Own (Sh.row 105 shCell) wr (p + 1) q [.slice B2 n2 d2] xc
  levels : Own (Sh.row 108 shLevel) wr q wr.heap.size [.slice B3 n3 d3] xl
  below : Below w.heap.size w wr
  h1 : w.heap.size < p
  h2 : p < q
  h3 : q ≤ wr.heap.size

section
variable {w wr w' : World} {par : Array Value} {p : Nat} {x0 : Int} {x1 : List TyBind} {B1 : Option Addr} {d1 : Nat} {xc : List TyCell} {B2 : Option Addr} {n2 d2 : Nat} {q : Nat} {xl : List TyLevel} {B3 : Option Addr} {n3 d3 : Nat}
theorem LocMid.call (h : LocMid w wr par p x0 x1 B1 d1 xc B2 n2 d2 q xl B3 n3 d3) (hb : Below wr.heap.size wr w') : LocMid w w' par p x0 x1 B1 d1 xc B2 n2 d2 q xl B3 n3 d3 := by
  obtain ⟨a1, a2, a3, a4, a5, a6, a7, a8, a9⟩ := h
  exact ⟨a1.below hb a1.lt, a2.below hb a2.lt, a3.below hb (by omega), a4.below hb a9, (a5.below hb (Nat.le_refl _)).tight, a6.trans (hb.mono a6.size), a7, a8, Nat.le_trans a9 hb.size⟩
end

set_option maxHeartbeats 8000000 in
set_option maxRecDepth 100000 in
theorem copyLocals_f (x0 : Int) (x1 : List TyBind) (x2 : List TyCell) (x3 : List TyLevel) (A1 : Option Addr) (c1 : Nat) (A2 : Option Addr) (c2 : Nat) (A3 : Option Addr) (c3 lo hi : Nat) (w : World) (h : shLocals.R w lo hi [.int .i64 x0, .slice A1 x1.length c1, .slice A2 x2.length c2, .slice A3 x3.length c3] (x0, x1, x2, x3)) (hhi : hi ≤ w.heap.size) (hf : shLocals.fit 1048576 (x0, x1, x2, x3)) :
    Calls Tryz.prog 74 #[.agg #[.int .i64 x0, .slice A1 x1.length c1, .slice A2 x2.length c2, .slice A3 x3.length c3]] w fun e w' => ∃ (p : Nat) (B1 : Option Addr) (d1 : Nat) (B2 : Option Addr) (d2 : Nat) (B3 : Option Addr) (d3 : Nat), e = .returned (.pointer (some ⟨p, 0, none⟩)) ∧ Blk w' p 45 #[.int .i64 x0, .slice B1 x1.length d1, .slice B2 x2.length d2, .slice B3 x3.length d3] ∧ w.heap.size ≤ p ∧
      Own shLocals w' w.heap.size w'.heap.size [.int .i64 x0, .slice B1 x1.length d1, .slice B2 x2.length d2, .slice B3 x3.length d3] (x0, x1, x2, x3) ∧ Below w.heap.size w w' := by
  rw [shLocals_fit] at hf
  obtain ⟨ft0, ft1, ft2, ft3⟩ := hf
  have hn1 := ft1.1; have hn2 := ft2.1; have hn3 := ft3.1
  have HF2 := Lib.hid ft2.2; have HF3 := Lib.hid ft3.2
  have HA1 := Lib.hid (shLocals_f1 h); have HA2 := Lib.hid (shLocals_f2 h); have HA3 := Lib.hid (shLocals_f3 h)
  have HFT1 := Lib.hid ft1
  clear h ft0 ft1 ft2 ft3
  have hbA := (Below.refl w.heap.size w).alloc (Nat.le_refl _) (.cells #[.int .i64 x0, .slice A1 x1.length c1, .slice A2 x2.length c2, .slice A3 x3.length c3] 45)
  have HB0 := Lib.hid hbA
  have B0 := Lib.hid (Blk.new w 45 #[.int .i64 x0, .slice A1 x1.length c1, .slice A2 x2.length c2, .slice A3 x3.length c3])
  have HZ0 := Lib.hid (show (w.alloc (.cells #[.int .i64 x0, .slice A1 x1.length c1, .slice A2 x2.length c2, .slice A3 x3.length c3] 45)).heap.size = w.heap.size + 1 by simp)
  clear hbA
  go_enter Tryz.func74, Tryz.ntmps74
  go_upto_region 1 with fail
  generalize (w.alloc (.cells #[.int .i64 x0, .slice A1 x1.length c1, .slice A2 x2.length c2, .slice A3 x3.length c3] 45)) = w1 at *
  refine AnyT.region (fun _ => false) (fun W => ∀ i, W.cell? ⟨w.heap.size, i, none⟩ = (#[.int .i64 x0, .slice A1 x1.length c1, .slice A2 x2.length c2, .slice A3 x3.length c3] : Array Value)[i]?) (by kernel_rfl) (B0.out.drewN 1).cell (fun hHeld => ?_)
  have HB1 := Lib.hid (show Below w.heap.size w w1.drew from HB0.out.drew)
  have BD := Lib.hid (show Blk w1.drew _ _ _ from B0.out.drewN 1)
  have HZD := Lib.hid (show w1.drew.heap.size = w.heap.size + 1 from HZ0.out)
  clear HB0 B0 HZ0
  generalize w1.drew = wD at *
  ((refine AnyT.takeAny 0 8 ?_ rfl (by kernel_rfl) (by kernel_rfl) (by kernel_rfl) rfl rfl (fun _ _ _ _ h => h) rfl ?_ (by assumption) ?_); rotate_left; (intro w; go_simp; (try (with_reducible rfl))); simp only [Act.put, List.setIfInBounds_toArray, List.set_cons_zero, List.set_cons_succ])
  ((refine AnyT.take 1 9 ?_ rfl (by kernel_rfl) (by kernel_rfl) (by kernel_rfl) (by kernel_rfl) rfl (by kernel_rfl) rfl (fun _ _ _ _ h => h) rfl ?_ (by assumption) ?_); rotate_left; (intro w hSw; (try dsimp only at hSw); go_simp; (try (with_reducible rfl))); simp only [Act.put, List.setIfInBounds_toArray, List.set_cons_zero, List.set_cons_succ])
  ((refine AnyT.takeAny 2 10 ?_ rfl (by kernel_rfl) (by kernel_rfl) (by kernel_rfl) rfl rfl (fun _ _ _ _ h => h) rfl ?_ (by assumption) ?_); rotate_left; (intro w; go_simp; (try (with_reducible rfl))); simp only [Act.put, List.setIfInBounds_toArray, List.set_cons_zero, List.set_cons_succ])
  ((refine AnyT.take 3 11 ?_ rfl (by kernel_rfl) (by kernel_rfl) (by kernel_rfl) (by kernel_rfl) rfl (by kernel_rfl) rfl (fun _ _ _ _ h => h) rfl ?_ (by assumption) ?_); rotate_left; (intro w hSw; (try dsimp only at hSw); go_simp; (try (with_reducible rfl))); simp only [Act.put, List.setIfInBounds_toArray, List.set_cons_zero, List.set_cons_succ])
  ((refine AnyT.one (i := 4) (by kernel_rfl) rfl (fun K hK => ?_)))
  go_simp
  refine (cloneBind_f A1 c1 x1 lo hi _ ((Sh.row 151 shBind).R_below HA1.out HB1.out hhi) (Nat.le_trans hhi HB1.out.size) HFT1.out).mono ?_
  rintro e2 w2 ⟨B1, d1, rfl, ho2, hb2⟩
  go_simp
  have B2 := Lib.hid (BD.out.below hb2 BD.out.lt)
  have HB2 := Lib.hid (HB1.out.trans (hb2.mono HB1.out.size))
  have hs2 := hb2.size
  rw [HZD.out] at hs2 ho2
  have HO2 := Lib.hid ho2
  refine hK.out _ _ B2.out.cell (fun hHeld => ?_)
  clear hK K ho2 hb2 HB1 BD HZD
  (try simp only [Go.Act.put, List.setIfInBounds_toArray, List.set_cons_zero, List.set_cons_succ])
  ((refine AnyT.takeAny 5 13 ?_ rfl (by kernel_rfl) (by kernel_rfl) (by kernel_rfl) rfl rfl (fun _ _ _ _ h => h) rfl ?_ (by assumption) ?_); rotate_left; (intro w; go_simp; (try (with_reducible rfl))); simp only [Act.put, List.setIfInBounds_toArray, List.set_cons_zero, List.set_cons_succ])
  ((refine AnyT.one (i := 6) (by kernel_rfl) rfl (fun K hK => ?_)))
  go_simp
  refine hK.out _ _ (B2.out.alloc _).cell (fun hHeld => ?_)
  clear hK K
  (try simp only [Go.Act.put, List.setIfInBounds_toArray, List.set_cons_zero, List.set_cons_succ])
  ((refine AnyT.takeAny 7 3 ?_ rfl (by kernel_rfl) (by kernel_rfl) (by kernel_rfl) rfl rfl (fun _ _ _ _ h => h) rfl ?_ (by assumption) ?_); rotate_left; (intro w; go_simp; (try (with_reducible rfl))); simp only [Act.put, List.setIfInBounds_toArray, List.set_cons_zero, List.set_cons_succ])
  refine AnyT.done (by kernel_rfl) ?_ _
  have hbB := (Below.refl w2.heap.size w2).alloc (Nat.le_refl _) (.cells #[.int .i64 x0, .slice B1 x1.length d1, .slice none 0 0, .slice none 0 0] 45)
  have HM := Lib.hid (show LocMid w (w2.alloc (.cells #[.int .i64 x0, .slice B1 x1.length d1, .slice none 0 0, .slice none 0 0] 45)) #[.int .i64 x0, .slice A1 x1.length c1, .slice A2 x2.length c2, .slice A3 x3.length c3] w2.heap.size x0 x1 B1 d1 [] none 0 0 (w2.heap.size + 1) [] none 0 0 from
    ⟨B2.out.alloc _, Blk.new _ _ _, HO2.out.below hbB (Nat.le_refl _), Own.nil_row _ _ _, Own.nil_row _ _ _, HB2.out.trans (hbB.mono HB2.out.size), by omega, by omega, by simp⟩)
  have f1 := HM.out.par.cell
  clear hbB B2 HB2 HO2 hHeld
  have hp1 : w.heap.size < w2.heap.size := by omega
  generalize (w2.alloc (.cells #[.int .i64 x0, .slice B1 x1.length d1, .slice none 0 0, .slice none 0 0] 45)) = wL at *
  generalize w2.heap.size = p at *
  go_wp2_with fail
  clear f1
  go_loopw [18] (fun i wr => ∃ (k : Nat) (B : Option Addr) (d : Nat), k ≤ x2.length ∧ i = .int .i64 k ∧ LocMid w wr #[.int .i64 x0, .slice A1 x1.length c1, .slice A2 x2.length c2, .slice A3 x3.length c3] p x0 x1 B1 d1 (x2.take k) B k d wr.heap.size [] none 0 0) (fun i _ => x2.length - (intOf i).toNat)
  case atStart => exact ⟨0, none, 0, Nat.zero_le _, rfl, HM.out.par, HM.out.out, HM.out.binds, Own.nil_row _ _ _, Own.nil_row _ _ _, HM.out.below, HM.out.h1, by have := HM.out.h2; have := HM.out.h3; omega, Nat.le_refl _⟩
  case round =>
    obtain ⟨k, B, d, hk, rfl, hM⟩ := hrel
    by_cases hlt : k < x2.length
    · obtain ⟨-, b, off, rfl, hb1, hb2, A5, c5, e100, e101, hX⟩ := shCell_at ((Sh.row 105 shCell).R_below HA2.out hM.below hhi) hlt
      have HX := Lib.hid (HF2.out _ (getD_in (d := shCell.d) hlt))
      have HTK := Lib.hid (take_succ_getD shCell hlt)
      generalize x2.getD k shCell.d = X at *
      obtain ⟨y0, y1⟩ := X
      dsimp only at e100 e101
      have hsz := hM.below.size
      have hwi : hi ≤ wr.heap.size := Nat.le_trans hhi hsz
      have hpq := hM.h2
      have hbA := (Below.refl wr.heap.size wr).alloc (Nat.le_refl _) (.cells #[.int .i64 y0, .slice A5 y1.length c5] 105)
      have B5 := Lib.hid (Blk.new wr 105 #[.int .i64 y0, .slice A5 y1.length c5])
      have HR := Lib.hid (shCell.R_below hX hbA hwi)
      have HBA := Lib.hid hbA
      have HZA := Lib.hid (show (wr.alloc (.cells #[.int .i64 y0, .slice A5 y1.length c5] 105)).heap.size = wr.heap.size + 1 by simp)
      have HMM := Lib.hid hM
      clear hbA hX hM
      go_upto_region 5 with fail
      clear e100 e101
      generalize (wr.alloc (.cells #[.int .i64 y0, .slice A5 y1.length c5] 105)) = wA at *
      refine AnyT.region (fun j => j == 15) (fun W => (∀ i, W.cell? ⟨p, i, none⟩ = (#[.int .i64 x0, .slice B1 x1.length d1, .slice B k d, .slice none 0 0] : Array Value)[i]?) ∧ (∀ i, W.cell? ⟨wr.heap.size, i, none⟩ = (#[.int .i64 y0, .slice A5 y1.length c5] : Array Value)[i]?)) (by kernel_rfl) ⟨((HMM.out.out.below HBA.out HMM.out.out.lt).drewN 1).cell, (B5.out.drewN 1).cell⟩ (fun hHeld => ?_)
      have HBD := Lib.hid (show Below wr.heap.size wr wA.drew from HBA.out.drew)
      have HRD := Lib.hid (show shCell.R wA.drew lo hi _ _ from shCell.R_below HR.out (below_drewN' _ 1) (by rw [HZA.out]; omega))
      have HZD := Lib.hid (show wA.drew.heap.size = wr.heap.size + 1 from HZA.out)
      have BD := Lib.hid (show Blk wA.drew _ _ _ from B5.out.drewN 1)
      clear HBA HR HZA B5
      generalize wA.drew = wD at *
      ((refine AnyT.takeAny 0 22 ?_ rfl (by kernel_rfl) (by kernel_rfl) (by kernel_rfl) rfl rfl (fun _ _ _ _ h => h) rfl ?_ (by assumption) ?_); rotate_left; (intro w; go_simp; (try (with_reducible rfl))); simp only [Act.put, List.setIfInBounds_toArray, List.set_cons_zero, List.set_cons_succ])
      ((refine AnyT.takeAny 1 23 ?_ rfl (by kernel_rfl) (by kernel_rfl) (by kernel_rfl) rfl rfl (fun _ _ _ _ h => h) rfl ?_ (by assumption) ?_); rotate_left; (intro w; go_simp; (try (with_reducible rfl))); simp only [Act.put, List.setIfInBounds_toArray, List.set_cons_zero, List.set_cons_succ])
      ((refine AnyT.takeAny 2 24 ?_ rfl (by kernel_rfl) (by kernel_rfl) (by kernel_rfl) rfl rfl (fun _ _ _ _ h => h) rfl ?_ (by assumption) ?_); rotate_left; (intro w; go_simp; (try (with_reducible rfl))); simp only [Act.put, List.setIfInBounds_toArray, List.set_cons_zero, List.set_cons_succ])
      ((refine AnyT.takeAny 3 25 ?_ rfl (by kernel_rfl) (by kernel_rfl) (by kernel_rfl) rfl rfl (fun _ _ _ _ h => h) rfl ?_ (by assumption) ?_); rotate_left; (intro w; go_simp; (try (with_reducible rfl))); simp only [Act.put, List.setIfInBounds_toArray, List.set_cons_zero, List.set_cons_succ])
      ((refine AnyT.take 4 26 ?_ rfl (by kernel_rfl) (by kernel_rfl) (by kernel_rfl) (by kernel_rfl) rfl (by kernel_rfl) rfl (fun _ _ _ _ h => h) rfl ?_ (by assumption) ?_); rotate_left; (intro w hSw; (try dsimp only at hSw); go_simp; (try (with_reducible rfl))); simp only [Act.put, List.setIfInBounds_toArray, List.set_cons_zero, List.set_cons_succ])
      ((refine AnyT.takeAny 5 27 ?_ rfl (by kernel_rfl) (by kernel_rfl) (by kernel_rfl) rfl rfl (fun _ _ _ _ h => h) rfl ?_ (by assumption) ?_); rotate_left; (intro w; go_simp; (try (with_reducible rfl))); simp only [Act.put, List.setIfInBounds_toArray, List.set_cons_zero, List.set_cons_succ])
      ((refine AnyT.take 6 28 ?_ rfl (by kernel_rfl) (by kernel_rfl) (by kernel_rfl) (by kernel_rfl) rfl (by kernel_rfl) rfl (fun _ _ _ _ h => h) rfl ?_ (by assumption) ?_); rotate_left; (intro w hSw; (try dsimp only at hSw); go_simp; (try (with_reducible rfl))); simp only [Act.put, List.setIfInBounds_toArray, List.set_cons_zero, List.set_cons_succ])
      ((refine AnyT.takeAny 7 29 ?_ rfl (by kernel_rfl) (by kernel_rfl) (by kernel_rfl) rfl rfl (fun _ _ _ _ h => h) rfl ?_ (by assumption) ?_); rotate_left; (intro w; go_simp; (try (with_reducible rfl))); simp only [Act.put, List.setIfInBounds_toArray, List.set_cons_zero, List.set_cons_succ])
      ((refine AnyT.take 8 30 ?_ rfl (by kernel_rfl) (by kernel_rfl) (by kernel_rfl) (by kernel_rfl) rfl (by kernel_rfl) rfl (fun _ _ _ _ h => h) rfl ?_ (by assumption) ?_); rotate_left; (intro w hSw; (try dsimp only at hSw); go_simp; (try (with_reducible rfl))); simp only [Act.put, List.setIfInBounds_toArray, List.set_cons_zero, List.set_cons_succ])
      ((refine AnyT.one (i := 9) (by kernel_rfl) rfl (fun K hK => ?_)))
      go_simp
      refine (copyTree_f y1 A5 c5 lo hi _ (shCell_f1 HRD.out) (by rw [HZD.out]; omega) HX.out.2).mono ?_
      rintro e6 w6 ⟨B6, d6, rfl, ho6, hb6⟩
      go_simp
      have HB6 := Lib.hid (HBD.out.trans (hb6.mono HBD.out.size))
      have B56 := Lib.hid (BD.out.below hb6 BD.out.lt)
      have HP6 := Lib.hid (HMM.out.out.below HB6.out HMM.out.out.lt)
      have hs6 := hb6.size
      rw [HZD.out] at hs6 ho6
      have HE6 := Lib.hid (show Own shCell w6 (wr.heap.size + 1) w6.heap.size [.int .i64 y0, .slice B6 y1.length d6] (y0, y1) from Own.prod (Own.one w6 (wr.heap.size + 1) (wr.heap.size + 1) _) ho6 (by omega) (by omega) (by omega))
      have HC6 := Lib.hid (HMM.out.cells.below HB6.out (Nat.le_refl _))
      refine hK.out _ _ ⟨HP6.out.cell, B56.out.cell⟩ (fun hHeld => ?_)
      clear hK K hb6 ho6 HBD BD
      (try simp only [Go.Act.put, List.setIfInBounds_toArray, List.set_cons_zero, List.set_cons_succ])
      ((refine AnyT.takeAny 10 32 ?_ rfl (by kernel_rfl) (by kernel_rfl) (by kernel_rfl) rfl rfl (fun _ _ _ _ h => h) rfl ?_ (by assumption) ?_); rotate_left; (intro w; go_simp; (try (with_reducible rfl))); simp only [Act.put, List.setIfInBounds_toArray, List.set_cons_zero, List.set_cons_succ])
      ((refine AnyT.one (i := 11) (by kernel_rfl) rfl (fun K hK => ?_)))
      go_simp
      refine hK.out _ _ ⟨(HP6.out.alloc _).cell, (B56.out.alloc _).cell⟩ (fun hHeld => ?_)
      clear hK K
      (try simp only [Go.Act.put, List.setIfInBounds_toArray, List.set_cons_zero, List.set_cons_succ])
      ((refine AnyT.one (i := 12) (by kernel_rfl) rfl (fun K hK => ?_)))
      refine step_grow (s := shCell) rfl (.tmp 26) (.tmp 33) 42 rfl Tryz.underlying42 rfl (by decide) (by decide) infoCell w6 (p + 1) wr.heap.size (wr.heap.size + 1) w6.heap.size B k d (x2.take k) [.int .i64 y0, .slice B6 y1.length d6] (y0, y1) rfl HC6.out HE6.out (by omega) (by omega) (Nat.le_refl _) (by omega) rfl (by omega) ?_
      intro B7 d7 w7 ho7 hb7 hs7 hk7
      rw [← HTK.out] at ho7
      have HB67 := Lib.hid hb7
      have B57 := Lib.hid (show Blk w7 wr.heap.size 105 #[.int .i64 y0, .slice A5 y1.length c5] from (hk7 _ (Nat.le_refl _) (by omega)).trans B56.out)
      have HP7 := Lib.hid (HP6.out.below hb7 (Nat.lt_succ_self _))
      have HO7 := Lib.hid ho7
      refine hK.out _ _ ⟨HP7.out.cell, B57.out.cell⟩ (fun hHeld => ?_)
      clear hK K hb7 ho7 hk7
      (try simp only [Go.Act.put, List.setIfInBounds_toArray, List.set_cons_zero, List.set_cons_succ])
      ((refine AnyT.takeAny 13 35 ?_ rfl (by kernel_rfl) (by kernel_rfl) (by kernel_rfl) rfl rfl (fun _ _ _ _ h => h) rfl ?_ (by assumption) ?_); rotate_left; (intro w; go_simp; (try (with_reducible rfl))); simp only [Act.put, List.setIfInBounds_toArray, List.set_cons_zero, List.set_cons_succ])
      ((refine AnyT.takeAny 14 36 ?_ rfl (by kernel_rfl) (by kernel_rfl) (by kernel_rfl) rfl rfl (fun _ _ _ _ h => h) rfl ?_ (by assumption) ?_); rotate_left; (intro w; go_simp; (try (with_reducible rfl))); simp only [Act.put, List.setIfInBounds_toArray, List.set_cons_zero, List.set_cons_succ])
      have f7 := HP7.out.cell
      have z7 := HP7.out.frozen
      ((refine AnyT.last (i := 15) (by kernel_rfl) rfl (by kernel_rfl) (fun K hK => ?_)))
      go_simp
      refine hK.out _ _ ?_
      clear hK K
      (try simp only [Go.Act.put, List.setIfInBounds_toArray, List.set_cons_zero, List.set_cons_succ])
      refine AnyT.done (by kernel_rfl) ?_ _
      go_wp2_with fail
      go_roundw
      case rel =>
        have m1 := HMM.out.par.below HB6.out HMM.out.par.lt
        have m2 := HMM.out.binds.below HB6.out (by omega)
        have hh1 := HMM.out.h1
        refine ⟨k + 1, B7, d7, by omega, by go_num, ?_, ?_, ?_, ?_, Own.nil_row _ _ _, ?_, hh1, ?_, Nat.le_refl _⟩
        · exact (m1.below HB67.out (by omega)).far (by dsimp only; omega) _
        · exact HP7.out.set_ 2 _
        · exact (m2.below HB67.out (by omega)).keep fun q _ hq => Below.heap_setCell _ _ _ _ (by dsimp only; omega)
        · exact (HO7.out.setCell (p := ⟨p, 2, none⟩) (by dsimp only; omega) (.slice B7 (k + 1) d7)).more (Nat.le_refl _) (by simp [World.setCell])
        · exact ((HMM.out.below.trans (HB6.out.mono hsz)).trans (HB67.out.mono (by omega))).setCell (by dsimp only; omega) _
        · simp [World.setCell]; omega
      case measure => simp [intOf]; omega
    · obtain rfl : k = x2.length := by omega
      rw [List.take_length] at hM
      have HM := Lib.hid hM
      have f1 := hM.par.cell
      clear hM
      go_wp2_with fail
      clear f1
      generalize hqq : wr.heap.size = q at *
      have HQ := Lib.hid hqq; clear hqq
      go_loopw [41] (fun i wr => ∃ (k : Nat) (B' : Option Addr) (d' : Nat), k ≤ x3.length ∧ i = .int .i64 k ∧ LocMid w wr #[.int .i64 x0, .slice A1 x1.length c1, .slice A2 x2.length c2, .slice A3 x3.length c3] p x0 x1 B1 d1 x2 B x2.length d q (x3.take k) B' k d') (fun i _ => x3.length - (intOf i).toNat)
      case atStart => exact ⟨0, none, 0, Nat.zero_le _, rfl, HM.out⟩
      case round =>
        obtain ⟨k, B', d', hk, rfl, hM⟩ := hrel
        by_cases hlt : k < x3.length
        · obtain ⟨-, b, off, rfl, hb1, hb2, A5, c5, e100, hX⟩ := shLevel_at ((Sh.row 108 shLevel).R_below HA3.out hM.below hhi) hlt
          have HX := Lib.hid (HF3.out _ (getD_in (d := shLevel.d) hlt))
          have HTK := Lib.hid (take_succ_getD shLevel hlt)
          generalize x3.getD k shLevel.d = y0 at *
          have hsz := hM.below.size
          have hwi : hi ≤ wr.heap.size := Nat.le_trans hhi hsz
          have hpq := hM.h2; have hql := hM.h3
          have hbA := (Below.refl wr.heap.size wr).alloc (Nat.le_refl _) (.cells #[.slice A5 y0.length c5] 108)
          have B5 := Lib.hid (Blk.new wr 108 #[.slice A5 y0.length c5])
          have HR := Lib.hid (shLevel.R_below hX hbA hwi)
          have HBA := Lib.hid hbA
          have HZA := Lib.hid (show (wr.alloc (.cells #[.slice A5 y0.length c5] 108)).heap.size = wr.heap.size + 1 by simp)
          have HMM := Lib.hid hM
          clear hbA hX hM
          go_upto_region 10 with fail
          clear e100
          generalize (wr.alloc (.cells #[.slice A5 y0.length c5] 108)) = wA at *
          refine AnyT.region (fun j => j == 13) (fun W => (∀ i, W.cell? ⟨p, i, none⟩ = (#[.int .i64 x0, .slice B1 x1.length d1, .slice B x2.length d, .slice B' k d'] : Array Value)[i]?) ∧ (∀ i, W.cell? ⟨wr.heap.size, i, none⟩ = (#[.slice A5 y0.length c5] : Array Value)[i]?)) (by kernel_rfl) ⟨((HMM.out.out.below HBA.out HMM.out.out.lt).drewN 1).cell, (B5.out.drewN 1).cell⟩ (fun hHeld => ?_)
          have HBD := Lib.hid (show Below wr.heap.size wr wA.drew from HBA.out.drew)
          have HRD := Lib.hid (show shLevel.R wA.drew lo hi _ _ from shLevel.R_below HR.out (below_drewN' _ 1) (by rw [HZA.out]; omega))
          have HZD := Lib.hid (show wA.drew.heap.size = wr.heap.size + 1 from HZA.out)
          have BD := Lib.hid (show Blk wA.drew _ _ _ from B5.out.drewN 1)
          clear HBA HR HZA B5
          generalize wA.drew = wD at *
          ((refine AnyT.takeAny 0 45 ?_ rfl (by kernel_rfl) (by kernel_rfl) (by kernel_rfl) rfl rfl (fun _ _ _ _ h => h) rfl ?_ (by assumption) ?_); rotate_left; (intro w; go_simp; (try (with_reducible rfl))); simp only [Act.put, List.setIfInBounds_toArray, List.set_cons_zero, List.set_cons_succ])
          ((refine AnyT.takeAny 1 46 ?_ rfl (by kernel_rfl) (by kernel_rfl) (by kernel_rfl) rfl rfl (fun _ _ _ _ h => h) rfl ?_ (by assumption) ?_); rotate_left; (intro w; go_simp; (try (with_reducible rfl))); simp only [Act.put, List.setIfInBounds_toArray, List.set_cons_zero, List.set_cons_succ])
          ((refine AnyT.takeAny 2 47 ?_ rfl (by kernel_rfl) (by kernel_rfl) (by kernel_rfl) rfl rfl (fun _ _ _ _ h => h) rfl ?_ (by assumption) ?_); rotate_left; (intro w; go_simp; (try (with_reducible rfl))); simp only [Act.put, List.setIfInBounds_toArray, List.set_cons_zero, List.set_cons_succ])
          ((refine AnyT.takeAny 3 48 ?_ rfl (by kernel_rfl) (by kernel_rfl) (by kernel_rfl) rfl rfl (fun _ _ _ _ h => h) rfl ?_ (by assumption) ?_); rotate_left; (intro w; go_simp; (try (with_reducible rfl))); simp only [Act.put, List.setIfInBounds_toArray, List.set_cons_zero, List.set_cons_succ])
          ((refine AnyT.take 4 49 ?_ rfl (by kernel_rfl) (by kernel_rfl) (by kernel_rfl) (by kernel_rfl) rfl (by kernel_rfl) rfl (fun _ _ _ _ h => h) rfl ?_ (by assumption) ?_); rotate_left; (intro w hSw; (try dsimp only at hSw); go_simp; (try (with_reducible rfl))); simp only [Act.put, List.setIfInBounds_toArray, List.set_cons_zero, List.set_cons_succ])
          ((refine AnyT.takeAny 5 50 ?_ rfl (by kernel_rfl) (by kernel_rfl) (by kernel_rfl) rfl rfl (fun _ _ _ _ h => h) rfl ?_ (by assumption) ?_); rotate_left; (intro w; go_simp; (try (with_reducible rfl))); simp only [Act.put, List.setIfInBounds_toArray, List.set_cons_zero, List.set_cons_succ])
          ((refine AnyT.take 6 51 ?_ rfl (by kernel_rfl) (by kernel_rfl) (by kernel_rfl) (by kernel_rfl) rfl (by kernel_rfl) rfl (fun _ _ _ _ h => h) rfl ?_ (by assumption) ?_); rotate_left; (intro w hSw; (try dsimp only at hSw); go_simp; (try (with_reducible rfl))); simp only [Act.put, List.setIfInBounds_toArray, List.set_cons_zero, List.set_cons_succ])
          ((refine AnyT.one (i := 7) (by kernel_rfl) rfl (fun K hK => ?_)))
          go_simp
          refine (cloneBind_f A5 c5 y0 lo hi _ HRD.out (by rw [HZD.out]; omega) HX.out).mono ?_
          rintro e6 w6 ⟨B6, d6, rfl, ho6, hb6⟩
          go_simp
          have HB6 := Lib.hid (HBD.out.trans (hb6.mono HBD.out.size))
          have B56 := Lib.hid (BD.out.below hb6 BD.out.lt)
          have HP6 := Lib.hid (HMM.out.out.below HB6.out HMM.out.out.lt)
          have hs6 := hb6.size
          rw [HZD.out] at hs6 ho6
          have HE6 := Lib.hid (show Own shLevel w6 (wr.heap.size + 1) w6.heap.size [.slice B6 y0.length d6] y0 from ho6)
          have HC6 := Lib.hid (HMM.out.levels.below HB6.out (Nat.le_refl _))
          refine hK.out _ _ ⟨HP6.out.cell, B56.out.cell⟩ (fun hHeld => ?_)
          clear hK K hb6 ho6 HBD BD
          (try simp only [Go.Act.put, List.setIfInBounds_toArray, List.set_cons_zero, List.set_cons_succ])
          ((refine AnyT.takeAny 8 53 ?_ rfl (by kernel_rfl) (by kernel_rfl) (by kernel_rfl) rfl rfl (fun _ _ _ _ h => h) rfl ?_ (by assumption) ?_); rotate_left; (intro w; go_simp; (try (with_reducible rfl))); simp only [Act.put, List.setIfInBounds_toArray, List.set_cons_zero, List.set_cons_succ])
          ((refine AnyT.one (i := 9) (by kernel_rfl) rfl (fun K hK => ?_)))
          go_simp
          refine hK.out _ _ ⟨(HP6.out.alloc _).cell, (B56.out.alloc _).cell⟩ (fun hHeld => ?_)
          clear hK K
          (try simp only [Go.Act.put, List.setIfInBounds_toArray, List.set_cons_zero, List.set_cons_succ])
          ((refine AnyT.one (i := 10) (by kernel_rfl) rfl (fun K hK => ?_)))
          refine step_grow (s := shLevel) rfl (.tmp 49) (.tmp 54) 43 rfl Tryz.underlying43 rfl (by decide) (by decide) infoLevel w6 q wr.heap.size (wr.heap.size + 1) w6.heap.size B' k d' (x3.take k) [.slice B6 y0.length d6] y0 rfl HC6.out HE6.out (by omega) (by omega) (Nat.le_refl _) (by omega) rfl (by omega) ?_
          intro B7 d7 w7 ho7 hb7 hs7 hk7
          rw [← HTK.out] at ho7
          have HB67 := Lib.hid hb7
          have B57 := Lib.hid (show Blk w7 wr.heap.size 108 #[.slice A5 y0.length c5] from (hk7 _ (Nat.le_refl _) (by omega)).trans B56.out)
          have HP7 := Lib.hid (HP6.out.below hb7 hpq)
          have HO7 := Lib.hid ho7
          refine hK.out _ _ ⟨HP7.out.cell, B57.out.cell⟩ (fun hHeld => ?_)
          clear hK K hb7 ho7 hk7
          (try simp only [Go.Act.put, List.setIfInBounds_toArray, List.set_cons_zero, List.set_cons_succ])
          ((refine AnyT.takeAny 11 56 ?_ rfl (by kernel_rfl) (by kernel_rfl) (by kernel_rfl) rfl rfl (fun _ _ _ _ h => h) rfl ?_ (by assumption) ?_); rotate_left; (intro w; go_simp; (try (with_reducible rfl))); simp only [Act.put, List.setIfInBounds_toArray, List.set_cons_zero, List.set_cons_succ])
          ((refine AnyT.takeAny 12 57 ?_ rfl (by kernel_rfl) (by kernel_rfl) (by kernel_rfl) rfl rfl (fun _ _ _ _ h => h) rfl ?_ (by assumption) ?_); rotate_left; (intro w; go_simp; (try (with_reducible rfl))); simp only [Act.put, List.setIfInBounds_toArray, List.set_cons_zero, List.set_cons_succ])
          have f7 := HP7.out.cell
          have z7 := HP7.out.frozen
          ((refine AnyT.last (i := 13) (by kernel_rfl) rfl (by kernel_rfl) (fun K hK => ?_)))
          go_simp
          refine hK.out _ _ ?_
          clear hK K
          (try simp only [Go.Act.put, List.setIfInBounds_toArray, List.set_cons_zero, List.set_cons_succ])
          refine AnyT.done (by kernel_rfl) ?_ _
          go_wp2_with fail
          go_roundw
          case rel =>
            have m1 := HMM.out.par.below HB6.out HMM.out.par.lt
            have m2 := HMM.out.binds.below HB6.out (by omega)
            have m3 := HMM.out.cells.below HB6.out hql
            have hh1 := HMM.out.h1
            refine ⟨k + 1, B7, d7, by omega, by go_num, ?_, ?_, ?_, ?_, ?_, ?_, hh1, hpq, ?_⟩
            · exact (m1.below HB67.out (by omega)).far (by dsimp only; omega) _
            · exact HP7.out.set_ 3 _
            · exact (m2.below HB67.out (by omega)).keep fun q _ hq => Below.heap_setCell _ _ _ _ (by dsimp only; omega)
            · exact (m3.below HB67.out (Nat.le_refl _)).keep fun q hq _ => Below.heap_setCell _ _ _ _ (by dsimp only; omega)
            · exact (HO7.out.setCell (p := ⟨p, 3, none⟩) (by dsimp only; omega) (.slice B7 (k + 1) d7)).more (Nat.le_refl _) (by simp [World.setCell])
            · exact ((HMM.out.below.trans (HB6.out.mono hsz)).trans (HB67.out.mono (by omega))).setCell (by dsimp only; omega) _
            · simp [World.setCell]; omega
          case measure => simp [intOf]; omega
        · obtain rfl : k = x3.length := by omega
          rw [List.take_length] at hM
          have HM := Lib.hid hM
          clear hM
          go_wp2_with fail
          go_ret
          have hh1 := HM.out.h1; have hh2 := HM.out.h2
          exact ⟨p, B1, d1, B, d, B', d', rfl, HM.out.out, by omega, (Own.prod (Own.one wr (w.heap.size + 1) (w.heap.size + 1) _) (Own.prod HM.out.binds (Own.prod HM.out.cells HM.out.levels (Nat.le_refl _) (by omega) HM.out.h3) (by omega) (by omega) (by have := HM.out.h3; omega)) (by omega) (by omega) (by have := HM.out.h3; omega)).more (by omega) (Nat.le_refl _), HM.out.below⟩

end Go.Proofs.YtlodlplfmpikjaaGreat
