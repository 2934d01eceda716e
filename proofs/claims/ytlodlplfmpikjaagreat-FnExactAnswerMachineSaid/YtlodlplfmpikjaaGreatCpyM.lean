/- copyMachine of the program walked. Printed by gen_cpm.py. -/
import Derived.Test.YtlodlplfmpikjaaGreatCpyL
import Derived.Test.YtlodlplfmpikjaaGreatFamShM
import Derived.Test.YtlodlplfmpikjaaGreatWho
namespace Go.Proofs.YtlodlplfmpikjaaGreat
open Go.RowKit

/-- What stands while a machine is copied: the parameter's block, the copy's block, the rows of the copy so far. -/
structure MacMid (w wr : World) (par out : Array Value) (a1 a2 a3 a4 : Nat) (x2 : List ByteArray) (B2 : Option Addr) (d2 : Nat) (x4 : List TyGiven) (B4 : Option Addr) (d4 : Nat) (x5 : List TyLoop) (B5 : Option Addr) (d5 : Nat) (x6 : List TyFrame) (B6 : Option Addr) (d6 : Nat) (xr : List TyRef) (B3 : Option Addr) (n3 d3 : Nat) : Prop where
  two : Two w wr 48 48 par out
  o2 : Own (Sh.row 9 shS) wr (w.heap.size + 1 + 1) a1 [.slice B2 x2.length d2] x2
  o4 : Own (Sh.row 109 shGiven) wr a1 a2 [.slice B4 x4.length d4] x4
  o5 : Own (Sh.row 111 shLoop) wr a2 a3 [.slice B5 x5.length d5] x5
  o6 : Own (Sh.row 113 shFrame) wr a3 a4 [.slice B6 x6.length d6] x6
  o3 : Own (Sh.row 46 shRef) wr a4 wr.heap.size [.slice B3 n3 d3] xr
  h1 : w.heap.size + 1 + 1 ≤ a1
  h2 : a1 ≤ a2
  h3 : a2 ≤ a3
  h4 : a3 ≤ a4
  h5 : a4 ≤ wr.heap.size

section
variable {w wr w' : World} {par out : Array Value} {a1 a2 a3 a4 : Nat} {x2 : List ByteArray} {B2 : Option Addr} {d2 : Nat} {x4 : List TyGiven} {B4 : Option Addr} {d4 : Nat} {x5 : List TyLoop} {B5 : Option Addr} {d5 : Nat} {x6 : List TyFrame} {B6 : Option Addr} {d6 : Nat} {xr xr' : List TyRef} {B3 B3' : Option Addr} {n3 d3 n3' d3' : Nat}
theorem MacMid.call (h : MacMid w wr par out a1 a2 a3 a4 x2 B2 d2 x4 B4 d4 x5 B5 d5 x6 B6 d6 xr B3 n3 d3) (hb : Below wr.heap.size wr w') : MacMid w w' par out a1 a2 a3 a4 x2 B2 d2 x4 B4 d4 x5 B5 d5 x6 B6 d6 xr B3 n3 d3 := by
  obtain ⟨t, o2, o4, o5, o6, o3, h1, h2, h3, h4, h5⟩ := h
  exact ⟨t.call hb, o2.below hb (by omega), o4.below hb (by omega), o5.below hb (by omega), o6.below hb (by omega), (o3.below hb (Nat.le_refl _)).tight, h1, h2, h3, h4, Nat.le_trans h5 hb.size⟩
theorem MacMid.store (h : MacMid w wr par out a1 a2 a3 a4 x2 B2 d2 x4 B4 d4 x5 B5 d5 x6 B6 d6 xr B3 n3 d3) (j : Nat) (u : Value) : MacMid w (wr.setCell ⟨w.heap.size + 1, j, none⟩ u) par (out.setIfInBounds j u) a1 a2 a3 a4 x2 B2 d2 x4 B4 d4 x5 B5 d5 x6 B6 d6 xr B3 n3 d3 := by
  obtain ⟨t, o2, o4, o5, o6, o3, h1, h2, h3, h4, h5⟩ := h
  exact ⟨t.store1 j u, o2.setCell (by dsimp only; omega) u, o4.setCell (by dsimp only; omega) u, o5.setCell (by dsimp only; omega) u, o6.setCell (by dsimp only; omega) u, (o3.setCell (by dsimp only; omega) u).more (Nat.le_refl _) (by simp [World.setCell]), h1, h2, h3, h4, by simpa [World.setCell] using h5⟩
theorem Two.below2 {w0 w w1 : World} {t0 t1 : TypeId} {c0 c1 : Array Value} (h : Two w0 w t0 t1 c0 c1) (hb : Below (w0.heap.size + 1 + 1) w w1) : Two w0 w1 t0 t1 c0 c1 :=
  ⟨h.1.below hb (by omega), h.2.1.below hb (by omega), h.2.2.trans (hb.mono (by omega))⟩
/-- The row of references has grown. -/
theorem MacMid.grow (h : MacMid w wr par out a1 a2 a3 a4 x2 B2 d2 x4 B4 d4 x5 B5 d5 x6 B6 d6 xr B3 n3 d3) (hb : Below a4 wr w') (ho : Own (Sh.row 46 shRef) w' a4 w'.heap.size [.slice B3' n3' d3'] xr') : MacMid w w' par out a1 a2 a3 a4 x2 B2 d2 x4 B4 d4 x5 B5 d5 x6 B6 d6 xr' B3' n3' d3' := by
  obtain ⟨t, o2, o4, o5, o6, o3, h1, h2, h3, h4, h5⟩ := h
  exact ⟨t.below2 (hb.mono (by omega)), o2.below hb (by omega), o4.below hb (by omega), o5.below hb (by omega), o6.below hb (by omega), ho, h1, h2, h3, h4, Nat.le_trans h5 hb.size⟩
end

set_option maxHeartbeats 16000000 in
set_option maxRecDepth 100000 in
theorem copyMachine_f (x0 : Int) (x1 : Int) (x2 : List ByteArray) (x3 : List TyRef) (x4 : List TyGiven) (x5 : List TyLoop) (x6 : List TyFrame) (x7 : Int) (x8 : List TyBind) (x9 : List TyCell) (x10 : List TyLevel) (x11 : Bool) (x12 : Bool) (x13 : Bool) (x14 : ByteArray) (x15 : List ByteArray) (x16 : Int) (x17 : Int) (x18 : Int) (x19 : Int) (x20 : ByteArray) (A2 : Option Addr) (c2 : Nat) (A3 : Option Addr) (c3 : Nat) (A4 : Option Addr) (c4 : Nat) (A5 : Option Addr) (c5 : Nat) (A6 : Option Addr) (c6 : Nat) (A8 : Option Addr) (c8 : Nat) (A9 : Option Addr) (c9 : Nat) (A10 : Option Addr) (c10 : Nat) (A15 : Option Addr) (c15 : Nat) (lo hi : Nat) (w : World) (h : shMachine.R w lo hi [.int .i64 x0, .int .i64 x1, .slice A2 x2.length c2, .slice A3 x3.length c3, .slice A4 x4.length c4, .slice A5 x5.length c5, .slice A6 x6.length c6, .int .i64 x7, .slice A8 x8.length c8, .slice A9 x9.length c9, .slice A10 x10.length c10, .bool x11, .bool x12, .bool x13, .string x14, .slice A15 x15.length c15, .int .i64 x16, .int .i64 x17, .int .i64 x18, .int .i64 x19, .string x20] (x0, x1, x2, x3, x4, x5, x6, (x7, x8, x9, x10), x11, x12, (x13, x14, x15), x16, x17, x18, x19, x20)) (hhi : hi ≤ w.heap.size) (hf : shMachine.fit 1048576 (x0, x1, x2, x3, x4, x5, x6, (x7, x8, x9, x10), x11, x12, (x13, x14, x15), x16, x17, x18, x19, x20)) :
    Calls Tryz.prog 30 #[.agg #[.int .i64 x0, .int .i64 x1, .slice A2 x2.length c2, .slice A3 x3.length c3, .slice A4 x4.length c4, .slice A5 x5.length c5, .slice A6 x6.length c6, .int .i64 x7, .slice A8 x8.length c8, .slice A9 x9.length c9, .slice A10 x10.length c10, .bool x11, .bool x12, .bool x13, .string x14, .slice A15 x15.length c15, .int .i64 x16, .int .i64 x17, .int .i64 x18, .int .i64 x19, .string x20]] w fun e w' => ∃ (B2 : Option Addr) (d2 : Nat), ∃ (B3 : Option Addr) (d3 : Nat), ∃ (B4 : Option Addr) (d4 : Nat), ∃ (B5 : Option Addr) (d5 : Nat), ∃ (B6 : Option Addr) (d6 : Nat), ∃ (B8 : Option Addr) (d8 : Nat), ∃ (B9 : Option Addr) (d9 : Nat), ∃ (B10 : Option Addr) (d10 : Nat), ∃ (B15 : Option Addr) (d15 : Nat), e = .returned (.pointer (some ⟨w.heap.size + 1, 0, none⟩)) ∧ Blk w' (w.heap.size + 1) 48 #[.int .i64 x0, .int .i64 x1, .slice B2 x2.length d2, .slice B3 x3.length d3, .slice B4 x4.length d4, .slice B5 x5.length d5, .slice B6 x6.length d6, .int .i64 x7, .slice B8 x8.length d8, .slice B9 x9.length d9, .slice B10 x10.length d10, .bool x11, .bool x12, .bool x13, .string x14, .slice B15 x15.length d15, .int .i64 x16, .int .i64 x17, .int .i64 x18, .int .i64 x19, .string x20] ∧ Own shMachine w' (w.heap.size + 1 + 1) w'.heap.size [.int .i64 x0, .int .i64 x1, .slice B2 x2.length d2, .slice B3 x3.length d3, .slice B4 x4.length d4, .slice B5 x5.length d5, .slice B6 x6.length d6, .int .i64 x7, .slice B8 x8.length d8, .slice B9 x9.length d9, .slice B10 x10.length d10, .bool x11, .bool x12, .bool x13, .string x14, .slice B15 x15.length d15, .int .i64 x16, .int .i64 x17, .int .i64 x18, .int .i64 x19, .string x20] (x0, x1, x2, x3, x4, x5, x6, (x7, x8, x9, x10), x11, x12, (x13, x14, x15), x16, x17, x18, x19, x20) ∧ Below w.heap.size w w' := by
  rw [shMachine_fit] at hf
  obtain ⟨ft0, ft1, ft2, ft3, ft4, ft5, ft6, ft7, ft11, ft12, ft13, ft16, ft17, ft18, ft19, ft20⟩ := hf
  have HF2 := Lib.hid ft2; have HA2 := Lib.hid (shMachine_f2 h)
  have HF3 := Lib.hid ft3; have HA3 := Lib.hid (shMachine_f3 h)
  have HF4 := Lib.hid ft4; have HA4 := Lib.hid (shMachine_f4 h)
  have HF5 := Lib.hid ft5; have HA5 := Lib.hid (shMachine_f5 h)
  have HF6 := Lib.hid ft6; have HA6 := Lib.hid (shMachine_f6 h)
  have HF7 := Lib.hid ft7; have HA7 := Lib.hid (shMachine_f7 h)
  have HF13 := Lib.hid ft13; have HA13 := Lib.hid (shMachine_f13 h)
  have hn3 := ft3.1
  have HONE := Lib.hid (shMachine.R_one h)
  clear h ft0 ft1 ft2 ft3 ft4 ft5 ft6 ft7 ft11 ft12 ft13 ft16 ft17 ft18 ft19 ft20
  have T0 := Lib.hid (Two.start w 48 48 #[.int .i64 x0, .int .i64 x1, .slice A2 x2.length c2, .slice A3 x3.length c3, .slice A4 x4.length c4, .slice A5 x5.length c5, .slice A6 x6.length c6, .int .i64 x7, .slice A8 x8.length c8, .slice A9 x9.length c9, .slice A10 x10.length c10, .bool x11, .bool x12, .bool x13, .string x14, .slice A15 x15.length c15, .int .i64 x16, .int .i64 x17, .int .i64 x18, .int .i64 x19, .string x20] #[.int .i64 0, .int .i64 0, .slice none 0 0, .slice none 0 0, .slice none 0 0, .slice none 0 0, .slice none 0 0, .int .i64 0, .slice none 0 0, .slice none 0 0, .slice none 0 0, .bool false, .bool false, .bool false, .string ⟨#[]⟩, .slice none 0 0, .int .i64 0, .int .i64 0, .int .i64 0, .int .i64 0, .string ⟨#[]⟩])
  have B0 := Lib.hid (Blk.new w 48 #[.int .i64 x0, .int .i64 x1, .slice A2 x2.length c2, .slice A3 x3.length c3, .slice A4 x4.length c4, .slice A5 x5.length c5, .slice A6 x6.length c6, .int .i64 x7, .slice A8 x8.length c8, .slice A9 x9.length c9, .slice A10 x10.length c10, .bool x11, .bool x12, .bool x13, .string x14, .slice A15 x15.length c15, .int .i64 x16, .int .i64 x17, .int .i64 x18, .int .i64 x19, .string x20])
  go_enter Tryz.func30, Tryz.ntmps30
  go_upto_region 1 with fail
  refine wp_region_list ?_
  refine wpList_loadAll rfl 48 (.tmp 1) rfl w.heap.size rfl B0.out Tryz.underlying48 rfl (by kernel_rfl) ?_
  simp only [Go.Act.put, List.setIfInBounds_toArray, List.set_cons_zero, List.set_cons_succ]
  go_upto_region 2 with (first | fail | (refine wpList_storeAll rfl 48 (.tmp 3) (.tmp 6) rfl (w.heap.size + 1) #[.int .i64 x0, .int .i64 x1, .slice A2 x2.length c2, .slice A3 x3.length c3, .slice A4 x4.length c4, .slice A5 x5.length c5, .slice A6 x6.length c6, .int .i64 x7, .slice A8 x8.length c8, .slice A9 x9.length c9, .slice A10 x10.length c10, .bool x11, .bool x12, .bool x13, .string x14, .slice A15 x15.length c15, .int .i64 x16, .int .i64 x17, .int .i64 x18, .int .i64 x19, .string x20] rfl rfl T0.out.2.1 (by kernel_rfl) rfl HONE.out ?_; intro w0 hb0 ho0 hz0))
  have T1 := Lib.hid (show Two w w0 48 48 #[.int .i64 x0, .int .i64 x1, .slice A2 x2.length c2, .slice A3 x3.length c3, .slice A4 x4.length c4, .slice A5 x5.length c5, .slice A6 x6.length c6, .int .i64 x7, .slice A8 x8.length c8, .slice A9 x9.length c9, .slice A10 x10.length c10, .bool x11, .bool x12, .bool x13, .string x14, .slice A15 x15.length c15, .int .i64 x16, .int .i64 x17, .int .i64 x18, .int .i64 x19, .string x20] #[.int .i64 x0, .int .i64 x1, .slice A2 x2.length c2, .slice A3 x3.length c3, .slice A4 x4.length c4, .slice A5 x5.length c5, .slice A6 x6.length c6, .int .i64 x7, .slice A8 x8.length c8, .slice A9 x9.length c9, .slice A10 x10.length c10, .bool x11, .bool x12, .bool x13, .string x14, .slice A15 x15.length c15, .int .i64 x16, .int .i64 x17, .int .i64 x18, .int .i64 x19, .string x20] from ⟨T0.out.1.outOf ho0 (by omega), hb0, T0.out.2.2.trans (ho0.below1 (by omega) T0.out.2.2.size)⟩)
  have HZ0 := Lib.hid (show w0.heap.size = w.heap.size + 1 + 1 by rw [hz0]; simp)
  clear T0 B0 hb0 ho0 hz0
  have T0 := T1
  clear T1
  refine AnyT.region (fun _ => false) (fun W => ∀ i, W.cell? ⟨w.heap.size, i, none⟩ = (#[.int .i64 x0, .int .i64 x1, .slice A2 x2.length c2, .slice A3 x3.length c3, .slice A4 x4.length c4, .slice A5 x5.length c5, .slice A6 x6.length c6, .int .i64 x7, .slice A8 x8.length c8, .slice A9 x9.length c9, .slice A10 x10.length c10, .bool x11, .bool x12, .bool x13, .string x14, .slice A15 x15.length c15, .int .i64 x16, .int .i64 x17, .int .i64 x18, .int .i64 x19, .string x20] : Array Value)[i]?) (by kernel_rfl) (T0.out.1.drewN 1).cell (fun hHeld => ?_)
  have TD := Lib.hid (show Two w w0.drew 48 48 #[.int .i64 x0, .int .i64 x1, .slice A2 x2.length c2, .slice A3 x3.length c3, .slice A4 x4.length c4, .slice A5 x5.length c5, .slice A6 x6.length c6, .int .i64 x7, .slice A8 x8.length c8, .slice A9 x9.length c9, .slice A10 x10.length c10, .bool x11, .bool x12, .bool x13, .string x14, .slice A15 x15.length c15, .int .i64 x16, .int .i64 x17, .int .i64 x18, .int .i64 x19, .string x20] #[.int .i64 x0, .int .i64 x1, .slice A2 x2.length c2, .slice A3 x3.length c3, .slice A4 x4.length c4, .slice A5 x5.length c5, .slice A6 x6.length c6, .int .i64 x7, .slice A8 x8.length c8, .slice A9 x9.length c9, .slice A10 x10.length c10, .bool x11, .bool x12, .bool x13, .string x14, .slice A15 x15.length c15, .int .i64 x16, .int .i64 x17, .int .i64 x18, .int .i64 x19, .string x20] from ⟨T0.out.1.drewN 1, T0.out.2.1.drewN 1, T0.out.2.2.drew⟩)
  have HZD := Lib.hid (show w0.drew.heap.size = w.heap.size + 1 + 1 from HZ0.out)
  clear T0 HZ0
  generalize w0.drew = w1 at *
  ((refine AnyT.takeAny 0 7 ?_ rfl (by kernel_rfl) (by kernel_rfl) (by kernel_rfl) rfl rfl (fun _ _ _ _ h => h) rfl ?_ (by assumption) ?_); rotate_left; (intro w; go_simp; (try (with_reducible rfl))); simp only [Act.put, List.setIfInBounds_toArray, List.set_cons_zero, List.set_cons_succ])
  ((refine AnyT.take 1 8 ?_ rfl (by kernel_rfl) (by kernel_rfl) (by kernel_rfl) (by kernel_rfl) rfl (by kernel_rfl) rfl (fun _ _ _ _ h => h) rfl ?_ (by assumption) ?_); rotate_left; (intro w hSw; (try dsimp only at hSw); go_simp; (try (with_reducible rfl))); simp only [Act.put, List.setIfInBounds_toArray, List.set_cons_zero, List.set_cons_succ])
  ((refine AnyT.takeAny 3 10 ?_ rfl (by kernel_rfl) (by kernel_rfl) (by kernel_rfl) rfl rfl (fun _ _ _ _ h => h) rfl ?_ (by assumption) ?_); rotate_left; (intro w; go_simp; (try (with_reducible rfl))); simp only [Act.put, List.setIfInBounds_toArray, List.set_cons_zero, List.set_cons_succ])
  ((refine AnyT.take 4 11 ?_ rfl (by kernel_rfl) (by kernel_rfl) (by kernel_rfl) (by kernel_rfl) rfl (by kernel_rfl) rfl (fun _ _ _ _ h => h) rfl ?_ (by assumption) ?_); rotate_left; (intro w hSw; (try dsimp only at hSw); go_simp; (try (with_reducible rfl))); simp only [Act.put, List.setIfInBounds_toArray, List.set_cons_zero, List.set_cons_succ])
  ((refine AnyT.takeAny 6 13 ?_ rfl (by kernel_rfl) (by kernel_rfl) (by kernel_rfl) rfl rfl (fun _ _ _ _ h => h) rfl ?_ (by assumption) ?_); rotate_left; (intro w; go_simp; (try (with_reducible rfl))); simp only [Act.put, List.setIfInBounds_toArray, List.set_cons_zero, List.set_cons_succ])
  ((refine AnyT.take 7 14 ?_ rfl (by kernel_rfl) (by kernel_rfl) (by kernel_rfl) (by kernel_rfl) rfl (by kernel_rfl) rfl (fun _ _ _ _ h => h) rfl ?_ (by assumption) ?_); rotate_left; (intro w hSw; (try dsimp only at hSw); go_simp; (try (with_reducible rfl))); simp only [Act.put, List.setIfInBounds_toArray, List.set_cons_zero, List.set_cons_succ])
  ((refine AnyT.takeAny 9 16 ?_ rfl (by kernel_rfl) (by kernel_rfl) (by kernel_rfl) rfl rfl (fun _ _ _ _ h => h) rfl ?_ (by assumption) ?_); rotate_left; (intro w; go_simp; (try (with_reducible rfl))); simp only [Act.put, List.setIfInBounds_toArray, List.set_cons_zero, List.set_cons_succ])
  ((refine AnyT.take 10 17 ?_ rfl (by kernel_rfl) (by kernel_rfl) (by kernel_rfl) (by kernel_rfl) rfl (by kernel_rfl) rfl (fun _ _ _ _ h => h) rfl ?_ (by assumption) ?_); rotate_left; (intro w hSw; (try dsimp only at hSw); go_simp; (try (with_reducible rfl))); simp only [Act.put, List.setIfInBounds_toArray, List.set_cons_zero, List.set_cons_succ])
  ((refine AnyT.one (i := 2) (by kernel_rfl) rfl (fun K hK => ?_)))
  go_simp
  refine (cloneString_f A2 c2 x2 lo hi _ ((Sh.row 9 shS).R_below HA2.out TD.out.2.2 hhi) (Nat.le_trans hhi TD.out.2.2.size) HF2.out).mono ?_
  rintro e2 w2 ⟨B2, d2, rfl, ho, hb⟩
  go_simp
  have TD2 := Lib.hid (TD.out.call hb)
  have hs2 := hb.size
  rw [HZD.out] at hs2 ho
  have HO2 := Lib.hid ho
  refine hK.out _ _ TD2.out.1.cell (fun hHeld => ?_)
  clear hK K ho hb TD
  (try simp only [Go.Act.put, List.setIfInBounds_toArray, List.set_cons_zero, List.set_cons_succ])
  ((refine AnyT.one (i := 5) (by kernel_rfl) rfl (fun K hK => ?_)))
  go_simp
  refine (cloneGiven_f A4 c4 x4 lo hi _ ((Sh.row 109 shGiven).R_below HA4.out TD2.out.2.2 hhi) (Nat.le_trans hhi TD2.out.2.2.size) HF4.out).mono ?_
  rintro e3 w3 ⟨B4, d4, rfl, ho, hb⟩
  go_simp
  have TD3 := Lib.hid (TD2.out.call hb)
  have hs3 := hb.size
  have HO4 := Lib.hid ho
  have HO2 := Lib.hid (HO2.out.below hb (by omega))
  refine hK.out _ _ TD3.out.1.cell (fun hHeld => ?_)
  clear hK K ho hb TD2
  (try simp only [Go.Act.put, List.setIfInBounds_toArray, List.set_cons_zero, List.set_cons_succ])
  ((refine AnyT.one (i := 8) (by kernel_rfl) rfl (fun K hK => ?_)))
  go_simp
  refine (cloneLoop_f A5 c5 x5 lo hi _ ((Sh.row 111 shLoop).R_below HA5.out TD3.out.2.2 hhi) (Nat.le_trans hhi TD3.out.2.2.size) HF5.out).mono ?_
  rintro e4 w4 ⟨B5, d5, rfl, ho, hb⟩
  go_simp
  have TD4 := Lib.hid (TD3.out.call hb)
  have hs4 := hb.size
  have HO5 := Lib.hid ho
  have HO2 := Lib.hid (HO2.out.below hb (by omega))
  have HO4 := Lib.hid (HO4.out.below hb (by omega))
  refine hK.out _ _ TD4.out.1.cell (fun hHeld => ?_)
  clear hK K ho hb TD3
  (try simp only [Go.Act.put, List.setIfInBounds_toArray, List.set_cons_zero, List.set_cons_succ])
  ((refine AnyT.one (i := 11) (by kernel_rfl) rfl (fun K hK => ?_)))
  go_simp
  refine (cloneFrame_f A6 c6 x6 lo hi _ ((Sh.row 113 shFrame).R_below HA6.out TD4.out.2.2 hhi) (Nat.le_trans hhi TD4.out.2.2.size) HF6.out).mono ?_
  rintro e5 w5 ⟨B6, d6, rfl, ho, hb⟩
  go_simp
  have TD5 := Lib.hid (TD4.out.call hb)
  have hs5 := hb.size
  have HO6 := Lib.hid ho
  have HO2 := Lib.hid (HO2.out.below hb (by omega))
  have HO4 := Lib.hid (HO4.out.below hb (by omega))
  have HO5 := Lib.hid (HO5.out.below hb (by omega))
  refine hK.out _ _ TD5.out.1.cell (fun hHeld => ?_)
  clear hK K ho hb TD4
  (try simp only [Go.Act.put, List.setIfInBounds_toArray, List.set_cons_zero, List.set_cons_succ])
  have HM0 := Lib.hid (show MacMid w w5 #[.int .i64 x0, .int .i64 x1, .slice A2 x2.length c2, .slice A3 x3.length c3, .slice A4 x4.length c4, .slice A5 x5.length c5, .slice A6 x6.length c6, .int .i64 x7, .slice A8 x8.length c8, .slice A9 x9.length c9, .slice A10 x10.length c10, .bool x11, .bool x12, .bool x13, .string x14, .slice A15 x15.length c15, .int .i64 x16, .int .i64 x17, .int .i64 x18, .int .i64 x19, .string x20] #[.int .i64 x0, .int .i64 x1, .slice A2 x2.length c2, .slice A3 x3.length c3, .slice A4 x4.length c4, .slice A5 x5.length c5, .slice A6 x6.length c6, .int .i64 x7, .slice A8 x8.length c8, .slice A9 x9.length c9, .slice A10 x10.length c10, .bool x11, .bool x12, .bool x13, .string x14, .slice A15 x15.length c15, .int .i64 x16, .int .i64 x17, .int .i64 x18, .int .i64 x19, .string x20] w2.heap.size w3.heap.size w4.heap.size w5.heap.size x2 B2 d2 x4 B4 d4 x5 B5 d5 x6 B6 d6 [] none 0 0 from ⟨TD5.out, HO2.out, HO4.out, HO5.out, HO6.out, Own.nil_row _ _ _, hs2, hs3, hs4, hs5, Nat.le_refl _⟩)
  clear TD5 HO2 HO4 HO5 HO6 HZD
  generalize w2.heap.size = a1 at *
  generalize w3.heap.size = a2 at *
  generalize w4.heap.size = a3 at *
  have HA4' := Lib.hid (show w5.heap.size = w5.heap.size from rfl)
  generalize hq : w5.heap.size = a4 at *
  clear HA4' hq
  ((refine AnyT.takeAny 12 19 ?_ rfl (by kernel_rfl) (by kernel_rfl) (by kernel_rfl) rfl rfl (fun _ _ _ _ h => h) rfl ?_ (by assumption) ?_); rotate_left; (intro w; go_simp; (try (with_reducible rfl))); simp only [Act.put, List.setIfInBounds_toArray, List.set_cons_zero, List.set_cons_succ])
  have g := HM0.out.two.2.1.cell; have z := HM0.out.two.2.1.frozen
  ((refine AnyT.one (i := 13) (by kernel_rfl) rfl (fun K hK => ?_)))
  go_simp
  have HM1 := Lib.hid (HM0.out.store 2 (.slice B2 x2.length d2))
  refine hK.out _ _ HM1.out.two.1.cell (fun hHeld => ?_)
  clear hK K g z HM0
  (try simp only [Go.Act.put, List.setIfInBounds_toArray, List.set_cons_zero, List.set_cons_succ])
  ((refine AnyT.takeAny 14 20 ?_ rfl (by kernel_rfl) (by kernel_rfl) (by kernel_rfl) rfl rfl (fun _ _ _ _ h => h) rfl ?_ (by assumption) ?_); rotate_left; (intro w; go_simp; (try (with_reducible rfl))); simp only [Act.put, List.setIfInBounds_toArray, List.set_cons_zero, List.set_cons_succ])
  have g := HM1.out.two.2.1.cell; have z := HM1.out.two.2.1.frozen
  ((refine AnyT.one (i := 15) (by kernel_rfl) rfl (fun K hK => ?_)))
  go_simp
  have HM2 := Lib.hid (HM1.out.store 4 (.slice B4 x4.length d4))
  refine hK.out _ _ HM2.out.two.1.cell (fun hHeld => ?_)
  clear hK K g z HM1
  (try simp only [Go.Act.put, List.setIfInBounds_toArray, List.set_cons_zero, List.set_cons_succ])
  ((refine AnyT.takeAny 16 21 ?_ rfl (by kernel_rfl) (by kernel_rfl) (by kernel_rfl) rfl rfl (fun _ _ _ _ h => h) rfl ?_ (by assumption) ?_); rotate_left; (intro w; go_simp; (try (with_reducible rfl))); simp only [Act.put, List.setIfInBounds_toArray, List.set_cons_zero, List.set_cons_succ])
  have g := HM2.out.two.2.1.cell; have z := HM2.out.two.2.1.frozen
  ((refine AnyT.one (i := 17) (by kernel_rfl) rfl (fun K hK => ?_)))
  go_simp
  have HM3 := Lib.hid (HM2.out.store 5 (.slice B5 x5.length d5))
  refine hK.out _ _ HM3.out.two.1.cell (fun hHeld => ?_)
  clear hK K g z HM2
  (try simp only [Go.Act.put, List.setIfInBounds_toArray, List.set_cons_zero, List.set_cons_succ])
  ((refine AnyT.takeAny 18 22 ?_ rfl (by kernel_rfl) (by kernel_rfl) (by kernel_rfl) rfl rfl (fun _ _ _ _ h => h) rfl ?_ (by assumption) ?_); rotate_left; (intro w; go_simp; (try (with_reducible rfl))); simp only [Act.put, List.setIfInBounds_toArray, List.set_cons_zero, List.set_cons_succ])
  have g := HM3.out.two.2.1.cell; have z := HM3.out.two.2.1.frozen
  ((refine AnyT.one (i := 19) (by kernel_rfl) rfl (fun K hK => ?_)))
  go_simp
  have HM4 := Lib.hid (HM3.out.store 6 (.slice B6 x6.length d6))
  refine hK.out _ _ HM4.out.two.1.cell (fun hHeld => ?_)
  clear hK K g z HM3
  (try simp only [Go.Act.put, List.setIfInBounds_toArray, List.set_cons_zero, List.set_cons_succ])
  refine AnyT.done (by kernel_rfl) ?_ _
  have HM := Lib.hid (show MacMid w ((((w5.setCell ⟨w.heap.size + 1, 2, none⟩ (.slice B2 x2.length d2)).setCell ⟨w.heap.size + 1, 4, none⟩ (.slice B4 x4.length d4)).setCell ⟨w.heap.size + 1, 5, none⟩ (.slice B5 x5.length d5)).setCell ⟨w.heap.size + 1, 6, none⟩ (.slice B6 x6.length d6)) #[.int .i64 x0, .int .i64 x1, .slice A2 x2.length c2, .slice A3 x3.length c3, .slice A4 x4.length c4, .slice A5 x5.length c5, .slice A6 x6.length c6, .int .i64 x7, .slice A8 x8.length c8, .slice A9 x9.length c9, .slice A10 x10.length c10, .bool x11, .bool x12, .bool x13, .string x14, .slice A15 x15.length c15, .int .i64 x16, .int .i64 x17, .int .i64 x18, .int .i64 x19, .string x20] #[.int .i64 x0, .int .i64 x1, .slice B2 x2.length d2, .slice A3 x3.length c3, .slice B4 x4.length d4, .slice B5 x5.length d5, .slice B6 x6.length d6, .int .i64 x7, .slice A8 x8.length c8, .slice A9 x9.length c9, .slice A10 x10.length c10, .bool x11, .bool x12, .bool x13, .string x14, .slice A15 x15.length c15, .int .i64 x16, .int .i64 x17, .int .i64 x18, .int .i64 x19, .string x20] a1 a2 a3 a4 x2 B2 d2 x4 B4 d4 x5 B5 d5 x6 B6 d6 [] none 0 0 from HM4.out)
  clear HM4 hHeld
  generalize ((((w5.setCell ⟨w.heap.size + 1, 2, none⟩ (.slice B2 x2.length d2)).setCell ⟨w.heap.size + 1, 4, none⟩ (.slice B4 x4.length d4)).setCell ⟨w.heap.size + 1, 5, none⟩ (.slice B5 x5.length d5)).setCell ⟨w.heap.size + 1, 6, none⟩ (.slice B6 x6.length d6)) = w6 at *
  have HM0 := Lib.hid (show MacMid w (w6.setCell ⟨w.heap.size + 1, 3, none⟩ (.slice none 0 0)) #[.int .i64 x0, .int .i64 x1, .slice A2 x2.length c2, .slice A3 x3.length c3, .slice A4 x4.length c4, .slice A5 x5.length c5, .slice A6 x6.length c6, .int .i64 x7, .slice A8 x8.length c8, .slice A9 x9.length c9, .slice A10 x10.length c10, .bool x11, .bool x12, .bool x13, .string x14, .slice A15 x15.length c15, .int .i64 x16, .int .i64 x17, .int .i64 x18, .int .i64 x19, .string x20] #[.int .i64 x0, .int .i64 x1, .slice B2 x2.length d2, .slice none 0 0, .slice B4 x4.length d4, .slice B5 x5.length d5, .slice B6 x6.length d6, .int .i64 x7, .slice A8 x8.length c8, .slice A9 x9.length c9, .slice A10 x10.length c10, .bool x11, .bool x12, .bool x13, .string x14, .slice A15 x15.length c15, .int .i64 x16, .int .i64 x17, .int .i64 x18, .int .i64 x19, .string x20] a1 a2 a3 a4 x2 B2 d2 x4 B4 d4 x5 B5 d5 x6 B6 d6 [] none 0 0 from HM.out.store 3 (.slice none 0 0))
  have g := HM.out.two.2.1.cell; have z := HM.out.two.2.1.frozen; have f0 := (HM.out.two.store1 3 (.slice none 0 0)).1.cell
  clear HM
  go_wp2_with fail
  clear g z f0
  generalize (w6.setCell ⟨w.heap.size + 1, 3, none⟩ (.slice none 0 0)) = w7 at *
  go_loopw [27] (fun i wr => ∃ (k : Nat) (B : Option Addr) (d : Nat), k ≤ x3.length ∧ i = .int .i64 k ∧ MacMid w wr #[.int .i64 x0, .int .i64 x1, .slice A2 x2.length c2, .slice A3 x3.length c3, .slice A4 x4.length c4, .slice A5 x5.length c5, .slice A6 x6.length c6, .int .i64 x7, .slice A8 x8.length c8, .slice A9 x9.length c9, .slice A10 x10.length c10, .bool x11, .bool x12, .bool x13, .string x14, .slice A15 x15.length c15, .int .i64 x16, .int .i64 x17, .int .i64 x18, .int .i64 x19, .string x20] #[.int .i64 x0, .int .i64 x1, .slice B2 x2.length d2, .slice B k d, .slice B4 x4.length d4, .slice B5 x5.length d5, .slice B6 x6.length d6, .int .i64 x7, .slice A8 x8.length c8, .slice A9 x9.length c9, .slice A10 x10.length c10, .bool x11, .bool x12, .bool x13, .string x14, .slice A15 x15.length c15, .int .i64 x16, .int .i64 x17, .int .i64 x18, .int .i64 x19, .string x20] a1 a2 a3 a4 x2 B2 d2 x4 B4 d4 x5 B5 d5 x6 B6 d6 (x3.take k) B k d) (fun i _ => x3.length - (intOf i).toNat)
  case atStart => exact ⟨0, none, 0, Nat.zero_le _, rfl, HM0.out⟩
  case round =>
    obtain ⟨k, B, d, hk, rfl, hM⟩ := hrel
    by_cases hlt : k < x3.length
    · obtain ⟨-, b, off, rfl, hb1, hb2, A5, c5, e100, e101, e102, hX⟩ := shRef_at ((Sh.row 46 shRef).R_below HA3.out hM.two.2.2 hhi) hlt
      have HX := Lib.hid (HF3.out.2 _ (getD_in (d := shRef.d) hlt))
      have HTK := Lib.hid (take_succ_getD shRef hlt)
      generalize x3.getD k shRef.d = X at *
      obtain ⟨y0, y1, y2⟩ := X
      dsimp only at e100 e101 e102
      have hsz := hM.two.2.2.size
      have hwi : hi ≤ wr.heap.size := Nat.le_trans hhi hsz
      have hg := hM.two.2.1.lt
      have hh1 := hM.h1; have hh2 := hM.h2; have hh3 := hM.h3; have hh4 := hM.h4; have hh5 := hM.h5
      have hbA := (Below.refl wr.heap.size wr).alloc (Nat.le_refl _) (.cells #[.bool y0, .string y1, .slice A5 y2.length c5] 46)
      have B5x := Lib.hid (Blk.new wr 46 #[.bool y0, .string y1, .slice A5 y2.length c5])
      have HR := Lib.hid (shRef.R_below hX hbA hwi)
      have HBA := Lib.hid hbA
      have HZA := Lib.hid (show (wr.alloc (.cells #[.bool y0, .string y1, .slice A5 y2.length c5] 46)).heap.size = wr.heap.size + 1 by simp)
      have HMM := Lib.hid hM
      clear hbA hX hM
      go_upto_region 7 with fail
      clear e100 e101 e102
      generalize (wr.alloc (.cells #[.bool y0, .string y1, .slice A5 y2.length c5] 46)) = wA at *
      refine AnyT.region (fun j => j == 7) (fun W => (∀ i, W.cell? ⟨w.heap.size + 1, i, none⟩ = (#[.int .i64 x0, .int .i64 x1, .slice B2 x2.length d2, .slice B k d, .slice B4 x4.length d4, .slice B5 x5.length d5, .slice B6 x6.length d6, .int .i64 x7, .slice A8 x8.length c8, .slice A9 x9.length c9, .slice A10 x10.length c10, .bool x11, .bool x12, .bool x13, .string x14, .slice A15 x15.length c15, .int .i64 x16, .int .i64 x17, .int .i64 x18, .int .i64 x19, .string x20] : Array Value)[i]?) ∧ (∀ i, W.cell? ⟨wr.heap.size, i, none⟩ = (#[.bool y0, .string y1, .slice A5 y2.length c5] : Array Value)[i]?)) (by kernel_rfl) ⟨((HMM.out.two.2.1.below HBA.out hg).drewN 1).cell, (B5x.out.drewN 1).cell⟩ (fun hHeld => ?_)
      have HBD := Lib.hid (show Below wr.heap.size wr wA.drew from HBA.out.drew)
      have HRD := Lib.hid (show shRef.R wA.drew lo hi _ _ from shRef.R_below HR.out (below_drewN' _ 1) (by rw [HZA.out]; omega))
      have HZD := Lib.hid (show wA.drew.heap.size = wr.heap.size + 1 from HZA.out)
      have BD := Lib.hid (show Blk wA.drew _ _ _ from B5x.out.drewN 1)
      clear HBA HR HZA B5x
      generalize wA.drew = wD at *
      ((refine AnyT.takeAny 0 31 ?_ rfl (by kernel_rfl) (by kernel_rfl) (by kernel_rfl) rfl rfl (fun _ _ _ _ h => h) rfl ?_ (by assumption) ?_); rotate_left; (intro w; go_simp; (try (with_reducible rfl))); simp only [Act.put, List.setIfInBounds_toArray, List.set_cons_zero, List.set_cons_succ])
      ((refine AnyT.take 1 32 ?_ rfl (by kernel_rfl) (by kernel_rfl) (by kernel_rfl) (by kernel_rfl) rfl (by kernel_rfl) rfl (fun _ _ _ _ h => h) rfl ?_ (by assumption) ?_); rotate_left; (intro w hSw; (try dsimp only at hSw); go_simp; (try (with_reducible rfl))); simp only [Act.put, List.setIfInBounds_toArray, List.set_cons_zero, List.set_cons_succ])
      ((refine AnyT.take 2 33 ?_ rfl (by kernel_rfl) (by kernel_rfl) (by kernel_rfl) (by kernel_rfl) rfl (by kernel_rfl) rfl (fun _ _ _ _ h => h) rfl ?_ (by assumption) ?_); rotate_left; (intro w hSw; (try dsimp only at hSw); go_simp; (try (with_reducible rfl))); simp only [Act.put, List.setIfInBounds_toArray, List.set_cons_zero, List.set_cons_succ])
      ((refine AnyT.one (i := 3) (by kernel_rfl) rfl (fun K hK => ?_)))
      go_simp
      refine (copyRef_f y0 y1 y2 A5 c5 lo hi _ HRD.out (by rw [HZD.out]; omega) HX.out).mono ?_
      rintro e6 w8 ⟨B6', d6', rfl, ho6, hb6⟩
      go_simp
      have HB6 := Lib.hid (HBD.out.trans (hb6.mono HBD.out.size))
      have B56 := Lib.hid (BD.out.below hb6 BD.out.lt)
      have HM6 := Lib.hid (HMM.out.call HB6.out)
      have hs6 := hb6.size
      rw [HZD.out] at hs6 ho6
      have HE6 := Lib.hid ho6
      have HC6 := Lib.hid (HMM.out.o3.below HB6.out (Nat.le_refl _))
      refine hK.out _ _ ⟨HM6.out.two.2.1.cell, B56.out.cell⟩ (fun hHeld => ?_)
      clear hK K hb6 ho6 HBD BD
      (try simp only [Go.Act.put, List.setIfInBounds_toArray, List.set_cons_zero, List.set_cons_succ])
      ((refine AnyT.one (i := 4) (by kernel_rfl) rfl (fun K hK => ?_)))
      go_simp
      refine hK.out _ _ ⟨(HM6.out.two.2.1.alloc _).cell, (B56.out.alloc _).cell⟩ (fun hHeld => ?_)
      clear hK K
      (try simp only [Go.Act.put, List.setIfInBounds_toArray, List.set_cons_zero, List.set_cons_succ])
      ((refine AnyT.one (i := 5) (by kernel_rfl) rfl (fun K hK => ?_)))
      refine step_grow (s := shRef) rfl (.tmp 32) (.tmp 35) 37 rfl Tryz.underlying37 rfl (by decide) (by decide) infoRef w8 a4 wr.heap.size (wr.heap.size + 1) w8.heap.size B k d (x3.take k) [.bool y0, .string y1, .slice B6' y2.length d6'] (y0, y1, y2) rfl HC6.out HE6.out (by omega) (by omega) (Nat.le_refl _) (by omega) rfl (by omega) ?_
      intro B7 d7 w9 ho7 hb7 hs7 hk7
      rw [← HTK.out] at ho7
      have HM7 := Lib.hid (HM6.out.grow hb7 ho7)
      have B57 := Lib.hid (show Blk w9 wr.heap.size 46 #[.bool y0, .string y1, .slice A5 y2.length c5] from (hk7 _ (Nat.le_refl _) (by omega)).trans B56.out)
      refine hK.out _ _ ⟨HM7.out.two.2.1.cell, B57.out.cell⟩ (fun hHeld => ?_)
      clear hK K hb7 ho7 hk7
      (try simp only [Go.Act.put, List.setIfInBounds_toArray, List.set_cons_zero, List.set_cons_succ])
      ((refine AnyT.takeAny 6 37 ?_ rfl (by kernel_rfl) (by kernel_rfl) (by kernel_rfl) rfl rfl (fun _ _ _ _ h => h) rfl ?_ (by assumption) ?_); rotate_left; (intro w; go_simp; (try (with_reducible rfl))); simp only [Act.put, List.setIfInBounds_toArray, List.set_cons_zero, List.set_cons_succ])
      have f7 := HM7.out.two.2.1.cell
      have z7 := HM7.out.two.2.1.frozen
      ((refine AnyT.last (i := 7) (by kernel_rfl) rfl (by kernel_rfl) (fun K hK => ?_)))
      go_simp
      refine hK.out _ _ ?_
      clear hK K
      (try simp only [Go.Act.put, List.setIfInBounds_toArray, List.set_cons_zero, List.set_cons_succ])
      refine AnyT.done (by kernel_rfl) ?_ _
      clear f7 z7
      go_wp2_with fail
      go_roundw
      case rel => exact ⟨k + 1, B7, d7, by omega, by go_num, HM7.out.store 3 (.slice B7 (k + 1) d7)⟩
      case measure => simp [intOf]; omega
    · obtain rfl : k = x3.length := by omega
      rw [List.take_length] at hM
      have HM := Lib.hid hM
      have hh1 := hM.h1; have hh2 := hM.h2; have hh3 := hM.h3; have hh4 := hM.h4; have hh5 := hM.h5
      clear hM
      go_upto_region 9 with fail
      refine AnyT.region (fun _ => false) (fun W => ∀ i, W.cell? ⟨w.heap.size, i, none⟩ = (#[.int .i64 x0, .int .i64 x1, .slice A2 x2.length c2, .slice A3 x3.length c3, .slice A4 x4.length c4, .slice A5 x5.length c5, .slice A6 x6.length c6, .int .i64 x7, .slice A8 x8.length c8, .slice A9 x9.length c9, .slice A10 x10.length c10, .bool x11, .bool x12, .bool x13, .string x14, .slice A15 x15.length c15, .int .i64 x16, .int .i64 x17, .int .i64 x18, .int .i64 x19, .string x20] : Array Value)[i]?) (by kernel_rfl) (HM.out.two.1.drewN 1).cell (fun hHeld => ?_)
      have HD := Lib.hid (show MacMid w wr.drew _ _ a1 a2 a3 a4 x2 B2 d2 x4 B4 d4 x5 B5 d5 x6 B6 d6 x3 B x3.length d from HM.out.call (below_drewN' wr 1))
      have hh5 : a4 ≤ wr.drew.heap.size := hh5
      clear HM
      generalize wr.drew = wD at *
      ((refine AnyT.takeAny 0 39 ?_ rfl (by kernel_rfl) (by kernel_rfl) (by kernel_rfl) rfl rfl (fun _ _ _ _ h => h) rfl ?_ (by assumption) ?_); rotate_left; (intro w; go_simp; (try (with_reducible rfl))); simp only [Act.put, List.setIfInBounds_toArray, List.set_cons_zero, List.set_cons_succ])
      ((refine AnyT.take 1 40 ?_ rfl (by kernel_rfl) (by kernel_rfl) (by kernel_rfl) (by kernel_rfl) rfl (by kernel_rfl) rfl (fun _ _ _ _ h => h) rfl ?_ (by assumption) ?_); rotate_left; (intro w hSw; (try dsimp only at hSw); go_simp; (try (with_reducible rfl))); simp only [Act.put, List.setIfInBounds_toArray, List.set_cons_zero, List.set_cons_succ])
      ((refine AnyT.takeAny 3 42 ?_ rfl (by kernel_rfl) (by kernel_rfl) (by kernel_rfl) rfl rfl (fun _ _ _ _ h => h) rfl ?_ (by assumption) ?_); rotate_left; (intro w; go_simp; (try (with_reducible rfl))); simp only [Act.put, List.setIfInBounds_toArray, List.set_cons_zero, List.set_cons_succ])
      ((refine AnyT.take 4 43 ?_ rfl (by kernel_rfl) (by kernel_rfl) (by kernel_rfl) (by kernel_rfl) rfl (by kernel_rfl) rfl (fun _ _ _ _ h => h) rfl ?_ (by assumption) ?_); rotate_left; (intro w hSw; (try dsimp only at hSw); go_simp; (try (with_reducible rfl))); simp only [Act.put, List.setIfInBounds_toArray, List.set_cons_zero, List.set_cons_succ])
      ((refine AnyT.one (i := 2) (by kernel_rfl) rfl (fun K hK => ?_)))
      go_simp
      refine (copyRef_f x13 x14 x15 A15 c15 lo hi _ (shRef.R_below HA13.out HD.out.two.2.2 hhi) (Nat.le_trans hhi HD.out.two.2.2.size) HF13.out).mono ?_
      rintro ea wa ⟨B15, d15, rfl, hoa, hba⟩
      go_simp
      have HMa := Lib.hid (HD.out.call hba)
      have HOa := Lib.hid hoa
      have hsa := hba.size
      have HR3 := Lib.hid (HD.out.o3.below hba (Nat.le_refl _))
      refine hK.out _ _ HMa.out.two.1.cell (fun hHeld => ?_)
      clear hK K hoa hba
      (try simp only [Go.Act.put, List.setIfInBounds_toArray, List.set_cons_zero, List.set_cons_succ])
      ((refine AnyT.one (i := 5) (by kernel_rfl) rfl (fun K hK => ?_)))
      go_simp
      refine (copyLocals_f x7 x8 x9 x10 A8 c8 A9 c9 A10 c10 lo hi _ (shLocals.R_below HA7.out HMa.out.two.2.2 hhi) (Nat.le_trans hhi HMa.out.two.2.2.size) HF7.out).mono ?_
      rintro eb wb ⟨p, B8, d8, B9, d9, B10, d10, rfl, hpb, hpl, hob, hbb⟩
      go_simp
      have HMb := Lib.hid (HMa.out.call hbb)
      have HOb := Lib.hid hob
      have HPb := Lib.hid hpb
      have hsb := hbb.size
      have HR3 := Lib.hid (HR3.out.below hbb (by omega))
      have HOa := Lib.hid (HOa.out.below hbb (Nat.le_refl _))
      refine hK.out _ _ HMb.out.two.1.cell (fun hHeld => ?_)
      clear hK K hob hbb hpb HMa HD
      (try simp only [Go.Act.put, List.setIfInBounds_toArray, List.set_cons_zero, List.set_cons_succ])
      ((refine AnyT.takeAny 6 45 ?_ rfl (by kernel_rfl) (by kernel_rfl) (by kernel_rfl) rfl rfl (fun _ _ _ _ h => h) rfl ?_ (by assumption) ?_); rotate_left; (intro w; go_simp; (try (with_reducible rfl))); simp only [Act.put, List.setIfInBounds_toArray, List.set_cons_zero, List.set_cons_succ])
      have fp := HPb.out.cell
      ((refine AnyT.one (i := 7) (by kernel_rfl) rfl (fun K hK => ?_)))
      go_simp
      refine hK.out _ _ HMb.out.two.1.cell (fun hHeld => ?_)
      clear hK K fp
      (try simp only [Go.Act.put, List.setIfInBounds_toArray, List.set_cons_zero, List.set_cons_succ])
      ((refine AnyT.takeAny 8 47 ?_ rfl (by kernel_rfl) (by kernel_rfl) (by kernel_rfl) rfl rfl (fun _ _ _ _ h => h) rfl ?_ (by assumption) ?_); rotate_left; (intro w; go_simp; (try (with_reducible rfl))); simp only [Act.put, List.setIfInBounds_toArray, List.set_cons_zero, List.set_cons_succ])
      have g := HMb.out.two.2.1.cell; have z := HMb.out.two.2.1.frozen
      ((refine AnyT.one (i := 9) (by kernel_rfl) rfl (fun K hK => ?_)))
      go_simp
      have HMc := Lib.hid (((HMb.out.store 13 (.bool x13)).store 14 (.string x14)).store 15 (.slice B15 x15.length d15))
      refine hK.out _ _ HMc.out.two.1.cell (fun hHeld => ?_)
      clear hK K g z
      (try simp only [Go.Act.put, List.setIfInBounds_toArray, List.set_cons_zero, List.set_cons_succ])
      ((refine AnyT.takeAny 10 48 ?_ rfl (by kernel_rfl) (by kernel_rfl) (by kernel_rfl) rfl rfl (fun _ _ _ _ h => h) rfl ?_ (by assumption) ?_); rotate_left; (intro w; go_simp; (try (with_reducible rfl))); simp only [Act.put, List.setIfInBounds_toArray, List.set_cons_zero, List.set_cons_succ])
      have g := HMc.out.two.2.1.cell; have z := HMc.out.two.2.1.frozen
      ((refine AnyT.one (i := 11) (by kernel_rfl) rfl (fun K hK => ?_)))
      go_simp
      have HMd := Lib.hid ((((HMc.out.store 7 (.int .i64 x7)).store 8 (.slice B8 x8.length d8)).store 9 (.slice B9 x9.length d9)).store 10 (.slice B10 x10.length d10))
      refine hK.out _ _ HMd.out.two.1.cell (fun hHeld => ?_)
      clear hK K g z
      (try simp only [Go.Act.put, List.setIfInBounds_toArray, List.set_cons_zero, List.set_cons_succ])
      refine AnyT.done (by kernel_rfl) ?_ _
      have HR3' := Lib.hid (Own.setCell (Own.setCell (Own.setCell (Own.setCell (Own.setCell (Own.setCell (Own.setCell HR3.out (p := ⟨w.heap.size + 1, 13, none⟩) (by dsimp only; omega) (.bool x13)) (p := ⟨w.heap.size + 1, 14, none⟩) (by dsimp only; omega) (.string x14)) (p := ⟨w.heap.size + 1, 15, none⟩) (by dsimp only; omega) (.slice B15 x15.length d15)) (p := ⟨w.heap.size + 1, 7, none⟩) (by dsimp only; omega) (.int .i64 x7)) (p := ⟨w.heap.size + 1, 8, none⟩) (by dsimp only; omega) (.slice B8 x8.length d8)) (p := ⟨w.heap.size + 1, 9, none⟩) (by dsimp only; omega) (.slice B9 x9.length d9)) (p := ⟨w.heap.size + 1, 10, none⟩) (by dsimp only; omega) (.slice B10 x10.length d10))
      have HOa' := Lib.hid (Own.setCell (Own.setCell (Own.setCell (Own.setCell (Own.setCell (Own.setCell (Own.setCell HOa.out (p := ⟨w.heap.size + 1, 13, none⟩) (by dsimp only; omega) (.bool x13)) (p := ⟨w.heap.size + 1, 14, none⟩) (by dsimp only; omega) (.string x14)) (p := ⟨w.heap.size + 1, 15, none⟩) (by dsimp only; omega) (.slice B15 x15.length d15)) (p := ⟨w.heap.size + 1, 7, none⟩) (by dsimp only; omega) (.int .i64 x7)) (p := ⟨w.heap.size + 1, 8, none⟩) (by dsimp only; omega) (.slice B8 x8.length d8)) (p := ⟨w.heap.size + 1, 9, none⟩) (by dsimp only; omega) (.slice B9 x9.length d9)) (p := ⟨w.heap.size + 1, 10, none⟩) (by dsimp only; omega) (.slice B10 x10.length d10))
      have HOb' := Lib.hid (Own.setCell (Own.setCell (Own.setCell (Own.setCell (Own.setCell (Own.setCell (Own.setCell HOb.out (p := ⟨w.heap.size + 1, 13, none⟩) (by dsimp only; omega) (.bool x13)) (p := ⟨w.heap.size + 1, 14, none⟩) (by dsimp only; omega) (.string x14)) (p := ⟨w.heap.size + 1, 15, none⟩) (by dsimp only; omega) (.slice B15 x15.length d15)) (p := ⟨w.heap.size + 1, 7, none⟩) (by dsimp only; omega) (.int .i64 x7)) (p := ⟨w.heap.size + 1, 8, none⟩) (by dsimp only; omega) (.slice B8 x8.length d8)) (p := ⟨w.heap.size + 1, 9, none⟩) (by dsimp only; omega) (.slice B9 x9.length d9)) (p := ⟨w.heap.size + 1, 10, none⟩) (by dsimp only; omega) (.slice B10 x10.length d10))
      have hsX : (((((((wb.setCell ⟨w.heap.size + 1, 13, none⟩ (.bool x13)).setCell ⟨w.heap.size + 1, 14, none⟩ (.string x14)).setCell ⟨w.heap.size + 1, 15, none⟩ (.slice B15 x15.length d15)).setCell ⟨w.heap.size + 1, 7, none⟩ (.int .i64 x7)).setCell ⟨w.heap.size + 1, 8, none⟩ (.slice B8 x8.length d8)).setCell ⟨w.heap.size + 1, 9, none⟩ (.slice B9 x9.length d9)).setCell ⟨w.heap.size + 1, 10, none⟩ (.slice B10 x10.length d10)).heap.size = wb.heap.size := by simp [World.setCell]
      generalize (((((((wb.setCell ⟨w.heap.size + 1, 13, none⟩ (.bool x13)).setCell ⟨w.heap.size + 1, 14, none⟩ (.string x14)).setCell ⟨w.heap.size + 1, 15, none⟩ (.slice B15 x15.length d15)).setCell ⟨w.heap.size + 1, 7, none⟩ (.int .i64 x7)).setCell ⟨w.heap.size + 1, 8, none⟩ (.slice B8 x8.length d8)).setCell ⟨w.heap.size + 1, 9, none⟩ (.slice B9 x9.length d9)).setCell ⟨w.heap.size + 1, 10, none⟩ (.slice B10 x10.length d10)) = wX at *
      clear HMb HMc HR3 HOa HOb HPb hHeld
      go_wp2_with fail
      go_ret
      refine ⟨B2, d2, B, d, B4, d4, B5, d5, B6, d6, B8, d8, B9, d9, B10, d10, B15, d15, rfl, HMd.out.two.2.1, ?_, HMd.out.two.2.2⟩
      have o2 := HMd.out.o2; have o4 := HMd.out.o4; have o5 := HMd.out.o5; have o6 := HMd.out.o6; have o3 := HR3'.out; have oa := HOa'.out; have ob := HOb'.out
      refine OwnS.own (S := _) ((OwnS.prod (OwnS.one wX _) (OwnS.prod (OwnS.one wX _) (OwnS.prod o2.toS (OwnS.prod o3.toS (OwnS.prod o4.toS (OwnS.prod o5.toS (OwnS.prod o6.toS (OwnS.prod ob.toS (OwnS.prod (OwnS.one wX _) (OwnS.prod (OwnS.one wX _) (OwnS.prod oa.toS (OwnS.prod (OwnS.one wX _) (OwnS.prod (OwnS.one wX _) (OwnS.prod (OwnS.one wX _) (OwnS.prod (OwnS.one wX _) (OwnS.one wX _) (by intro b h1 h2; first | exact h1 | (simp only [or_self] at h2; done) | ((try simp only [false_or, or_false] at h1 h2); omega))) (by intro b h1 h2; first | exact h1 | (simp only [or_self] at h2; done) | ((try simp only [false_or, or_false] at h1 h2); omega))) (by intro b h1 h2; first | exact h1 | (simp only [or_self] at h2; done) | ((try simp only [false_or, or_false] at h1 h2); omega))) (by intro b h1 h2; first | exact h1 | (simp only [or_self] at h2; done) | ((try simp only [false_or, or_false] at h1 h2); omega))) (by intro b h1 h2; first | exact h1 | (simp only [or_self] at h2; done) | ((try simp only [false_or, or_false] at h1 h2); omega))) (by intro b h1 h2; first | exact h1 | (simp only [or_self] at h2; done) | ((try simp only [false_or, or_false] at h1 h2); omega))) (by intro b h1 h2; first | exact h1 | (simp only [or_self] at h2; done) | ((try simp only [false_or, or_false] at h1 h2); omega))) (by intro b h1 h2; first | exact h1 | (simp only [or_self] at h2; done) | ((try simp only [false_or, or_false] at h1 h2); omega))) (by intro b h1 h2; first | exact h1 | (simp only [or_self] at h2; done) | ((try simp only [false_or, or_false] at h1 h2); omega))) (by intro b h1 h2; first | exact h1 | (simp only [or_self] at h2; done) | ((try simp only [false_or, or_false] at h1 h2); omega))) (by intro b h1 h2; first | exact h1 | (simp only [or_self] at h2; done) | ((try simp only [false_or, or_false] at h1 h2); omega))) (by intro b h1 h2; first | exact h1 | (simp only [or_self] at h2; done) | ((try simp only [false_or, or_false] at h1 h2); omega))) (by intro b h1 h2; first | exact h1 | (simp only [or_self] at h2; done) | ((try simp only [false_or, or_false] at h1 h2); omega))) (by intro b h1 h2; first | exact h1 | (simp only [or_self] at h2; done) | ((try simp only [false_or, or_false] at h1 h2); omega))) (by intro b h1 h2; first | exact h1 | (simp only [or_self] at h2; done) | ((try simp only [false_or, or_false] at h1 h2); omega)))) ?_
      intro b hb
      simp only [false_or, or_false] at hb
      omega

end Go.Proofs.YtlodlplfmpikjaaGreat
