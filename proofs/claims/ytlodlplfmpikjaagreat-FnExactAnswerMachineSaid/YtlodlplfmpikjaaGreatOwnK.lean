/- l09Own of the reference walked: that it returns locals. Printed by gen_ownl.py. -/
import Derived.Test.YtlodlplfmpikjaaGreatOwnL
import Derived.Test.YtlodlplfmpikjaaGreatTwo
namespace Go.Proofs.YtlodlplfmpikjaaGreat
open Go.RowKit

set_option maxHeartbeats 16000000 in
set_option maxRecDepth 100000 in
theorem l09Own_f (x0 : Int) (x1 : List TyBind) (x2 : List TyCell) (x3 : List TyLevel) (A1 : Option Addr) (c1 : Nat) (A2 : Option Addr) (c2 : Nat) (A3 : Option Addr) (c3 lo hi : Nat) (w : World) (h : shLocals.R w lo hi [.int .i64 x0, .slice A1 x1.length c1, .slice A2 x2.length c2, .slice A3 x3.length c3] (x0, x1, x2, x3)) (hhi : hi ≤ w.heap.size) (hf : shLocals.fit 1048576 (x0, x1, x2, x3)) :
    Calls Tryz.prog 92 #[.agg #[.int .i64 x0, .slice A1 x1.length c1, .slice A2 x2.length c2, .slice A3 x3.length c3]] w fun e w' => ∃ (B1 : Option Addr) (n1 d1 : Nat) (B2 : Option Addr) (n2 d2 : Nat) (B3 : Option Addr) (n3 d3 : Nat), e = .returned (.agg #[.int .i64 x0, .slice B1 n1 d1, .slice B2 n2 d2, .slice B3 n3 d3]) ∧ Below w.heap.size w w' := by
  have HH := Lib.hid h; have HFF := Lib.hid hf
  rw [shLocals_fit] at hf
  obtain ⟨ft0, ft1, ft2, ft3⟩ := hf
  have hn1 := ft1.1; have hn2 := ft2.1; have hn3 := ft3.1
  have HF2 := Lib.hid ft2.2; have HF3 := Lib.hid ft3.2
  have T0 := Lib.hid (Two.start w 45 45 #[.int .i64 x0, .slice A1 x1.length c1, .slice A2 x2.length c2, .slice A3 x3.length c3] #[.int .i64 0, .slice none 0 0, .slice none 0 0, .slice none 0 0])
  have HZ0 := Lib.hid (show ((w.alloc (.cells #[.int .i64 x0, .slice A1 x1.length c1, .slice A2 x2.length c2, .slice A3 x3.length c3] 45)).alloc (.cells #[.int .i64 0, .slice none 0 0, .slice none 0 0, .slice none 0 0] 45)).heap.size = w.heap.size + 1 + 1 by simp)
  clear h ft0 ft1 ft2 ft3
  go_enter Tryz.func92, Tryz.ntmps92
  go_upto_region 1 with fail
  generalize ((w.alloc (.cells #[.int .i64 x0, .slice A1 x1.length c1, .slice A2 x2.length c2, .slice A3 x3.length c3] 45)).alloc (.cells #[.int .i64 0, .slice none 0 0, .slice none 0 0, .slice none 0 0] 45)) = w1 at *
  have HA1 := Lib.hid (rowG_of_shape (shLocals_f1 (shLocals.R_below HH.out T0.out.2.2 hhi)))
  have HW1 := Lib.hid (Nat.le_trans hhi T0.out.2.2.size)
  have HPB := Lib.hid T0.out.1
  go_cut [3] from 6 to 13 (fun o wc => ∃ (p : Nat) (B1 : Option Addr) (d1 : Nat), o = .pointer (some ⟨p, 0, none⟩) ∧ w1.heap.size ≤ p ∧ Blk wc p 45 #[.int .i64 x0, .slice B1 x1.length d1, .slice none 0 0, .slice none 0 0] ∧ OwnS (Sh.row 151 shBind) wc (fun b => w1.heap.size ≤ b ∧ b ≠ p) [.slice B1 x1.length d1] x1 ∧ Below w1.heap.size w1 wc)
  case first =>
    refine AnyT.region (fun _ => false) (fun W => ∀ i, W.cell? ⟨w.heap.size, i, none⟩ = (#[.int .i64 x0, .slice A1 x1.length c1, .slice A2 x2.length c2, .slice A3 x3.length c3] : Array Value)[i]?) (by kernel_rfl) (HPB.out.drewN 1).cell (fun hHeld => ?_)
    have BP := Lib.hid (show Blk w1.drew (w.heap.size) 45 #[.int .i64 x0, .slice A1 x1.length c1, .slice A2 x2.length c2, .slice A3 x3.length c3] from HPB.out.drewN 1)
    have HBW := Lib.hid (show Below w1.heap.size w1 w1.drew from (Below.refl _ _).drew)
    have hz := HPB.out.lt
    have hzd : w1.drew.heap.size ≤ w1.heap.size ∧ w1.heap.size ≤ w1.drew.heap.size := ⟨Nat.le_refl _, Nat.le_refl _⟩
    have HR0 := Lib.hid (show RowG shBind w1 lo hi A1 x1 from HA1.out)
    have hhi' := HW1.out
    clear HPB
    generalize w1.drew = wD at *
    ((refine AnyT.takeAny 0 6 ?_ rfl (by kernel_rfl) (by kernel_rfl) (by kernel_rfl) rfl rfl (fun _ _ _ _ h => h) rfl ?_ (by assumption) ?_); rotate_left; (intro w; go_simp; (try (with_reducible rfl))); simp only [Act.put, List.setIfInBounds_toArray, List.set_cons_zero, List.set_cons_succ])
    ((refine AnyT.take 1 7 ?_ rfl (by kernel_rfl) (by kernel_rfl) (by kernel_rfl) (by kernel_rfl) rfl (by kernel_rfl) rfl (fun _ _ _ _ h => h) rfl ?_ (by assumption) ?_); rotate_left; (intro w hSw; (try dsimp only at hSw); go_simp; (try (with_reducible rfl))); simp only [Act.put, List.setIfInBounds_toArray, List.set_cons_zero, List.set_cons_succ])
    ((refine AnyT.takeAny 3 9 ?_ rfl (by kernel_rfl) (by kernel_rfl) (by kernel_rfl) rfl rfl (fun _ _ _ _ h => h) rfl ?_ (by assumption) ?_); rotate_left; (intro w; go_simp; (try (with_reducible rfl))); simp only [Act.put, List.setIfInBounds_toArray, List.set_cons_zero, List.set_cons_succ])
    ((refine AnyT.take 4 10 ?_ rfl (by kernel_rfl) (by kernel_rfl) (by kernel_rfl) (by kernel_rfl) rfl (by kernel_rfl) rfl (fun _ _ _ _ h => h) rfl ?_ (by assumption) ?_); rotate_left; (intro w hSw; (try dsimp only at hSw); go_simp; (try (with_reducible rfl))); simp only [Act.put, List.setIfInBounds_toArray, List.set_cons_zero, List.set_cons_succ])
    refine AnyT.pair (i := 2) (j := 7) (by kernel_rfl) rfl rfl (fun K hK => ?_) (fun K hK => ?_)
    · go_simp
      have HBa := Lib.hid ((Below.refl wD.heap.size wD).alloc (Nat.le_refl _) (.cells #[] 151))
      have BL := Lib.hid (Blk.new wD 151 #[])
      have hn1 : (wD.alloc (.cells #[] 151)).heap.size ≤ wD.heap.size + 1 ∧ wD.heap.size + 1 ≤ (wD.alloc (.cells #[] 151)).heap.size := by simp
      have BP := Lib.hid (BP.out.below HBa.out BP.out.lt)
      have HBW := Lib.hid (HBW.out.trans (HBa.out.mono (by omega)))
      refine hK.out _ _ BP.out.cell (fun hHeld => ?_)
      clear hK K
      (try simp only [Go.Act.put, List.setIfInBounds_toArray, List.set_cons_zero, List.set_cons_succ])
      clear HBa
      generalize wD.alloc (.cells #[] 151) = v1 at *
      refine AnyT.pair (i := 5) (j := 7) (by kernel_rfl) rfl rfl (fun K hK => ?_) (fun K hK => ?_)
      · refine step_litR (s := shBind) rfl (.tmp 8) (.tmp 10) 41 rfl Tryz.underlying41 rfl (by decide) (by decide) infoBind flatBind v1 (wD.heap.size) lo hi A1 c1 x1 rfl rfl BL.out (rowG_below HR0.out HBW.out hhi') (by omega) ?_
        intro B1 d1 v2 hos hout
        have hs2 := hout.size
        have BP := Lib.hid (BP.out.outOf hout (by omega))
        have HBW := Lib.hid (HBW.out.trans (hout.below1 (B := w1.heap.size) (by omega) (by omega)))
        have OS := Lib.hid hos
        refine hK.out _ _ BP.out.cell (fun hHeld => ?_)
        clear hK K
        (try simp only [Go.Act.put, List.setIfInBounds_toArray, List.set_cons_zero, List.set_cons_succ])
        clear hos hout BL
        ((refine AnyT.takeAny 6 12 ?_ rfl (by kernel_rfl) (by kernel_rfl) (by kernel_rfl) rfl rfl (fun _ _ _ _ h => h) rfl ?_ (by assumption) ?_); rotate_left; (intro w; go_simp; (try (with_reducible rfl))); simp only [Act.put, List.setIfInBounds_toArray, List.set_cons_zero, List.set_cons_succ])
        ((refine AnyT.one (i := 7) (by kernel_rfl) rfl (fun K hK => ?_)))
        go_simp
        have HBa := Lib.hid ((Below.refl v2.heap.size v2).alloc (Nat.le_refl _) (.cells #[.int .i64 0, .slice none 0 0, .slice none 0 0, .slice none 0 0] 45))
        have BQ := Lib.hid (Blk.new v2 45 #[.int .i64 0, .slice none 0 0, .slice none 0 0, .slice none 0 0])
        have hn3 : (v2.alloc (.cells #[.int .i64 0, .slice none 0 0, .slice none 0 0, .slice none 0 0] 45)).heap.size ≤ v2.heap.size + 1 ∧ v2.heap.size + 1 ≤ (v2.alloc (.cells #[.int .i64 0, .slice none 0 0, .slice none 0 0, .slice none 0 0] 45)).heap.size := by simp
        have BP := Lib.hid (BP.out.below HBa.out BP.out.lt)
        have HBW := Lib.hid (HBW.out.trans (HBa.out.mono (by omega)))
        have OS := Lib.hid ((OS.out.mono (S' := fun b => w1.heap.size ≤ b ∧ b ≠ v2.heap.size) (fun b hb hl => ⟨by omega, by omega⟩)).belowW HBa.out)
        refine hK.out _ _ BP.out.cell (fun hHeld => ?_)
        clear hK K
        (try simp only [Go.Act.put, List.setIfInBounds_toArray, List.set_cons_zero, List.set_cons_succ])
        clear HBa
        generalize v2.alloc (.cells #[.int .i64 0, .slice none 0 0, .slice none 0 0, .slice none 0 0] 45) = v3 at *
        have g := BQ.out.cell; have zz := BQ.out.frozen
        ((refine AnyT.one (i := 8) (by kernel_rfl) rfl (fun K hK => ?_)))
        go_simp
        have BQ2 := Lib.hid (show Blk ((((v3.setCell ⟨v2.heap.size, 0, none⟩ (.int .i64 x0)).setCell ⟨v2.heap.size, 1, none⟩ (.slice B1 x1.length d1)).setCell ⟨v2.heap.size, 2, none⟩ (.slice none 0 0)).setCell ⟨v2.heap.size, 3, none⟩ (.slice none 0 0)) (v2.heap.size) 45 #[.int .i64 x0, .slice B1 x1.length d1, .slice none 0 0, .slice none 0 0] from ((((BQ.out.set_ 0 (.int .i64 x0)).set_ 1 (.slice B1 x1.length d1)).set_ 2 (.slice none 0 0)).set_ 3 (.slice none 0 0)))
        have OS2 := Lib.hid (OwnS.setCell (OwnS.setCell (OwnS.setCell (OwnS.setCell OS.out (p := ⟨v2.heap.size, 0, none⟩) (fun b hb => hb.2) (.int .i64 x0)) (p := ⟨v2.heap.size, 1, none⟩) (fun b hb => hb.2) (.slice B1 x1.length d1)) (p := ⟨v2.heap.size, 2, none⟩) (fun b hb => hb.2) (.slice none 0 0)) (p := ⟨v2.heap.size, 3, none⟩) (fun b hb => hb.2) (.slice none 0 0))
        have HB2 := Lib.hid ((((HBW.out.setCell (p := ⟨v2.heap.size, 0, none⟩) (by dsimp only; omega) (.int .i64 x0)).setCell (p := ⟨v2.heap.size, 1, none⟩) (by dsimp only; omega) (.slice B1 x1.length d1)).setCell (p := ⟨v2.heap.size, 2, none⟩) (by dsimp only; omega) (.slice none 0 0)).setCell (p := ⟨v2.heap.size, 3, none⟩) (by dsimp only; omega) (.slice none 0 0))
        refine hK.out _ _ (((((BP.out.far (p := ⟨v2.heap.size, 0, none⟩) (by dsimp only; omega) (.int .i64 x0)).far (p := ⟨v2.heap.size, 1, none⟩) (by dsimp only; omega) (.slice B1 x1.length d1)).far (p := ⟨v2.heap.size, 2, none⟩) (by dsimp only; omega) (.slice none 0 0)).far (p := ⟨v2.heap.size, 3, none⟩) (by dsimp only; omega) (.slice none 0 0))).cell (fun hHeld => ?_)
        clear hK K
        (try simp only [Go.Act.put, List.setIfInBounds_toArray, List.set_cons_zero, List.set_cons_succ])
        refine AnyT.done (by kernel_rfl) ?_ _
        clear g zz BP BQ OS HBW hHeld
        go_wp2_with fail
        go_meet
        exact ⟨v2.heap.size, B1, d1, rfl, by omega, BQ2.out, OS2.out, HB2.out⟩
      · go_simp
        have HBa := Lib.hid ((Below.refl v1.heap.size v1).alloc (Nat.le_refl _) (.cells #[.int .i64 0, .slice none 0 0, .slice none 0 0, .slice none 0 0] 45))
        have BQ := Lib.hid (Blk.new v1 45 #[.int .i64 0, .slice none 0 0, .slice none 0 0, .slice none 0 0])
        have hn4 : (v1.alloc (.cells #[.int .i64 0, .slice none 0 0, .slice none 0 0, .slice none 0 0] 45)).heap.size ≤ v1.heap.size + 1 ∧ v1.heap.size + 1 ≤ (v1.alloc (.cells #[.int .i64 0, .slice none 0 0, .slice none 0 0, .slice none 0 0] 45)).heap.size := by simp
        have BP := Lib.hid (BP.out.below HBa.out BP.out.lt)
        have HBW := Lib.hid (HBW.out.trans (HBa.out.mono (by omega)))
        have BL := Lib.hid (BL.out.below HBa.out BL.out.lt)
        refine hK.out _ _ BP.out.cell (fun hHeld => ?_)
        clear hK K
        (try simp only [Go.Act.put, List.setIfInBounds_toArray, List.set_cons_zero, List.set_cons_succ])
        clear HBa
        generalize v1.alloc (.cells #[.int .i64 0, .slice none 0 0, .slice none 0 0, .slice none 0 0] 45) = v4 at *
        ((refine AnyT.one (i := 5) (by kernel_rfl) rfl (fun K hK => ?_)))
        refine step_litR (s := shBind) rfl (.tmp 8) (.tmp 10) 41 rfl Tryz.underlying41 rfl (by decide) (by decide) infoBind flatBind v4 (wD.heap.size) lo hi A1 c1 x1 rfl rfl BL.out (rowG_below HR0.out HBW.out hhi') (by omega) ?_
        intro B1 d1 v5 hos hout
        have hs5 := hout.size
        have BP := Lib.hid (BP.out.outOf hout (by omega))
        have HBW := Lib.hid (HBW.out.trans (hout.below1 (B := w1.heap.size) (by omega) (by omega)))
        have BQ := Lib.hid (BQ.out.outOf hout (by omega))
        have OS := Lib.hid (hos.mono (S' := fun b => w1.heap.size ≤ b ∧ b ≠ v1.heap.size) (fun b hb hl => ⟨by omega, by omega⟩))
        refine hK.out _ _ BP.out.cell (fun hHeld => ?_)
        clear hK K
        (try simp only [Go.Act.put, List.setIfInBounds_toArray, List.set_cons_zero, List.set_cons_succ])
        clear hos hout BL
        ((refine AnyT.takeAny 6 12 ?_ rfl (by kernel_rfl) (by kernel_rfl) (by kernel_rfl) rfl rfl (fun _ _ _ _ h => h) rfl ?_ (by assumption) ?_); rotate_left; (intro w; go_simp; (try (with_reducible rfl))); simp only [Act.put, List.setIfInBounds_toArray, List.set_cons_zero, List.set_cons_succ])
        have g := BQ.out.cell; have zz := BQ.out.frozen
        ((refine AnyT.one (i := 8) (by kernel_rfl) rfl (fun K hK => ?_)))
        go_simp
        have BQ2 := Lib.hid (show Blk ((((v5.setCell ⟨v1.heap.size, 0, none⟩ (.int .i64 x0)).setCell ⟨v1.heap.size, 1, none⟩ (.slice B1 x1.length d1)).setCell ⟨v1.heap.size, 2, none⟩ (.slice none 0 0)).setCell ⟨v1.heap.size, 3, none⟩ (.slice none 0 0)) (v1.heap.size) 45 #[.int .i64 x0, .slice B1 x1.length d1, .slice none 0 0, .slice none 0 0] from ((((BQ.out.set_ 0 (.int .i64 x0)).set_ 1 (.slice B1 x1.length d1)).set_ 2 (.slice none 0 0)).set_ 3 (.slice none 0 0)))
        have OS2 := Lib.hid (OwnS.setCell (OwnS.setCell (OwnS.setCell (OwnS.setCell OS.out (p := ⟨v1.heap.size, 0, none⟩) (fun b hb => hb.2) (.int .i64 x0)) (p := ⟨v1.heap.size, 1, none⟩) (fun b hb => hb.2) (.slice B1 x1.length d1)) (p := ⟨v1.heap.size, 2, none⟩) (fun b hb => hb.2) (.slice none 0 0)) (p := ⟨v1.heap.size, 3, none⟩) (fun b hb => hb.2) (.slice none 0 0))
        have HB2 := Lib.hid ((((HBW.out.setCell (p := ⟨v1.heap.size, 0, none⟩) (by dsimp only; omega) (.int .i64 x0)).setCell (p := ⟨v1.heap.size, 1, none⟩) (by dsimp only; omega) (.slice B1 x1.length d1)).setCell (p := ⟨v1.heap.size, 2, none⟩) (by dsimp only; omega) (.slice none 0 0)).setCell (p := ⟨v1.heap.size, 3, none⟩) (by dsimp only; omega) (.slice none 0 0))
        refine hK.out _ _ (((((BP.out.far (p := ⟨v1.heap.size, 0, none⟩) (by dsimp only; omega) (.int .i64 x0)).far (p := ⟨v1.heap.size, 1, none⟩) (by dsimp only; omega) (.slice B1 x1.length d1)).far (p := ⟨v1.heap.size, 2, none⟩) (by dsimp only; omega) (.slice none 0 0)).far (p := ⟨v1.heap.size, 3, none⟩) (by dsimp only; omega) (.slice none 0 0))).cell (fun hHeld => ?_)
        clear hK K
        (try simp only [Go.Act.put, List.setIfInBounds_toArray, List.set_cons_zero, List.set_cons_succ])
        refine AnyT.done (by kernel_rfl) ?_ _
        clear g zz BP BQ OS HBW hHeld
        go_wp2_with fail
        go_meet
        exact ⟨v1.heap.size, B1, d1, rfl, by omega, BQ2.out, OS2.out, HB2.out⟩
    · go_simp
      have HBa := Lib.hid ((Below.refl wD.heap.size wD).alloc (Nat.le_refl _) (.cells #[.int .i64 0, .slice none 0 0, .slice none 0 0, .slice none 0 0] 45))
      have BQ := Lib.hid (Blk.new wD 45 #[.int .i64 0, .slice none 0 0, .slice none 0 0, .slice none 0 0])
      have hn6 : (wD.alloc (.cells #[.int .i64 0, .slice none 0 0, .slice none 0 0, .slice none 0 0] 45)).heap.size ≤ wD.heap.size + 1 ∧ wD.heap.size + 1 ≤ (wD.alloc (.cells #[.int .i64 0, .slice none 0 0, .slice none 0 0, .slice none 0 0] 45)).heap.size := by simp
      have BP := Lib.hid (BP.out.below HBa.out BP.out.lt)
      have HBW := Lib.hid (HBW.out.trans (HBa.out.mono (by omega)))
      refine hK.out _ _ BP.out.cell (fun hHeld => ?_)
      clear hK K
      (try simp only [Go.Act.put, List.setIfInBounds_toArray, List.set_cons_zero, List.set_cons_succ])
      clear HBa
      generalize wD.alloc (.cells #[.int .i64 0, .slice none 0 0, .slice none 0 0, .slice none 0 0] 45) = v6 at *
      ((refine AnyT.one (i := 2) (by kernel_rfl) rfl (fun K hK => ?_)))
      go_simp
      have HBa := Lib.hid ((Below.refl v6.heap.size v6).alloc (Nat.le_refl _) (.cells #[] 151))
      have BL := Lib.hid (Blk.new v6 151 #[])
      have hn7 : (v6.alloc (.cells #[] 151)).heap.size ≤ v6.heap.size + 1 ∧ v6.heap.size + 1 ≤ (v6.alloc (.cells #[] 151)).heap.size := by simp
      have BP := Lib.hid (BP.out.below HBa.out BP.out.lt)
      have HBW := Lib.hid (HBW.out.trans (HBa.out.mono (by omega)))
      have BQ := Lib.hid (BQ.out.below HBa.out BQ.out.lt)
      refine hK.out _ _ BP.out.cell (fun hHeld => ?_)
      clear hK K
      (try simp only [Go.Act.put, List.setIfInBounds_toArray, List.set_cons_zero, List.set_cons_succ])
      clear HBa
      generalize v6.alloc (.cells #[] 151) = v7 at *
      ((refine AnyT.one (i := 5) (by kernel_rfl) rfl (fun K hK => ?_)))
      refine step_litR (s := shBind) rfl (.tmp 8) (.tmp 10) 41 rfl Tryz.underlying41 rfl (by decide) (by decide) infoBind flatBind v7 (v6.heap.size) lo hi A1 c1 x1 rfl rfl BL.out (rowG_below HR0.out HBW.out hhi') (by omega) ?_
      intro B1 d1 v8 hos hout
      have hs8 := hout.size
      have BP := Lib.hid (BP.out.outOf hout (by omega))
      have HBW := Lib.hid (HBW.out.trans (hout.below1 (B := w1.heap.size) (by omega) (by omega)))
      have BQ := Lib.hid (BQ.out.outOf hout (by omega))
      have OS := Lib.hid (hos.mono (S' := fun b => w1.heap.size ≤ b ∧ b ≠ wD.heap.size) (fun b hb hl => ⟨by omega, by omega⟩))
      refine hK.out _ _ BP.out.cell (fun hHeld => ?_)
      clear hK K
      (try simp only [Go.Act.put, List.setIfInBounds_toArray, List.set_cons_zero, List.set_cons_succ])
      clear hos hout BL
      ((refine AnyT.takeAny 6 12 ?_ rfl (by kernel_rfl) (by kernel_rfl) (by kernel_rfl) rfl rfl (fun _ _ _ _ h => h) rfl ?_ (by assumption) ?_); rotate_left; (intro w; go_simp; (try (with_reducible rfl))); simp only [Act.put, List.setIfInBounds_toArray, List.set_cons_zero, List.set_cons_succ])
      have g := BQ.out.cell; have zz := BQ.out.frozen
      ((refine AnyT.one (i := 8) (by kernel_rfl) rfl (fun K hK => ?_)))
      go_simp
      have BQ2 := Lib.hid (show Blk ((((v8.setCell ⟨wD.heap.size, 0, none⟩ (.int .i64 x0)).setCell ⟨wD.heap.size, 1, none⟩ (.slice B1 x1.length d1)).setCell ⟨wD.heap.size, 2, none⟩ (.slice none 0 0)).setCell ⟨wD.heap.size, 3, none⟩ (.slice none 0 0)) (wD.heap.size) 45 #[.int .i64 x0, .slice B1 x1.length d1, .slice none 0 0, .slice none 0 0] from ((((BQ.out.set_ 0 (.int .i64 x0)).set_ 1 (.slice B1 x1.length d1)).set_ 2 (.slice none 0 0)).set_ 3 (.slice none 0 0)))
      have OS2 := Lib.hid (OwnS.setCell (OwnS.setCell (OwnS.setCell (OwnS.setCell OS.out (p := ⟨wD.heap.size, 0, none⟩) (fun b hb => hb.2) (.int .i64 x0)) (p := ⟨wD.heap.size, 1, none⟩) (fun b hb => hb.2) (.slice B1 x1.length d1)) (p := ⟨wD.heap.size, 2, none⟩) (fun b hb => hb.2) (.slice none 0 0)) (p := ⟨wD.heap.size, 3, none⟩) (fun b hb => hb.2) (.slice none 0 0))
      have HB2 := Lib.hid ((((HBW.out.setCell (p := ⟨wD.heap.size, 0, none⟩) (by dsimp only; omega) (.int .i64 x0)).setCell (p := ⟨wD.heap.size, 1, none⟩) (by dsimp only; omega) (.slice B1 x1.length d1)).setCell (p := ⟨wD.heap.size, 2, none⟩) (by dsimp only; omega) (.slice none 0 0)).setCell (p := ⟨wD.heap.size, 3, none⟩) (by dsimp only; omega) (.slice none 0 0))
      refine hK.out _ _ (((((BP.out.far (p := ⟨wD.heap.size, 0, none⟩) (by dsimp only; omega) (.int .i64 x0)).far (p := ⟨wD.heap.size, 1, none⟩) (by dsimp only; omega) (.slice B1 x1.length d1)).far (p := ⟨wD.heap.size, 2, none⟩) (by dsimp only; omega) (.slice none 0 0)).far (p := ⟨wD.heap.size, 3, none⟩) (by dsimp only; omega) (.slice none 0 0))).cell (fun hHeld => ?_)
      clear hK K
      (try simp only [Go.Act.put, List.setIfInBounds_toArray, List.set_cons_zero, List.set_cons_succ])
      refine AnyT.done (by kernel_rfl) ?_ _
      clear g zz BP BQ OS HBW hHeld
      go_wp2_with fail
      go_meet
      exact ⟨wD.heap.size, B1, d1, rfl, by omega, BQ2.out, OS2.out, HB2.out⟩
  case rest =>
    obtain ⟨p, B1, d1, rfl, hp1, hbp, hos, hbw⟩ := hcut
    have HT := Lib.hid (T0.out.call hbw)
    have hpw := hbp.lt
    have hw1 : w.heap.size + 1 + 1 ≤ w1.heap.size := by rw [HZ0.out]; omega
    have HA3 := Lib.hid (shLocals_f3 HH.out); have HA2 := Lib.hid (shLocals_f2 HH.out)
    have HBP := Lib.hid hbp
    clear hbp hos hbw HPB HA1 HW1 HZ0
    have f0 := HT.out.1.cell
    go_wp2_with fail
    clear f0
    generalize hq : wc.heap.size = q at *
    have HQ := Lib.hid hq
    have hq' : q ≤ wc.heap.size := by omega
    clear hq
    go_loopw [4] (fun i wr => ∃ (k : Nat) (B : Option Addr) (d : Nat), k ≤ x3.length ∧ i = .int .i64 k ∧ Two w wr 45 45 #[.int .i64 x0, .slice A1 x1.length c1, .slice A2 x2.length c2, .slice A3 x3.length c3] #[.int .i64 0, .slice none 0 0, .slice none 0 0, .slice none 0 0] ∧ Blk wr p 45 #[.int .i64 x0, .slice B1 x1.length d1, .slice none 0 0, .slice B k d] ∧ Own (Sh.row 108 shLevel) wr q wr.heap.size [.slice B k d] (x3.take k) ∧ q ≤ wr.heap.size) (fun i _ => x3.length - (intOf i).toNat)
    case atStart => exact ⟨0, none, 0, Nat.zero_le _, rfl, HT.out, HBP.out, Own.nil_row _ _ _, hq'⟩
    case round =>
      obtain ⟨k, B, d, hk, rfl, hT, hP, hO, hqr⟩ := hrel
      have f0 := hT.1.cell
      by_cases hlt : k < x3.length
      · obtain ⟨-, b, off, rfl, hb1, hb2, A5, c5, e100, hX⟩ := shLevel_at ((Sh.row 108 shLevel).R_below HA3.out hT.2.2 hhi) hlt
        have HX := Lib.hid (HF3.out _ (getD_in (d := shLevel.d) hlt))
        have hn5 : (x3.getD k shLevel.d).length ≤ 1048576 := HX.out.1
        have HTK := Lib.hid (take_succ_getD shLevel hlt)
        generalize x3.getD k shLevel.d = y0 at *
        have hsz := hT.2.2.size
        have hwi : hi ≤ wr.heap.size := Nat.le_trans hhi hsz
        have hbw : b < wr.heap.size := Nat.lt_of_lt_of_le hb2 hwi
        have HR := Lib.hid (rowG_of_shape (show (Sh.row 151 shBind).R wr lo hi [.slice A5 y0.length c5] y0 from hX))
        have HT := Lib.hid hT; have HP := Lib.hid hP; have HO := Lib.hid hO; have HE := Lib.hid e100
        have hi0 : (0 : Int) ≤ (k : Int) := by omega
        have hi1 : (k : Int) < (x3.length : Int) := by omega
        clear hT hP hO hX e100
        go_upto_region 5 with fail
        clear f0
        refine AnyT.region (fun j => j == 14) (fun W => (∀ i, W.cell? ⟨p, i, none⟩ = (#[.int .i64 x0, .slice B1 x1.length d1, .slice none 0 0, .slice B k d] : Array Value)[i]?) ∧ (∀ i, W.cell? ⟨w.heap.size, i, none⟩ = (#[.int .i64 x0, .slice A1 x1.length c1, .slice A2 x2.length c2, .slice (some ⟨b, off, none⟩) x3.length c3] : Array Value)[i]?) ∧ W.cell? ⟨b, off + k, none⟩ = some (.slice A5 y0.length c5)) (by kernel_rfl) ⟨(HP.out.drewN 1).cell, (HT.out.1.drewN 1).cell, HE.out⟩ (fun hHeld => ?_)
        have HBD := Lib.hid (show Below wr.heap.size wr wr.drew from (Below.refl _ _).drew)
        have HED := Lib.hid (show wr.drew.cell? ⟨b, off + k, none⟩ = some (.slice A5 y0.length c5) from HE.out)
        have hzd : wr.drew.heap.size ≤ wr.heap.size ∧ wr.heap.size ≤ wr.drew.heap.size := ⟨Nat.le_refl _, Nat.le_refl _⟩
        clear HE
        generalize wr.drew = wD at *
        ((refine AnyT.takeAny 0 20 ?_ rfl (by kernel_rfl) (by kernel_rfl) (by kernel_rfl) rfl rfl (fun _ _ _ _ h => h) rfl ?_ (by assumption) ?_); rotate_left; (intro w; go_simp; (try (with_reducible rfl))); simp only [Act.put, List.setIfInBounds_toArray, List.set_cons_zero, List.set_cons_succ])
        ((refine AnyT.take 1 21 ?_ rfl (by kernel_rfl) (by kernel_rfl) (by kernel_rfl) (by kernel_rfl) rfl (by kernel_rfl) rfl (fun _ _ _ _ h => h) rfl ?_ (by assumption) ?_); rotate_left; (intro w hSw; (try dsimp only at hSw); go_simp; (try (with_reducible rfl))); simp only [Act.put, List.setIfInBounds_toArray, List.set_cons_zero, List.set_cons_succ])
        ((refine AnyT.takeAny 3 23 ?_ rfl (by kernel_rfl) (by kernel_rfl) (by kernel_rfl) rfl rfl (fun _ _ _ _ h => h) rfl ?_ (by assumption) ?_); rotate_left; (intro w; go_simp; (try (with_reducible rfl))); simp only [Act.put, List.setIfInBounds_toArray, List.set_cons_zero, List.set_cons_succ])
        ((refine AnyT.take 4 24 ?_ rfl (by kernel_rfl) (by kernel_rfl) (by kernel_rfl) (by kernel_rfl) rfl (by kernel_rfl) rfl (fun _ _ _ _ h => h) rfl ?_ (by assumption) ?_); rotate_left; (intro w hSw; (try dsimp only at hSw); go_simp; (try (with_reducible rfl))); simp only [Act.put, List.setIfInBounds_toArray, List.set_cons_zero, List.set_cons_succ])
        ((refine AnyT.takeAny 5 25 ?_ rfl (by kernel_rfl) (by kernel_rfl) (by kernel_rfl) rfl rfl (fun _ _ _ _ h => h) rfl ?_ (by assumption) ?_); rotate_left; (intro w; go_simp; (try (with_reducible rfl))); simp only [Act.put, List.setIfInBounds_toArray, List.set_cons_zero, List.set_cons_succ])
        ((refine AnyT.takeAny 6 26 ?_ rfl (by kernel_rfl) (by kernel_rfl) (by kernel_rfl) rfl rfl (fun _ _ _ _ h => h) rfl ?_ (by assumption) ?_); rotate_left; (intro w; go_simp; (try (with_reducible rfl))); simp only [Act.put, List.setIfInBounds_toArray, List.set_cons_zero, List.set_cons_succ])
        ((refine AnyT.takeAny 7 27 ?_ rfl (by kernel_rfl) (by kernel_rfl) (by kernel_rfl) rfl rfl (fun _ _ _ _ h => h) rfl ?_ (by assumption) ?_); rotate_left; (intro w; go_simp; (try (with_reducible rfl))); simp only [Act.put, List.setIfInBounds_toArray, List.set_cons_zero, List.set_cons_succ])
        ((refine AnyT.take 8 28 ?_ rfl (by kernel_rfl) (by kernel_rfl) (by kernel_rfl) (by kernel_rfl) rfl (by kernel_rfl) rfl (fun _ _ _ _ h => h) rfl ?_ (by assumption) ?_); rotate_left; (intro w hSw; (try dsimp only at hSw); go_simp; (try (with_reducible rfl))); simp only [Act.put, List.setIfInBounds_toArray, List.set_cons_zero, List.set_cons_succ])
        ((refine AnyT.one (i := 2) (by kernel_rfl) rfl (fun K hK => ?_)))
        go_simp
        have HBa := Lib.hid ((Below.refl wD.heap.size wD).alloc (Nat.le_refl _) (.cells #[] 151))
        have BL := Lib.hid (Blk.new wD 151 #[])
        have hn1' : (wD.alloc (.cells #[] 151)).heap.size ≤ wD.heap.size + 1 ∧ wD.heap.size + 1 ≤ (wD.alloc (.cells #[] 151)).heap.size := by simp
        have HB2 := Lib.hid (HBD.out.trans (HBa.out.mono (by omega)))
        have HEA := Lib.hid ((HB2.out.cell (p := ⟨b, off + k, none⟩) hbw).trans (show wr.cell? ⟨b, off + k, none⟩ = _ from (HBD.out.cell (p := ⟨b, off + k, none⟩) hbw).symm.trans HED.out))
        refine hK.out _ _ ⟨(HP.out.below HB2.out HP.out.lt).cell, (HT.out.1.below HB2.out HT.out.1.lt).cell, HEA.out⟩ (fun hHeld => ?_)
        clear hK K HBa HED
        (try simp only [Go.Act.put, List.setIfInBounds_toArray, List.set_cons_zero, List.set_cons_succ])
        generalize wD.alloc (.cells #[] 151) = v1 at *
        ((refine AnyT.one (i := 9) (by kernel_rfl) rfl (fun K hK => ?_)))
        refine step_litR (s := shBind) rfl (.tmp 22) (.tmp 28) 41 rfl Tryz.underlying41 rfl (by decide) (by decide) infoBind flatBind v1 wD.heap.size lo hi A5 c5 y0 rfl rfl BL.out (rowG_below HR.out HB2.out hwi) (by omega) ?_
        intro B5 d5 v2 hos hout
        have hs2 := hout.size
        have HB3 := Lib.hid (HB2.out.trans (hout.below1 (B := wr.heap.size) (by omega) (by omega)))
        have HE5 := Lib.hid (show Own shLevel v2 wr.heap.size v2.heap.size [.slice B5 y0.length d5] y0 from (hos.mono (S' := fun b => wr.heap.size ≤ b ∧ b < v2.heap.size) (fun b hb hl => ⟨by omega, hl⟩)).own fun b hb => hb)
        have HEB := Lib.hid ((HB3.out.cell (p := ⟨b, off + k, none⟩) hbw).trans ((HB2.out.cell (p := ⟨b, off + k, none⟩) hbw).symm.trans HEA.out))
        refine hK.out _ _ ⟨(HP.out.below HB3.out HP.out.lt).cell, (HT.out.1.below HB3.out HT.out.1.lt).cell, HEB.out⟩ (fun hHeld => ?_)
        clear hK K hos hout BL HB2 HEA
        (try simp only [Go.Act.put, List.setIfInBounds_toArray, List.set_cons_zero, List.set_cons_succ])
        ((refine AnyT.takeAny 10 30 ?_ rfl (by kernel_rfl) (by kernel_rfl) (by kernel_rfl) rfl rfl (fun _ _ _ _ h => h) rfl ?_ (by assumption) ?_); rotate_left; (intro w; go_simp; (try (with_reducible rfl))); simp only [Act.put, List.setIfInBounds_toArray, List.set_cons_zero, List.set_cons_succ])
        ((refine AnyT.one (i := 11) (by kernel_rfl) rfl (fun K hK => ?_)))
        go_simp
        have HBb := Lib.hid ((Below.refl v2.heap.size v2).alloc (Nat.le_refl _) (.cells #[.slice B5 y0.length d5] 108))
        refine hK.out _ _ ⟨((HP.out.below HB3.out HP.out.lt).alloc _).cell, ((HT.out.1.below HB3.out HT.out.1.lt).alloc _).cell, (HBb.out.cell (p := ⟨b, off + k, none⟩) (Nat.lt_of_lt_of_le hbw HB3.out.size)).trans HEB.out⟩ (fun hHeld => ?_)
        clear hK K HBb
        (try simp only [Go.Act.put, List.setIfInBounds_toArray, List.set_cons_zero, List.set_cons_succ])
        ((refine AnyT.one (i := 12) (by kernel_rfl) rfl (fun K hK => ?_)))
        refine step_grow (s := shLevel) rfl (.tmp 21) (.tmp 31) 43 rfl Tryz.underlying43 rfl (by decide) (by decide) infoLevel v2 q wr.heap.size wr.heap.size v2.heap.size B k d (x3.take k) [.slice B5 y0.length d5] y0 rfl (HO.out.below HB3.out (Nat.le_refl _)) HE5.out (Nat.le_refl _) (by omega) (Nat.le_refl _) (by omega) rfl (by omega) ?_
        intro B7 d7 w7 ho7 hb7 hs7 hk7
        rw [← HTK.out] at ho7
        have hpq : p < q := by have := HQ.out; omega
        have hwq : w.heap.size + 1 < q := by omega
        have HT7 := Lib.hid (Two.belowB (HT.out.call HB3.out) (hb7.mono (by omega)))
        have HP7 := Lib.hid ((HP.out.below HB3.out HP.out.lt).below hb7 hpq)
        have HO7 := Lib.hid ho7
        refine hK.out _ _ ⟨HP7.out.cell, HT7.out.1.cell, (hb7.cell (p := ⟨b, off + k, none⟩) (by dsimp only; omega)).trans HEB.out⟩ (fun hHeld => ?_)
        clear hK K hk7 ho7
        (try simp only [Go.Act.put, List.setIfInBounds_toArray, List.set_cons_zero, List.set_cons_succ])
        ((refine AnyT.takeAny 13 33 ?_ rfl (by kernel_rfl) (by kernel_rfl) (by kernel_rfl) rfl rfl (fun _ _ _ _ h => h) rfl ?_ (by assumption) ?_); rotate_left; (intro w; go_simp; (try (with_reducible rfl))); simp only [Act.put, List.setIfInBounds_toArray, List.set_cons_zero, List.set_cons_succ])
        have f7 := HP7.out.cell
        have z7 := HP7.out.frozen
        ((refine AnyT.last (i := 14) (by kernel_rfl) rfl (by kernel_rfl) (fun K hK => ?_)))
        go_simp
        refine hK.out _ _ ?_
        clear hK K
        (try simp only [Go.Act.put, List.setIfInBounds_toArray, List.set_cons_zero, List.set_cons_succ])
        refine AnyT.done (by kernel_rfl) ?_ _
        clear f7 z7
        go_wp2_with fail
        go_roundw
        case rel =>
          refine ⟨k + 1, B7, d7, by omega, by go_num, ⟨HT7.out.1.far (by dsimp only; omega) _, HT7.out.2.1.far (by dsimp only; omega) _, HT7.out.2.2.setCell (by dsimp only; omega) _⟩, HP7.out.set_ 3 _, (HO7.out.setCell (p := ⟨p, 3, none⟩) (by dsimp only; omega) (.slice B7 (k + 1) d7)).more (Nat.le_refl _) (by simp [World.setCell]), ?_⟩
          simp [World.setCell]; omega
        case measure => simp [intOf]; omega
      · obtain rfl : k = x3.length := by omega
        have HT := Lib.hid hT; have HP := Lib.hid hP
        have hpq : p < q := by have := HQ.out; omega
        clear hT hP hO
        go_wp2_with fail
        clear f0
        generalize hq2 : wr.heap.size = q2 at *
        have HQ2 := Lib.hid hq2
        have hq2' : q2 ≤ wr.heap.size := by omega
        clear hq2
        go_loopw [5] (fun i wr => ∃ (k n : Nat) (B' : Option Addr) (d' : Nat) (xs : List TyCell), k ≤ x2.length ∧ i = .int .i64 k ∧ n ≤ k ∧ Two w wr 45 45 #[.int .i64 x0, .slice A1 x1.length c1, .slice A2 x2.length c2, .slice A3 x3.length c3] #[.int .i64 0, .slice none 0 0, .slice none 0 0, .slice none 0 0] ∧ Blk wr p 45 #[.int .i64 x0, .slice B1 x1.length d1, .slice B' n d', .slice B x3.length d] ∧ Own (Sh.row 105 shCell) wr q2 wr.heap.size [.slice B' n d'] xs ∧ q2 ≤ wr.heap.size) (fun i _ => x2.length - (intOf i).toNat)
        case atStart => exact ⟨0, 0, none, 0, [], Nat.zero_le _, rfl, Nat.le_refl _, HT.out, HP.out, Own.nil_row _ _ _, hq2'⟩
        case round =>
          obtain ⟨k, n, B', d', xs, hk, rfl, hnk, hT, hP, hO, hqr2⟩ := hrel
          have f0 := hT.1.cell
          by_cases hlt : k < x2.length
          · obtain ⟨-, b, off, rfl, hb1, hb2, A5, c5, e100, e101, hX⟩ := shCell_at ((Sh.row 105 shCell).R_below HA2.out hT.2.2 hhi) hlt
            have HX := Lib.hid (HF2.out _ (getD_in (d := shCell.d) hlt))
            generalize x2.getD k shCell.d = X at *
            obtain ⟨y0, y1⟩ := X
            dsimp only at e100 e101
            have hsz := hT.2.2.size
            have hwi : hi ≤ wr.heap.size := Nat.le_trans hhi hsz
            have hbw : b < wr.heap.size := Nat.lt_of_lt_of_le hb2 hwi
            have HR := Lib.hid (shCell_f1 hX)
            have HT := Lib.hid hT; have HP := Lib.hid hP; have HO := Lib.hid hO; have HE := Lib.hid e100; have HE' := Lib.hid e101
            have hi0 : (0 : Int) ≤ (k : Int) := by omega
            have hi1 : (k : Int) < (x2.length : Int) := by omega
            clear hT hP hO hX e100 e101
            go_upto_region 9 with fail
            clear f0
            refine AnyT.region (fun _ => false) (fun W => (∀ i, W.cell? ⟨w.heap.size, i, none⟩ = (#[.int .i64 x0, .slice A1 x1.length c1, .slice (some ⟨b, off, none⟩) x2.length c2, .slice A3 x3.length c3] : Array Value)[i]?) ∧ W.cell? ⟨b, off + k * 2, none⟩ = some (.int .i64 y0)) (by kernel_rfl) ⟨(HT.out.1.drewN 1).cell, HE.out⟩ (fun hHeld => ?_)
            have HBD := Lib.hid (show Below wr.heap.size wr wr.drew from (Below.refl _ _).drew)
            have HED := Lib.hid (show wr.drew.cell? ⟨b, off + k * 2, none⟩ = some (.int .i64 y0) from HE.out)
            have HLD := Lib.hid (shLocals.R_below (shLocals.R_below HH.out HT.out.2.2 hhi) HBD.out hwi)
            have hzd : wr.drew.heap.size ≤ wr.heap.size ∧ wr.heap.size ≤ wr.drew.heap.size := ⟨Nat.le_refl _, Nat.le_refl _⟩
            generalize wr.drew = wD at *
            ((refine AnyT.take 0 41 ?_ rfl (by kernel_rfl) (by kernel_rfl) (by kernel_rfl) (by kernel_rfl) rfl (by kernel_rfl) rfl (fun _ _ _ _ h => h) rfl ?_ (by assumption) ?_); rotate_left; (intro w hSw; (try dsimp only at hSw); go_simp; (try (with_reducible rfl))); simp only [Act.put, List.setIfInBounds_toArray, List.set_cons_zero, List.set_cons_succ])
            ((refine AnyT.takeAny 1 42 ?_ rfl (by kernel_rfl) (by kernel_rfl) (by kernel_rfl) rfl rfl (fun _ _ _ _ h => h) rfl ?_ (by assumption) ?_); rotate_left; (intro w; go_simp; (try (with_reducible rfl))); simp only [Act.put, List.setIfInBounds_toArray, List.set_cons_zero, List.set_cons_succ])
            ((refine AnyT.take 2 43 ?_ rfl (by kernel_rfl) (by kernel_rfl) (by kernel_rfl) (by kernel_rfl) rfl (by kernel_rfl) rfl (fun _ _ _ _ h => h) rfl ?_ (by assumption) ?_); rotate_left; (intro w hSw; (try dsimp only at hSw); go_simp; (try (with_reducible rfl))); simp only [Act.put, List.setIfInBounds_toArray, List.set_cons_zero, List.set_cons_succ])
            ((refine AnyT.takeAny 3 44 ?_ rfl (by kernel_rfl) (by kernel_rfl) (by kernel_rfl) rfl rfl (fun _ _ _ _ h => h) rfl ?_ (by assumption) ?_); rotate_left; (intro w; go_simp; (try (with_reducible rfl))); simp only [Act.put, List.setIfInBounds_toArray, List.set_cons_zero, List.set_cons_succ])
            ((refine AnyT.takeAny 4 45 ?_ rfl (by kernel_rfl) (by kernel_rfl) (by kernel_rfl) rfl rfl (fun _ _ _ _ h => h) rfl ?_ (by assumption) ?_); rotate_left; (intro w; go_simp; (try (with_reducible rfl))); simp only [Act.put, List.setIfInBounds_toArray, List.set_cons_zero, List.set_cons_succ])
            ((refine AnyT.takeAny 5 46 ?_ rfl (by kernel_rfl) (by kernel_rfl) (by kernel_rfl) rfl rfl (fun _ _ _ _ h => h) rfl ?_ (by assumption) ?_); rotate_left; (intro w; go_simp; (try (with_reducible rfl))); simp only [Act.put, List.setIfInBounds_toArray, List.set_cons_zero, List.set_cons_succ])
            ((refine AnyT.take 6 47 ?_ rfl (by kernel_rfl) (by kernel_rfl) (by kernel_rfl) (by kernel_rfl) rfl (by kernel_rfl) rfl (fun _ _ _ _ h => h) rfl ?_ (by assumption) ?_); rotate_left; (intro w hSw; (try dsimp only at hSw); go_simp; (try (with_reducible rfl))); simp only [Act.put, List.setIfInBounds_toArray, List.set_cons_zero, List.set_cons_succ])
            ((refine AnyT.one (i := 7) (by kernel_rfl) rfl (fun K hK => ?_)))
            go_simp
            refine (l09Used_f y0 x0 x1 x2 x3 A1 c1 (some ⟨b, off, none⟩) c2 A3 c3 lo hi _ HLD.out (by omega) HFF.out).mono ?_
            rintro e6 w6 ⟨bu, rfl, hb6⟩
            go_simp
            have HB6 := Lib.hid (HBD.out.trans (hb6.mono HBD.out.size))
            have HE6 := Lib.hid ((hb6.cell (p := ⟨b, off + k * 2, none⟩) (by dsimp only; omega)).trans HED.out)
            have hs6 := hb6.size
            refine hK.out _ _ ⟨(HT.out.1.below HB6.out HT.out.1.lt).cell, HE6.out⟩ (fun hHeld => ?_)
            clear hK K hb6 HLD HED
            (try simp only [Go.Act.put, List.setIfInBounds_toArray, List.set_cons_zero, List.set_cons_succ])
            refine AnyT.done (by kernel_rfl) ?_ _
            have HT6 := Lib.hid (HT.out.call HB6.out)
            have HP6 := Lib.hid (HP.out.below HB6.out HP.out.lt)
            have HO6 := Lib.hid ((HO.out.below HB6.out (Nat.le_refl _)).tight)
            have HR6 := Lib.hid (shTree.R_below HR.out HB6.out hwi)
            have HE6' := Lib.hid ((HB6.out.cell (p := ⟨b, off + k * 2 + 1, none⟩) hbw).trans HE'.out)
            have hq6 : q2 ≤ w6.heap.size := by omega
            have hw6 : wr.heap.size ≤ w6.heap.size := by omega
            clear HT HP HO HR HE HE' HB6 HBD hHeld
            cases bu with
            | false =>
              go_wp2_with fail
              go_roundw
              case rel => exact ⟨k + 1, n, B', d', xs, by omega, by go_num, by omega, HT6.out, HP6.out, HO6.out, hq6⟩
              case measure => simp [intOf]; omega
            | true =>
              go_upto_region 10 with fail
              refine AnyT.region (fun j => j == 19) (fun W => (∀ i, W.cell? ⟨p, i, none⟩ = (#[.int .i64 x0, .slice B1 x1.length d1, .slice B' n d', .slice B x3.length d] : Array Value)[i]?) ∧ (∀ i, W.cell? ⟨w.heap.size, i, none⟩ = (#[.int .i64 x0, .slice A1 x1.length c1, .slice (some ⟨b, off, none⟩) x2.length c2, .slice A3 x3.length c3] : Array Value)[i]?) ∧ W.cell? ⟨b, off + k * 2, none⟩ = some (.int .i64 y0) ∧ W.cell? ⟨b, off + k * 2 + 1, none⟩ = some (.slice A5 y1.length c5)) (by kernel_rfl) ⟨(HP6.out.drewN 1).cell, (HT6.out.1.drewN 1).cell, HE6.out, HE6'.out⟩ (fun hHeld => ?_)
              have HBD := Lib.hid (show Below w6.heap.size w6 w6.drew from (Below.refl _ _).drew)
              have HTR := Lib.hid (shTree.R_below HR6.out HBD.out (by omega))
              have hzd : w6.drew.heap.size ≤ w6.heap.size ∧ w6.heap.size ≤ w6.drew.heap.size := ⟨Nat.le_refl _, Nat.le_refl _⟩
              generalize w6.drew = wE at *
              ((refine AnyT.takeAny 0 49 ?_ rfl (by kernel_rfl) (by kernel_rfl) (by kernel_rfl) rfl rfl (fun _ _ _ _ h => h) rfl ?_ (by assumption) ?_); rotate_left; (intro w; go_simp; (try (with_reducible rfl))); simp only [Act.put, List.setIfInBounds_toArray, List.set_cons_zero, List.set_cons_succ])
              ((refine AnyT.take 1 50 ?_ rfl (by kernel_rfl) (by kernel_rfl) (by kernel_rfl) (by kernel_rfl) rfl (by kernel_rfl) rfl (fun _ _ _ _ h => h) rfl ?_ (by assumption) ?_); rotate_left; (intro w hSw; (try dsimp only at hSw); go_simp; (try (with_reducible rfl))); simp only [Act.put, List.setIfInBounds_toArray, List.set_cons_zero, List.set_cons_succ])
              ((refine AnyT.takeAny 2 51 ?_ rfl (by kernel_rfl) (by kernel_rfl) (by kernel_rfl) rfl rfl (fun _ _ _ _ h => h) rfl ?_ (by assumption) ?_); rotate_left; (intro w; go_simp; (try (with_reducible rfl))); simp only [Act.put, List.setIfInBounds_toArray, List.set_cons_zero, List.set_cons_succ])
              ((refine AnyT.take 3 52 ?_ rfl (by kernel_rfl) (by kernel_rfl) (by kernel_rfl) (by kernel_rfl) rfl (by kernel_rfl) rfl (fun _ _ _ _ h => h) rfl ?_ (by assumption) ?_); rotate_left; (intro w hSw; (try dsimp only at hSw); go_simp; (try (with_reducible rfl))); simp only [Act.put, List.setIfInBounds_toArray, List.set_cons_zero, List.set_cons_succ])
              ((refine AnyT.takeAny 4 53 ?_ rfl (by kernel_rfl) (by kernel_rfl) (by kernel_rfl) rfl rfl (fun _ _ _ _ h => h) rfl ?_ (by assumption) ?_); rotate_left; (intro w; go_simp; (try (with_reducible rfl))); simp only [Act.put, List.setIfInBounds_toArray, List.set_cons_zero, List.set_cons_succ])
              ((refine AnyT.takeAny 5 54 ?_ rfl (by kernel_rfl) (by kernel_rfl) (by kernel_rfl) rfl rfl (fun _ _ _ _ h => h) rfl ?_ (by assumption) ?_); rotate_left; (intro w; go_simp; (try (with_reducible rfl))); simp only [Act.put, List.setIfInBounds_toArray, List.set_cons_zero, List.set_cons_succ])
              ((refine AnyT.takeAny 6 55 ?_ rfl (by kernel_rfl) (by kernel_rfl) (by kernel_rfl) rfl rfl (fun _ _ _ _ h => h) rfl ?_ (by assumption) ?_); rotate_left; (intro w; go_simp; (try (with_reducible rfl))); simp only [Act.put, List.setIfInBounds_toArray, List.set_cons_zero, List.set_cons_succ])
              ((refine AnyT.take 7 56 ?_ rfl (by kernel_rfl) (by kernel_rfl) (by kernel_rfl) (by kernel_rfl) rfl (by kernel_rfl) rfl (fun _ _ _ _ h => h) rfl ?_ (by assumption) ?_); rotate_left; (intro w hSw; (try dsimp only at hSw); go_simp; (try (with_reducible rfl))); simp only [Act.put, List.setIfInBounds_toArray, List.set_cons_zero, List.set_cons_succ])
              ((refine AnyT.takeAny 8 57 ?_ rfl (by kernel_rfl) (by kernel_rfl) (by kernel_rfl) rfl rfl (fun _ _ _ _ h => h) rfl ?_ (by assumption) ?_); rotate_left; (intro w; go_simp; (try (with_reducible rfl))); simp only [Act.put, List.setIfInBounds_toArray, List.set_cons_zero, List.set_cons_succ])
              ((refine AnyT.take 9 58 ?_ rfl (by kernel_rfl) (by kernel_rfl) (by kernel_rfl) (by kernel_rfl) rfl (by kernel_rfl) rfl (fun _ _ _ _ h => h) rfl ?_ (by assumption) ?_); rotate_left; (intro w hSw; (try dsimp only at hSw); go_simp; (try (with_reducible rfl))); simp only [Act.put, List.setIfInBounds_toArray, List.set_cons_zero, List.set_cons_succ])
              ((refine AnyT.takeAny 10 59 ?_ rfl (by kernel_rfl) (by kernel_rfl) (by kernel_rfl) rfl rfl (fun _ _ _ _ h => h) rfl ?_ (by assumption) ?_); rotate_left; (intro w; go_simp; (try (with_reducible rfl))); simp only [Act.put, List.setIfInBounds_toArray, List.set_cons_zero, List.set_cons_succ])
              ((refine AnyT.takeAny 11 60 ?_ rfl (by kernel_rfl) (by kernel_rfl) (by kernel_rfl) rfl rfl (fun _ _ _ _ h => h) rfl ?_ (by assumption) ?_); rotate_left; (intro w; go_simp; (try (with_reducible rfl))); simp only [Act.put, List.setIfInBounds_toArray, List.set_cons_zero, List.set_cons_succ])
              ((refine AnyT.takeAny 12 61 ?_ rfl (by kernel_rfl) (by kernel_rfl) (by kernel_rfl) rfl rfl (fun _ _ _ _ h => h) rfl ?_ (by assumption) ?_); rotate_left; (intro w; go_simp; (try (with_reducible rfl))); simp only [Act.put, List.setIfInBounds_toArray, List.set_cons_zero, List.set_cons_succ])
              ((refine AnyT.take 13 62 ?_ rfl (by kernel_rfl) (by kernel_rfl) (by kernel_rfl) (by kernel_rfl) rfl (by kernel_rfl) rfl (fun _ _ _ _ h => h) rfl ?_ (by assumption) ?_); rotate_left; (intro w hSw; (try dsimp only at hSw); go_simp; (try (with_reducible rfl))); simp only [Act.put, List.setIfInBounds_toArray, List.set_cons_zero, List.set_cons_succ])
              ((refine AnyT.one (i := 14) (by kernel_rfl) rfl (fun K hK => ?_)))
              go_simp
              refine (l09OwnTree_f y1 A5 c5 lo hi _ HTR.out (by omega) HX.out.2).mono ?_
              rintro e8 w8 ⟨B8, d8, rfl, ho8, hb8⟩
              go_simp
              have HB8 := Lib.hid (HBD.out.trans (hb8.mono HBD.out.size))
              have hs8 := hb8.size
              have HE8 := Lib.hid (show Own shCell w8 w6.heap.size w8.heap.size [.int .i64 y0, .slice B8 y1.length d8] (y0, y1) from Own.prod (Own.one w8 w6.heap.size w6.heap.size _) (ho8.more (lo' := w6.heap.size) (by omega) (Nat.le_refl _)) (Nat.le_refl _) (Nat.le_refl _) (by omega))
              have HP8 := Lib.hid (HP6.out.below HB8.out HP6.out.lt); have HT8 := Lib.hid (HT6.out.call HB8.out)
              have HC8 := Lib.hid ((HB8.out.cell (p := ⟨b, off + k * 2, none⟩) (by dsimp only; omega)).trans HE6.out)
              have HC8' := Lib.hid ((HB8.out.cell (p := ⟨b, off + k * 2 + 1, none⟩) (by dsimp only; omega)).trans HE6'.out)
              refine hK.out _ _ ⟨HP8.out.cell, HT8.out.1.cell, HC8.out, HC8'.out⟩ (fun hHeld => ?_)
              clear hK K ho8 hb8
              (try simp only [Go.Act.put, List.setIfInBounds_toArray, List.set_cons_zero, List.set_cons_succ])
              ((refine AnyT.takeAny 15 64 ?_ rfl (by kernel_rfl) (by kernel_rfl) (by kernel_rfl) rfl rfl (fun _ _ _ _ h => h) rfl ?_ (by assumption) ?_); rotate_left; (intro w; go_simp; (try (with_reducible rfl))); simp only [Act.put, List.setIfInBounds_toArray, List.set_cons_zero, List.set_cons_succ])
              ((refine AnyT.one (i := 16) (by kernel_rfl) rfl (fun K hK => ?_)))
              go_simp
              have HBb := Lib.hid ((Below.refl w8.heap.size w8).alloc (Nat.le_refl _) (.cells #[.int .i64 y0, .slice B8 y1.length d8] 105))
              refine hK.out _ _ ⟨(HP8.out.alloc _).cell, (HT8.out.1.alloc _).cell, (HBb.out.cell (p := ⟨b, off + k * 2, none⟩) (by dsimp only; omega)).trans HC8.out, (HBb.out.cell (p := ⟨b, off + k * 2 + 1, none⟩) (by dsimp only; omega)).trans HC8'.out⟩ (fun hHeld => ?_)
              clear hK K HBb
              (try simp only [Go.Act.put, List.setIfInBounds_toArray, List.set_cons_zero, List.set_cons_succ])
              ((refine AnyT.one (i := 17) (by kernel_rfl) rfl (fun K hK => ?_)))
              refine step_grow (s := shCell) rfl (.tmp 50) (.tmp 65) 42 rfl Tryz.underlying42 rfl (by decide) (by decide) infoCell w8 q2 w6.heap.size w6.heap.size w8.heap.size B' n d' xs [.int .i64 y0, .slice B8 y1.length d8] (y0, y1) rfl (HO6.out.below HB8.out (Nat.le_refl _)) HE8.out (Nat.le_refl _) (by omega) (Nat.le_refl _) (by omega) rfl (by omega) ?_
              intro B9 d9 w9 ho9 hb9 hs9 hk9
              have hpq2 : p < q2 := by have := HQ2.out; omega
              have HT9 := Lib.hid (Two.belowB HT8.out (hb9.mono (by omega)))
              have HP9 := Lib.hid (HP8.out.below hb9 hpq2)
              have HO9 := Lib.hid ho9
              refine hK.out _ _ ⟨HP9.out.cell, HT9.out.1.cell, (hb9.cell (p := ⟨b, off + k * 2, none⟩) (by dsimp only; omega)).trans HC8.out, (hb9.cell (p := ⟨b, off + k * 2 + 1, none⟩) (by dsimp only; omega)).trans HC8'.out⟩ (fun hHeld => ?_)
              clear hK K hk9 ho9 hb9
              (try simp only [Go.Act.put, List.setIfInBounds_toArray, List.set_cons_zero, List.set_cons_succ])
              ((refine AnyT.takeAny 18 67 ?_ rfl (by kernel_rfl) (by kernel_rfl) (by kernel_rfl) rfl rfl (fun _ _ _ _ h => h) rfl ?_ (by assumption) ?_); rotate_left; (intro w; go_simp; (try (with_reducible rfl))); simp only [Act.put, List.setIfInBounds_toArray, List.set_cons_zero, List.set_cons_succ])
              have f7 := HP9.out.cell
              have z7 := HP9.out.frozen
              ((refine AnyT.last (i := 19) (by kernel_rfl) rfl (by kernel_rfl) (fun K hK => ?_)))
              go_simp
              refine hK.out _ _ ?_
              clear hK K
              (try simp only [Go.Act.put, List.setIfInBounds_toArray, List.set_cons_zero, List.set_cons_succ])
              refine AnyT.done (by kernel_rfl) ?_ _
              clear f7 z7 HC8 HC8' HE6 HE6'
              go_wp2_with fail
              go_roundw
              case rel =>
                refine ⟨k + 1, n + 1, B9, d9, _, by omega, by go_num, by omega, ⟨HT9.out.1.far (by dsimp only; omega) _, HT9.out.2.1.far (by dsimp only; omega) _, HT9.out.2.2.setCell (by dsimp only; omega) _⟩, HP9.out.set_ 2 _, (HO9.out.setCell (p := ⟨p, 2, none⟩) (by dsimp only; omega) (.slice B9 (n + 1) d9)).more (Nat.le_refl _) (by simp [World.setCell]), ?_⟩
                simp [World.setCell]; omega
              case measure => simp [intOf]; omega
          · have HT := Lib.hid hT; have HP := Lib.hid hP
            have f1 := hT.2.1.cell; have z1 := hT.2.1.frozen; have f2 := hP.cell
            clear hT hP hO
            go_wp2_with fail
            refine bodyPost_ret (v := .agg #[.int .i64 x0, .slice B1 x1.length d1, .slice B' n d', .slice B x3.length d]) (by simp [results, Tryz.results92, go_sem, f1]) rfl ⟨_, _, _, _, _, _, _, _, _, rfl, ?_⟩
            iterate 4 (with_reducible refine Below.setCell ?_ (by simp; try omega) _)
            exact HT.out.2.2

end Go.Proofs.YtlodlplfmpikjaaGreat
