/- A drawn tree: so many changes done to an empty one. Printed by wip/gen_dsa.py. -/
import Derived.Test.YtfibjcaidnofmaaGreatDoorJoinEOBp
import Derived.Test.YtfibjcaidnofmaaGreatDoorJoinEOAj
namespace Go.Proofs.YtfibjcaidnofmaaGreatDoor
open Go.RowKit

/-- The tree so far, in its variable's block g5; the result's block g4. -/
structure MadeSt (w0 W : World) (p lo hi : Nat) (A : Option Addr) (n c K g4 g5 base : Nat) (B : Option Addr) (d : Nat) (ts : List TyNode) : Prop where
  res : Blk W g4 26 #[.slice none 0 0]
  var : Blk W g5 26 #[.slice B ts.length d]
  src : Src W p lo hi A n c K
  mov : Moved p w0 W
  sep : hi ≤ w0.heap.size ∧ p < w0.heap.size ∧ w0.heap.size ≤ g4 ∧ g4 < g5 ∧ g5 < base ∧ base ≤ W.heap.size
section
variable {w0 W W' : World} {p lo hi n c K g4 g5 base d : Nat} {A B : Option Addr} {ts : List TyNode}
theorem MadeSt.moved {K' : Nat} (h : MadeSt w0 W p lo hi A n c K g4 g5 base B d ts) (hm : Moved p W W') (hs : Src W' p lo hi A n c K') : MadeSt w0 W' p lo hi A n c K' g4 g5 base B d ts := by
  obtain ⟨q1, q2, q3, q4, q5, q6⟩ := h.sep
  exact ⟨h.res.moved hm (by omega), h.var.moved hm (by omega), hs, h.mov.trans hm, q1, q2, q3, q4, q5, Nat.le_trans q6 hm.size⟩
theorem MadeSt.below (h : MadeSt w0 W p lo hi A n c K g4 g5 base B d ts) (hb : Below W.heap.size W W') : MadeSt w0 W' p lo hi A n c K g4 g5 base B d ts :=
  h.moved (Moved.of_below hb) (h.src.below hb)
theorem MadeSt.more {K' : Nat} (h : MadeSt w0 W p lo hi A n c K g4 g5 base B d ts) (hK : K ≤ K') : MadeSt w0 W p lo hi A n c K' g4 g5 base B d ts := ⟨h.res, h.var, h.src.more hK, h.mov, h.sep⟩
/-- A block behind all of it is written. -/
theorem MadeSt.set_ (h : MadeSt w0 W p lo hi A n c K g4 g5 base B d ts) {q : Addr} (h2 : base ≤ q.block) (v : Value) : MadeSt w0 (W.setCell q v) p lo hi A n c K g4 g5 base B d ts := by
  obtain ⟨q1, q2, q3, q4, q5, q6⟩ := h.sep
  have hz : (W.setCell q v).heap.size = W.heap.size := by simp
  exact ⟨h.res.far (by omega) v, h.var.far (by omega) v, h.src.far (by omega) (by omega) v, h.mov.set_ (by omega) v, q1, q2, q3, q4, q5, by omega⟩
/-- The tree's variable takes another tree. -/
theorem MadeSt.put (h : MadeSt w0 W p lo hi A n c K g4 g5 base B d ts) (B' : Option Addr) (d' : Nat) (ts' : List TyNode) :
    MadeSt w0 (W.setCell ⟨g5, 0, none⟩ (.slice B' ts'.length d')) p lo hi A n c K g4 g5 base B' d' ts' := by
  obtain ⟨q1, q2, q3, q4, q5, q6⟩ := h.sep
  have hz : (W.setCell ⟨g5, 0, none⟩ (.slice B' ts'.length d')).heap.size = W.heap.size := by simp
  exact ⟨h.res.far (by dsimp only; omega) _, h.var.set_ 0 _, h.src.far (by dsimp only; omega) (by dsimp only; omega) _, h.mov.set_ (by dsimp only; omega) _, q1, q2, q3, q4, q5, by omega⟩
end

set_option maxHeartbeats 16000000 in
set_option maxRecDepth 100000 in
theorem l03Made_any (p lo hi : Nat) (A : Option Addr) (n c K many : Nat) (w : World) (h : Src w p lo hi A n c K) (hK : K ≤ 500000000) (hmany : many ≤ 50) :
    Calls Tryz.prog 77 #[.pointer (some ⟨p, 0, none⟩), .int .i64 many] w fun e w' => ∃ A' c' ts, e = .returned (.agg #[.slice A' ts.length c']) ∧ Own shTree w' w.heap.size w'.heap.size [.slice A' ts.length c'] ts ∧ TSm many ts ∧ Src w' p lo hi A n c (K + 20 * many) ∧ Moved p w w' := by
  have hpl := h.lt
  have hhi := h.le
  obtain ⟨W2, hW2⟩ : ∃ W2, W2 = (w.alloc (.cells #[.slice none 0 0] 26)).alloc (.cells #[.slice none 0 0] 26) := ⟨_, rfl⟩
  have hz2 : W2.heap.size = w.heap.size + 2 := by rw [hW2]; simp
  have hbA := ((Below.refl w.heap.size w).alloc (Nat.le_refl _) (.cells #[.slice none 0 0] 26)).alloc (by simp) (.cells #[.slice none 0 0] 26)
  rw [← hW2] at hbA
  have M0 : MadeSt w W2 p lo hi A n c K w.heap.size (w.heap.size + 1) (w.heap.size + 2) none 0 [] := by
    refine ⟨?_, ?_, h.below hbA, Moved.of_below hbA, hhi, hpl, Nat.le_refl _, by omega, by omega, by omega⟩
    · rw [hW2]; exact (Blk.new w 26 #[.slice none 0 0]).alloc _
    · rw [hW2]
      have := Blk.new (w.alloc (.cells #[.slice none 0 0] 26)) 26 #[.slice none 0 0]
      rw [heap_alloc_size1] at this
      exact this
  have HM0 := Lib.hid M0
  clear h hbA M0
  go_enter Tryz.func77, Tryz.ntmps77
  go_upto_region 2 with fail
  change Code.wp _ _ _ _ ((w.alloc (.cells #[.slice none 0 0] 26)).alloc (.cells #[.slice none 0 0] 26))
  rw [← hW2]
  clear hW2
  go_wp2_with fail
  generalize hbase : w.heap.size + 2 = base at *
  go_loopw [6, 7, 8] (fun kk _ _ wr => ∃ (j : Nat), j ≤ many ∧ kk = .int .i64 j ∧ ∃ (ts : List TyNode), TSm j ts ∧ ∃ (B : Option Addr) (d : Nat), Own shTree wr base wr.heap.size [.slice B ts.length d] ts ∧ MadeSt w wr p lo hi A n c (K + 20 * j) w.heap.size (w.heap.size + 1) base B d ts) (fun kk _ _ _ => many - (intOf kk).toNat)
  case atStart => exact ⟨0, Nat.zero_le _, rfl, [], ⟨Nat.zero_le _, fun x hx => by cases hx⟩, none, 0, Own.nil_row _ _ _, HM0.out⟩
  case round =>
    obtain ⟨j, hj, rfl, ts, hsm, B, d, hown, hM⟩ := hrel
    have HSM := Lib.hid hsm
    clear HM0
    by_cases hlt : j < many
    · have i1 : (j : Int) < (many : Int) := by omega
      have HM := Lib.hid (hM.below (below_drewN' wr 1))
      have HW := Lib.hid (show Own shTree wr.drew base wr.drew.heap.size [.slice B ts.length d] ts from hown.below (below_drewN' wr 1) (Nat.le_refl _))
      have hbz := hM.sep.2.2.2.2.2
      clear hM hsm hown
      go_upto_region 5 with fail
      change Code.wp _ _ _ _ wr
      have hM : MadeSt w wr.drew p lo hi A n c (K + 20 * j) w.heap.size (w.heap.size + 1) base B d ts := HM.out
      have hbz4 : base ≤ wr.drew.heap.size := hbz
      clear HM hbz
      refine AnyT.region (fun _ => false) (fun W => ∀ i, W.cell? ⟨w.heap.size + 1, i, none⟩ = (#[.slice B ts.length d] : Array Value)[i]?) (by kernel_rfl) hM.var.cell (fun hHeld => ?_)
      generalize wr.drew = w4 at *
      have HM := Lib.hid hM
      clear hM
      ((refine AnyT.take 0 16 ?_ rfl (by kernel_rfl) (by kernel_rfl) (by kernel_rfl) (by kernel_rfl) rfl (by kernel_rfl) rfl (fun _ _ _ _ h => h) rfl ?_ (by assumption) ?_); rotate_left; (intro w hSw; (try dsimp only at hSw); go_simp; (try (with_reducible rfl))); simp only [Act.put, List.setIfInBounds_toArray, List.set_cons_zero, List.set_cons_succ])
      ((refine AnyT.takeAny 1 17 ?_ rfl (by kernel_rfl) (by kernel_rfl) (by kernel_rfl) rfl rfl (fun _ _ _ _ h => h) rfl ?_ (by assumption) ?_); rotate_left; (intro w; go_simp; (try (with_reducible rfl))); simp only [Act.put, List.setIfInBounds_toArray, List.set_cons_zero, List.set_cons_succ])
      refine AnyT.two (i := 2) (j := 7) (by kernel_rfl) rfl rfl (fun K hK => ?_) (fun K hK => ?_)
      · go_simp
        refine (l03Change_any p lo hi A n c _ w4 HM.out.src (by omega)).mono ?_
        rintro e6 w6 ⟨kind, nm, v, vl, rfl, xs, ho6, hx6, hs6, hm6⟩
        obtain ⟨A5, c5, hv⟩ := ho6.1
        subst hv
        have HC6 := Lib.hid (show StrR w6 w4.heap.size w6.heap.size A5 xs.length xs from OwnR.reads (d := ByteArray.empty) ho6)
        have HX := Lib.hid hx6
        have s6 := hm6.size
        have M6 := Lib.hid (HM.out.moved hm6 hs6)
        have HW := Lib.hid ((HW.out.keep fun b h1 h2 => hm6.block b h2 (by omega)).more (Nat.le_refl _) hm6.size)
        clear ho6 hx6 hs6 hm6 HM
        go_simp
        refine hK.out _ _ M6.out.var.cell (fun hHeld => ?_)
        clear hK K
        (try simp only [Act.put, List.setIfInBounds_toArray, List.set_cons_zero, List.set_cons_succ])
        refine AnyT.two (i := 3) (j := 7) (by kernel_rfl) rfl rfl (fun K hK => ?_) (fun K hK => ?_)
        · go_simp
          refine (l03Do_any B d base w6.heap.size j ts kind nm vl A5 c5 _ _ xs w6 HW.out HC6.out (Nat.le_refl _) (Nat.le_refl _) HSM.out (by omega) HX.out).mono ?_
          rintro e7 w7 ⟨A6, c6, ts', rfl, ho7, hs7, hb7⟩
          have HO7 := Lib.hid ho7
          have HSM2 := Lib.hid hs7
          have s7 := hb7.size
          have M7 := Lib.hid (M6.out.below hb7)
          clear ho7 hs7 hb7 M6
          go_simp
          refine hK.out _ _ M7.out.var.cell (fun hHeld => ?_)
          clear hK K
          (try simp only [Act.put, List.setIfInBounds_toArray, List.set_cons_zero, List.set_cons_succ])
          ((refine AnyT.takeAny 4 15 ?_ rfl (by kernel_rfl) (by kernel_rfl) (by kernel_rfl) rfl rfl (fun _ _ _ _ h => h) rfl ?_ (by assumption) ?_); rotate_left; (intro w; go_simp; (try (with_reducible rfl))); simp only [Act.put, List.setIfInBounds_toArray, List.set_cons_zero, List.set_cons_succ])
          ((refine AnyT.takeAny 5 20 ?_ rfl (by kernel_rfl) (by kernel_rfl) (by kernel_rfl) rfl rfl (fun _ _ _ _ h => h) rfl ?_ (by assumption) ?_); rotate_left; (intro w; go_simp; (try (with_reducible rfl))); simp only [Act.put, List.setIfInBounds_toArray, List.set_cons_zero, List.set_cons_succ])
          ((refine AnyT.takeAny 6 21 ?_ rfl (by kernel_rfl) (by kernel_rfl) (by kernel_rfl) rfl rfl (fun _ _ _ _ h => h) rfl ?_ (by assumption) ?_); rotate_left; (intro w; go_simp; (try (with_reducible rfl))); simp only [Act.put, List.setIfInBounds_toArray, List.set_cons_zero, List.set_cons_succ])
          ((refine AnyT.one (i := 7) (by kernel_rfl) rfl (fun K hK => ?_)))
          go_simp
          have hba8 := (Below.refl w7.heap.size w7).alloc (Nat.le_refl _) (.cells #[.slice none 0 0] 26)
          have s8 : (w7.alloc (.cells #[.slice none 0 0] 26)).heap.size = w7.heap.size + 1 := by simp
          have HG8 := Lib.hid (Blk.new w7 26 #[.slice none 0 0])
          have M8 := Lib.hid (M7.out.below hba8)
          have HO8 := Lib.hid (HO7.out.below hba8 (Nat.le_refl _))
          clear HO7
          clear hba8 M7
          refine hK.out _ _ M8.out.var.cell (fun hHeld => ?_)
          clear hK K
          (try simp only [Act.put, List.setIfInBounds_toArray, List.set_cons_zero, List.set_cons_succ])
          generalize w7.alloc (.cells #[.slice none 0 0] 26) = w8 at *
          have zg := HG8.out.frozen 0
          have fg := HG8.out.cell
          ((refine AnyT.one (i := 8) (by kernel_rfl) rfl (fun K hK => ?_)))
          go_simp
          have M9 := Lib.hid (M8.out.set_ (q := ⟨w7.heap.size, 0, none⟩) (by dsimp only; omega) (.slice A6 ts'.length c6))
          have G9 := Lib.hid (HG8.out.set_ 0 (.slice A6 ts'.length c6))
          have O9 := Lib.hid (HO8.out.keep (w' := w8.setCell ⟨w7.heap.size, 0, none⟩ (.slice A6 ts'.length c6)) (fun b h1 h2 => Below.heap_setCell _ ⟨w7.heap.size, 0, none⟩ _ b (by dsimp only; omega)))
          have z9 : (w8.setCell ⟨w7.heap.size, 0, none⟩ (.slice A6 ts'.length c6)).heap.size = w8.heap.size := by simp
          refine hK.out _ _ M9.out.var.cell (fun hHeld => ?_)
          clear hK K M8 HG8 HO8 zg fg
          (try simp only [Act.put, List.setIfInBounds_toArray, List.set_cons_zero, List.set_cons_succ])
          generalize w8.setCell ⟨w7.heap.size, 0, none⟩ (.slice A6 ts'.length c6) = w9 at *
          ((refine AnyT.takeAny 9 8 ?_ rfl (by kernel_rfl) (by kernel_rfl) (by kernel_rfl) rfl rfl (fun _ _ _ _ h => h) rfl ?_ (by assumption) ?_); rotate_left; (intro w; go_simp; (try (with_reducible rfl))); simp only [Act.put, List.setIfInBounds_toArray, List.set_cons_zero, List.set_cons_succ])
          refine AnyT.done (by kernel_rfl) ?_ _
          clear hHeld
          have f7 := G9.out.cell
          have f5 := M9.out.var.cell
          have z5 := M9.out.var.frozen 0
          go_wp2_with fail
          go_roundw
          case rel => exact ⟨j + 1, by omega, by go_num, ts', HSM2.out, A6, c6, (O9.out.setCell (p := ⟨w.heap.size + 1, 0, none⟩) (by dsimp only; omega) (.slice A6 ts'.length c6)).more (by omega) (by simp; omega), (M9.out.put A6 c6 ts').more (by omega)⟩
          case measure => simp [intOf]; omega
        · go_simp
          have hba7 := (Below.refl w6.heap.size w6).alloc (Nat.le_refl _) (.cells #[.slice none 0 0] 26)
          have s7 : (w6.alloc (.cells #[.slice none 0 0] 26)).heap.size = w6.heap.size + 1 := by simp
          have HG7 := Lib.hid (Blk.new w6 26 #[.slice none 0 0])
          have M7 := Lib.hid (M6.out.below hba7)
          have HW := Lib.hid ((HW.out.below hba7 (Nat.le_refl _)).more (Nat.le_refl _) hba7.size)
          have HC7 := Lib.hid (HC6.out.below hba7 (Nat.le_refl _))
          clear HC6
          clear hba7 M6
          refine hK.out _ _ M7.out.var.cell (fun hHeld => ?_)
          clear hK K
          (try simp only [Act.put, List.setIfInBounds_toArray, List.set_cons_zero, List.set_cons_succ])
          generalize w6.alloc (.cells #[.slice none 0 0] 26) = w7 at *
          ((refine AnyT.one (i := 3) (by kernel_rfl) rfl (fun K hK => ?_)))
          go_simp
          refine (l03Do_any B d base w7.heap.size j ts kind nm vl A5 c5 _ _ xs w7 HW.out HC7.out (Nat.le_refl _) (by omega) HSM.out (by omega) HX.out).mono ?_
          rintro e8 w8 ⟨A6, c6, ts', rfl, ho8, hs8, hb8⟩
          have HO8 := Lib.hid ho8
          have HSM2 := Lib.hid hs8
          have s8 := hb8.size
          have M8 := Lib.hid (M7.out.below hb8)
          have HG8 := Lib.hid (HG7.out.below hb8 (by omega))
          clear HG7
          clear ho8 hs8 hb8 M7
          go_simp
          refine hK.out _ _ M8.out.var.cell (fun hHeld => ?_)
          clear hK K
          (try simp only [Act.put, List.setIfInBounds_toArray, List.set_cons_zero, List.set_cons_succ])
          ((refine AnyT.takeAny 4 15 ?_ rfl (by kernel_rfl) (by kernel_rfl) (by kernel_rfl) rfl rfl (fun _ _ _ _ h => h) rfl ?_ (by assumption) ?_); rotate_left; (intro w; go_simp; (try (with_reducible rfl))); simp only [Act.put, List.setIfInBounds_toArray, List.set_cons_zero, List.set_cons_succ])
          ((refine AnyT.takeAny 5 20 ?_ rfl (by kernel_rfl) (by kernel_rfl) (by kernel_rfl) rfl rfl (fun _ _ _ _ h => h) rfl ?_ (by assumption) ?_); rotate_left; (intro w; go_simp; (try (with_reducible rfl))); simp only [Act.put, List.setIfInBounds_toArray, List.set_cons_zero, List.set_cons_succ])
          ((refine AnyT.takeAny 6 21 ?_ rfl (by kernel_rfl) (by kernel_rfl) (by kernel_rfl) rfl rfl (fun _ _ _ _ h => h) rfl ?_ (by assumption) ?_); rotate_left; (intro w; go_simp; (try (with_reducible rfl))); simp only [Act.put, List.setIfInBounds_toArray, List.set_cons_zero, List.set_cons_succ])
          have zg := HG8.out.frozen 0
          have fg := HG8.out.cell
          ((refine AnyT.one (i := 8) (by kernel_rfl) rfl (fun K hK => ?_)))
          go_simp
          have M9 := Lib.hid (M8.out.set_ (q := ⟨w6.heap.size, 0, none⟩) (by dsimp only; omega) (.slice A6 ts'.length c6))
          have G9 := Lib.hid (HG8.out.set_ 0 (.slice A6 ts'.length c6))
          have O9 := Lib.hid (HO8.out.keep (w' := w8.setCell ⟨w6.heap.size, 0, none⟩ (.slice A6 ts'.length c6)) (fun b h1 h2 => Below.heap_setCell _ ⟨w6.heap.size, 0, none⟩ _ b (by dsimp only; omega)))
          have z9 : (w8.setCell ⟨w6.heap.size, 0, none⟩ (.slice A6 ts'.length c6)).heap.size = w8.heap.size := by simp
          refine hK.out _ _ M9.out.var.cell (fun hHeld => ?_)
          clear hK K M8 HG8 HO8 zg fg
          (try simp only [Act.put, List.setIfInBounds_toArray, List.set_cons_zero, List.set_cons_succ])
          generalize w8.setCell ⟨w6.heap.size, 0, none⟩ (.slice A6 ts'.length c6) = w9 at *
          ((refine AnyT.takeAny 9 8 ?_ rfl (by kernel_rfl) (by kernel_rfl) (by kernel_rfl) rfl rfl (fun _ _ _ _ h => h) rfl ?_ (by assumption) ?_); rotate_left; (intro w; go_simp; (try (with_reducible rfl))); simp only [Act.put, List.setIfInBounds_toArray, List.set_cons_zero, List.set_cons_succ])
          refine AnyT.done (by kernel_rfl) ?_ _
          clear hHeld
          have f7 := G9.out.cell
          have f5 := M9.out.var.cell
          have z5 := M9.out.var.frozen 0
          go_wp2_with fail
          go_roundw
          case rel => exact ⟨j + 1, by omega, by go_num, ts', HSM2.out, A6, c6, (O9.out.setCell (p := ⟨w.heap.size + 1, 0, none⟩) (by dsimp only; omega) (.slice A6 ts'.length c6)).more (by omega) (by simp; omega), (M9.out.put A6 c6 ts').more (by omega)⟩
          case measure => simp [intOf]; omega
      · go_simp
        have hba6 := (Below.refl w4.heap.size w4).alloc (Nat.le_refl _) (.cells #[.slice none 0 0] 26)
        have s6 : (w4.alloc (.cells #[.slice none 0 0] 26)).heap.size = w4.heap.size + 1 := by simp
        have HG6 := Lib.hid (Blk.new w4 26 #[.slice none 0 0])
        have M6 := Lib.hid (HM.out.below hba6)
        have HW := Lib.hid ((HW.out.below hba6 (Nat.le_refl _)).more (Nat.le_refl _) hba6.size)
        clear hba6 HM
        refine hK.out _ _ M6.out.var.cell (fun hHeld => ?_)
        clear hK K
        (try simp only [Act.put, List.setIfInBounds_toArray, List.set_cons_zero, List.set_cons_succ])
        generalize w4.alloc (.cells #[.slice none 0 0] 26) = w6 at *
        ((refine AnyT.one (i := 2) (by kernel_rfl) rfl (fun K hK => ?_)))
        go_simp
        refine (l03Change_any p lo hi A n c _ w6 M6.out.src (by omega)).mono ?_
        rintro e7 w7 ⟨kind, nm, v, vl, rfl, xs, ho7, hx7, hs7, hm7⟩
        obtain ⟨A5, c5, hv⟩ := ho7.1
        subst hv
        have HC7 := Lib.hid (show StrR w7 w6.heap.size w7.heap.size A5 xs.length xs from OwnR.reads (d := ByteArray.empty) ho7)
        have HX := Lib.hid hx7
        have s7 := hm7.size
        have hm7' := hm7
        have M7 := Lib.hid (M6.out.moved hm7 hs7)
        have HW := Lib.hid ((HW.out.keep fun b h1 h2 => hm7.block b h2 (by omega)).more (Nat.le_refl _) hm7.size)
        clear ho7 hx7 hs7 hm7 M6
        have HG7 := Lib.hid (HG6.out.moved (p := p) hm7' (by omega))
        clear HG6 hm7'
        go_simp
        refine hK.out _ _ M7.out.var.cell (fun hHeld => ?_)
        clear hK K
        (try simp only [Act.put, List.setIfInBounds_toArray, List.set_cons_zero, List.set_cons_succ])
        ((refine AnyT.one (i := 3) (by kernel_rfl) rfl (fun K hK => ?_)))
        go_simp
        refine (l03Do_any B d base w7.heap.size j ts kind nm vl A5 c5 _ _ xs w7 HW.out HC7.out (Nat.le_refl _) (Nat.le_refl _) HSM.out (by omega) HX.out).mono ?_
        rintro e8 w8 ⟨A6, c6, ts', rfl, ho8, hs8, hb8⟩
        have HO8 := Lib.hid ho8
        have HSM2 := Lib.hid hs8
        have s8 := hb8.size
        have M8 := Lib.hid (M7.out.below hb8)
        have HG8 := Lib.hid (HG7.out.below hb8 (by omega))
        clear HG7
        clear ho8 hs8 hb8 M7
        go_simp
        refine hK.out _ _ M8.out.var.cell (fun hHeld => ?_)
        clear hK K
        (try simp only [Act.put, List.setIfInBounds_toArray, List.set_cons_zero, List.set_cons_succ])
        ((refine AnyT.takeAny 4 15 ?_ rfl (by kernel_rfl) (by kernel_rfl) (by kernel_rfl) rfl rfl (fun _ _ _ _ h => h) rfl ?_ (by assumption) ?_); rotate_left; (intro w; go_simp; (try (with_reducible rfl))); simp only [Act.put, List.setIfInBounds_toArray, List.set_cons_zero, List.set_cons_succ])
        ((refine AnyT.takeAny 5 20 ?_ rfl (by kernel_rfl) (by kernel_rfl) (by kernel_rfl) rfl rfl (fun _ _ _ _ h => h) rfl ?_ (by assumption) ?_); rotate_left; (intro w; go_simp; (try (with_reducible rfl))); simp only [Act.put, List.setIfInBounds_toArray, List.set_cons_zero, List.set_cons_succ])
        ((refine AnyT.takeAny 6 21 ?_ rfl (by kernel_rfl) (by kernel_rfl) (by kernel_rfl) rfl rfl (fun _ _ _ _ h => h) rfl ?_ (by assumption) ?_); rotate_left; (intro w; go_simp; (try (with_reducible rfl))); simp only [Act.put, List.setIfInBounds_toArray, List.set_cons_zero, List.set_cons_succ])
        have zg := HG8.out.frozen 0
        have fg := HG8.out.cell
        ((refine AnyT.one (i := 8) (by kernel_rfl) rfl (fun K hK => ?_)))
        go_simp
        have M9 := Lib.hid (M8.out.set_ (q := ⟨w4.heap.size, 0, none⟩) (by dsimp only; omega) (.slice A6 ts'.length c6))
        have G9 := Lib.hid (HG8.out.set_ 0 (.slice A6 ts'.length c6))
        have O9 := Lib.hid (HO8.out.keep (w' := w8.setCell ⟨w4.heap.size, 0, none⟩ (.slice A6 ts'.length c6)) (fun b h1 h2 => Below.heap_setCell _ ⟨w4.heap.size, 0, none⟩ _ b (by dsimp only; omega)))
        have z9 : (w8.setCell ⟨w4.heap.size, 0, none⟩ (.slice A6 ts'.length c6)).heap.size = w8.heap.size := by simp
        refine hK.out _ _ M9.out.var.cell (fun hHeld => ?_)
        clear hK K M8 HG8 HO8 zg fg
        (try simp only [Act.put, List.setIfInBounds_toArray, List.set_cons_zero, List.set_cons_succ])
        generalize w8.setCell ⟨w4.heap.size, 0, none⟩ (.slice A6 ts'.length c6) = w9 at *
        ((refine AnyT.takeAny 9 8 ?_ rfl (by kernel_rfl) (by kernel_rfl) (by kernel_rfl) rfl rfl (fun _ _ _ _ h => h) rfl ?_ (by assumption) ?_); rotate_left; (intro w; go_simp; (try (with_reducible rfl))); simp only [Act.put, List.setIfInBounds_toArray, List.set_cons_zero, List.set_cons_succ])
        refine AnyT.done (by kernel_rfl) ?_ _
        clear hHeld
        have f7 := G9.out.cell
        have f5 := M9.out.var.cell
        have z5 := M9.out.var.frozen 0
        go_wp2_with fail
        go_roundw
        case rel => exact ⟨j + 1, by omega, by go_num, ts', HSM2.out, A6, c6, (O9.out.setCell (p := ⟨w.heap.size + 1, 0, none⟩) (by dsimp only; omega) (.slice A6 ts'.length c6)).more (by omega) (by simp; omega), (M9.out.put A6 c6 ts').more (by omega)⟩
        case measure => simp [intOf]; omega
    · obtain rfl : j = many := by omega
      have i1 : ¬ (j : Int) < (j : Int) := by omega
      have HM := Lib.hid hM; have HW := Lib.hid hown
      have f5 := hM.var.cell; have f4 := hM.res.cell; have z4 := hM.res.frozen 0
      clear hM hsm hown
      have hbz := HM.out.sep.2.2.2.2.2
      go_wp2_with fail
      refine bodyPost_ret (v := .agg #[.slice B ts.length d]) (by simp [results, Tryz.results77, go_sem, f4]) rfl ⟨B, d, ts, rfl, ?_, HSM.out, ?_, ?_⟩
      · exact ((HW.out.setCell (p := ⟨w.heap.size, 0, none⟩) (by dsimp only; omega) (.slice B ts.length d))).more (by omega) (by simp [World.setCell])
      · exact HM.out.src.far (by dsimp only; omega) (by dsimp only; omega) _
      · exact HM.out.mov.set_ (by dsimp only; omega) _

end Go.Proofs.YtfibjcaidnofmaaGreatDoor

