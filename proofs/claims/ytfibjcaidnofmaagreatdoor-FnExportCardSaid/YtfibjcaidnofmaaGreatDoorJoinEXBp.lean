/- A drawn tree: so many changes done to an empty one. Printed by wip/gen_dsa.py. -/
import Derived.Test.YtfibjcaidnofmaaGreatDoorJoinEXBn
import Derived.Test.YtfibjcaidnofmaaGreatDoorJoinEXAi
import Derived.Test.YtfibjcaidnofmaaGreatDoorJoinEXAc
namespace Go.Proofs.YtfibjcaidnofmaaGreatDoor
open Go.RowKit

/-- The tree so far, in its variable's block g5; the result's block g4. -/
structure MadeSt (w0 W : World) (p lo hi : Nat) (A : Option Addr) (n c K g4 g5 base : Nat) (B : Option Addr) (d : Nat) (ts : List TyNode) : Prop where
  res : Blk W g4 26 #[.slice none 0 0]
  var : Blk W g5 26 #[.slice B ts.length d]
  src : Src W p lo hi A n c K
  mov : Moved p w0 W
  sep : hi ≤ w0.heap.size ∧ p < w0.heap.size ∧ w0.heap.size ≤ g4 ∧ g4 < g5 ∧ g5 < base ∧ base ≤ W.heap.size
section
variable {w0 W W' : World} {p lo hi n c K g4 g5 base d : Nat} {A B : Option Addr} {ts : List TyNode}
theorem MadeSt.moved {K' : Nat} (h : MadeSt w0 W p lo hi A n c K g4 g5 base B d ts) (hm : Moved p W W') (hs : Src W' p lo hi A n c K') : MadeSt w0 W' p lo hi A n c K' g4 g5 base B d ts := by
  obtain ⟨q1, q2, q3, q4, q5, q6⟩ := h.sep
  exact ⟨h.res.moved hm (by omega), h.var.moved hm (by omega), hs, h.mov.trans hm, q1, q2, q3, q4, q5, Nat.le_trans q6 hm.size⟩
theorem MadeSt.below (h : MadeSt w0 W p lo hi A n c K g4 g5 base B d ts) (hb : Below W.heap.size W W') : MadeSt w0 W' p lo hi A n c K g4 g5 base B d ts :=
  h.moved (Moved.of_below hb) (h.src.below hb)
theorem MadeSt.more {K' : Nat} (h : MadeSt w0 W p lo hi A n c K g4 g5 base B d ts) (hK : K ≤ K') : MadeSt w0 W p lo hi A n c K' g4 g5 base B d ts := ⟨h.res, h.var, h.src.more hK, h.mov, h.sep⟩
/-- A block behind all of it is written. -/
theorem MadeSt.set_ (h : MadeSt w0 W p lo hi A n c K g4 g5 base B d ts) {q : Addr} (h2 : base ≤ q.block) (v : Value) : MadeSt w0 (W.setCell q v) p lo hi A n c K g4 g5 base B d ts := by
  obtain ⟨q1, q2, q3, q4, q5, q6⟩ := h.sep
  have hz : (W.setCell q v).heap.size = W.heap.size := by simp
  exact ⟨h.res.far (by omega) v, h.var.far (by omega) v, h.src.far (by omega) (by omega) v, h.mov.set_ (by omega) v, q1, q2, q3, q4, q5, by omega⟩
/-- The tree's variable takes another tree. -/
theorem MadeSt.put (h : MadeSt w0 W p lo hi A n c K g4 g5 base B d ts) (B' : Option Addr) (d' : Nat) (ts' : List TyNode) :
    MadeSt w0 (W.setCell ⟨g5, 0, none⟩ (.slice B' ts'.length d')) p lo hi A n c K g4 g5 base B' d' ts' := by
  obtain ⟨q1, q2, q3, q4, q5, q6⟩ := h.sep
  have hz : (W.setCell ⟨g5, 0, none⟩ (.slice B' ts'.length d')).heap.size = W.heap.size := by simp
  exact ⟨h.res.far (by dsimp only; omega) _, h.var.set_ 0 _, h.src.far (by dsimp only; omega) (by dsimp only; omega) _, h.mov.set_ (by dsimp only; omega) _, q1, q2, q3, q4, q5, by omega⟩
end

set_option maxHeartbeats 16000000 in
set_option maxRecDepth 100000 in
theorem l03Made_any (p lo hi : Nat) (A : Option Addr) (n c K many : Nat) (w : World) (h : Src w p lo hi A n c K) (hK : K ≤ 500000000) (hmany : many ≤ 50) :
    Calls Tryz.prog 77 #[.pointer (some ⟨p, 0, none⟩), .int .i64 many] w fun e w' => ∃ A' c' ts, e = .returned (.agg #[.slice A' ts.length c']) ∧ Own shTree w' w.heap.size w'.heap.size [.slice A' ts.length c'] ts ∧ TSm many ts ∧ Src w' p lo hi A n c (K + 20 * many) ∧ Moved p w w' := by
  have hpl := h.lt
  have hhi := h.le
  obtain ⟨W2, hW2⟩ : ∃ W2, W2 = (w.alloc (.cells #[.slice none 0 0] 26)).alloc (.cells #[.slice none 0 0] 26) := ⟨_, rfl⟩
  have hz2 : W2.heap.size = w.heap.size + 2 := by rw [hW2]; simp
  have hbA := ((Below.refl w.heap.size w).alloc (Nat.le_refl _) (.cells #[.slice none 0 0] 26)).alloc (by simp) (.cells #[.slice none 0 0] 26)
  rw [← hW2] at hbA
  have M0 : MadeSt w W2 p lo hi A n c K w.heap.size (w.heap.size + 1) (w.heap.size + 2) none 0 [] := by
    refine ⟨?_, ?_, h.below hbA, Moved.of_below hbA, hhi, hpl, Nat.le_refl _, by omega, by omega, by omega⟩
    · rw [hW2]; exact (Blk.new w 26 #[.slice none 0 0]).alloc _
    · rw [hW2]
      have := Blk.new (w.alloc (.cells #[.slice none 0 0] 26)) 26 #[.slice none 0 0]
      rw [heap_alloc_size1] at this
      exact this
  have HM0 := Lib.hid M0
  clear h hbA M0
  go_enter Tryz.func77, Tryz.ntmps77
  go_upto_region 2 with fail
  change Code.wp _ _ _ _ ((w.alloc (.cells #[.slice none 0 0] 26)).alloc (.cells #[.slice none 0 0] 26))
  rw [← hW2]
  clear hW2
  go_wp2_with fail
  generalize hbase : w.heap.size + 2 = base at *
  go_loopw [6, 7, 8] (fun kk _ _ wr => ∃ (j : Nat), j ≤ many ∧ kk = .int .i64 j ∧ ∃ (ts : List TyNode), TSm j ts ∧ ∃ (B : Option Addr) (d : Nat), Own shTree wr base wr.heap.size [.slice B ts.length d] ts ∧ MadeSt w wr p lo hi A n c (K + 20 * j) w.heap.size (w.heap.size + 1) base B d ts) (fun kk _ _ _ => many - (intOf kk).toNat)
  case atStart => exact ⟨0, Nat.zero_le _, rfl, [], ⟨Nat.zero_le _, fun x hx => by cases hx⟩, none, 0, Own.nil_row _ _ _, HM0.out⟩
  case round =>
    obtain ⟨j, hj, rfl, ts, hsm, B, d, hown, hM⟩ := hrel
    have HSM := Lib.hid hsm
    clear HM0
    by_cases hlt : j < many
    · have i1 : (j : Int) < (many : Int) := by omega
      have HM := Lib.hid (hM.below (below_drewN' wr 1))
      have HW := Lib.hid (show Own shTree wr.drew base wr.drew.heap.size [.slice B ts.length d] ts from hown.below (below_drewN' wr 1) (Nat.le_refl _))
      have hbz := hM.sep.2.2.2.2.2
      clear hM hsm hown
      go_upto_region 5 with fail
      change Code.wp _ _ _ _ wr
      have hM : MadeSt w wr.drew p lo hi A n c (K + 20 * j) w.heap.size (w.heap.size + 1) base B d ts := HM.out
      have hbz4 : base ≤ wr.drew.heap.size := hbz
      clear HM hbz
      refine AnyT.region (fun _ => false) (fun W => ∀ i, W.cell? ⟨w.heap.size + 1, i, none⟩ = (#[.slice B ts.length d] : Array Value)[i]?) (by kernel_rfl) hM.var.cell (fun hHeld => ?_)
      generalize wr.drew = w4 at *
      have HM := Lib.hid hM
      clear hM
      ((refine AnyT.take 0 16 ?_ rfl (by kernel_rfl) (by kernel_rfl) (by kernel_rfl) (by kernel_rfl) rfl (by kernel_rfl) rfl (fun _ _ _ _ h => h) rfl ?_ (by assumption) ?_); rotate_left; (intro w hSw; (try dsimp only at hSw); go_simp; (try (with_reducible rfl))); simp only [Act.put, List.setIfInBounds_toArray, List.set_cons_zero, List.set_cons_succ])
      ((refine AnyT.takeAny 1 17 ?_ rfl (by kernel_rfl) (by kernel_rfl) (by kernel_rfl) rfl rfl (fun _ _ _ _ h => h) rfl ?_ (by assumption) ?_); rotate_left; (intro w; go_simp; (try (with_reducible rfl))); simp only [Act.put, List.setIfInBounds_toArray, List.set_cons_zero, List.set_cons_succ])
      refine AnyT.two (i := 2) (j := 7) (by kernel_rfl) rfl rfl (fun K hK => ?_) (fun K hK => ?_)
      · go_simp
        refine (l03Change_any p lo hi A n c _ w4 HM.out.src (by omega)).mono ?_
        rintro e6 w6 ⟨kind, nm, v, vl, rfl, xs, ho6, hx6, hs6, hm6⟩
        obtain ⟨A5, c5, hv⟩ := ho6.1
        subst hv
        have HC6 := Lib.hid (show StrR w6 w4.heap.size w6.heap.size A5 xs.length xs from OwnR.reads (d := ByteArray.empty) ho6)
        have HX := Lib.hid hx6
        have s6 := hm6.size
        have M6 := Lib.hid (HM.out.moved hm6 hs6)
        have HW := Lib.hid ((HW.out.keep fun b h1 h2 => hm6.block b h2 (by omega)).more (Nat.le_refl _) hm6.size)
        clear ho6 hx6 hs6 hm6 HM
        go_simp
        refine hK.out _ _ M6.out.var.cell (fun hHeld => ?_)
        clear hK K
        (try simp only [Act.put, List.setIfInBounds_toArray, List.set_cons_zero, List.set_cons_succ])
        refine AnyT.two (i := 3) (j := 7) (by kernel_rfl) rfl rfl (fun K hK => ?_) (fun K hK => ?_)
        · go_simp
          refine (l03Do_any B d base w6.heap.size j ts kind nm vl A5 c5 _ _ xs w6 HW.out HC6.out (Nat.le_refl _) (Nat.le_refl _) HSM.out (by omega) HX.out).mono ?_
          rintro e7 w7 ⟨A6, c6, ts', rfl, ho7, hs7, hb7⟩
          have HO7 := Lib.hid ho7
          have HSM2 := Lib.hid hs7
          have s7 := hb7.size
          have M7 := Lib.hid (M6.out.below hb7)
          clear ho7 hs7 hb7 M6
          go_simp
          refine hK.out _ _ M7.out.var.cell (fun hHeld => ?_)
          clear hK K
          (try simp only [Act.put, List.setIfInBounds_toArray, List.set_cons_zero, List.set_cons_succ])
          ((refine AnyT.takeAny 4 15 ?_ rfl (by kernel_rfl) (by kernel_rfl) (by kernel_rfl) rfl rfl (fun _ _ _ _ h => h) rfl ?_ (by assumption) ?_); rotate_left; (intro w; go_simp; (try (with_reducible rfl))); simp only [Act.put, List.setIfInBounds_toArray, List.set_cons_zero, List.set_cons_succ])
          ((refine AnyT.takeAny 5 20 ?_ rfl (by kernel_rfl) (by kernel_rfl) (by kernel_rfl) rfl rfl (fun _ _ _ _ h => h) rfl ?_ (by assumption) ?_); rotate_left; (intro w; go_simp; (try (with_reducible rfl))); simp only [Act.put, List.setIfInBounds_toArray, List.set_cons_zero, List.set_cons_succ])
          ((refine AnyT.takeAny 6 21 ?_ rfl (by kernel_rfl) (by kernel_rfl) (by kernel_rfl) rfl rfl (fun _ _ _ _ h => h) rfl ?_ (by assumption) ?_); rotate_left; (intro w; go_simp; (try (with_reducible rfl))); simp only [Act.put, List.setIfInBounds_toArray, List.set_cons_zero, List.set_cons_succ])
          ((refine AnyT.one (i := 7) (by kernel_rfl) rfl (fun K hK => ?_)))
          go_simp
          have hba8 := (Below.refl w7.heap.size w7).alloc (Nat.le_refl _) (.cells #[.slice none 0 0] 26)
          have s8 : (w7.alloc (.cells #[.slice none 0 0] 26)).heap.size = w7.heap.size + 1 := by simp
          have HG8 := Lib.hid (Blk.new w7 26 #[.slice none 0 0])
          have M8 := Lib.hid (M7.out.below hba8)
          have HO8 := Lib.hid (HO7.out.below hba8 (Nat.le_refl _))
          clear HO7
          clear hba8 M7
          refine hK.out _ _ M8.out.var.cell (fun hHeld => ?_)
          clear hK K
          (try simp only [Act.put, List.setIfInBounds_toArray, List.set_cons_zero, List.set_cons_succ])
          generalize w7.alloc (.cells #[.slice none 0 0] 26) = w8 at *
          have zg := HG8.out.frozen 0
          have fg := HG8.out.cell
          ((refine AnyT.one (i := 8) (by kernel_rfl) rfl (fun K hK => ?_)))
          go_simp
          have M9 := Lib.hid (M8.out.set_ (q := ⟨w7.heap.size, 0, none⟩) (by dsimp only; omega) (.slice A6 ts'.length c6))
          have G9 := Lib.hid (HG8.out.set_ 0 (.slice A6 ts'.length c6))
          have O9 := Lib.hid (HO8.out.keep (w' := w8.setCell ⟨w7.heap.size, 0, none⟩ (.slice A6 ts'.length c6)) (fun b h1 h2 => Below.heap_setCell _ ⟨w7.heap.size, 0, none⟩ _ b (by dsimp only; omega)))
          have z9 : (w8.setCell ⟨w7.heap.size, 0, none⟩ (.slice A6 ts'.length c6)).heap.size = w8.heap.size := by simp
          refine hK.out _ _ M9.out.var.cell (fun hHeld => ?_)
          clear hK K M8 HG8 HO8 zg fg
          (try simp only [Act.put, List.setIfInBounds_toArray, List.set_cons_zero, List.set_cons_succ])
          generalize w8.setCell ⟨w7.heap.size, 0, none⟩ (.slice A6 ts'.length c6) = w9 at *
          ((refine AnyT.takeAny 9 8 ?_ rfl (by kernel_rfl) (by kernel_rfl) (by kernel_rfl) rfl rfl (fun _ _ _ _ h => h) rfl ?_ (by assumption) ?_); rotate_left; (intro w; go_simp; (try (with_reducible rfl))); simp only [Act.put, List.setIfInBounds_toArray, List.set_cons_zero, List.set_cons_succ])
          refine AnyT.done (by kernel_rfl) ?_ _
          clear hHeld
          have f7 := G9.out.cell
          have f5 := M9.out.var.cell
          have z5 := M9.out.var.frozen 0
          go_wp2_with fail
          go_roundw
          case rel => exact ⟨j + 1, by omega, by go_num, ts', HSM2.out, A6, c6, (O9.out.setCell (p := ⟨w.heap.size + 1, 0, none⟩) (by dsimp only; omega) (.slice A6 ts'.length c6)).more (by omega) (by simp; omega), (M9.out.put A6 c6 ts').more (by omega)⟩
          case measure => simp [intOf]; omega
        · go_simp
          have hba7 := (Below.refl w6.heap.size w6).alloc (Nat.le_refl _) (.cells #[.slice none 0 0] 26)
          have s7 : (w6.alloc (.cells #[.slice none 0 0] 26)).heap.size = w6.heap.size + 1 := by simp
          have HG7 := Lib.hid (Blk.new w6 26 #[.slice none 0 0])
          have M7 := Lib.hid (M6.out.below hba7)
          have HW := Lib.hid ((HW.out.below hba7 (Nat.le_refl _)).more (Nat.le_refl _) hba7.size)
          have HC7 := Lib.hid (HC6.out.below hba7 (Nat.le_refl _))
          clear HC6
          clear hba7 M6
          refine hK.out _ _ M7.out.var.cell (fun hHeld => ?_)
          clear hK K
          (try simp only [Act.put, List.setIfInBounds_toArray, List.set_cons_zero, List.set_cons_succ])
          generalize w6.alloc (.cells #[.slice none 0 0] 26) = w7 at *
          ((refine AnyT.one (i := 3) (by kernel_rfl) rfl (fun K hK => ?_)))
          go_simp
          refine (l03Do_any B d base w7.heap.size j ts kind nm vl A5 c5 _ _ xs w7 HW.out HC7.out (Nat.le_refl _) (by omega) HSM.out (by omega) HX.out).mono ?_
          rintro e8 w8 ⟨A6, c6, ts', rfl, ho8, hs8, hb8⟩
          have HO8 := Lib.hid ho8
          have HSM2 := Lib.hid hs8
          have s8 := hb8.size
          have M8 := Lib.hid (M7.out.below hb8)
          have HG8 := Lib.hid (HG7.out.below hb8 (by omega))
          clear HG7
          clear ho8 hs8 hb8 M7
          go_simp
          refine hK.out _ _ M8.out.var.cell (fun hHeld => ?_)
          clear hK K
          (try simp only [Act.put, List.setIfInBounds_toArray, List.set_cons_zero, List.set_cons_succ])
          ((refine AnyT.takeAny 4 15 ?_ rfl (by kernel_rfl) (by kernel_rfl) (by kernel_rfl) rfl rfl (fun _ _ _ _ h => h) rfl ?_ (by assumption) ?_); rotate_left; (intro w; go_simp; (try (with_reducible rfl))); simp only [Act.put, List.setIfInBounds_toArray, List.set_cons_zero, List.set_cons_succ])
          ((refine AnyT.takeAny 5 20 ?_ rfl (by kernel_rfl) (by kernel_rfl) (by kernel_rfl) rfl rfl (fun _ _ _ _ h => h) rfl ?_ (by assumption) ?_); rotate_left; (intro w; go_simp; (try (with_reducible rfl))); simp only [Act.put, List.setIfInBounds_toArray, List.set_cons_zero, List.set_cons_succ])
          ((refine AnyT.takeAny 6 21 ?_ rfl (by kernel_rfl) (by kernel_rfl) (by kernel_rfl) rfl rfl (fun _ _ _ _ h => h) rfl ?_ (by assumption) ?_); rotate_left; (intro w; go_simp; (try (with_reducible rfl))); simp only [Act.put, List.setIfInBounds_toArray, List.set_cons_zero, List.set_cons_succ])
          have zg := HG8.out.frozen 0
          have fg := HG8.out.cell
          ((refine AnyT.one (i := 8) (by kernel_rfl) rfl (fun K hK => ?_)))
          go_simp
          have M9 := Lib.hid (M8.out.set_ (q := ⟨w6.heap.size, 0, none⟩) (by dsimp only; omega) (.slice A6 ts'.length c6))
          have G9 := Lib.hid (HG8.out.set_ 0 (.slice A6 ts'.length c6))
          have O9 := Lib.hid (HO8.out.keep (w' := w8.setCell ⟨w6.heap.size, 0, none⟩ (.slice A6 ts'.length c6)) (fun b h1 h2 => Below.heap_setCell _ ⟨w6.heap.size, 0, none⟩ _ b (by dsimp only; omega)))
          have z9 : (w8.setCell ⟨w6.heap.size, 0, none⟩ (.slice A6 ts'.length c6)).heap.size = w8.heap.size := by simp
          refine hK.out _ _ M9.out.var.cell (fun hHeld => ?_)
          clear hK K M8 HG8 HO8 zg fg
          (try simp only [Act.put, List.setIfInBounds_toArray, List.set_cons_zero, List.set_cons_succ])
          generalize w8.setCell ⟨w6.heap.size, 0, none⟩ (.slice A6 ts'.length c6) = w9 at *
          ((refine AnyT.takeAny 9 8 ?_ rfl (by kernel_rfl) (by kernel_rfl) (by kernel_rfl) rfl rfl (fun _ _ _ _ h => h) rfl ?_ (by assumption) ?_); rotate_left; (intro w; go_simp; (try (with_reducible rfl))); simp only [Act.put, List.setIfInBounds_toArray, List.set_cons_zero, List.set_cons_succ])
          refine AnyT.done (by kernel_rfl) ?_ _
          clear hHeld
          have f7 := G9.out.cell
          have f5 := M9.out.var.cell
          have z5 := M9.out.var.frozen 0
          go_wp2_with fail
          go_roundw
          case rel => exact ⟨j + 1, by omega, by go_num, ts', HSM2.out, A6, c6, (O9.out.setCell (p := ⟨w.heap.size + 1, 0, none⟩) (by dsimp only; omega) (.slice A6 ts'.length c6)).more (by omega) (by simp; omega), (M9.out.put A6 c6 ts').more (by omega)⟩
          case measure => simp [intOf]; omega
      · go_simp
        have hba6 := (Below.refl w4.heap.size w4).alloc (Nat.le_refl _) (.cells #[.slice none 0 0] 26)
        have s6 : (w4.alloc (.cells #[.slice none 0 0] 26)).heap.size = w4.heap.size + 1 := by simp
        have HG6 := Lib.hid (Blk.new w4 26 #[.slice none 0 0])
        have M6 := Lib.hid (HM.out.below hba6)
        have HW := Lib.hid ((HW.out.below hba6 (Nat.le_refl _)).more (Nat.le_refl _) hba6.size)
        clear hba6 HM
        refine hK.out _ _ M6.out.var.cell (fun hHeld => ?_)
        clear hK K
        (try simp only [Act.put, List.setIfInBounds_toArray, List.set_cons_zero, List.set_cons_succ])
        generalize w4.alloc (.cells #[.slice none 0 0] 26) = w6 at *
        ((refine AnyT.one (i := 2) (by kernel_rfl) rfl (fun K hK => ?_)))
        go_simp
        refine (l03Change_any p lo hi A n c _ w6 M6.out.src (by omega)).mono ?_
        rintro e7 w7 ⟨kind, nm, v, vl, rfl, xs, ho7, hx7, hs7, hm7⟩
        obtain ⟨A5, c5, hv⟩ := ho7.1
        subst hv
        have HC7 := Lib.hid (show StrR w7 w6.heap.size w7.heap.size A5 xs.length xs from OwnR.reads (d := ByteArray.empty) ho7)
        have HX := Lib.hid hx7
        have s7 := hm7.size
        have hm7' := hm7
        have M7 := Lib.hid (M6.out.moved hm7 hs7)
        have HW := Lib.hid ((HW.out.keep fun b h1 h2 => hm7.block b h2 (by omega)).more (Nat.le_refl _) hm7.size)
        clear ho7 hx7 hs7 hm7 M6
        have HG7 := Lib.hid (HG6.out.moved (p := p) hm7' (by omega))
        clear HG6 hm7'
        go_simp
        refine hK.out _ _ M7.out.var.cell (fun hHeld => ?_)
        clear hK K
        (try simp only [Act.put, List.setIfInBounds_toArray, List.set_cons_zero, List.set_cons_succ])
        ((refine AnyT.one (i := 3) (by kernel_rfl) rfl (fun K hK => ?_)))
        go_simp
        refine (l03Do_any B d base w7.heap.size j ts kind nm vl A5 c5 _ _ xs w7 HW.out HC7.out (Nat.le_refl _) (Nat.le_refl _) HSM.out (by omega) HX.out).mono ?_
        rintro e8 w8 ⟨A6, c6, ts', rfl, ho8, hs8, hb8⟩
        have HO8 := Lib.hid ho8
        have HSM2 := Lib.hid hs8
        have s8 := hb8.size
        have M8 := Lib.hid (M7.out.below hb8)
        have HG8 := Lib.hid (HG7.out.below hb8 (by omega))
        clear HG7
        clear ho8 hs8 hb8 M7
        go_simp
        refine hK.out _ _ M8.out.var.cell (fun hHeld => ?_)
        clear hK K
        (try simp only [Act.put, List.setIfInBounds_toArray, List.set_cons_zero, List.set_cons_succ])
        ((refine AnyT.takeAny 4 15 ?_ rfl (by kernel_rfl) (by kernel_rfl) (by kernel_rfl) rfl rfl (fun _ _ _ _ h => h) rfl ?_ (by assumption) ?_); rotate_left; (intro w; go_simp; (try (with_reducible rfl))); simp only [Act.put, List.setIfInBounds_toArray, List.set_cons_zero, List.set_cons_succ])
        ((refine AnyT.takeAny 5 20 ?_ rfl (by kernel_rfl) (by kernel_rfl) (by kernel_rfl) rfl rfl (fun _ _ _ _ h => h) rfl ?_ (by assumption) ?_); rotate_left; (intro w; go_simp; (try (with_reducible rfl))); simp only [Act.put, List.setIfInBounds_toArray, List.set_cons_zero, List.set_cons_succ])
        ((refine AnyT.takeAny 6 21 ?_ rfl (by kernel_rfl) (by kernel_rfl) (by kernel_rfl) rfl rfl (fun _ _ _ _ h => h) rfl ?_ (by assumption) ?_); rotate_left; (intro w; go_simp; (try (with_reducible rfl))); simp only [Act.put, List.setIfInBounds_toArray, List.set_cons_zero, List.set_cons_succ])
        have zg := HG8.out.frozen 0
        have fg := HG8.out.cell
        ((refine AnyT.one (i := 8) (by kernel_rfl) rfl (fun K hK => ?_)))
        go_simp
        have M9 := Lib.hid (M8.out.set_ (q := ⟨w4.heap.size, 0, none⟩) (by dsimp only; omega) (.slice A6 ts'.length c6))
        have G9 := Lib.hid (HG8.out.set_ 0 (.slice A6 ts'.length c6))
        have O9 := Lib.hid (HO8.out.keep (w' := w8.setCell ⟨w4.heap.size, 0, none⟩ (.slice A6 ts'.length c6)) (fun b h1 h2 => Below.heap_setCell _ ⟨w4.heap.size, 0, none⟩ _ b (by dsimp only; omega)))
        have z9 : (w8.setCell ⟨w4.heap.size, 0, none⟩ (.slice A6 ts'.length c6)).heap.size = w8.heap.size := by simp
        refine hK.out _ _ M9.out.var.cell (fun hHeld => ?_)
        clear hK K M8 HG8 HO8 zg fg
        (try simp only [Act.put, List.setIfInBounds_toArray, List.set_cons_zero, List.set_cons_succ])
        generalize w8.setCell ⟨w4.heap.size, 0, none⟩ (.slice A6 ts'.length c6) = w9 at *
        ((refine AnyT.takeAny 9 8 ?_ rfl (by kernel_rfl) (by kernel_rfl) (by kernel_rfl) rfl rfl (fun _ _ _ _ h => h) rfl ?_ (by assumption) ?_); rotate_left; (intro w; go_simp; (try (with_reducible rfl))); simp only [Act.put, List.setIfInBounds_toArray, List.set_cons_zero, List.set_cons_succ])
        refine AnyT.done (by kernel_rfl) ?_ _
        clear hHeld
        have f7 := G9.out.cell
        have f5 := M9.out.var.cell
        have z5 := M9.out.var.frozen 0
        go_wp2_with fail
        go_roundw
        case rel => exact ⟨j + 1, by omega, by go_num, ts', HSM2.out, A6, c6, (O9.out.setCell (p := ⟨w.heap.size + 1, 0, none⟩) (by dsimp only; omega) (.slice A6 ts'.length c6)).more (by omega) (by simp; omega), (M9.out.put A6 c6 ts').more (by omega)⟩
        case measure => simp [intOf]; omega
    · obtain rfl : j = many := by omega
      have i1 : ¬ (j : Int) < (j : Int) := by omega
      have HM := Lib.hid hM; have HW := Lib.hid hown
      have f5 := hM.var.cell; have f4 := hM.res.cell; have z4 := hM.res.frozen 0
      clear hM hsm hown
      have hbz := HM.out.sep.2.2.2.2.2
      go_wp2_with fail
      refine bodyPost_ret (v := .agg #[.slice B ts.length d]) (by simp [results, Tryz.results77, go_sem, f4]) rfl ⟨B, d, ts, rfl, ?_, HSM.out, ?_, ?_⟩
      · exact ((HW.out.setCell (p := ⟨w.heap.size, 0, none⟩) (by dsimp only; omega) (.slice B ts.length d))).more (by omega) (by simp [World.setCell])
      · exact HM.out.src.far (by dsimp only; omega) (by dsimp only; omega) _
      · exact HM.out.mov.set_ (by dsimp only; omega) _

end Go.Proofs.YtfibjcaidnofmaaGreatDoor

/- Drawn nodes, with bytes of all kinds. -/
namespace Go.Proofs.YtfibjcaidnofmaaGreatDoor
open Go.RowKit

theorem OwnR.set_at {α : Type} {enc : α → Value} {w : World} {base : Nat} {t : TypeId} {A : Option Addr} {n c : Nat} {xs : List α} (h : OwnR enc w base t (.slice A n c) xs) {i : Nat} (hi : i < xs.length) (y : α) :
    ∃ g, A = some ⟨g, 0, none⟩ ∧ base ≤ g ∧ g < w.heap.size ∧ (∃ u, w.cell? ⟨g, i, none⟩ = some u) ∧ w.frozen? ⟨g, i, none⟩ = false ∧ OwnR enc (w.setCell ⟨g, i, none⟩ (enc y)) base t (.slice A n c) (xs.set i y) := by
  obtain ⟨⟨A', c', e⟩, h1, h2⟩ := h
  injection e with e1 e2 e3
  subst e1 e2 e3
  rcases h2 with ⟨e1, e2⟩ | ⟨g, cap, cur, e1, hg, hb, hn, hm, hs, ht⟩
  · omega
  · injection e1 with e1 e2 e3
    subst e1 e3
    have hB : Blk w g t cur := hb
    have hic : i < cur.size := by omega
    refine ⟨g, rfl, hg, hB.lt, ⟨cur[i], by rw [hB.cell, Array.getElem?_eq_getElem hic]⟩, hB.frozen i, ⟨_, _, by rw [List.length_set]⟩, by simp, ?_⟩
    rw [List.length_set]
    refine .inr ⟨g, c, cur.setIfInBounds i (enc y), rfl, hg, hB.set_ i _, hn, hm, by simpa using hs, ?_⟩
    rw [Array.toList_setIfInBounds, List.take_set, ht, List.map_set]

set_option maxHeartbeats 1000000 in
theorem make_bytes (n : Nat) (hn : n ≤ 1048576) (w : World) : (Instr.makeSlice 22 (.int .i64 (n : Int)) (.int .i64 (n : Int))).run Tryz.prog w = .ok (.slice (some ⟨w.heap.size, 0, none⟩) n n) (w.alloc (.cells (Array.replicate n (.int .u8 0)) 5)) :=
  by simpa [encB] using make_row (P := Tryz.prog) encB 0 22 5 Tryz.underlying22 (by omega) rfl (by kernel_rfl : (Tryz.prog.info? 5).map (fun i => (i.zero, i.size, i.bytes)) = some (some (.int .u8 0), 1, 1)) n hn w
theorem convert_made (n : Nat) (hn : n ≤ 1048576) (w : World) : (convert 22 9 (.slice (some ⟨w.heap.size, 0, none⟩) n n)).run Tryz.prog (w.alloc (.cells (Array.replicate n (.int .u8 0)) 5)) = .ok (.string ⟨Array.replicate n (0 : UInt8)⟩) (w.alloc (.cells (Array.replicate n (.int .u8 0)) 5)) := by
  have h := convert_own (w := w.alloc (.cells (Array.replicate n (.int .u8 0)) 5)) (base := w.heap.size) (v := .slice (some ⟨w.heap.size, 0, none⟩) n n) (xs := List.replicate n (0 : UInt8)) ⟨⟨some ⟨w.heap.size, 0, none⟩, n, by simp⟩, ?_⟩
  · simpa using h
  have := World.ownsRow_lit (base := w.heap.size) (e := 5) (size := 1) w (Array.replicate n (.int .u8 0)) n (Nat.le_refl _) (by unfold maxLen; omega) (by simp)
  simpa [encB] using this

theorem OwnR.other {α : Type} {enc : α → Value} {w : World} {base g i : Nat} {t t' : TypeId} {v u : Value} {xs : List α} {cs : Array Value} (h : OwnR enc w base t v xs) (hb : Blk w g t' cs) (ht : t ≠ t') : OwnR enc (w.setCell ⟨g, i, none⟩ u) base t v xs := by
  refine ⟨h.1, h.2.1, ?_⟩
  rcases h.2.2 with h2 | ⟨b, cap, cur, e1, e2, e3, r⟩
  · exact .inl h2
  · have hne : b ≠ g := fun e => by
      subst e
      have := e3.symm.trans hb
      injection this with this
      injection this with _ this _
      exact ht this
    exact .inr ⟨b, cap, cur, e1, e2, (Below.heap_setCell _ ⟨g, i, none⟩ _ b hne).trans e3, r⟩
section
variable {α : Type} {enc : α → Value}
/-- append(out, x), told closely: nothing but the row's own block has changed. -/
theorem wpList_app1W {P : Program} {ops : Array Oper} {rest : List Oper} {o : Oper} {a : Go.Act} {Q : Exit → Go.Act → World → Prop} (hgd : o.guard = none) (s x : Operand) (t e : TypeId)
    (ho : o.op = .call { callee := .builtin .append, args := #[s, x], argTypes := #[t, t] }) (ht : P.underlying t = some (.slice e))
    {z : Value} {by_ : Nat} (hzz : z.cells.size = 1) (hby : by_ ≤ 16) (hone : ∀ x : α, (enc x).oneCell' = true) (hinfo : (P.info? e).map (fun i => (i.zero, i.size, i.bytes)) = some (some z, 1, by_))
    (w : World) (base : Nat) (v : Value) (xs : List α) (y : α) (hs : a.eval s = v) (hown : OwnR enc w base e v xs)
    (hx : a.eval x = .slice (some ⟨w.heap.size, 0, none⟩) 1 1) (hlen : xs.length ≤ 1000000000) (hbase : base ≤ w.heap.size)
    (h : ∀ v' w', OwnR enc w' base e v' (xs ++ [y]) → (w.alloc (.cells #[enc y] e)).grownBy w' v.ownBlock → wpList P ops Q rest (a.put o.dst v') w') : wpList P ops Q (o :: rest) a (w.alloc (.cells #[enc y] e)) := by
  obtain ⟨i0, hi0, hz0, hz1, hz2⟩ := info_parts hinfo
  refine wpList_append_own _ hgd s x t ho base e i0 _ 1 by_ ht hi0 hz0 hz1 hz2 hzz (by decide) v xs.length (xs.map enc) hs (hown.2.alloc _) ⟨w.heap.size, 0, none⟩ 1 1 [enc y] hx rfl ?_ ?_ (by unfold maxLen; omega) (Nat.le_trans (Nat.mul_le_mul_left _ hby) (by omega)) (by simp; omega) ?_
  · intro j u hj
    match j, hj with
    | 0, hj => simp at hj; subst hj; simp [Addr.add]
  · intro u hu; simp at hu; subst hu; exact hone y
  · intro v' w' h1 h2 _
    refine h v' w' ⟨?_, ?_⟩ h2
    · rcases h1.2 with ⟨e1, e2⟩ | ⟨g, cap, cur, e1, _⟩
      · omega
      · exact ⟨some ⟨g, 0, none⟩, cap, by rw [e1]; simp⟩
    · have e3 : (xs ++ [y]).length = xs.length + 1 := by simp
      rw [e3, List.map_append]
      exact h1
end
/-- A drawn node in its variable's block g3. -/
structure NodSt (w0 W : World) (p lo hi : Nat) (A : Option Addr) (n c K g2 g3 base : Nat) (nm vl : ByteArray) (A5 : Option Addr) (N c5 : Nat) (xs : List ByteArray) : Prop where
  res : Blk W g2 32 #[.string ⟨#[]⟩, .slice none 0 0, .string ⟨#[]⟩]
  var : Blk W g3 32 #[.string nm, .slice A5 N c5, .string vl]
  own : OwnStrs W base 9 (.slice A5 N c5) xs
  len : xs.length = N
  src : Src W p lo hi A n c K
  mov : Moved p w0 W
  sep : hi ≤ w0.heap.size ∧ p < w0.heap.size ∧ w0.heap.size ≤ g2 ∧ g2 < base ∧ base ≤ g3
section
variable {w0 W W' : World} {p lo hi n c K g2 g3 base N c5 : Nat} {A A5 : Option Addr} {nm vl : ByteArray} {xs : List ByteArray}
theorem NodSt.moved {K' : Nat} (h : NodSt w0 W p lo hi A n c K g2 g3 base nm vl A5 N c5 xs) (hm : Moved p W W') (hs : Src W' p lo hi A n c K') : NodSt w0 W' p lo hi A n c K' g2 g3 base nm vl A5 N c5 xs := by
  obtain ⟨q1, q2, q3, q4, q5⟩ := h.sep
  exact ⟨h.res.moved hm (by omega), h.var.moved hm (by omega), h.own.moved hm (by omega), h.len, hs, h.mov.trans hm, h.sep⟩
theorem NodSt.below (h : NodSt w0 W p lo hi A n c K g2 g3 base nm vl A5 N c5 xs) (hb : Below W.heap.size W W') : NodSt w0 W' p lo hi A n c K g2 g3 base nm vl A5 N c5 xs := h.moved (Moved.of_below hb) (h.src.below hb)
theorem NodSt.name (h : NodSt w0 W p lo hi A n c K g2 g3 base nm vl A5 N c5 xs) (nm' : ByteArray) : NodSt w0 (W.setCell ⟨g3, 0, none⟩ (.string nm')) p lo hi A n c K g2 g3 base nm' vl A5 N c5 xs := by
  obtain ⟨q1, q2, q3, q4, q5⟩ := h.sep
  exact ⟨h.res.far (by dsimp only; omega) _, h.var.set_ 0 _, h.own.other h.var (by decide), h.len, h.src.far (by dsimp only; omega) (by dsimp only; omega) _, h.mov.set_ (by dsimp only; omega) _, h.sep⟩
theorem NodSt.value (h : NodSt w0 W p lo hi A n c K g2 g3 base nm vl A5 N c5 xs) (vl' : ByteArray) : NodSt w0 (W.setCell ⟨g3, 2, none⟩ (.string vl')) p lo hi A n c K g2 g3 base nm vl' A5 N c5 xs := by
  obtain ⟨q1, q2, q3, q4, q5⟩ := h.sep
  exact ⟨h.res.far (by dsimp only; omega) _, h.var.set_ 2 _, h.own.other h.var (by decide), h.len, h.src.far (by dsimp only; omega) (by dsimp only; omega) _, h.mov.set_ (by dsimp only; omega) _, h.sep⟩
theorem NodSt.subs (h : NodSt w0 W p lo hi A n c K g2 g3 base nm vl A5 N c5 xs) {B : Option Addr} {d : Nat} {ys : List ByteArray} (ho : OwnStrs W base 9 (.slice B ys.length d) ys) : NodSt w0 (W.setCell ⟨g3, 1, none⟩ (.slice B ys.length d)) p lo hi A n c K g2 g3 base nm vl B ys.length d ys := by
  obtain ⟨q1, q2, q3, q4, q5⟩ := h.sep
  exact ⟨h.res.far (by dsimp only; omega) _, h.var.set_ 1 _, ho.other h.var (by decide), rfl, h.src.far (by dsimp only; omega) (by dsimp only; omega) _, h.mov.set_ (by dsimp only; omega) _, h.sep⟩
/-- A text more: the row may have moved. -/
theorem NodSt.app (h : NodSt w0 W p lo hi A n c K g2 g3 base nm vl A5 N c5 xs) {o : Obj} (hg : (W.alloc o).grownBy W' (Value.slice A5 N c5).ownBlock) {v : Value} {ys : List ByteArray} (ho : OwnStrs W' base 9 v ys) :
    ∃ B d, v = .slice B ys.length d ∧ W'.frozen? ⟨g3, 1, none⟩ = false ∧ (∀ i, W'.cell? ⟨g3, i, none⟩ = (#[.string nm, .slice A5 N c5, .string vl] : Array Value)[i]?) ∧ NodSt w0 (W'.setCell ⟨g3, 1, none⟩ (.slice B ys.length d)) p lo hi A n c K g2 g3 base nm vl B ys.length d ys := by
  obtain ⟨q1, q2, q3, q4, q5⟩ := h.sep
  obtain ⟨⟨B, d, rfl⟩, ho2⟩ := id ho
  have hlo : ∀ g, (Value.slice A5 N c5).ownBlock = some g → base ≤ g ∧ g ≠ g3 := fun g hg' => by
    rcases h.own.2.2 with ⟨e1, _⟩ | ⟨b, cap, cur, e1, e2, e3, _⟩
    · rw [e1] at hg'; cases hg'
    · rw [e1] at hg'
      injection hg' with hg'
      have hg' : b = g := hg'
      subst hg'
      refine ⟨e2, fun e => ?_⟩
      subst e
      have := e3.symm.trans h.var
      injection this with this
      injection this with _ this _
      exact absurd this (by decide)
  have hal := (Below.refl W.heap.size W).alloc (Nat.le_refl _) o
  have key : ∀ b, b < W.heap.size → (∀ g, (Value.slice A5 N c5).ownBlock = some g → b ≠ g) → W'.heap[b]? = W.heap[b]? := fun b hb hn => (hg.block b (by simp; omega) (fun e => hn b e.symm rfl)).trans (hal.block b hb)
  have hsz : W.heap.size ≤ W'.heap.size := Nat.le_trans hal.size hg.size
  have hres : Blk W' g2 32 #[.string ⟨#[]⟩, .slice none 0 0, .string ⟨#[]⟩] := (key g2 h.res.lt fun g e => by have := (hlo g e).1; omega).trans h.res
  have hvar : Blk W' g3 32 #[.string nm, .slice A5 N c5, .string vl] := (key g3 h.var.lt fun g e => (hlo g e).2.symm).trans h.var
  have hB : Below base W W' := ⟨hg.os.trans hal.os, hg.tape.trans hal.tape, hg.output.trans hal.output, hsz, fun b hb => key b (by have := h.var.lt; omega) fun g e => by have := (hlo g e).1; omega⟩
  refine ⟨B, d, rfl, hvar.frozen 1, hvar.cell, hres.far (by dsimp only; omega) _, hvar.set_ 1 _, ho.other hvar (by decide), rfl, ?_, ?_, h.sep⟩
  · exact (h.src.belowB hB (by omega) (by omega)).far (by dsimp only; omega) (by dsimp only; omega) _
  · exact (h.mov.trans_below (hB.mono (by omega))).set_ (by dsimp only; omega) _
theorem NodSt.row_set (h : NodSt w0 W p lo hi A n c K g2 g3 base nm vl A5 N c5 xs) {i : Nat} (hi' : i < N) (y : ByteArray) :
    ∃ g, A5 = some ⟨g, 0, none⟩ ∧ (∃ u, W.cell? ⟨g, i, none⟩ = some u) ∧ W.frozen? ⟨g, i, none⟩ = false ∧ NodSt w0 (W.setCell ⟨g, i, none⟩ (.string y)) p lo hi A n c K g2 g3 base nm vl A5 N c5 (xs.set i y) := by
  obtain ⟨q1, q2, q3, q4, q5⟩ := h.sep
  obtain ⟨g, e, hg, hgl, hu, hz, ho⟩ := h.own.set_at (by rw [h.len]; exact hi') y
  have hne : g ≠ g3 := fun e' => by
    subst e e'
    rcases h.own.2.2 with ⟨e1, _⟩ | ⟨b, cap, cur, e1, _, e3, _⟩
    · cases e1
    · injection e1 with e1
      injection e1 with e1
      injection e1 with e1
      subst e1
      have := e3.symm.trans h.var
      injection this with this
      injection this with _ this _
      exact absurd this (by decide)
  exact ⟨g, e, hu, hz, h.res.far (by dsimp only; omega) _, h.var.far (by dsimp only; omega) _, ho, by rw [List.length_set]; exact h.len, h.src.far (by dsimp only; omega) (by dsimp only; omega) _, h.mov.set_ (by dsimp only; omega) _, h.sep⟩
end

set_option maxHeartbeats 16000000 in
set_option maxRecDepth 100000 in
theorem l22Node_any (p lo hi : Nat) (A : Option Addr) (n c K : Nat) (w : World) (h : Src w p lo hi A n c K) (hK : K ≤ 500000000) :
    Calls Tryz.prog 79 #[.pointer (some ⟨p, 0, none⟩)] w fun e w' => ∃ nm v vl, e = .returned (.agg #[.string nm, v, .string vl]) ∧ ∃ xs, OwnStrs w' w.heap.size 9 v xs ∧ NSm (nm, xs, vl) ∧ Src w' p lo hi A n c (K + 60) ∧ Moved p w w' := by
  have hpl := h.lt
  have hhi := h.le
  have hA := h.alloc (.cells #[.string ⟨#[]⟩, .slice none 0 0, .string ⟨#[]⟩] 32)
  have hz : (w.alloc (.cells #[.string ⟨#[]⟩, .slice none 0 0, .string ⟨#[]⟩] 32)).heap.size = w.heap.size + 1 := by simp
  have B0 := Lib.hid (Blk.new w 32 #[.string ⟨#[]⟩, .slice none 0 0, .string ⟨#[]⟩])
  have M0 := Lib.hid (Moved.alloc w (.cells #[.string ⟨#[]⟩, .slice none 0 0, .string ⟨#[]⟩] 32) p)
  have HN1 := Lib.hid (l03Name_any p lo hi A n c K _ hA (by omega))
  clear h hA
  go_enter Tryz.func79, Tryz.ntmps79
  go_wp2_with fail
  generalize w.alloc (.cells #[.string ⟨#[]⟩, .slice none 0 0, .string ⟨#[]⟩] 32) = wa at *
  refine HN1.out.mono ?_
  rintro e1 w1 ⟨nm, hnm, rfl, hs1, hm1⟩
  have hnm24 := l03NameTs_size nm hnm
  have HN2 := Lib.hid (l03Some_any p lo hi A n c _ w1 hs1 (by omega))
  have HB1 := Lib.hid (B0.out.moved hm1 (by omega)); have HM1 := Lib.hid (M0.out.trans hm1)
  have s1 := hm1.size
  clear hs1 hm1 hnm B0 M0 HN1
  go_wp2_with fail
  refine HN2.out.mono ?_
  rintro e2 w2 ⟨v, rfl, xs0, ho, hx4, hx24, hs2, hm2⟩
  obtain ⟨A5, c5, hv⟩ := ho.1
  subst hv
  have HN3 := Lib.hid (l22Text_any p lo hi A n c _ w2 hs2 (by omega))
  have HO2 := Lib.hid ho; have HB2 := Lib.hid (HB1.out.moved hm2 (by omega)); have HM2 := Lib.hid (HM1.out.trans hm2); have H24 := Lib.hid hx24
  have s2 := hm2.size
  clear hs2 hm2 ho HN2 HB1 HM1 hx24
  go_wp2_with fail
  refine HN3.out.mono ?_
  rintro e3 w3 ⟨vl, hvl, rfl, hs3, hm3⟩
  have hvl24 := l22TextTs_size vl hvl
  have s3 := hm3.size
  have hba := (Below.refl w3.heap.size w3).alloc (Nat.le_refl _) (.cells #[.string nm, .slice A5 xs0.length c5, .string vl] 32)
  have HS := Lib.hid (show NodSt w (w3.alloc (.cells #[.string nm, .slice A5 xs0.length c5, .string vl] 32)) p lo hi A n c (K + 2 + 12 + 2) w.heap.size w3.heap.size w1.heap.size nm vl A5 xs0.length c5 xs0 from
    ⟨(HB2.out.moved hm3 (by omega)).alloc _, Blk.new w3 32 _, (HO2.out.moved hm3 (by omega)).alloc _, rfl, hs3.below hba, (HM2.out.trans hm3).trans (Moved.of_below hba), hhi, hpl, Nat.le_refl _, by omega, by omega⟩)
  clear hs3 hm3 hvl hba HO2 HB2 HM2 HN3
  go_upto_region 2 with fail
  change Code.wp _ _ _ _ (w3.alloc (.cells #[.string nm, .slice A5 xs0.length c5, .string vl] 32))
  generalize w3.alloc (.cells #[.string nm, .slice A5 xs0.length c5, .string vl] 32) = w4 at *
  generalize w3.heap.size = g3 at *
  generalize w1.heap.size = base at *
  have fv := HS.out.var.cell
  go_wp2_with fail
  clear fv
  generalize hN : xs0.length = N at *
  go_loopw [16, 4, 5] (fun kk _ _ wr => ∃ k : Nat, k ≤ N ∧ kk = .int .i64 k ∧ ∃ xs : List ByteArray, (∀ x ∈ xs, x.size ≤ 24) ∧ NodSt w wr p lo hi A n c (K + 20 + 6 * k) w.heap.size g3 base nm vl A5 N c5 xs) (fun kk _ _ _ => N - (intOf kk).toNat)
  case atStart => exact ⟨0, Nat.zero_le _, rfl, xs0, H24.out, HS.out.moved (Moved.refl _ _) (HS.out.src.more (by omega))⟩
  case round =>
    obtain ⟨k, hk, rfl, xs, hxs, hst⟩ := hrel
    have HST := Lib.hid hst; have HXS := Lib.hid hxs
    clear HS H24
    by_cases hlt : k < N
    · have i1 : (k : Int) < (N : Int) := by omega
      have HT := Lib.hid (l22Text_any p lo hi A n c _ wr hst.src (by omega))
      clear hst hxs
      go_wp2_with fail
      refine HT.out.mono ?_
      rintro e5 w5 ⟨t, ht, rfl, hs5, hm5⟩
      have ht24 := l22TextTs_size t ht
      have HS5 := Lib.hid (HST.out.moved hm5 hs5)
      have HO5 := Lib.hid (oneS p lo hi A n c _ w5 hs5 (by omega) 2 (by omega) (by omega))
      clear hs5 hm5 ht HT HST
      cases he : t.toList.isEmpty with
      | true =>
        go_wp2_with fail
        go_roundw
        case rel => exact ⟨k + 1, by omega, by go_num, xs, HXS.out, HS5.out.moved (Moved.refl _ _) (HS5.out.src.more (by omega))⟩
        case measure => simp [intOf]; omega
      | false =>
        go_wp2_with fail
        refine HO5.out.mono ?_
        rintro e6 w6 ⟨b6, rfl, hs6, hm6⟩
        have hst6 := HS5.out.moved hm6 hs6
        have HS6 := Lib.hid hst6
        have f6 := hst6.var.cell
        clear hs6 hm6 HO5 HS5
        cases b6 with
        | false =>
          clear hst6
          go_wp2_with fail
          go_roundw
          case rel => exact ⟨k + 1, by omega, by go_num, xs, HXS.out, HS6.out.moved (Moved.refl _ _) (HS6.out.src.more (by omega))⟩
          case measure => simp [intOf]; omega
        | true =>
          obtain ⟨g, rfl, ⟨u, hu⟩, hfz, hst7⟩ := hst6.row_set hlt t
          have HS7 := Lib.hid hst7
          clear hst6 hst7
          go_wp2_with fail
          go_roundw
          case rel => exact ⟨k + 1, by omega, by go_num, xs.set k t, (fun x hx => by
            rcases List.mem_or_eq_of_mem_set hx with hx | rfl
            · exact HXS.out x hx
            · exact ht24), HS7.out.moved (Moved.refl _ _) (HS7.out.src.more (by omega))⟩
          case measure => simp [intOf]; omega
    · obtain rfl : k = N := by omega
      have i1 : ¬ (k : Int) < (k : Int) := by omega
      have HP := Lib.hid (pickS p lo hi A n c _ wr hst.src (by omega) 16 (by omega) (by omega))
      clear hst hxs
      go_wp2_with fail
      refine HP.out.mono ?_
      rintro e5 w5 ⟨r, hr, rfl, hs5, hm5⟩
      have hst5 := HST.out.moved hm5 hs5
      have HS5 := Lib.hid hst5
      have f5 := hst5.var.cell; have z50 := hst5.var.frozen 0; have z51 := hst5.var.frozen 1; have z52 := hst5.var.frozen 2
      have hlen := hst5.len
      clear hs5 hm5 HP HST hst5
      by_cases r0 : r = 0
      · subst r0
        have HE := Lib.hid (HS5.out.name ⟨#[]⟩)
        clear HS5
        go_upto_region 16 with fail
        change Code.wp _ _ _ _ (w5.setCell ⟨g3, 0, none⟩ (.string ⟨#[]⟩))
        generalize w5.setCell ⟨g3, 0, none⟩ (.string ⟨#[]⟩) = we at *
        have fe := HE.out.var.cell
        have hsep := HE.out.sep
        go_wp2_with (first
          | fail
          | (refine wpList_storeAll rfl 32 (.tmp 2) (.tmp 53) rfl w.heap.size #[.string ⟨#[]⟩, .slice A5 k c5, .string vl] rfl rfl HE.out.res (by kernel_rfl) rfl (by simp [Value.oneCell']) ?_; intro wF hbF hoF hzF))
        refine bodyPost_ret (results_cell_row (P := Tryz.prog) rfl _ _ w.heap.size 32 #[.string ⟨#[]⟩, .slice A5 k c5, .string vl] (0, 0) _ rfl hbF Tryz.underlying32 rfl (by kernel_rfl)) rfl ⟨⟨#[]⟩, _, vl, rfl, xs, (HE.out.own.moved hoF.moved (by omega)).mono (by omega), ⟨by show 0 ≤ 24; omega, by show xs.length ≤ 5; omega, HXS.out, by show vl.size ≤ 65; omega⟩, (HE.out.src.out hoF (by omega) (by omega)).more (by omega), HE.out.mov.out hoF (Nat.le_refl _)⟩
      · have n0 : ¬ (r : Int) = 0 := by omega
        by_cases r1 : r = 1
        · subst r1
          have HA5 := Lib.hid (HS5.out.below ((Below.refl w5.heap.size w5).alloc (Nat.le_refl _) (.cells #[.string ⟨#[]⟩] 9)))
          have hown := HS5.out.own
          have hbz : base ≤ w5.heap.size := by have := HS5.out.sep; have := HS5.out.var.lt; omega
          go_upto_region 16 with (first
            | fail
            | (at_builtin; refine wpList_app1W (enc := Value.string) rfl (.tmp 41) (.tmp 42) 29 9 rfl Tryz.underlying29 rfl (by omega) (fun _ => rfl) infoString w5 base _ xs ⟨#[]⟩ rfl hown rfl (by omega) hbz ?_; intro v8 w8 hown8 hg8; obtain ⟨B8, d8, rfl, z8, f8, hst8⟩ := HS5.out.app hg8 hown8; rw [show (xs ++ [(⟨#[]⟩ : ByteArray)]).length = k + 1 by rw [List.length_append, hlen]; rfl] at hst8 ⊢; have HE := Lib.hid hst8; clear hst8))
          clear HS5 HA5
          change Code.wp _ _ _ _ (w8.setCell ⟨g3, 1, none⟩ (.slice B8 (k + 1) d8))
          generalize w8.setCell ⟨g3, 1, none⟩ (.slice B8 (k + 1) d8) = we at *
          have fe := HE.out.var.cell
          have hsep := HE.out.sep
          go_wp2_with (first
            | fail
            | (refine wpList_storeAll rfl 32 (.tmp 2) (.tmp 53) rfl w.heap.size #[.string nm, .slice B8 (k + 1) d8, .string vl] rfl rfl HE.out.res (by kernel_rfl) rfl (by simp [Value.oneCell']) ?_; intro wF hbF hoF hzF))
          refine bodyPost_ret (results_cell_row (P := Tryz.prog) rfl _ _ w.heap.size 32 #[.string nm, .slice B8 (k + 1) d8, .string vl] (0, 0) _ rfl hbF Tryz.underlying32 rfl (by kernel_rfl)) rfl ⟨nm, _, vl, rfl, (xs ++ [⟨#[]⟩]), (HE.out.own.moved hoF.moved (by omega)).mono (by omega), ⟨hnm24, by show (xs ++ [(⟨#[]⟩ : ByteArray)]).length ≤ 5; rw [List.length_append]; simp; omega, fun x hx => by
            rcases List.mem_append.1 hx with hx | hx
            · exact HXS.out x hx
            · rw [List.mem_singleton.1 hx]; show 0 ≤ 24; omega, by show vl.size ≤ 65; omega⟩, (HE.out.src.out hoF (by omega) (by omega)).more (by omega), HE.out.mov.out hoF (Nat.le_refl _)⟩
        · have n1 : ¬ (r : Int) = 1 := by omega
          by_cases r2 : r = 2
          · subst r2
            have HP2 := Lib.hid (pickS p lo hi A n c _ w5 HS5.out.src (by omega) 2 (by omega) (by omega))
            clear f5 z50 z51 z52
            go_wp2_with fail
            refine HP2.out.mono ?_
            rintro e6 w6 ⟨r6, hr6, rfl, hs6, hm6⟩
            have hst6 := HS5.out.moved hm6 hs6
            obtain ⟨M, hM⟩ : ∃ M : Nat, M = 64 + r6 := ⟨_, rfl⟩
            have hst7 := hst6.below ((Below.refl w6.heap.size w6).alloc (Nat.le_refl _) (.cells (Array.replicate M (.int .u8 0)) 5))
            have HS7 := Lib.hid hst7
            have hmk := make_bytes M (by omega) w6
            rw [show ((M : Nat) : Int) = 64 + (r6 : Int) by omega] at hmk
            have hcv := convert_made M (by omega) w6
            have z7 := hst7.var.frozen 2; have f7 := hst7.var.cell
            have HM65 := Lib.hid (show (⟨Array.replicate M (0 : UInt8)⟩ : ByteArray).size ≤ 65 from by show (Array.replicate M (0 : UInt8)).size ≤ 65; simp; omega)
            clear hs6 hm6 hst6 HP2 hst7 hM
            go_upto_region 16 with fail
            change Code.wp _ _ _ _ ((w6.alloc (.cells (Array.replicate M (.int .u8 0)) 5)).setCell ⟨g3, 2, none⟩ (.string ⟨Array.replicate M (0 : UInt8)⟩))
            have HE := Lib.hid (HS7.out.value ⟨Array.replicate M (0 : UInt8)⟩)
            clear hmk hcv z7 f7 HS7 HS5
            generalize (w6.alloc (.cells (Array.replicate M (.int .u8 0)) 5)).setCell ⟨g3, 2, none⟩ (.string ⟨Array.replicate M (0 : UInt8)⟩) = we at *
            generalize (⟨Array.replicate M (0 : UInt8)⟩ : ByteArray) = TM at *
            have fe := HE.out.var.cell
            have hsep := HE.out.sep
            go_wp2_with (first
              | fail
              | (refine wpList_storeAll rfl 32 (.tmp 2) (.tmp 53) rfl w.heap.size #[.string nm, .slice A5 k c5, .string TM] rfl rfl HE.out.res (by kernel_rfl) rfl (by simp [Value.oneCell']) ?_; intro wF hbF hoF hzF))
            refine bodyPost_ret (results_cell_row (P := Tryz.prog) rfl _ _ w.heap.size 32 #[.string nm, .slice A5 k c5, .string TM] (0, 0) _ rfl hbF Tryz.underlying32 rfl (by kernel_rfl)) rfl ⟨nm, _, TM, rfl, xs, (HE.out.own.moved hoF.moved (by omega)).mono (by omega), ⟨hnm24, by show xs.length ≤ 5; omega, HXS.out, HM65.out⟩, (HE.out.src.out hoF (by omega) (by omega)).more (by omega), HE.out.mov.out hoF (Nat.le_refl _)⟩
          · have n2 : ¬ (r : Int) = 2 := by omega
            have HE := Lib.hid (HS5.out)
            clear HS5
            go_upto_region 16 with fail
            change Code.wp _ _ _ _ (w5)
            generalize w5 = we at *
            have fe := HE.out.var.cell
            have hsep := HE.out.sep
            go_wp2_with (first
              | fail
              | (refine wpList_storeAll rfl 32 (.tmp 2) (.tmp 53) rfl w.heap.size #[.string nm, .slice A5 k c5, .string vl] rfl rfl HE.out.res (by kernel_rfl) rfl (by simp [Value.oneCell']) ?_; intro wF hbF hoF hzF))
            refine bodyPost_ret (results_cell_row (P := Tryz.prog) rfl _ _ w.heap.size 32 #[.string nm, .slice A5 k c5, .string vl] (0, 0) _ rfl hbF Tryz.underlying32 rfl (by kernel_rfl)) rfl ⟨nm, _, vl, rfl, xs, (HE.out.own.moved hoF.moved (by omega)).mono (by omega), ⟨hnm24, by show xs.length ≤ 5; omega, HXS.out, by show vl.size ≤ 65; omega⟩, (HE.out.src.out hoF (by omega) (by omega)).more (by omega), HE.out.mov.out hoF (Nat.le_refl _)⟩

end Go.Proofs.YtfibjcaidnofmaaGreatDoor
