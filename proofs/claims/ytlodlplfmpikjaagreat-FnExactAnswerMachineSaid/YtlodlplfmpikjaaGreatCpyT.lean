/- copyTree of the program walked: nodes in a row that grows. -/
import Derived.Test.YtlodlplfmpikjaaGreatCpy
import Derived.Test.YtlodlplfmpikjaaGreatTail
import Derived.Deep.DeepCutAuto
import Derived.Deep.CutBlock
namespace Go.Proofs.YtlodlplfmpikjaaGreat
open Go.RowKit

set_option maxHeartbeats 4000000 in
set_option maxRecDepth 100000 in
theorem copyTree_f (x0 : List TyNode) (A0 : Option Addr) (c0 lo hi : Nat) (w : World) (h : shTree.R w lo hi [.slice A0 x0.length c0] x0) (hhi : hi ≤ w.heap.size) (hf : shTree.fit 1048576 x0) :
    Calls Tryz.prog 98 #[.agg #[.slice A0 x0.length c0]] w fun e w' => ∃ (B0 : Option Addr) (d0 : Nat), e = .returned (.agg #[.slice B0 x0.length d0]) ∧ Own shTree w' w.heap.size w'.heap.size [.slice B0 x0.length d0] x0 ∧ Below w.heap.size w w' := by
  have hn : x0.length ≤ 1048576 := hf.1
  have HA := Lib.hid (show (Sh.row 150 shNode).R w lo hi [.slice A0 x0.length c0] x0 from h); have HF := Lib.hid (show ∀ x ∈ x0, shNode.fit 1048576 x from hf.2)
  clear h hf
  have T0 := Lib.hid (Three.start w 103 103 103 #[.slice A0 x0.length c0] #[.slice none 0 0] #[.slice none 0 0])
  go_enter Tryz.func98, Tryz.ntmps98
  go_wp2_with fail
  go_loopw [10] (fun i wr => ∃ (k : Nat) (B : Option Addr) (d : Nat), k ≤ x0.length ∧ i = .int .i64 k ∧ Three w wr 103 103 103 #[.slice A0 x0.length c0] #[.slice none 0 0] #[.slice B k d] ∧ Own (Sh.row 150 shNode) wr (w.heap.size + 1 + 1 + 1) wr.heap.size [.slice B k d] (x0.take k)) (fun i _ => x0.length - (intOf i).toNat)
  case atStart => exact ⟨0, none, 0, Nat.zero_le _, rfl, T0.out, Own.nil_row _ _ _⟩
  case round =>
    obtain ⟨k, B, d, hk, rfl, hT, hO⟩ := hrel
    by_cases hlt : k < x0.length
    · obtain ⟨-, b, off, rfl, hb1, hb2, A1, c1, e100, e101, e102, hX⟩ := shNode_at ((Sh.row 150 shNode).R_below HA.out hT.2.2.2 hhi) hlt
      have HX := Lib.hid (HF.out _ (getD_in (d := shNode.d) hlt))
      have HTK := Lib.hid (take_succ_getD shNode hlt)
      generalize x0.getD k shNode.d = X at *
      obtain ⟨y0, y1, y2⟩ := X
      dsimp only at e100 e101 e102
      have hsz := hT.2.2.2.size
      have HT := Lib.hid hT; have HO := Lib.hid hO; have HR := Lib.hid hX
      have B5 := Lib.hid (Blk.new wr 150 #[.string y0, .slice A1 y1.length c1, .string y2])
      have hT' := hT
      have hwi : hi ≤ wr.heap.size := Nat.le_trans hhi hsz
      have hbA := (Below.refl wr.heap.size wr).alloc (Nat.le_refl _) (.cells #[.string y0, .slice A1 y1.length c1, .string y2] 150)
      have HBA := Lib.hid hbA.drew
      have HTA := Lib.hid (hT.call hbA)
      clear hT hO hX
      have hs0 : w.heap.size + 1 + 1 < wr.heap.size := hT'.2.2.1.lt
      have hzA : (wr.alloc (.cells #[.string y0, .slice A1 y1.length c1, .string y2] 150)).heap.size = wr.heap.size + 1 := by simp
      have HRA := Lib.hid (shNode.R_below HR.out hbA hwi)
      have HOA := Lib.hid (HO.out.below hbA (Nat.le_refl _))
      have HZA := Lib.hid hzA
      clear hT' hbA hzA HT HR HO HBA
      go_upto_region 5 with fail
      clear e100 e101 e102
      generalize (wr.alloc (.cells #[.string y0, .slice A1 y1.length c1, .string y2] 150)) = wA at *
      refine AnyT.region (fun j => j == 7) (fun W => (∀ i, W.cell? ⟨w.heap.size + 1 + 1, i, none⟩ = (#[.slice B k d] : Array Value)[i]?) ∧ (∀ i, W.cell? ⟨wr.heap.size, i, none⟩ = (#[.string y0, .slice A1 y1.length c1, .string y2] : Array Value)[i]?)) (by kernel_rfl) ⟨(HTA.out.call (below_drewN' _ 1)).2.2.1.cell, (B5.out.drewN 1).cell⟩ (fun hHeld => ?_)
      have HTD := Lib.hid (show Three w wA.drew 103 103 103 _ _ _ from HTA.out.call (below_drewN' _ 1))
      have HRD := Lib.hid (show shNode.R wA.drew lo hi _ _ from shNode.R_below HRA.out (below_drewN' _ 1) (by rw [HZA.out]; omega))
      have HOD := Lib.hid (show Own (Sh.row 150 shNode) wA.drew _ wr.heap.size _ _ from HOA.out.below (below_drewN' _ 1) (by rw [HZA.out]; omega))
      have HZD := Lib.hid (show wA.drew.heap.size = wr.heap.size + 1 from HZA.out)
      have BD := Lib.hid (show Blk wA.drew _ _ _ from B5.out.drewN 1)
      clear HTA HRA HOA HZA B5
      generalize wA.drew = wD at *
      ((refine AnyT.takeAny 0 14 ?_ rfl (by kernel_rfl) (by kernel_rfl) (by kernel_rfl) rfl rfl (fun _ _ _ _ h => h) rfl ?_ (by assumption) ?_); rotate_left; (intro w; go_simp; (try (with_reducible rfl))); simp only [Act.put, List.setIfInBounds_toArray, List.set_cons_zero, List.set_cons_succ])
      ((refine AnyT.take 1 15 ?_ rfl (by kernel_rfl) (by kernel_rfl) (by kernel_rfl) (by kernel_rfl) rfl (by kernel_rfl) rfl (fun _ _ _ _ h => h) rfl ?_ (by assumption) ?_); rotate_left; (intro w hSw; (try dsimp only at hSw); go_simp; (try (with_reducible rfl))); simp only [Act.put, List.setIfInBounds_toArray, List.set_cons_zero, List.set_cons_succ])
      ((refine AnyT.take 2 16 ?_ rfl (by kernel_rfl) (by kernel_rfl) (by kernel_rfl) (by kernel_rfl) rfl (by kernel_rfl) rfl (fun _ _ _ _ h => h) rfl ?_ (by assumption) ?_); rotate_left; (intro w hSw; (try dsimp only at hSw); go_simp; (try (with_reducible rfl))); simp only [Act.put, List.setIfInBounds_toArray, List.set_cons_zero, List.set_cons_succ])
      ((refine AnyT.one (i := 3) (by kernel_rfl) rfl (fun K hK => ?_)))
      go_simp
      refine (copyNode_f y0 y1 y2 A1 c1 lo hi _ HRD.out (by rw [HZD.out]; omega) HX.out).mono ?_
      rintro e6 w6 ⟨B6, d6, rfl, ho6, hb6⟩
      go_simp
      have HT6 := Lib.hid (HTD.out.call hb6)
      have B56 := Lib.hid (BD.out.below hb6 BD.out.lt)
      have HO6 := Lib.hid (HOD.out.below hb6 (by rw [HZD.out]; omega))
      have HE6 := Lib.hid ho6
      have hs6 := hb6.size
      rw [HZD.out] at hs6
      refine hK.out _ _ ⟨HT6.out.2.2.1.cell, B56.out.cell⟩ (fun hHeld => ?_)
      clear hK K hb6 ho6
      (try simp only [Go.Act.put, List.setIfInBounds_toArray, List.set_cons_zero, List.set_cons_succ])
      ((refine AnyT.one (i := 4) (by kernel_rfl) rfl (fun K hK => ?_)))
      go_simp
      refine hK.out _ _ ⟨(HT6.out.2.2.1.alloc _).cell, (B56.out.alloc _).cell⟩ (fun hHeld => ?_)
      clear hK K
      (try simp only [Go.Act.put, List.setIfInBounds_toArray, List.set_cons_zero, List.set_cons_succ])
      ((refine AnyT.one (i := 5) (by kernel_rfl) rfl (fun K hK => ?_)))
      refine step_grow (s := shNode) rfl (.tmp 15) (.tmp 18) 101 rfl Tryz.underlying101 rfl (by decide) (by decide) infoNode w6 (w.heap.size + 1 + 1 + 1) wr.heap.size (wr.heap.size + 1) w6.heap.size B k d (x0.take k) [.string y0, .slice B6 y1.length d6, .string y2] (y0, y1, y2) rfl HO6.out (HE6.out.more (by rw [HZD.out]; omega) (Nat.le_refl _)) (by omega) (by omega) (Nat.le_refl _) (by omega) rfl (by omega) ?_
      intro B7 d7 w7 ho7 hb7 hs7 hk7
      rw [← HTK.out] at ho7
      have hb7' : Below (w.heap.size + 1 + 1 + 1) w6 w7 := hb7
      have HT7 := Lib.hid (show Three w w7 103 103 103 _ _ _ from HT6.out.below3 hb7')
      have B57 := Lib.hid (show Blk w7 wr.heap.size 150 #[.string y0, .slice A1 y1.length c1, .string y2] from (hk7 _ (Nat.le_refl _) (by omega)).trans B56.out)
      have HO7 := Lib.hid ho7
      refine hK.out _ _ ⟨HT7.out.2.2.1.cell, B57.out.cell⟩ (fun hHeld => ?_)
      clear hK K hb7 hb7' ho7 hk7
      (try simp only [Go.Act.put, List.setIfInBounds_toArray, List.set_cons_zero, List.set_cons_succ])
      ((refine AnyT.takeAny 6 20 ?_ rfl (by kernel_rfl) (by kernel_rfl) (by kernel_rfl) rfl rfl (fun _ _ _ _ h => h) rfl ?_ (by assumption) ?_); rotate_left; (intro w; go_simp; (try (with_reducible rfl))); simp only [Act.put, List.setIfInBounds_toArray, List.set_cons_zero, List.set_cons_succ])
      have f7 := HT7.out.2.2.1.cell
      have z7 := HT7.out.2.2.1.frozen
      ((refine AnyT.last (i := 7) (by kernel_rfl) rfl (by kernel_rfl) (fun K hK => ?_)))
      go_simp
      refine hK.out _ _ ?_
      clear hK K
      (try simp only [Go.Act.put, List.setIfInBounds_toArray, List.set_cons_zero, List.set_cons_succ])
      refine AnyT.done (by kernel_rfl) ?_ _
      go_wp2_with fail
      go_roundw
      case rel => exact ⟨k + 1, B7, d7, by omega, by go_num, HT7.out.store2 0 _, (HO7.out.setCell (p := ⟨w.heap.size + 1 + 1, 0, none⟩) (by dsimp only; omega) (.slice B7 (k + 1) d7)).more (Nat.le_refl _) (by simp [World.setCell])⟩
      case measure => simp [intOf]; omega
    · obtain rfl : k = x0.length := by omega
      rw [List.take_length] at hO
      have HT := Lib.hid hT; have HO := Lib.hid hO
      have f1 := hT.2.1.cell; have z1 := hT.2.1.frozen; have f2 := hT.2.2.1.cell
      have hs0 : w.heap.size + 1 + 1 < wr.heap.size := hT.2.2.1.lt
      clear hT hO
      go_wp2_with fail
      refine bodyPost_ret (v := .agg #[.slice B x0.length d]) (by simp [results, Tryz.results98, go_sem, f1]) rfl ⟨_, _, rfl, ?_, ?_⟩
      · refine Own.more (lo := w.heap.size + 1 + 1 + 1) (hi := wr.heap.size) ?_ (by omega) (by simp [World.setCell])
        iterate 1 (with_reducible refine Own.setCell ?_ (by dsimp only; omega) _)
        exact HO.out
      · iterate 1 (with_reducible refine Below.setCell ?_ (by simp; try omega) _)
        exact HT.out.2.2.2

end Go.Proofs.YtlodlplfmpikjaaGreat
