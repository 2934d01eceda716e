/- The program's write to a file walked: the loop over the text. -/
import Derived.Test.YtmeholhmadeehaaGreatDoorJoinFLAp
import Derived.Deep.DeepCutAuto
import Derived.Test.YtmeholhmadeehaaGreatDoorJoinFLAo
import Derived.Test.YtmeholhmadeehaaGreatDoorJoinFLAa
import Derived.Lib.ItoaNum
namespace Go.Proofs.YtmeholhmadeehaaGreatDoor
open Go.RowKit

theorem byte_ten {c : UInt8} (h : c = 10) : ((c.toNat : Int) == 10) = true := by subst h; rfl
theorem byte_not_ten {c : UInt8} (h : c ≠ 10) : ((c.toNat : Int) == 10) = false := by
  rw [beq_eq_false_iff_ne]
  intro e
  exact h (UInt8.toNat_inj.1 (by have : c.toNat = 10 := by omega
                                 rw [this]; rfl))
theorem byte_back (c : UInt8) : UInt8.ofNat ((c.toNat : Int)).toNat = c := by simp

/-- What follows for the plain law from one byte more. -/
theorem wr_step {f : Fil} {text : ByteArray} {k : Nat} {fy : Fil} (hk : k < text.size) (hy : fy = wrF f (text.data.toList.take k)) (hok : wrOk f (text.data.toList.take k) = true) :
    (fitsB (wrB fy text[k]) = true → wrB fy text[k] = wrF f (text.data.toList.take (k + 1)) ∧ wrOk f (text.data.toList.take (k + 1)) = true) ∧ (fitsB (wrB fy text[k]) = false → wrOk f text.data.toList = false) := by
  have hs := take_snoc text k hk
  have h1 : wrF f (text.data.toList.take (k + 1)) = wrB fy text[k] := by rw [hs, wrF_snoc, hy]
  have h2 : wrOk f (text.data.toList.take (k + 1)) = fitsB (wrB fy text[k]) := by rw [hs, wrOk_snoc, hok, hy, Bool.true_and]
  refine ⟨fun h => ⟨h1.symm, by rw [h2, h]⟩, fun h => ?_⟩
  have h3 := List.take_append_drop (k + 1) text.data.toList
  rw [← h3, wrOk_append, h2, h]
  rfl

set_option maxHeartbeats 8000000 in
set_option maxRecDepth 100000 in
theorem fileWrite_any (g cap n j lo : Nat) (xs : List Fx) (x : Fx) (text : ByteArray) (w : World) (h : OwnFx w lo w.heap.size (.slice (some ⟨g, 0, none⟩) n cap) xs) (hn : xs.length = n) (hj : j < xs.length) (hx : xs[j] = x) (hw : FilW x.f) (ht : text.size ≤ 1048576) (hlo : lo ≤ w.heap.size) :
    Calls Tryz.prog 53 #[.pointer (some ⟨g, j * 4, none⟩), .string text] w fun e w' => e = .returned (.bool (wrOk x.f text.data.toList)) ∧ Below lo w w' ∧
      (wrOk x.f text.data.toList = true → ∃ L c, OwnFx w' lo w'.heap.size (.slice (some ⟨g, 0, none⟩) n cap) (xs.set j ⟨wrF x.f text.data.toList, L, c⟩)) := by
  obtain ⟨cap1, w1, hr, hcells, hbw, hsz⟩ := bytes_of w text
  have hgl := h.top g rfl
  have hrow := h.row
  have hlg : lo ≤ g := (hrow.lt g rfl).1
  have hxs : xs.set j x = xs := by rw [← hx]; exact List.set_getElem_self hj
  have hbm : ∀ b, x.sl.ownBlock = some b → b < w.heap.size := fun b hb => (h.own x (hx ▸ List.getElem_mem hj)).2 b hb
  have HST : Hid (WrF w1 lo g cap n j w.heap.size xs x w1) := ⟨by rw [hxs]; exact (loc_ownFx _ _ _ _ w w1 (fun b _ h2 => hbw.block b h2) h).more hbw.size, fun b hb => by have := hbm b hb; omega, rfl, by omega, Below.refl _ _⟩
  have HB1 := Lib.hid (hbw.mono hlo)
  have HN := Lib.hid hn; have HJ := Lib.hid hj; have HCE := Lib.hid hcells; have HFW := Lib.hid hw
  have hgm : g ≠ w.heap.size := by omega
  have HHL : Hid (lo ≤ w1.heap.size) := by show lo ≤ w1.heap.size; omega
  clear h hrow hxs hbm hcells hbw hsz hx hw hn
  generalize hXF : x.f = f0 at *
  have HXF := Lib.hid hXF; clear hXF
  go_enter Tryz.func53, Tryz.ntmps53
  go_wp2_with fail
  clear hr
  go_loopw [10] (fun i wr => ∃ k : Nat, k ≤ text.size ∧ i = .int .i64 k ∧ ∃ y : Fx, y.f = wrF f0 (text.data.toList.take k) ∧ wrOk f0 (text.data.toList.take k) = true ∧ WrF w1 lo g cap n j w.heap.size xs y wr) (fun i _ => text.size - (intOf i).toNat)
  case atStart => exact ⟨0, Nat.zero_le _, rfl, x, by rw [List.take_zero]; exact HXF.out, by rw [List.take_zero]; rfl, HST.out⟩
  case round =>
    obtain ⟨k, hk, rfl, y, hyf, hok, hW⟩ := hrel
    by_cases hlt : k < text.size
    · have h255 := byte_le text[k]
      have hcell : wr.cell? ⟨w.heap.size, k, none⟩ = some (.int .u8 (text[k].toNat : Int)) := (World.cell?_of_block hW.keep).trans (HCE.out k hlt)
      have HSTEP := Lib.hid (wr_step hlt hyf hok)
      have hFW : FilW y.f := by rw [hyf]; exact HFW.out.all _ hok
      have hlr : lo ≤ wr.heap.size := Nat.le_trans HHL.out hW.low.size
      obtain ⟨⟨ynm, yls, ypt, yat⟩, L, c⟩ := y
      obtain ⟨p1, p2, -, -⟩ := hFW
      dsimp only at *
      have f1 := (hW.own.at_ HN.out HJ.out 1 (by omega) (.slice L yls.length c) rfl).1
      have z1 := (hW.own.at_ HN.out HJ.out 1 (by omega) (.slice L yls.length c) rfl).2
      have f2 := (hW.own.at_ HN.out HJ.out 2 (by omega) (.string ypt) rfl).1
      have z2 := (hW.own.at_ HN.out HJ.out 2 (by omega) (.string ypt) rfl).2
      have HW := Lib.hid hW; clear hW hyf hok
      generalize text[k] = ch at *
      by_cases h10 : ch = 10
      · have t10 := byte_ten h10
        have HS := Lib.hid (show wrB ⟨ynm, yls, ypt, yat⟩ ch = ⟨ynm, yls ++ [ypt], ⟨#[]⟩, yat⟩ by unfold wrB; rw [if_pos h10])
        clear h10
        go_wp2_with fail
        refine AnyT.region (fun i => decide (14 ≤ i)) (fun w' => w'.cell? ⟨g, j * 4 + 1, none⟩ = some (.slice L yls.length c) ∧ w'.cell? ⟨g, j * 4 + 2, none⟩ = some (.string ypt)) (by kernel_rfl) ⟨f1, f2⟩ (fun hHeld => ?_)
        ((refine AnyT.takeAny 0 16 ?_ rfl (by kernel_rfl) (by kernel_rfl) (by kernel_rfl) rfl rfl (fun _ _ _ _ h => h) rfl ?_ (by assumption) ?_); rotate_left; (intro w; go_simp; (try (with_reducible rfl))); simp only [Act.put, List.setIfInBounds_toArray, List.set_cons_zero, List.set_cons_succ])
        ((refine AnyT.takeAny 1 17 ?_ rfl (by kernel_rfl) (by kernel_rfl) (by kernel_rfl) rfl rfl (fun _ _ _ _ h => h) rfl ?_ (by assumption) ?_); rotate_left; (intro w; go_simp; (try (with_reducible rfl))); simp only [Act.put, List.setIfInBounds_toArray, List.set_cons_zero, List.set_cons_succ])
        ((refine AnyT.takeAny 2 18 ?_ rfl (by kernel_rfl) (by kernel_rfl) (by kernel_rfl) rfl rfl (fun _ _ _ _ h => h) rfl ?_ (by assumption) ?_); rotate_left; (intro w; go_simp; (try (with_reducible rfl))); simp only [Act.put, List.setIfInBounds_toArray, List.set_cons_zero, List.set_cons_succ])
        ((refine AnyT.takeAny 3 19 ?_ rfl (by kernel_rfl) (by kernel_rfl) (by kernel_rfl) rfl rfl (fun _ _ _ _ h => h) rfl ?_ (by assumption) ?_); rotate_left; (intro w; go_simp; (try (with_reducible rfl))); simp only [Act.put, List.setIfInBounds_toArray, List.set_cons_zero, List.set_cons_succ])
        ((refine AnyT.takeAny 4 20 ?_ rfl (by kernel_rfl) (by kernel_rfl) (by kernel_rfl) rfl rfl (fun _ _ _ _ h => h) rfl ?_ (by assumption) ?_); rotate_left; (intro w; go_simp; (try (with_reducible rfl))); simp only [Act.put, List.setIfInBounds_toArray, List.set_cons_zero, List.set_cons_succ])
        ((refine AnyT.take 5 21 ?_ rfl (by kernel_rfl) (by kernel_rfl) (by kernel_rfl) (by kernel_rfl) rfl (by kernel_rfl) rfl (fun _ _ _ _ h => h) rfl ?_ (by assumption) ?_); rotate_left; (intro w hSw; (try dsimp only at hSw); go_simp; (try (with_reducible rfl))); simp only [Act.put, List.setIfInBounds_toArray, List.set_cons_zero, List.set_cons_succ])
        ((refine AnyT.takeAny 6 22 ?_ rfl (by kernel_rfl) (by kernel_rfl) (by kernel_rfl) rfl rfl (fun _ _ _ _ h => h) rfl ?_ (by assumption) ?_); rotate_left; (intro w; go_simp; (try (with_reducible rfl))); simp only [Act.put, List.setIfInBounds_toArray, List.set_cons_zero, List.set_cons_succ])
        ((refine AnyT.takeAny 7 23 ?_ rfl (by kernel_rfl) (by kernel_rfl) (by kernel_rfl) rfl rfl (fun _ _ _ _ h => h) rfl ?_ (by assumption) ?_); rotate_left; (intro w; go_simp; (try (with_reducible rfl))); simp only [Act.put, List.setIfInBounds_toArray, List.set_cons_zero, List.set_cons_succ])
        ((refine AnyT.takeAny 8 24 ?_ rfl (by kernel_rfl) (by kernel_rfl) (by kernel_rfl) rfl rfl (fun _ _ _ _ h => h) rfl ?_ (by assumption) ?_); rotate_left; (intro w; go_simp; (try (with_reducible rfl))); simp only [Act.put, List.setIfInBounds_toArray, List.set_cons_zero, List.set_cons_succ])
        ((refine AnyT.take 9 25 ?_ rfl (by kernel_rfl) (by kernel_rfl) (by kernel_rfl) (by kernel_rfl) rfl (by kernel_rfl) rfl (fun _ _ _ _ h => h) rfl ?_ (by assumption) ?_); rotate_left; (intro w hSw; (try dsimp only at hSw); go_simp; (try (with_reducible rfl))); simp only [Act.put, List.setIfInBounds_toArray, List.set_cons_zero, List.set_cons_succ])
        have hgw : g < wr.heap.size := by have := HW.out.lt; omega
        have HBA := Lib.hid (show Below wr.heap.size wr (wr.alloc (.cells #[.string ypt] 9)).drew from ((Below.refl wr.heap.size wr).alloc (Nat.le_refl _) (.cells #[.string ypt] 9)).drew)
        have HCB := Lib.hid (show (wr.alloc (.cells #[.string ypt] 9)).drew.cell? ⟨wr.heap.size, 0, none⟩ = some (.string ypt) from (Blk.new wr 9 #[.string ypt]).cell 0)
        have HSZ := Lib.hid (show (wr.alloc (.cells #[.string ypt] 9)).drew.heap.size = wr.heap.size + 1 by show (wr.alloc _).heap.size = _; simp)
        have HOW := Lib.hid (show (wr.alloc (.cells #[.string ypt] 9)).drew.ownsRow lo 9 1 (.slice L yls.length c) yls.length (yls.map Value.string) from own_below ((HW.out.own.own _ (List.mem_of_getElem (by rw [List.getElem_set_self] : (xs.set j ⟨⟨ynm, yls, ypt, yat⟩, L, c⟩)[j]'(by rw [List.length_set]; exact HJ.out) = ⟨⟨ynm, yls, ypt, yat⟩, L, c⟩))).1) HBA.out)
        ((refine AnyT.one (i := 10) (by kernel_rfl) rfl (fun K hK => ?_)))
        go_simp
        refine hK.out _ _ ⟨(HBA.out.cell (p := ⟨g, j * 4 + 1, none⟩) hgw).trans f1, (HBA.out.cell (p := ⟨g, j * 4 + 2, none⟩) hgw).trans f2⟩ (fun hHeld => ?_)
        clear hK K
        (try simp only [Act.put, List.setIfInBounds_toArray, List.set_cons_zero, List.set_cons_succ])
        generalize hWA : (wr.alloc (.cells #[.string ypt] 9)).drew = wa at *
        clear hWA
        ((refine AnyT.one (i := 11) (by kernel_rfl) rfl (fun K hK => ?_)))
        refine step_appStr (by rfl) (.tmp 21) (.tmp 26) 22 (by rfl) Tryz.underlying22 wa lo (.slice L yls.length c) yls ypt yls.length (by rfl) HOW.out wr.heap.size (by rfl) HCB.out (by omega) (by have := HSZ.out; omega) ?_
        intro A6 c6 w6 hr6 hg6 hat6
        have hgy : (Value.slice L yls.length c).ownBlock ≠ some g := by
          intro e
          exact HW.out.own.far _ (List.mem_of_getElem (by rw [List.getElem_set_self] : (xs.set j ⟨⟨ynm, yls, ypt, yat⟩, L, c⟩)[j]'(by rw [List.length_set]; exact HJ.out) = ⟨⟨ynm, yls, ypt, yat⟩, L, c⟩)) g e rfl
        have hg6k : w6.heap[g]? = wa.heap[g]? := hg6.block g (by have := HSZ.out; omega) (fun e => hgy e.symm)
        have c61 := (World.cell?_of_block (a := ⟨g, j * 4 + 1, none⟩) hg6k).trans hHeld.1
        have c62 := (World.cell?_of_block (a := ⟨g, j * 4 + 2, none⟩) hg6k).trans hHeld.2
        refine hK.out _ _ ⟨c61, c62⟩ (fun hHeld => ?_)
        clear hK K
        (try simp only [Act.put, List.setIfInBounds_toArray, List.set_cons_zero, List.set_cons_succ])
        have HL6 := Lib.hid (WrF.line (A := A6) (c := c6) (s := ypt) (wa := wa) (w6 := w6) HW.out HN.out HJ.out hgm hlg hlr HBA.out hr6 hg6 hat6)
        have HZ6 := Lib.hid (show w6.frozen? ⟨g, j * 4 + 1, none⟩ = false ∧ w6.frozen? ⟨g, j * 4 + 2, none⟩ = false from ⟨(show _ = wa.frozen? ⟨g, j * 4 + 1, none⟩ by unfold World.frozen?; rw [hg6k]).trans ((HBA.out.frozen (p := ⟨g, j * 4 + 1, none⟩) hgw).trans z1), (show _ = wa.frozen? ⟨g, j * 4 + 2, none⟩ by unfold World.frozen?; rw [hg6k]).trans ((HBA.out.frozen (p := ⟨g, j * 4 + 2, none⟩) hgw).trans z2)⟩)
        ((refine AnyT.takeAny 12 28 ?_ rfl (by kernel_rfl) (by kernel_rfl) (by kernel_rfl) rfl rfl (fun _ _ _ _ h => h) rfl ?_ (by assumption) ?_); rotate_left; (intro w; go_simp; (try (with_reducible rfl))); simp only [Act.put, List.setIfInBounds_toArray, List.set_cons_zero, List.set_cons_succ])
        ((refine AnyT.takeAny 13 29 ?_ rfl (by kernel_rfl) (by kernel_rfl) (by kernel_rfl) rfl rfl (fun _ _ _ _ h => h) rfl ?_ (by assumption) ?_); rotate_left; (intro w; go_simp; (try (with_reducible rfl))); simp only [Act.put, List.setIfInBounds_toArray, List.set_cons_zero, List.set_cons_succ])
        obtain ⟨zz1, zz2⟩ := HZ6.out
        ((refine AnyT.last (i := 14) (by kernel_rfl) rfl (by kernel_rfl) (fun K hK => ?_)))
        go_simp
        refine hK.out _ _ ?_
        clear hK K
        (try simp only [Act.put, List.setIfInBounds_toArray, List.set_cons_zero, List.set_cons_succ])
        ((refine AnyT.last (i := 15) (by kernel_rfl) rfl (by kernel_rfl) (fun K hK => ?_)))
        go_simp
        refine hK.out _ _ ?_
        clear hK K
        (try simp only [Act.put, List.setIfInBounds_toArray, List.set_cons_zero, List.set_cons_succ])
        ((refine AnyT.last (i := 16) (by kernel_rfl) rfl (by kernel_rfl) (fun K hK => ?_)))
        go_simp
        refine hK.out _ _ ?_
        clear hK K
        (try simp only [Act.put, List.setIfInBounds_toArray, List.set_cons_zero, List.set_cons_succ])
        ((refine AnyT.last (i := 17) (by kernel_rfl) rfl (by kernel_rfl) (fun K hK => ?_)))
        go_simp
        refine hK.out _ _ ?_
        clear hK K
        (try simp only [Act.put, List.setIfInBounds_toArray, List.set_cons_zero, List.set_cons_succ])
        refine AnyT.done (by kernel_rfl) ?_ _
        have HL7 := Lib.hid (HL6.out.part HN.out HJ.out hgm hlg ⟨#[]⟩)
        generalize (w6.setCell ⟨g, j * 4 + 1, none⟩ (.slice A6 (yls.length + 1) c6)).setCell ⟨g, j * 4 + 2, none⟩ (.string ⟨#[]⟩) = w7 at *
        clear c61 c62 hg6k hgy hr6 hg6 hat6 hHeld zz1 zz2 HZ6 HL6 HBA HCB HSZ HOW f1 z1 f2 z2
        have f1 := (HL7.out.own.at_ HN.out HJ.out 1 (by omega) (.slice A6 (yls.length + 1) c6) (by simp [Fx.cells, Fx.sl])).1
        have f2 := (HL7.out.own.at_ HN.out HJ.out 2 (by omega) (.string ⟨#[]⟩) rfl).1
        by_cases hfit : yls.length + 1 ≤ 20
        · have HF := Lib.hid (HSTEP.out.1 (by rw [HS.out]; unfold fitsB; simp [ByteArray.size]; omega)); clear HSTEP
          rw [HS.out] at HF
          go_wp2_with fail
          go_roundw
          case rel => exact ⟨k + 1, by omega, by go_num, _, HF.out.1, HF.out.2, HL7.out⟩
          case measure => simp [intOf]; omega
        · have HF := Lib.hid (HSTEP.out.2 (by rw [HS.out]; unfold fitsB; simp [ByteArray.size]; omega)); clear HSTEP
          go_wp2_with fail
          go_ret
          exact ⟨by rw [HF.out]; rfl, HB1.out.trans HL7.out.low, fun h => by rw [HF.out] at h; cases h⟩
      · have t10 := byte_not_ten h10
        have HS := Lib.hid (show wrB ⟨ynm, yls, ypt, yat⟩ ch = ⟨ynm, yls, ypt ++ ⟨#[ch]⟩, yat⟩ by unfold wrB; rw [if_neg h10])
        clear h10
        go_wp2_with fail
        refine AnyT.region (fun i => decide (10 ≤ i)) (fun w' => w'.cell? ⟨g, j * 4 + 2, none⟩ = some (.string ypt)) (by kernel_rfl) f2 (fun hHeld => ?_)
        ((refine AnyT.takeAny 0 32 ?_ rfl (by kernel_rfl) (by kernel_rfl) (by kernel_rfl) rfl rfl (fun _ _ _ _ h => h) rfl ?_ (by assumption) ?_); rotate_left; (intro w; go_simp; (try (with_reducible rfl))); simp only [Act.put, List.setIfInBounds_toArray, List.set_cons_zero, List.set_cons_succ])
        ((refine AnyT.takeAny 1 33 ?_ rfl (by kernel_rfl) (by kernel_rfl) (by kernel_rfl) rfl rfl (fun _ _ _ _ h => h) rfl ?_ (by assumption) ?_); rotate_left; (intro w; go_simp; (try (with_reducible rfl))); simp only [Act.put, List.setIfInBounds_toArray, List.set_cons_zero, List.set_cons_succ])
        ((refine AnyT.takeAny 2 34 ?_ rfl (by kernel_rfl) (by kernel_rfl) (by kernel_rfl) rfl rfl (fun _ _ _ _ h => h) rfl ?_ (by assumption) ?_); rotate_left; (intro w; go_simp; (try (with_reducible rfl))); simp only [Act.put, List.setIfInBounds_toArray, List.set_cons_zero, List.set_cons_succ])
        ((refine AnyT.take 3 35 ?_ rfl (by kernel_rfl) (by kernel_rfl) (by kernel_rfl) (by kernel_rfl) rfl (by kernel_rfl) rfl (fun _ _ _ _ h => h) rfl ?_ (by assumption) ?_); rotate_left; (intro w hSw; (try dsimp only at hSw); go_simp; (try (with_reducible rfl))); simp only [Act.put, List.setIfInBounds_toArray, List.set_cons_zero, List.set_cons_succ])
        ((refine AnyT.takeAny 4 36 ?_ rfl (by kernel_rfl) (by kernel_rfl) (by kernel_rfl) rfl rfl (fun _ _ _ _ h => h) rfl ?_ (by assumption) ?_); rotate_left; (intro w; go_simp; (try (with_reducible rfl))); simp only [Act.put, List.setIfInBounds_toArray, List.set_cons_zero, List.set_cons_succ])
        have hgw : g < wr.heap.size := by have := HW.out.lt; omega
        have HBA := Lib.hid (show Below wr.heap.size wr (wr.alloc (.cells #[.int .u8 (ch.toNat : Int)] 5)).drew from ((Below.refl wr.heap.size wr).alloc (Nat.le_refl _) (.cells #[.int .u8 (ch.toNat : Int)] 5)).drew)
        have hcv := run_one_byte_drew (P := Tryz.prog) 39 9 5 Tryz.underlying39 Tryz.underlying5 Tryz.underlying9 wr (ch.toNat : Int) 1
        rw [byte_back] at hcv
        have HZ6 := Lib.hid ((HBA.out.frozen (p := ⟨g, j * 4 + 2, none⟩) hgw).trans z2)
        ((refine AnyT.one (i := 5) (by kernel_rfl) rfl (fun K hK => ?_)))
        go_simp
        refine hK.out _ _ ((HBA.out.cell (p := ⟨g, j * 4 + 2, none⟩) hgw).trans f2) (fun hHeld => ?_)
        clear hK K
        (try simp only [Act.put, List.setIfInBounds_toArray, List.set_cons_zero, List.set_cons_succ])
        generalize hWA : (wr.alloc (.cells #[.int .u8 (ch.toNat : Int)] 5)).drew = wa at *
        clear hWA
        ((refine AnyT.one (i := 6) (by kernel_rfl) rfl (fun K hK => ?_)))
        go_simp
        refine hK.out _ _ hHeld (fun hHeld => ?_)
        clear hK K
        (try simp only [Act.put, List.setIfInBounds_toArray, List.set_cons_zero, List.set_cons_succ])
        have HNS := Lib.hid (show (ypt ++ (⟨#[ch]⟩ : ByteArray)).size = ypt.size + 1 by rw [ByteArray.size_append]; rfl)
        have hbig : ¬ (9223372036854775807 < ypt.size + 1) := by omega
        ((refine AnyT.takeAny 7 39 ?_ rfl (by kernel_rfl) (by kernel_rfl) (by kernel_rfl) rfl rfl (fun _ _ _ _ h => h) rfl ?_ (by assumption) ?_); rotate_left; (intro w; go_simp; (try (with_reducible rfl))); simp only [Act.put, List.setIfInBounds_toArray, List.set_cons_zero, List.set_cons_succ])
        clear hbig
        ((refine AnyT.takeAny 8 40 ?_ rfl (by kernel_rfl) (by kernel_rfl) (by kernel_rfl) rfl rfl (fun _ _ _ _ h => h) rfl ?_ (by assumption) ?_); rotate_left; (intro w; go_simp; (try (with_reducible rfl))); simp only [Act.put, List.setIfInBounds_toArray, List.set_cons_zero, List.set_cons_succ])
        ((refine AnyT.takeAny 9 41 ?_ rfl (by kernel_rfl) (by kernel_rfl) (by kernel_rfl) rfl rfl (fun _ _ _ _ h => h) rfl ?_ (by assumption) ?_); rotate_left; (intro w; go_simp; (try (with_reducible rfl))); simp only [Act.put, List.setIfInBounds_toArray, List.set_cons_zero, List.set_cons_succ])
        have zz := HZ6.out
        ((refine AnyT.last (i := 10) (by kernel_rfl) rfl (by kernel_rfl) (fun K hK => ?_)))
        go_simp
        refine hK.out _ _ ?_
        clear hK K
        (try simp only [Act.put, List.setIfInBounds_toArray, List.set_cons_zero, List.set_cons_succ])
        refine AnyT.done (by kernel_rfl) ?_ _
        have HL7 := Lib.hid ((HW.out.below hlr HBA.out).part HN.out HJ.out hgm hlg (ypt ++ ⟨#[ch]⟩))
        generalize wa.setCell ⟨g, j * 4 + 2, none⟩ (.string (ypt ++ ⟨#[ch]⟩)) = w7 at *
        clear hHeld zz HZ6 HBA hcv f1 z1 f2 z2
        have f1 := (HL7.out.own.at_ HN.out HJ.out 1 (by omega) (.slice L yls.length c) rfl).1
        have f2 := (HL7.out.own.at_ HN.out HJ.out 2 (by omega) (.string (ypt ++ ⟨#[ch]⟩)) rfl).1
        dsimp only at HL7
        generalize ypt ++ (⟨#[ch]⟩ : ByteArray) = np at *
        by_cases hfit : ypt.size + 1 ≤ 80
        · have hns : np.size ≤ 80 := by rw [HNS.out]; exact hfit
          have HF := Lib.hid (HSTEP.out.1 (by rw [HS.out]; unfold fitsB; simp; omega)); clear HSTEP
          rw [HS.out] at HF
          go_wp2_with fail
          go_roundw
          case rel => exact ⟨k + 1, by omega, by go_num, _, HF.out.1, HF.out.2, HL7.out⟩
          case measure => simp [intOf]; omega
        · have hns : 80 < np.size := by rw [HNS.out]; omega
          have HF := Lib.hid (HSTEP.out.2 (by rw [HS.out]; unfold fitsB; simp; omega)); clear HSTEP
          go_wp2_with fail
          go_ret
          exact ⟨by rw [HF.out]; rfl, HB1.out.trans HL7.out.low, fun h => by rw [HF.out] at h; cases h⟩
    · obtain rfl : k = text.size := by omega
      have htk : text.data.toList.take text.size = text.data.toList := List.take_of_length_le (by rw [Array.length_toList]; exact Nat.le_refl _)
      rw [htk] at hyf hok
      have HW := Lib.hid hW; have HY := Lib.hid hyf; have HOK := Lib.hid hok
      clear hW hyf hok htk
      go_wp2_with fail
      go_ret
      refine ⟨by rw [HOK.out]; rfl, HB1.out.trans HW.out.low, fun _ => ⟨y.L, y.c, ?_⟩⟩
      have := HW.out.own
      rw [← HY.out]
      exact this

end Go.Proofs.YtmeholhmadeehaaGreatDoor

/- The reference's WriteTo walked (printed by wip/gen_wto.py). -/
namespace Go.Proofs.YtmeholhmadeehaaGreatDoor
open Go.RowKit

theorem extract_one (s : ByteArray) (k : Nat) (h : k < s.size) : s.extract k (k + 1) = ⟨#[s[k]]⟩ := by
  apply ByteArray.ext
  apply Array.ext
  · simp; omega
  · intro i h1 h2
    simp at h2
    subst h2
    simp
    rfl

set_option maxHeartbeats 8000000 in
set_option maxRecDepth 100000 in
theorem sWr_bad (d : Dev) (nm : ByteArray) (v : Value) (lo hi : Nat) (w : World) (hx : DevR w lo hi v d) (hhi : hi ≤ w.heap.size) (hs : DevSmall d) (hB : devB d = false) :
    Calls Tryz.prog 95 #[v, .string nm] w fun e w' => ∃ v', e = .returned (.tuple #[v', .int .i64 1]) ∧ DevR w' w.heap.size w'.heap.size v' noDev ∧ Below w.heap.size w w' := by
  have HX := Lib.hid hx; have HS := Lib.hid hs
  obtain ⟨A, c, F, cf, J, cj, rfl, h1, h2, h3⟩ := hx
  have R0 := (((Stand.nil w).add lo hi _ (loc_devR lo hi (.agg (devCs d A c F cf J cj)) d) hhi HX.out).box 32 (devCs d A c F cf J cj)).box 32 #[.int .i64 0, .int .i64 0, .int .i64 0, .slice none 0 0, .slice none 0 0, .slice none 0 0]
  rw [heap_size_alloc1] at R0
  have HR0 := Lib.hid R0
  have HOK := Lib.hid (fun W v h1 h2 => specDevicesOk_any d v lo hi W h1 h2 HS.out)
  clear h1 h2 h3 R0 hs
  rw [hB] at HOK
  go_enter Tryz.func95, Tryz.ntmps95
  go_wp2_with fail
  refine (HOK.out _ _ (HR0.out.get 2 rfl) (HR0.out.le 2 rfl)).mono ?_
  rintro e1 w1 ⟨rfl, hb1⟩
  have HR1 := Lib.hid (HR0.out.below hb1); clear hb1 HR0 HOK
  have fr := (HR1.out.get 0 rfl).cell
  have zr := (HR1.out.get 0 rfl).frozen
  have sr := HR1.out.le 0 rfl
  go_wp2_with fail
  refine bodyPost_ret (v := .tuple #[.agg #[.int .i64 0, .int .i64 0, .int .i64 0, .slice none 0 0, .slice none 0 0, .slice none 0 0], .int .i64 1]) (by simp [results, Tryz.results95, go_sem, fr]) rfl ⟨_, rfl, ?_, ?_⟩
  · exact (ownDev_none _ _ _ (by first | (simp [World.setCell]; done) | (simp [World.setCell]; omega))).reads
  · iterate 6 (with_reducible refine Below.setCell ?_ (by simp; try omega) _)
    exact HR1.out.1

set_option maxHeartbeats 8000000 in
set_option maxRecDepth 100000 in
theorem sWr_scr (d : Dev) (nm : ByteArray) (v : Value) (lo hi : Nat) (w : World) (hx : DevR w lo hi v d) (hhi : hi ≤ w.heap.size) (hs : DevSmall d) (hB : devB d = true) (hu : d.use = 0) (hl : nm.size ≤ 1048576) :
    Calls Tryz.prog 95 #[v, .string nm] w fun e w' => ∃ v', e = .returned (.tuple #[v', .int .i64 0]) ∧ DevX w' w.heap.size w'.heap.size v' ⟨d.use, showTo d.scr nm nm.size, d.files, d.keys⟩ ∧ Below w.heap.size w w' := by
  have HX := Lib.hid hx; have HS := Lib.hid hs
  obtain ⟨A, c, F, cf, J, cj, rfl, h1, h2, h3⟩ := hx
  have R0 := ((((Stand.nil w).add lo hi _ (loc_strR0 lo hi A _ d.scr.rows) hhi h1).add lo hi _ (loc_devR lo hi (.agg (devCs d A c F cf J cj)) d) hhi HX.out).box 32 (devCs d A c F cf J cj)).box 32 #[.int .i64 0, .int .i64 0, .int .i64 0, .slice none 0 0, .slice none 0 0, .slice none 0 0]
  rw [heap_size_alloc1] at R0
  have HR0 := Lib.hid R0
  have HOK := Lib.hid (fun W v h1 h2 => specDevicesOk_any d v lo hi W h1 h2 HS.out)
  clear h1 h2 h3 R0 hs
  rw [hB] at HOK
  have HGD := Lib.hid (DevGood.of hB)
  have hn3 := HGD.out.n3
  have u0 : (d.use == 0) = true := by rw [hu]; rfl
  clear hu
  have HSH := Lib.hid (fun v lo hi W h1 h2 => l31Show_any d.scr nm v lo hi W h1 h2 HGD.out.fine hl)
  generalize hS0 : showTo d.scr nm nm.size = S0 at *
  clear hS0
  go_enter Tryz.func95, Tryz.ntmps95
  go_wp2_with fail
  refine (HOK.out _ _ (HR0.out.get 2 rfl) (HR0.out.le 2 rfl)).mono ?_
  rintro e1 w1 ⟨rfl, hb1⟩
  have HR1 := Lib.hid (HR0.out.below hb1); clear hb1 HR0 HOK
  have f1 := (HR1.out.get 1 rfl).cell
  go_wp2_with fail
  refine (l31Own_own d _ lo hi _ (HR1.out.get 2 rfl) (HR1.out.le 2 rfl) HGD.out.fine HS.out).mono ?_
  rintro e3 w3 ⟨v3, rfl, hx3, hb3⟩
  have s3 := hb3.size
  have s1 := HR1.out.le 0 rfl
  obtain ⟨A3, c3, F3, cf3, K3, ck3, B3, xs, ja, jb, jc, jd, rfl, ⟨q1, q2⟩, ⟨ga, gb, gc, gd, ge⟩, hA3', hK3', hxs, hfx⟩ := id hx3
  have hA3 := RowR.more hA3' ga gb; have hK3 := RowR.more hK3'.reads gc gd
  have HAX := Lib.hid hA3'; have HKX := Lib.hid hK3'; clear hA3' hK3'
  have hfr := hfx.row
  have HXL := Lib.hid (show xs.length = d.files.length by rw [← hxs]; simp)
  rw [HXL.out] at hfr
  have R3 := ((((HR1.out.below hb3).add ja jb _ (loc_strR0 ja jb A3 _ d.scr.rows) (by omega) HAX.out).add jc jd _ (loc_ownK jc jd K3 ck3 d.keys) (by omega) HKX.out).add B3 w3.heap.size _ (loc_ownFx B3 w3.heap.size _ xs) (Nat.le_refl _) hfx).add w1.heap.size w3.heap.size _ (loc_devR w1.heap.size w3.heap.size _ d) (Nat.le_refl _) hx3.reads
  have HXS := Lib.hid hxs
  have R4 := R3.box 32 (devCs d A3 c3 F3 cf3 K3 ck3)
  have e4 : (w3.alloc (.cells (devCs d A3 c3 F3 cf3 K3 ck3) 32)).heap.size = w3.heap.size + 1 := by simp
  have HR4 := Lib.hid R4; have HE4 := Lib.hid e4; have HFR := Lib.hid hfr
  have gp := fun o => ((R3.alloc o).get 5 rfl).cell
  clear hb3 HR1 f1 R3 R4 e4 hA3 hK3 hxs hfx hfr hx3
  go_wp2_with fail
  clear gp
  generalize w3.alloc (.cells (devCs d A3 c3 F3 cf3 K3 ck3) 32) = w4 at *
  refine (HSH.out _ lo hi _ ⟨A, c, rfl, HR4.out.get 8 rfl⟩ (HR4.out.le 8 rfl)).mono ?_
  rintro e5 w5 ⟨v5, rfl, ⟨A5, c5, rfl, hA5⟩, hb5⟩
  have HR5 := Lib.hid (HR4.out.below hb5); have HA5 := Lib.hid hA5; have s5 := HR5.out.le 0 rfl; have e4 := HE4.out
  clear hb5 hA5 HR4 HE4
  have HEND := Lib.hid (show ∀ (W' : World), (∀ b, b ≠ w3.heap.size → b ≠ w.heap.size + 1 → W'.heap[b]? = w5.heap[b]?) → w5.heap.size ≤ W'.heap.size →
      DevX W' w.heap.size W'.heap.size (.agg #[.int .i64 d.use, .int .i64 S0.row, .int .i64 S0.col, .slice A5 S0.rows.length c5, .slice F3 d.files.length cf3, .slice K3 d.keys.length ck3]) ⟨d.use, S0, d.files, d.keys⟩ from fun W' hk hz =>
    DevX.mk1 (a1 := w4.heap.size) (b1 := w5.heap.size) (HA5.out.keep (fun b h1 h2 => hk b (by omega) (by omega))) (loc_ownK jc jd K3 ck3 d.keys w5 W' (fun b h1 h2 => hk b (by omega) (by omega)) (HR5.out.get 3 rfl)) HXS.out HXL.out (loc_lieFx B3 w3.heap.size F3 cf3 xs w5 W' (fun b h1 h2 => hk b (by omega) (by omega)) (HR5.out.get 2 rfl).lie) ⟨by omega, by omega, by omega, by omega, by omega, by omega⟩ ⟨by omega, by omega, by omega⟩)
  have fo := (HR5.out.get 0 rfl).cell; have zo := (HR5.out.get 0 rfl).frozen; have fr := (HR5.out.get 5 rfl).cell; have zr := (HR5.out.get 5 rfl).frozen; have HBEL := Lib.hid HR5.out.1
  clear HR5 e4
  go_wp2_with fail
  refine bodyPost_ret (v := .tuple #[.agg #[.int .i64 d.use, .int .i64 S0.row, .int .i64 S0.col, .slice A5 S0.rows.length c5, .slice F3 d.files.length cf3, .slice K3 d.keys.length ck3], .int .i64 0]) (by simp [results, Tryz.results95, go_sem, fr]) rfl ⟨_, rfl, ?_, ?_⟩
  · refine HEND.out _ (fun b h1 h2 => ?_) (by simp [World.setCell])
    iterate 9 (with_reducible rw [Below.heap_setCell _ _ _ b (by simp; omega)])
  · iterate 9 (with_reducible refine Below.setCell ?_ (by simp; try omega) _)
    exact HBEL.out

set_option maxHeartbeats 8000000 in
set_option maxRecDepth 100000 in
theorem sWr_fil (d : Dev) (nm : ByteArray) (v : Value) (lo hi : Nat) (w : World) (hx : DevR w lo hi v d) (hhi : hi ≤ w.heap.size) (hs : DevSmall d) (hB : devB d = true) (hu : ¬ d.use = 0) (hl : nm.size ≤ 1048576) :
    Calls Tryz.prog 95 #[v, .string nm] w fun e w' => ∃ v', e = .returned (.tuple #[v', .int .i64 (writeFil d nm.data.toList).2]) ∧ (DevR w' w.heap.size w'.heap.size v' (writeFil d nm.data.toList).1 ∧ ((writeFil d nm.data.toList).2 = 0 → DevX w' w.heap.size w'.heap.size v' (writeFil d nm.data.toList).1)) ∧ Below w.heap.size w w' := by
  have HX := Lib.hid hx; have HS := Lib.hid hs
  obtain ⟨A, c, F, cf, J, cj, rfl, h1, h2, h3⟩ := hx
  have R0 := ((((Stand.nil w).add lo hi _ (loc_strR0 lo hi A _ d.scr.rows) hhi h1).add lo hi _ (loc_devR lo hi (.agg (devCs d A c F cf J cj)) d) hhi HX.out).box 32 (devCs d A c F cf J cj)).box 32 #[.int .i64 0, .int .i64 0, .int .i64 0, .slice none 0 0, .slice none 0 0, .slice none 0 0]
  rw [heap_size_alloc1] at R0
  have HR0 := Lib.hid R0
  have HOK := Lib.hid (fun W v h1 h2 => specDevicesOk_any d v lo hi W h1 h2 HS.out)
  clear h1 h2 h3 R0 hs
  rw [hB] at HOK
  have HGD := Lib.hid (DevGood.of hB)
  have hn3 := HGD.out.n3
  have u0 : (d.use == 0) = false := by rw [beq_eq_false_iff_ne]; exact hu
  have u1 := HGD.out.use0; have u2 := HGD.out.usen
  obtain ⟨j, hju⟩ : ∃ j : Nat, d.use = (j : Int) + 1 := ⟨(d.use - 1).toNat, by omega⟩
  have hjn : j < d.files.length := by omega
  have HJU := Lib.hid hju
  have HFG := Lib.hid (FilW.of_ok (HGD.out.files _ (getD_mem (d := filD) hjn)))
  have HWF := Lib.hid (show writeFil d nm.data.toList = if wrOk (d.files.getD j filD) nm.data.toList then (⟨d.use, d.scr, d.files.set j (wrF (d.files.getD j filD) nm.data.toList), d.keys⟩, 0) else (noDev, 4) by unfold writeFil; rw [show (d.use - 1).toNat = j by omega])
  generalize writeFil d nm.data.toList = WF at *
  clear hu hju
  go_enter Tryz.func95, Tryz.ntmps95
  go_wp2_with fail
  refine (HOK.out _ _ (HR0.out.get 2 rfl) (HR0.out.le 2 rfl)).mono ?_
  rintro e1 w1 ⟨rfl, hb1⟩
  have HR1 := Lib.hid (HR0.out.below hb1); clear hb1 HR0 HOK
  have f1 := (HR1.out.get 1 rfl).cell
  go_wp2_with fail
  refine (l31Own_own d _ lo hi _ (HR1.out.get 2 rfl) (HR1.out.le 2 rfl) HGD.out.fine HS.out).mono ?_
  rintro e3 w3 ⟨v3, rfl, hx3, hb3⟩
  have s3 := hb3.size
  have s1 := HR1.out.le 0 rfl
  obtain ⟨A3, c3, F3, cf3, K3, ck3, B3, xs, ja, jb, jc, jd, rfl, ⟨q1, q2⟩, ⟨ga, gb, gc, gd, ge⟩, hA3', hK3', hxs, hfx⟩ := id hx3
  have hA3 := RowR.more hA3' ga gb; have hK3 := RowR.more hK3'.reads gc gd
  have HAX := Lib.hid hA3'; have HKX := Lib.hid hK3'; clear hA3' hK3'
  have hfr := hfx.row
  have HXL := Lib.hid (show xs.length = d.files.length by rw [← hxs]; simp)
  rw [HXL.out] at hfr
  have R3 := ((((HR1.out.below hb3).add ja jb _ (loc_strR0 ja jb A3 _ d.scr.rows) (by omega) HAX.out).add jc jd _ (loc_ownK jc jd K3 ck3 d.keys) (by omega) HKX.out).add B3 w3.heap.size _ (loc_ownFx B3 w3.heap.size _ xs) (Nat.le_refl _) hfx).add w1.heap.size w3.heap.size _ (loc_devR w1.heap.size w3.heap.size _ d) (Nat.le_refl _) hx3.reads
  have HXS := Lib.hid hxs
  have R4 := R3.box 32 (devCs d A3 c3 F3 cf3 K3 ck3)
  have e4 : (w3.alloc (.cells (devCs d A3 c3 F3 cf3 K3 ck3) 32)).heap.size = w3.heap.size + 1 := by simp
  have HR4 := Lib.hid R4; have HE4 := Lib.hid e4; have HFR := Lib.hid hfr
  have gp := fun o => ((R3.alloc o).get 5 rfl).cell
  clear hb3 HR1 f1 R3 R4 e4 hA3 hK3 hxs hfx hfr hx3
  obtain ⟨g, rfl, hgB, hgl, hnc, hcm, -⟩ := row_flat HFR.out (by omega)
  clear HFR
  have hjx : j < xs.length := by rw [HXL.out]; exact hjn
  obtain ⟨x, hxj, hxf⟩ : ∃ x, xs[j] = x ∧ x.f = d.files.getD j filD := ⟨_, rfl, by have e := congrArg (fun l => l.getD j filD) HXS.out; simp only [List.getD_eq_getElem?_getD, List.getElem?_map, List.getElem?_eq_getElem hjx] at e ⊢; exact e⟩
  have hxs : xs.set j x = xs := by rw [← hxj]; exact List.set_getElem_self hjx
  have hfx4 := HR4.out.get 2 rfl
  have hbm : ∀ b, x.sl.ownBlock = some b → b < w3.heap.size := fun b hb => (hfx4.own x (hxj ▸ List.getElem_mem hjx)).2 b hb
  have HST : Hid (WrF (w3.alloc (.cells (devCs d A3 c3 (some ⟨g, 0, none⟩) cf3 K3 ck3) 32)) B3 g cf3 d.files.length j w3.heap.size xs x (w3.alloc (.cells (devCs d A3 c3 (some ⟨g, 0, none⟩) cf3 K3 ck3) 32))) := ⟨by rw [hxs]; exact hfx4.more (by rw [HE4.out]; omega), fun b hb => by have := hbm b hb; omega, rfl, by rw [HE4.out]; omega, Below.refl _ _⟩
  have HJX := Lib.hid hjx; have HXF := Lib.hid hxf; have hgm : g ≠ w3.heap.size := by omega
  have j0 : (0 : Int) ≤ (j : Int) := by omega
  have j1 : (j : Int) < (d.files.length : Int) := by omega
  have ju : d.use - 1 = (j : Int) := by have := HJU.out; omega
  have go_ := fun o => ((HR4.out.alloc o).get 0 rfl).cell
  have fo := (HR4.out.get 0 rfl).cell
  clear hxj hxf hxs hfx4 hbm hjx hnc
  go_wp2_with fail
  clear gp go_ fo
  have HLO := Lib.hid (show B3 ≤ (w3.alloc (.cells (devCs d A3 c3 (some ⟨g, 0, none⟩) cf3 K3 ck3) 32)).heap.size by rw [HE4.out]; omega)
  generalize w3.alloc (.cells (devCs d A3 c3 (some ⟨g, 0, none⟩) cf3 K3 ck3) 32) = w4 at *
  generalize hF0 : d.files.getD j filD = f0 at *
  clear hF0
  go_loopw [8] (fun i wr => ∃ k : Nat, k ≤ nm.size ∧ i = .int .i64 k ∧ ∃ y : Fx, y.f = wrF f0 (nm.data.toList.take k) ∧ wrOk f0 (nm.data.toList.take k) = true ∧ WrF w4 B3 g cf3 d.files.length j w3.heap.size xs y wr) (fun i _ => nm.size - (intOf i).toNat)
  case atStart => exact ⟨0, Nat.zero_le _, rfl, x, by rw [List.take_zero]; exact HXF.out, by rw [List.take_zero]; rfl, HST.out⟩
  case round =>
    obtain ⟨k, hk, rfl, y, hyf, hok, hW⟩ := hrel
    have hres := fun W (h : Below B3 w4 W) => (show Blk W (w.heap.size + 1) 32 #[.int .i64 0, .int .i64 0, .int .i64 0, .slice none 0 0, .slice none 0 0, .slice none 0 0] from (h.block (w.heap.size + 1) (by omega)).trans (HR4.out.get 5 rfl))
    have HRES := Lib.hid hres; clear hres
    have HLOW := Lib.hid (fun W (h : Below B3 w4 W) => (show Below w.heap.size w W from HR4.out.1.trans (h.mono (by omega))))
    by_cases hlt : k < nm.size
    · have h255 := byte_le nm[k]
      have HSTEP := Lib.hid (wr_step hlt hyf hok)
      have hFW : FilW y.f := by rw [hyf]; exact HFG.out.all _ hok
      have hlr : B3 ≤ wr.heap.size := Nat.le_trans HLO.out hW.low.size
      obtain ⟨⟨ynm, yls, ypt, yat⟩, L, c⟩ := y
      obtain ⟨p1, p2, -, -⟩ := hFW
      dsimp only at *
      have f1 := (hW.own.at_ HXL.out HJX.out 1 (by omega) (.slice L yls.length c) rfl).1
      have z1 := (hW.own.at_ HXL.out HJX.out 1 (by omega) (.slice L yls.length c) rfl).2
      have f2 := (hW.own.at_ HXL.out HJX.out 2 (by omega) (.string ypt) rfl).1
      have z2 := (hW.own.at_ HXL.out HJX.out 2 (by omega) (.string ypt) rfl).2
      have HW := Lib.hid hW; clear hW hyf hok
      have HEX := Lib.hid (extract_one nm k hlt)
      by_cases h10 : nm[k] = 10
      · have t10 := byte_ten h10
        have t10n : ((nm[k].toNat : Int) != 10) = false := by rw [bne, t10]; rfl
        have HS := Lib.hid (show wrB ⟨ynm, yls, ypt, yat⟩ nm[k] = ⟨ynm, yls ++ [ypt], ⟨#[]⟩, yat⟩ by unfold wrB; rw [if_pos h10])
        clear h10
        go_wp2_with fail
        refine AnyT.region (fun i => decide (i = 13)) (fun w' => w'.cell? ⟨g, j * 4 + 1, none⟩ = some (.slice L yls.length c) ∧ w'.cell? ⟨g, j * 4 + 2, none⟩ = some (.string ypt)) (by kernel_rfl) ⟨f1, f2⟩ (fun hHeld => ?_)
        ((refine AnyT.takeAny 0 53 ?_ rfl (by kernel_rfl) (by kernel_rfl) (by kernel_rfl) rfl rfl (fun _ _ _ _ h => h) rfl ?_ (by assumption) ?_); rotate_left; (intro w; go_simp; (try (with_reducible rfl))); simp only [Act.put, List.setIfInBounds_toArray, List.set_cons_zero, List.set_cons_succ])
        ((refine AnyT.takeAny 1 54 ?_ rfl (by kernel_rfl) (by kernel_rfl) (by kernel_rfl) rfl rfl (fun _ _ _ _ h => h) rfl ?_ (by assumption) ?_); rotate_left; (intro w; go_simp; (try (with_reducible rfl))); simp only [Act.put, List.setIfInBounds_toArray, List.set_cons_zero, List.set_cons_succ])
        ((refine AnyT.takeAny 2 55 ?_ rfl (by kernel_rfl) (by kernel_rfl) (by kernel_rfl) rfl rfl (fun _ _ _ _ h => h) rfl ?_ (by assumption) ?_); rotate_left; (intro w; go_simp; (try (with_reducible rfl))); simp only [Act.put, List.setIfInBounds_toArray, List.set_cons_zero, List.set_cons_succ])
        ((refine AnyT.takeAny 3 56 ?_ rfl (by kernel_rfl) (by kernel_rfl) (by kernel_rfl) rfl rfl (fun _ _ _ _ h => h) rfl ?_ (by assumption) ?_); rotate_left; (intro w; go_simp; (try (with_reducible rfl))); simp only [Act.put, List.setIfInBounds_toArray, List.set_cons_zero, List.set_cons_succ])
        ((refine AnyT.take 4 57 ?_ rfl (by kernel_rfl) (by kernel_rfl) (by kernel_rfl) (by kernel_rfl) rfl (by kernel_rfl) rfl (fun _ _ _ _ h => h) rfl ?_ (by assumption) ?_); rotate_left; (intro w hSw; (try dsimp only at hSw); go_simp; (try (with_reducible rfl))); simp only [Act.put, List.setIfInBounds_toArray, List.set_cons_zero, List.set_cons_succ])
        ((refine AnyT.takeAny 5 58 ?_ rfl (by kernel_rfl) (by kernel_rfl) (by kernel_rfl) rfl rfl (fun _ _ _ _ h => h) rfl ?_ (by assumption) ?_); rotate_left; (intro w; go_simp; (try (with_reducible rfl))); simp only [Act.put, List.setIfInBounds_toArray, List.set_cons_zero, List.set_cons_succ])
        ((refine AnyT.takeAny 6 59 ?_ rfl (by kernel_rfl) (by kernel_rfl) (by kernel_rfl) rfl rfl (fun _ _ _ _ h => h) rfl ?_ (by assumption) ?_); rotate_left; (intro w; go_simp; (try (with_reducible rfl))); simp only [Act.put, List.setIfInBounds_toArray, List.set_cons_zero, List.set_cons_succ])
        ((refine AnyT.takeAny 7 60 ?_ rfl (by kernel_rfl) (by kernel_rfl) (by kernel_rfl) rfl rfl (fun _ _ _ _ h => h) rfl ?_ (by assumption) ?_); rotate_left; (intro w; go_simp; (try (with_reducible rfl))); simp only [Act.put, List.setIfInBounds_toArray, List.set_cons_zero, List.set_cons_succ])
        ((refine AnyT.take 8 61 ?_ rfl (by kernel_rfl) (by kernel_rfl) (by kernel_rfl) (by kernel_rfl) rfl (by kernel_rfl) rfl (fun _ _ _ _ h => h) rfl ?_ (by assumption) ?_); rotate_left; (intro w hSw; (try dsimp only at hSw); go_simp; (try (with_reducible rfl))); simp only [Act.put, List.setIfInBounds_toArray, List.set_cons_zero, List.set_cons_succ])
        have hgw : g < wr.heap.size := by have := HW.out.lt; omega
        have HBA := Lib.hid (show Below wr.heap.size wr (wr.alloc (.cells #[.string ypt] 9)).drew from ((Below.refl wr.heap.size wr).alloc (Nat.le_refl _) (.cells #[.string ypt] 9)).drew)
        have HCB := Lib.hid (show (wr.alloc (.cells #[.string ypt] 9)).drew.cell? ⟨wr.heap.size, 0, none⟩ = some (.string ypt) from (Blk.new wr 9 #[.string ypt]).cell 0)
        have HSZ := Lib.hid (show (wr.alloc (.cells #[.string ypt] 9)).drew.heap.size = wr.heap.size + 1 by show (wr.alloc _).heap.size = _; simp)
        have HOW := Lib.hid (show (wr.alloc (.cells #[.string ypt] 9)).drew.ownsRow B3 9 1 (.slice L yls.length c) yls.length (yls.map Value.string) from own_below ((HW.out.own.own _ (List.mem_of_getElem (by rw [List.getElem_set_self] : (xs.set j ⟨⟨ynm, yls, ypt, yat⟩, L, c⟩)[j]'(by rw [List.length_set]; exact HJX.out) = ⟨⟨ynm, yls, ypt, yat⟩, L, c⟩))).1) HBA.out)
        ((refine AnyT.one (i := 9) (by kernel_rfl) rfl (fun K hK => ?_)))
        go_simp
        refine hK.out _ _ ⟨(HBA.out.cell (p := ⟨g, j * 4 + 1, none⟩) hgw).trans f1, (HBA.out.cell (p := ⟨g, j * 4 + 2, none⟩) hgw).trans f2⟩ (fun hHeld => ?_)
        clear hK K
        (try simp only [Act.put, List.setIfInBounds_toArray, List.set_cons_zero, List.set_cons_succ])
        generalize hWA : (wr.alloc (.cells #[.string ypt] 9)).drew = wa at *
        clear hWA
        ((refine AnyT.one (i := 10) (by kernel_rfl) rfl (fun K hK => ?_)))
        refine step_appStr (by rfl) (.tmp 57) (.tmp 62) 22 (by rfl) Tryz.underlying22 wa B3 (.slice L yls.length c) yls ypt yls.length (by rfl) HOW.out wr.heap.size (by rfl) HCB.out (by omega) (by have := HSZ.out; omega) ?_
        intro A6 c6 w6 hr6 hg6 hat6
        have hgy : (Value.slice L yls.length c).ownBlock ≠ some g := by
          intro e
          exact HW.out.own.far _ (List.mem_of_getElem (by rw [List.getElem_set_self] : (xs.set j ⟨⟨ynm, yls, ypt, yat⟩, L, c⟩)[j]'(by rw [List.length_set]; exact HJX.out) = ⟨⟨ynm, yls, ypt, yat⟩, L, c⟩)) g e rfl
        have hg6k : w6.heap[g]? = wa.heap[g]? := hg6.block g (by have := HSZ.out; omega) (fun e => hgy e.symm)
        have c61 := (World.cell?_of_block (a := ⟨g, j * 4 + 1, none⟩) hg6k).trans hHeld.1
        have c62 := (World.cell?_of_block (a := ⟨g, j * 4 + 2, none⟩) hg6k).trans hHeld.2
        refine hK.out _ _ ⟨c61, c62⟩ (fun hHeld => ?_)
        clear hK K
        (try simp only [Act.put, List.setIfInBounds_toArray, List.set_cons_zero, List.set_cons_succ])
        have HL6 := Lib.hid (WrF.line (A := A6) (c := c6) (s := ypt) (wa := wa) (w6 := w6) HW.out HXL.out HJX.out hgm hgB hlr HBA.out hr6 hg6 hat6)
        have HZ6 := Lib.hid (show w6.frozen? ⟨g, j * 4 + 1, none⟩ = false from (show _ = wa.frozen? ⟨g, j * 4 + 1, none⟩ by unfold World.frozen?; rw [hg6k]).trans ((HBA.out.frozen (p := ⟨g, j * 4 + 1, none⟩) hgw).trans z1))
        ((refine AnyT.takeAny 11 64 ?_ rfl (by kernel_rfl) (by kernel_rfl) (by kernel_rfl) rfl rfl (fun _ _ _ _ h => h) rfl ?_ (by assumption) ?_); rotate_left; (intro w; go_simp; (try (with_reducible rfl))); simp only [Act.put, List.setIfInBounds_toArray, List.set_cons_zero, List.set_cons_succ])
        ((refine AnyT.takeAny 12 65 ?_ rfl (by kernel_rfl) (by kernel_rfl) (by kernel_rfl) rfl rfl (fun _ _ _ _ h => h) rfl ?_ (by assumption) ?_); rotate_left; (intro w; go_simp; (try (with_reducible rfl))); simp only [Act.put, List.setIfInBounds_toArray, List.set_cons_zero, List.set_cons_succ])
        have zz := HZ6.out
        ((refine AnyT.last (i := 13) (by kernel_rfl) rfl (by kernel_rfl) (fun K hK => ?_)))
        go_simp
        refine hK.out _ _ ?_
        clear hK K
        (try simp only [Act.put, List.setIfInBounds_toArray, List.set_cons_zero, List.set_cons_succ])
        refine AnyT.done (by kernel_rfl) ?_ _
        generalize w6.setCell ⟨g, j * 4 + 1, none⟩ (.slice A6 (yls.length + 1) c6) = w6' at *
        clear c61 c62 hg6k hgy hr6 hg6 hat6 hHeld zz HZ6 HBA HCB HSZ HOW f1 z1 f2 z2
        have f1 := (HL6.out.own.at_ HXL.out HJX.out 1 (by omega) (.slice A6 (yls.length + 1) c6) (by simp [Fx.cells, Fx.sl])).1
        have f2 := (HL6.out.own.at_ HXL.out HJX.out 2 (by omega) (.string ypt) rfl).1; have z2 := (HL6.out.own.at_ HXL.out HJX.out 2 (by omega) (.string ypt) rfl).2
        have HL7 := Lib.hid (HL6.out.part HXL.out HJX.out hgm hgB ⟨#[]⟩)
        clear HL6
        by_cases hfit : yls.length + 1 ≤ 20
        · have HF := Lib.hid (HSTEP.out.1 (by rw [HS.out]; unfold fitsB; simp [ByteArray.size]; omega)); clear HSTEP
          rw [HS.out] at HF
          go_wp2_with fail
          go_roundw
          case rel => exact ⟨k + 1, by omega, by go_num, _, HF.out.1, HF.out.2, HL7.out⟩
          case measure => simp [intOf]; omega
        · have HF := Lib.hid (HSTEP.out.2 (by rw [HS.out]; unfold fitsB; simp [ByteArray.size]; omega)); clear HSTEP
          have HW1 := Lib.hid (show WF = (noDev, 4) by rw [HWF.out, HF.out]; rfl)
          have fr := (HRES.out _ HL7.out.low).cell; have zr := (HRES.out _ HL7.out.low).frozen; have HBEL := Lib.hid (HLOW.out _ HL7.out.low); have sr := HBEL.out.size; have sr2 := HL7.out.low.size; (try simp only [World.setCell, Array.size_modify] at sr sr2)
          go_wp2_with fail
          refine bodyPost_ret (v := .tuple #[.agg #[.int .i64 0, .int .i64 0, .int .i64 0, .slice none 0 0, .slice none 0 0, .slice none 0 0], .int .i64 4]) (by simp [results, Tryz.results95, go_sem, fr]) rfl ⟨_, by rw [HW1.out], ?_, ?_⟩
          · rw [HW1.out]; exact ⟨(ownDev_none _ _ _ (by first | (simp [World.setCell]; done) | (simp [World.setCell]; omega))).reads, fun h => absurd h (by decide)⟩
          · iterate 6 (with_reducible refine Below.setCell ?_ (by simp; try omega) _)
            exact HBEL.out
      · have t10 := byte_not_ten h10
        have t10n : ((nm[k].toNat : Int) != 10) = true := by rw [bne, t10]; rfl
        have HS := Lib.hid (show wrB ⟨ynm, yls, ypt, yat⟩ nm[k] = ⟨ynm, yls, ypt ++ ⟨#[nm[k]]⟩, yat⟩ by unfold wrB; rw [if_neg h10])
        clear h10
        go_wp2_with fail
        have hex := HEX.out; have wk : IntKind.i64.wrap ((k : Int) + 1) = (k : Int) + 1 := IntWalk.i64_in _ (by omega); have tk : ((k : Int) + 1).toNat = k + 1 := (by omega); have k0 : (0 : Int) ≤ (k : Int) := (by omega); have k1 : (k : Int) + 1 ≤ (nm.size : Int) := (by omega); have k2 : (k : Int) ≤ (k : Int) + 1 := (by omega)
        refine AnyT.region (fun i => decide (i = 13)) (fun w' => w'.cell? ⟨g, j * 4 + 2, none⟩ = some (.string ypt)) (by kernel_rfl) f2 (fun hHeld => ?_)
        ((refine AnyT.takeAny 0 40 ?_ rfl (by kernel_rfl) (by kernel_rfl) (by kernel_rfl) rfl rfl (fun _ _ _ _ h => h) rfl ?_ (by assumption) ?_); rotate_left; (intro w; go_simp; (try (with_reducible rfl))); simp only [Act.put, List.setIfInBounds_toArray, List.set_cons_zero, List.set_cons_succ])
        ((refine AnyT.takeAny 1 41 ?_ rfl (by kernel_rfl) (by kernel_rfl) (by kernel_rfl) rfl rfl (fun _ _ _ _ h => h) rfl ?_ (by assumption) ?_); rotate_left; (intro w; go_simp; (try (with_reducible rfl))); simp only [Act.put, List.setIfInBounds_toArray, List.set_cons_zero, List.set_cons_succ])
        ((refine AnyT.takeAny 2 42 ?_ rfl (by kernel_rfl) (by kernel_rfl) (by kernel_rfl) rfl rfl (fun _ _ _ _ h => h) rfl ?_ (by assumption) ?_); rotate_left; (intro w; go_simp; (try (with_reducible rfl))); simp only [Act.put, List.setIfInBounds_toArray, List.set_cons_zero, List.set_cons_succ])
        ((refine AnyT.takeAny 3 43 ?_ rfl (by kernel_rfl) (by kernel_rfl) (by kernel_rfl) rfl rfl (fun _ _ _ _ h => h) rfl ?_ (by assumption) ?_); rotate_left; (intro w; go_simp; (try (with_reducible rfl))); simp only [Act.put, List.setIfInBounds_toArray, List.set_cons_zero, List.set_cons_succ])
        ((refine AnyT.take 4 44 ?_ rfl (by kernel_rfl) (by kernel_rfl) (by kernel_rfl) (by kernel_rfl) rfl (by kernel_rfl) rfl (fun _ _ _ _ h => h) rfl ?_ (by assumption) ?_); rotate_left; (intro w hSw; (try dsimp only at hSw); go_simp; (try (with_reducible rfl))); simp only [Act.put, List.setIfInBounds_toArray, List.set_cons_zero, List.set_cons_succ])
        ((refine AnyT.takeAny 5 45 ?_ rfl (by kernel_rfl) (by kernel_rfl) (by kernel_rfl) rfl rfl (fun _ _ _ _ h => h) rfl ?_ (by assumption) ?_); rotate_left; (intro w; go_simp; (try (with_reducible rfl))); simp only [Act.put, List.setIfInBounds_toArray, List.set_cons_zero, List.set_cons_succ])
        ((refine AnyT.takeAny 6 46 ?_ rfl (by kernel_rfl) (by kernel_rfl) (by kernel_rfl) rfl rfl (fun _ _ _ _ h => h) rfl ?_ (by assumption) ?_); rotate_left; (intro w; go_simp; (try (with_reducible rfl))); simp only [Act.put, List.setIfInBounds_toArray, List.set_cons_zero, List.set_cons_succ])
        ((refine AnyT.takeAny 7 47 ?_ rfl (by kernel_rfl) (by kernel_rfl) (by kernel_rfl) rfl rfl (fun _ _ _ _ h => h) rfl ?_ (by assumption) ?_); rotate_left; (intro w; go_simp; (try (with_reducible rfl))); simp only [Act.put, List.setIfInBounds_toArray, List.set_cons_zero, List.set_cons_succ])
        ((refine AnyT.takeAny 8 48 ?_ rfl (by kernel_rfl) (by kernel_rfl) (by kernel_rfl) rfl rfl (fun _ _ _ _ h => h) rfl ?_ (by assumption) ?_); rotate_left; (intro w; go_simp; (try (with_reducible rfl))); simp only [Act.put, List.setIfInBounds_toArray, List.set_cons_zero, List.set_cons_succ])
        ((refine AnyT.takeAny 9 49 ?_ rfl (by kernel_rfl) (by kernel_rfl) (by kernel_rfl) rfl rfl (fun _ _ _ _ h => h) rfl ?_ (by assumption) ?_); rotate_left; (intro w; go_simp; (try (with_reducible rfl))); simp only [Act.put, List.setIfInBounds_toArray, List.set_cons_zero, List.set_cons_succ])
        have HNS := Lib.hid (show (ypt ++ (⟨#[nm[k]]⟩ : ByteArray)).size = ypt.size + 1 by rw [ByteArray.size_append]; rfl)
        have hbig : ¬ (9223372036854775807 < ypt.size + 1) := by omega
        ((refine AnyT.takeAny 10 50 ?_ rfl (by kernel_rfl) (by kernel_rfl) (by kernel_rfl) rfl rfl (fun _ _ _ _ h => h) rfl ?_ (by assumption) ?_); rotate_left; (intro w; go_simp; (try (with_reducible rfl))); simp only [Act.put, List.setIfInBounds_toArray, List.set_cons_zero, List.set_cons_succ])
        clear hbig
        ((refine AnyT.takeAny 11 51 ?_ rfl (by kernel_rfl) (by kernel_rfl) (by kernel_rfl) rfl rfl (fun _ _ _ _ h => h) rfl ?_ (by assumption) ?_); rotate_left; (intro w; go_simp; (try (with_reducible rfl))); simp only [Act.put, List.setIfInBounds_toArray, List.set_cons_zero, List.set_cons_succ])
        ((refine AnyT.takeAny 12 52 ?_ rfl (by kernel_rfl) (by kernel_rfl) (by kernel_rfl) rfl rfl (fun _ _ _ _ h => h) rfl ?_ (by assumption) ?_); rotate_left; (intro w; go_simp; (try (with_reducible rfl))); simp only [Act.put, List.setIfInBounds_toArray, List.set_cons_zero, List.set_cons_succ])
        ((refine AnyT.last (i := 13) (by kernel_rfl) rfl (by kernel_rfl) (fun K hK => ?_)))
        go_simp
        refine hK.out _ _ ?_
        clear hK K
        (try simp only [Act.put, List.setIfInBounds_toArray, List.set_cons_zero, List.set_cons_succ])
        refine AnyT.done (by kernel_rfl) ?_ _
        clear hex wk tk k0 k1 k2 hHeld
        have HL7 := Lib.hid ((HW.out.below hlr (below_drewN' wr 1)).part HXL.out HJX.out hgm hgB (ypt ++ ⟨#[nm[k]]⟩))
        have hWD : (wr.drewN 1).setCell ⟨g, j * 4 + 2, none⟩ (.string (ypt ++ ⟨#[nm[k]]⟩)) = (wr.setCell ⟨g, j * 4 + 2, none⟩ (.string (ypt ++ ⟨#[nm[k]]⟩))).drew := rfl
        rw [hWD] at HL7
        clear hWD
        generalize (wr.setCell ⟨g, j * 4 + 2, none⟩ (.string (ypt ++ ⟨#[nm[k]]⟩))).drew = w7 at *
        clear f1 z1 f2 z2
        have f1 := (HL7.out.own.at_ HXL.out HJX.out 1 (by omega) (.slice L yls.length c) rfl).1
        have f2 := (HL7.out.own.at_ HXL.out HJX.out 2 (by omega) (.string (ypt ++ ⟨#[nm[k]]⟩)) rfl).1
        dsimp only at HL7
        generalize ypt ++ (⟨#[nm[k]]⟩ : ByteArray) = np at *
        by_cases hfit : ypt.size + 1 ≤ 80
        · have hns : np.size ≤ 80 := (by rw [HNS.out]; exact hfit); have HF := Lib.hid (HSTEP.out.1 (by rw [HS.out]; unfold fitsB; simp; omega)); clear HSTEP
          rw [HS.out] at HF
          go_wp2_with fail
          go_roundw
          case rel => exact ⟨k + 1, by omega, by go_num, _, HF.out.1, HF.out.2, HL7.out⟩
          case measure => simp [intOf]; omega
        · have hns : 80 < np.size := (by rw [HNS.out]; omega); have HF := Lib.hid (HSTEP.out.2 (by rw [HS.out]; unfold fitsB; simp; omega)); clear HSTEP
          have HW1 := Lib.hid (show WF = (noDev, 4) by rw [HWF.out, HF.out]; rfl)
          have fr := (HRES.out _ HL7.out.low).cell; have zr := (HRES.out _ HL7.out.low).frozen; have HBEL := Lib.hid (HLOW.out _ HL7.out.low); have sr := HBEL.out.size; have sr2 := HL7.out.low.size; (try simp only [World.setCell, Array.size_modify] at sr sr2)
          go_wp2_with fail
          refine bodyPost_ret (v := .tuple #[.agg #[.int .i64 0, .int .i64 0, .int .i64 0, .slice none 0 0, .slice none 0 0, .slice none 0 0], .int .i64 4]) (by simp [results, Tryz.results95, go_sem, fr]) rfl ⟨_, by rw [HW1.out], ?_, ?_⟩
          · rw [HW1.out]; exact ⟨(ownDev_none _ _ _ (by first | (simp [World.setCell]; done) | (simp [World.setCell]; omega))).reads, fun h => absurd h (by decide)⟩
          · iterate 6 (with_reducible refine Below.setCell ?_ (by simp; try omega) _)
            exact HBEL.out
    · obtain rfl : k = nm.size := by omega
      have htk : nm.data.toList.take nm.size = nm.data.toList := List.take_of_length_le (by rw [Array.length_toList]; exact Nat.le_refl _)
      rw [htk] at hyf hok
      have HW1 := Lib.hid (show WF = (⟨d.use, d.scr, d.files.set j (wrF f0 nm.data.toList), d.keys⟩, 0) by rw [HWF.out, hok]; rfl)
      have HBO : Hid (Blk wr w3.heap.size 32 (devCs d A3 c3 (some ⟨g, 0, none⟩) cf3 K3 ck3)) := (hW.keep).trans (HR4.out.get 0 rfl)
      have HSL := Lib.hid (show (d.files.set j (wrF f0 nm.data.toList)).length = d.files.length from List.length_set)
      have hsw := hW.low.size; have hlo4 := HLO.out
      have HEND := Lib.hid (show ∀ (W' : World), (∀ b, b ≠ w3.heap.size → b ≠ w.heap.size + 1 → W'.heap[b]? = wr.heap[b]?) → wr.heap.size ≤ W'.heap.size →
          DevX W' w.heap.size W'.heap.size (.agg (devCs d A3 c3 (some ⟨g, 0, none⟩) cf3 K3 ck3)) ⟨d.use, d.scr, d.files.set j (wrF f0 nm.data.toList), d.keys⟩ from fun W' hk' hz => by
        have hlow := hW.low
        have hro := (HR4.out.get 4 rfl).below hlow (by omega)
        have hke := (loc_ownK jc jd K3 ck3 d.keys) _ _ (fun b _ h2 => hlow.block b (by omega)) (HR4.out.get 3 rfl)
        have hm : (xs.set j y).map Fx.f = d.files.set j (wrF f0 nm.data.toList) := by rw [List.map_set, HXS.out, hyf]
        have hlx : (xs.set j y).length = d.files.length := by rw [List.length_set, HXL.out]
        have hrw := hW.own.row
        rw [hlx] at hrw
        have hbo : ∀ b, (Value.slice (some ⟨g, 0, none⟩) d.files.length cf3).ownBlock = some b → b ≠ w3.heap.size := fun b hb => by have e : g = b := (by simpa [Value.ownBlock] using hb); omega
        have hrow : W'.ownsRow B3 55 4 (.slice (some ⟨g, 0, none⟩) d.files.length cf3) d.files.length (flat (xs.set j y)) := own_same hrw (fun b hb => hk' b (hbo b hb) (by have := (hrw.lt b hb).1; omega))
        refine DevX.mk1 (hro.keep (fun b h1 h2 => hk' b (by omega) (by omega))) (loc_ownK jc jd K3 ck3 d.keys _ W' (fun b h1 h2 => hk' b (by omega) (by omega)) hke) hm hlx (a3 := B3) (b3 := W'.heap.size) ⟨by rw [hlx]; exact hrow, fun b hb => by rw [hlx] at hb; exact (hrow.lt b hb).2, fun z hz' => ?_⟩ ⟨by omega, by omega, by omega, by omega, by omega, by omega⟩ ⟨by omega, by omega, by omega⟩
        rw [hlx]
        have hoz := (hW.own.own z hz').1
        have hzb : ∀ b, z.sl.ownBlock = some b → b ≠ w3.heap.size := fun b hb => by
          obtain ⟨i, hi', rfl⟩ := List.getElem_of_mem hz'
          rw [List.length_set] at hi'
          rw [List.getElem_set] at hb
          split at hb
          · exact hW.far b hb
          · have := ((HR4.out.get 2 rfl).own _ (List.getElem_mem hi')).2 b hb; omega
        have hoz' := own_same (w' := W') hoz (fun b hb => hk' b (hzb b hb) (by have := (hoz.lt b hb).1; omega))
        rcases Nat.eq_zero_or_pos z.f.lines.length with h0 | h0
        · exact .inl h0
        · right
          obtain ⟨b, off, e, h1, h2, h3⟩ := (StrR.of_own hoz').2 h0
          obtain ⟨q, eq, _⟩ := own_head hoz' h0
          rw [eq] at e
          injection e with e
          injection e with e1 e2
          subst e1 e2
          have hb : z.sl.ownBlock = some q := by unfold Fx.sl; rw [eq]; rfl
          have hfar := hW.own.far z hz' q hb
          exact ⟨q, 0, eq, h1, h2, hfar, h3⟩)
      have fo := HBO.out.cell; have zo := HBO.out.frozen; have fr := (HRES.out _ hW.low).cell; have zr := (HRES.out _ hW.low).frozen; have HBEL := Lib.hid (HLOW.out _ hW.low)
      have hl0 : (nm.size : Int) ≤ (nm.size : Int) := by omega
      clear hW hyf hok htk hl0
      go_wp2_with fail
      refine bodyPost_ret (v := .tuple #[.agg (devCs d A3 c3 (some ⟨g, 0, none⟩) cf3 K3 ck3), .int .i64 0]) (by simp [results, Tryz.results95, go_sem, fr]) rfl ⟨_, by rw [HW1.out], ?_, ?_⟩
      · rw [HW1.out]
        refine DevX.both (HEND.out _ (fun b h1 h2 => ?_) (by simp [World.setCell]))
        iterate 6 (with_reducible rw [Below.heap_setCell _ _ _ b (by simp; omega)])
      · iterate 6 (with_reducible refine Below.setCell ?_ (by simp; try omega) _)
        exact HBEL.out

theorem specWriteTo_x (d : Dev) (nm : ByteArray) (v : Value) (lo hi : Nat) (w : World) (hx : DevR w lo hi v d) (hhi : hi ≤ w.heap.size) (hs : DevSmall d) (hl : nm.size ≤ 1048576) :
    Calls Tryz.prog 95 #[v, .string nm] w fun e w' => ∃ v', e = .returned (.tuple #[v', .int .i64 (writeP d nm).2]) ∧ (DevR w' w.heap.size w'.heap.size v' (writeP d nm).1 ∧ ((writeP d nm).2 = 0 → DevX w' w.heap.size w'.heap.size v' (writeP d nm).1)) ∧ Below w.heap.size w w' := by
  cases hB : devB d
  · rw [show writeP d nm = (noDev, 1) by simp [writeP, hB]]
    exact (sWr_bad d nm v lo hi w hx hhi hs hB).mono fun _ _ ⟨v', h1, h2, h3⟩ => ⟨v', h1, ⟨h2, fun h => absurd h (by decide)⟩, h3⟩
  · by_cases hu : d.use = 0
    · rw [show writeP d nm = (⟨d.use, showTo d.scr nm nm.size, d.files, d.keys⟩, 0) by simp [writeP, hB, hu]]
      exact (sWr_scr d nm v lo hi w hx hhi hs hB hu hl).mono fun _ _ ⟨v', h1, h2, h3⟩ => ⟨v', h1, h2.both, h3⟩
    · rw [show writeP d nm = writeFil d nm.data.toList by simp [writeP, hB, hu]]
      exact sWr_fil d nm v lo hi w hx hhi hs hB hu hl
theorem specWriteTo_any (d : Dev) (nm : ByteArray) (v : Value) (lo hi : Nat) (w : World) (hx : DevR w lo hi v d) (hhi : hi ≤ w.heap.size) (hs : DevSmall d) (hl : nm.size ≤ 1048576) :
    Calls Tryz.prog 95 #[v, .string nm] w fun e w' => ∃ v', e = .returned (.tuple #[v', .int .i64 (writeP d nm).2]) ∧ DevR w' w.heap.size w'.heap.size v' (writeP d nm).1 ∧ Below w.heap.size w w' :=
  (specWriteTo_x d nm v lo hi w hx hhi hs hl).mono fun _ _ ⟨v', h1, h2, h3⟩ => ⟨v', h1, h2.1, h3⟩

end Go.Proofs.YtmeholhmadeehaaGreatDoor

/- What is read of a line, plainly. -/
namespace Go.Proofs.YtmeholhmadeehaaGreatDoor
open Go.RowKit

/-- A number in decimal digits. -/
def decT (c : Nat) : ByteArray := ⟨(Lib.decDigits c).toArray⟩
/-- What is read of a line. -/
def wantT (line : ByteArray) (most : Int) : ByteArray :=
  if most = -1 then (if line.size = 0 then ⟨#[45, 49]⟩ else decT (line.get! 0).toNat) else if 0 < most ∧ most < line.size then line.extract 0 most.toNat else line
/-- What is shown of it. -/
def shownT (line : ByteArray) (most : Int) : ByteArray := if most = -1 then ⟨#[]⟩ else wantT line most

end Go.Proofs.YtmeholhmadeehaaGreatDoor
