/- The program's write to a file walked: the loop over the text. -/
import Derived.Test.YtmeholhmadeehaaGreatDoorJoinRFAo
import Derived.Deep.DeepCutAuto
import Derived.Test.YtmeholhmadeehaaGreatDoorJoinRFAa
import Derived.Lib.ItoaNum
namespace Go.Proofs.YtmeholhmadeehaaGreatDoor
open Go.RowKit

theorem byte_ten {c : UInt8} (h : c = 10) : ((c.toNat : Int) == 10) = true := by subst h; rfl
theorem byte_not_ten {c : UInt8} (h : c ≠ 10) : ((c.toNat : Int) == 10) = false := by
  rw [beq_eq_false_iff_ne]
  intro e
  exact h (UInt8.toNat_inj.1 (by have : c.toNat = 10 := by omega
                                 rw [this]; rfl))
theorem byte_back (c : UInt8) : UInt8.ofNat ((c.toNat : Int)).toNat = c := by simp

/-- What follows for the plain law from one byte more. -/
theorem wr_step {f : Fil} {text : ByteArray} {k : Nat} {fy : Fil} (hk : k < text.size) (hy : fy = wrF f (text.data.toList.take k)) (hok : wrOk f (text.data.toList.take k) = true) :
    (fitsB (wrB fy text[k]) = true → wrB fy text[k] = wrF f (text.data.toList.take (k + 1)) ∧ wrOk f (text.data.toList.take (k + 1)) = true) ∧ (fitsB (wrB fy text[k]) = false → wrOk f text.data.toList = false) := by
  have hs := take_snoc text k hk
  have h1 : wrF f (text.data.toList.take (k + 1)) = wrB fy text[k] := by rw [hs, wrF_snoc, hy]
  have h2 : wrOk f (text.data.toList.take (k + 1)) = fitsB (wrB fy text[k]) := by rw [hs, wrOk_snoc, hok, hy, Bool.true_and]
  refine ⟨fun h => ⟨h1.symm, by rw [h2, h]⟩, fun h => ?_⟩
  have h3 := List.take_append_drop (k + 1) text.data.toList
  rw [← h3, wrOk_append, h2, h]
  rfl

set_option maxHeartbeats 8000000 in
set_option maxRecDepth 100000 in
theorem fileWrite_any (g cap n j lo : Nat) (xs : List Fx) (x : Fx) (text : ByteArray) (w : World) (h : OwnFx w lo w.heap.size (.slice (some ⟨g, 0, none⟩) n cap) xs) (hn : xs.length = n) (hj : j < xs.length) (hx : xs[j] = x) (hw : FilW x.f) (ht : text.size ≤ 1048576) (hlo : lo ≤ w.heap.size) :
    Calls Tryz.prog 53 #[.pointer (some ⟨g, j * 4, none⟩), .string text] w fun e w' => e = .returned (.bool (wrOk x.f text.data.toList)) ∧ Below lo w w' ∧
      (wrOk x.f text.data.toList = true → ∃ L c, OwnFx w' lo w'.heap.size (.slice (some ⟨g, 0, none⟩) n cap) (xs.set j ⟨wrF x.f text.data.toList, L, c⟩)) := by
  obtain ⟨cap1, w1, hr, hcells, hbw, hsz⟩ := bytes_of w text
  have hgl := h.top g rfl
  have hrow := h.row
  have hlg : lo ≤ g := (hrow.lt g rfl).1
  have hxs : xs.set j x = xs := by rw [← hx]; exact List.set_getElem_self hj
  have hbm : ∀ b, x.sl.ownBlock = some b → b < w.heap.size := fun b hb => (h.own x (hx ▸ List.getElem_mem hj)).2 b hb
  have HST : Hid (WrF w1 lo g cap n j w.heap.size xs x w1) := ⟨by rw [hxs]; exact (loc_ownFx _ _ _ _ w w1 (fun b _ h2 => hbw.block b h2) h).more hbw.size, fun b hb => by have := hbm b hb; omega, rfl, by omega, Below.refl _ _⟩
  have HB1 := Lib.hid (hbw.mono hlo)
  have HN := Lib.hid hn; have HJ := Lib.hid hj; have HCE := Lib.hid hcells; have HFW := Lib.hid hw
  have hgm : g ≠ w.heap.size := by omega
  have HHL : Hid (lo ≤ w1.heap.size) := by show lo ≤ w1.heap.size; omega
  clear h hrow hxs hbm hcells hbw hsz hx hw hn
  generalize hXF : x.f = f0 at *
  have HXF := Lib.hid hXF; clear hXF
  go_enter Tryz.func53, Tryz.ntmps53
  go_wp2_with fail
  clear hr
  go_loopw [10] (fun i wr => ∃ k : Nat, k ≤ text.size ∧ i = .int .i64 k ∧ ∃ y : Fx, y.f = wrF f0 (text.data.toList.take k) ∧ wrOk f0 (text.data.toList.take k) = true ∧ WrF w1 lo g cap n j w.heap.size xs y wr) (fun i _ => text.size - (intOf i).toNat)
  case atStart => exact ⟨0, Nat.zero_le _, rfl, x, by rw [List.take_zero]; exact HXF.out, by rw [List.take_zero]; rfl, HST.out⟩
  case round =>
    obtain ⟨k, hk, rfl, y, hyf, hok, hW⟩ := hrel
    by_cases hlt : k < text.size
    · have h255 := byte_le text[k]
      have hcell : wr.cell? ⟨w.heap.size, k, none⟩ = some (.int .u8 (text[k].toNat : Int)) := (World.cell?_of_block hW.keep).trans (HCE.out k hlt)
      have HSTEP := Lib.hid (wr_step hlt hyf hok)
      have hFW : FilW y.f := by rw [hyf]; exact HFW.out.all _ hok
      have hlr : lo ≤ wr.heap.size := Nat.le_trans HHL.out hW.low.size
      obtain ⟨⟨ynm, yls, ypt, yat⟩, L, c⟩ := y
      obtain ⟨p1, p2, -, -⟩ := hFW
      dsimp only at *
      have f1 := (hW.own.at_ HN.out HJ.out 1 (by omega) (.slice L yls.length c) rfl).1
      have z1 := (hW.own.at_ HN.out HJ.out 1 (by omega) (.slice L yls.length c) rfl).2
      have f2 := (hW.own.at_ HN.out HJ.out 2 (by omega) (.string ypt) rfl).1
      have z2 := (hW.own.at_ HN.out HJ.out 2 (by omega) (.string ypt) rfl).2
      have HW := Lib.hid hW; clear hW hyf hok
      generalize text[k] = ch at *
      by_cases h10 : ch = 10
      · have t10 := byte_ten h10
        have HS := Lib.hid (show wrB ⟨ynm, yls, ypt, yat⟩ ch = ⟨ynm, yls ++ [ypt], ⟨#[]⟩, yat⟩ by unfold wrB; rw [if_pos h10])
        clear h10
        go_wp2_with fail
        refine AnyT.region (fun i => decide (14 ≤ i)) (fun w' => w'.cell? ⟨g, j * 4 + 1, none⟩ = some (.slice L yls.length c) ∧ w'.cell? ⟨g, j * 4 + 2, none⟩ = some (.string ypt)) (by kernel_rfl) ⟨f1, f2⟩ (fun hHeld => ?_)
        ((refine AnyT.takeAny 0 16 ?_ rfl (by kernel_rfl) (by kernel_rfl) (by kernel_rfl) rfl rfl (fun _ _ _ _ h => h) rfl ?_ (by assumption) ?_); rotate_left; (intro w; go_simp; (try (with_reducible rfl))); simp only [Act.put, List.setIfInBounds_toArray, List.set_cons_zero, List.set_cons_succ])
        ((refine AnyT.takeAny 1 17 ?_ rfl (by kernel_rfl) (by kernel_rfl) (by kernel_rfl) rfl rfl (fun _ _ _ _ h => h) rfl ?_ (by assumption) ?_); rotate_left; (intro w; go_simp; (try (with_reducible rfl))); simp only [Act.put, List.setIfInBounds_toArray, List.set_cons_zero, List.set_cons_succ])
        ((refine AnyT.takeAny 2 18 ?_ rfl (by kernel_rfl) (by kernel_rfl) (by kernel_rfl) rfl rfl (fun _ _ _ _ h => h) rfl ?_ (by assumption) ?_); rotate_left; (intro w; go_simp; (try (with_reducible rfl))); simp only [Act.put, List.setIfInBounds_toArray, List.set_cons_zero, List.set_cons_succ])
        ((refine AnyT.takeAny 3 19 ?_ rfl (by kernel_rfl) (by kernel_rfl) (by kernel_rfl) rfl rfl (fun _ _ _ _ h => h) rfl ?_ (by assumption) ?_); rotate_left; (intro w; go_simp; (try (with_reducible rfl))); simp only [Act.put, List.setIfInBounds_toArray, List.set_cons_zero, List.set_cons_succ])
        ((refine AnyT.takeAny 4 20 ?_ rfl (by kernel_rfl) (by kernel_rfl) (by kernel_rfl) rfl rfl (fun _ _ _ _ h => h) rfl ?_ (by assumption) ?_); rotate_left; (intro w; go_simp; (try (with_reducible rfl))); simp only [Act.put, List.setIfInBounds_toArray, List.set_cons_zero, List.set_cons_succ])
        ((refine AnyT.take 5 21 ?_ rfl (by kernel_rfl) (by kernel_rfl) (by kernel_rfl) (by kernel_rfl) rfl (by kernel_rfl) rfl (fun _ _ _ _ h => h) rfl ?_ (by assumption) ?_); rotate_left; (intro w hSw; (try dsimp only at hSw); go_simp; (try (with_reducible rfl))); simp only [Act.put, List.setIfInBounds_toArray, List.set_cons_zero, List.set_cons_succ])
        ((refine AnyT.takeAny 6 22 ?_ rfl (by kernel_rfl) (by kernel_rfl) (by kernel_rfl) rfl rfl (fun _ _ _ _ h => h) rfl ?_ (by assumption) ?_); rotate_left; (intro w; go_simp; (try (with_reducible rfl))); simp only [Act.put, List.setIfInBounds_toArray, List.set_cons_zero, List.set_cons_succ])
        ((refine AnyT.takeAny 7 23 ?_ rfl (by kernel_rfl) (by kernel_rfl) (by kernel_rfl) rfl rfl (fun _ _ _ _ h => h) rfl ?_ (by assumption) ?_); rotate_left; (intro w; go_simp; (try (with_reducible rfl))); simp only [Act.put, List.setIfInBounds_toArray, List.set_cons_zero, List.set_cons_succ])
        ((refine AnyT.takeAny 8 24 ?_ rfl (by kernel_rfl) (by kernel_rfl) (by kernel_rfl) rfl rfl (fun _ _ _ _ h => h) rfl ?_ (by assumption) ?_); rotate_left; (intro w; go_simp; (try (with_reducible rfl))); simp only [Act.put, List.setIfInBounds_toArray, List.set_cons_zero, List.set_cons_succ])
        ((refine AnyT.take 9 25 ?_ rfl (by kernel_rfl) (by kernel_rfl) (by kernel_rfl) (by kernel_rfl) rfl (by kernel_rfl) rfl (fun _ _ _ _ h => h) rfl ?_ (by assumption) ?_); rotate_left; (intro w hSw; (try dsimp only at hSw); go_simp; (try (with_reducible rfl))); simp only [Act.put, List.setIfInBounds_toArray, List.set_cons_zero, List.set_cons_succ])
        have hgw : g < wr.heap.size := by have := HW.out.lt; omega
        have HBA := Lib.hid (show Below wr.heap.size wr (wr.alloc (.cells #[.string ypt] 9)).drew from ((Below.refl wr.heap.size wr).alloc (Nat.le_refl _) (.cells #[.string ypt] 9)).drew)
        have HCB := Lib.hid (show (wr.alloc (.cells #[.string ypt] 9)).drew.cell? ⟨wr.heap.size, 0, none⟩ = some (.string ypt) from (Blk.new wr 9 #[.string ypt]).cell 0)
        have HSZ := Lib.hid (show (wr.alloc (.cells #[.string ypt] 9)).drew.heap.size = wr.heap.size + 1 by show (wr.alloc _).heap.size = _; simp)
        have HOW := Lib.hid (show (wr.alloc (.cells #[.string ypt] 9)).drew.ownsRow lo 9 1 (.slice L yls.length c) yls.length (yls.map Value.string) from own_below ((HW.out.own.own _ (List.mem_of_getElem (by rw [List.getElem_set_self] : (xs.set j ⟨⟨ynm, yls, ypt, yat⟩, L, c⟩)[j]'(by rw [List.length_set]; exact HJ.out) = ⟨⟨ynm, yls, ypt, yat⟩, L, c⟩))).1) HBA.out)
        ((refine AnyT.one (i := 10) (by kernel_rfl) rfl (fun K hK => ?_)))
        go_simp
        refine hK.out _ _ ⟨(HBA.out.cell (p := ⟨g, j * 4 + 1, none⟩) hgw).trans f1, (HBA.out.cell (p := ⟨g, j * 4 + 2, none⟩) hgw).trans f2⟩ (fun hHeld => ?_)
        clear hK K
        (try simp only [Act.put, List.setIfInBounds_toArray, List.set_cons_zero, List.set_cons_succ])
        generalize hWA : (wr.alloc (.cells #[.string ypt] 9)).drew = wa at *
        clear hWA
        ((refine AnyT.one (i := 11) (by kernel_rfl) rfl (fun K hK => ?_)))
        refine step_appStr (by rfl) (.tmp 21) (.tmp 26) 22 (by rfl) Tryz.underlying22 wa lo (.slice L yls.length c) yls ypt yls.length (by rfl) HOW.out wr.heap.size (by rfl) HCB.out (by omega) (by have := HSZ.out; omega) ?_
        intro A6 c6 w6 hr6 hg6 hat6
        have hgy : (Value.slice L yls.length c).ownBlock ≠ some g := by
          intro e
          exact HW.out.own.far _ (List.mem_of_getElem (by rw [List.getElem_set_self] : (xs.set j ⟨⟨ynm, yls, ypt, yat⟩, L, c⟩)[j]'(by rw [List.length_set]; exact HJ.out) = ⟨⟨ynm, yls, ypt, yat⟩, L, c⟩)) g e rfl
        have hg6k : w6.heap[g]? = wa.heap[g]? := hg6.block g (by have := HSZ.out; omega) (fun e => hgy e.symm)
        have c61 := (World.cell?_of_block (a := ⟨g, j * 4 + 1, none⟩) hg6k).trans hHeld.1
        have c62 := (World.cell?_of_block (a := ⟨g, j * 4 + 2, none⟩) hg6k).trans hHeld.2
        refine hK.out _ _ ⟨c61, c62⟩ (fun hHeld => ?_)
        clear hK K
        (try simp only [Act.put, List.setIfInBounds_toArray, List.set_cons_zero, List.set_cons_succ])
        have HL6 := Lib.hid (WrF.line (A := A6) (c := c6) (s := ypt) (wa := wa) (w6 := w6) HW.out HN.out HJ.out hgm hlg hlr HBA.out hr6 hg6 hat6)
        have HZ6 := Lib.hid (show w6.frozen? ⟨g, j * 4 + 1, none⟩ = false ∧ w6.frozen? ⟨g, j * 4 + 2, none⟩ = false from ⟨(show _ = wa.frozen? ⟨g, j * 4 + 1, none⟩ by unfold World.frozen?; rw [hg6k]).trans ((HBA.out.frozen (p := ⟨g, j * 4 + 1, none⟩) hgw).trans z1), (show _ = wa.frozen? ⟨g, j * 4 + 2, none⟩ by unfold World.frozen?; rw [hg6k]).trans ((HBA.out.frozen (p := ⟨g, j * 4 + 2, none⟩) hgw).trans z2)⟩)
        ((refine AnyT.takeAny 12 28 ?_ rfl (by kernel_rfl) (by kernel_rfl) (by kernel_rfl) rfl rfl (fun _ _ _ _ h => h) rfl ?_ (by assumption) ?_); rotate_left; (intro w; go_simp; (try (with_reducible rfl))); simp only [Act.put, List.setIfInBounds_toArray, List.set_cons_zero, List.set_cons_succ])
        ((refine AnyT.takeAny 13 29 ?_ rfl (by kernel_rfl) (by kernel_rfl) (by kernel_rfl) rfl rfl (fun _ _ _ _ h => h) rfl ?_ (by assumption) ?_); rotate_left; (intro w; go_simp; (try (with_reducible rfl))); simp only [Act.put, List.setIfInBounds_toArray, List.set_cons_zero, List.set_cons_succ])
        obtain ⟨zz1, zz2⟩ := HZ6.out
        ((refine AnyT.last (i := 14) (by kernel_rfl) rfl (by kernel_rfl) (fun K hK => ?_)))
        go_simp
        refine hK.out _ _ ?_
        clear hK K
        (try simp only [Act.put, List.setIfInBounds_toArray, List.set_cons_zero, List.set_cons_succ])
        ((refine AnyT.last (i := 15) (by kernel_rfl) rfl (by kernel_rfl) (fun K hK => ?_)))
        go_simp
        refine hK.out _ _ ?_
        clear hK K
        (try simp only [Act.put, List.setIfInBounds_toArray, List.set_cons_zero, List.set_cons_succ])
        ((refine AnyT.last (i := 16) (by kernel_rfl) rfl (by kernel_rfl) (fun K hK => ?_)))
        go_simp
        refine hK.out _ _ ?_
        clear hK K
        (try simp only [Act.put, List.setIfInBounds_toArray, List.set_cons_zero, List.set_cons_succ])
        ((refine AnyT.last (i := 17) (by kernel_rfl) rfl (by kernel_rfl) (fun K hK => ?_)))
        go_simp
        refine hK.out _ _ ?_
        clear hK K
        (try simp only [Act.put, List.setIfInBounds_toArray, List.set_cons_zero, List.set_cons_succ])
        refine AnyT.done (by kernel_rfl) ?_ _
        have HL7 := Lib.hid (HL6.out.part HN.out HJ.out hgm hlg ⟨#[]⟩)
        generalize (w6.setCell ⟨g, j * 4 + 1, none⟩ (.slice A6 (yls.length + 1) c6)).setCell ⟨g, j * 4 + 2, none⟩ (.string ⟨#[]⟩) = w7 at *
        clear c61 c62 hg6k hgy hr6 hg6 hat6 hHeld zz1 zz2 HZ6 HL6 HBA HCB HSZ HOW f1 z1 f2 z2
        have f1 := (HL7.out.own.at_ HN.out HJ.out 1 (by omega) (.slice A6 (yls.length + 1) c6) (by simp [Fx.cells, Fx.sl])).1
        have f2 := (HL7.out.own.at_ HN.out HJ.out 2 (by omega) (.string ⟨#[]⟩) rfl).1
        by_cases hfit : yls.length + 1 ≤ 20
        · have HF := Lib.hid (HSTEP.out.1 (by rw [HS.out]; unfold fitsB; simp [ByteArray.size]; omega)); clear HSTEP
          rw [HS.out] at HF
          go_wp2_with fail
          go_roundw
          case rel => exact ⟨k + 1, by omega, by go_num, _, HF.out.1, HF.out.2, HL7.out⟩
          case measure => simp [intOf]; omega
        · have HF := Lib.hid (HSTEP.out.2 (by rw [HS.out]; unfold fitsB; simp [ByteArray.size]; omega)); clear HSTEP
          go_wp2_with fail
          go_ret
          exact ⟨by rw [HF.out]; rfl, HB1.out.trans HL7.out.low, fun h => by rw [HF.out] at h; cases h⟩
      · have t10 := byte_not_ten h10
        have HS := Lib.hid (show wrB ⟨ynm, yls, ypt, yat⟩ ch = ⟨ynm, yls, ypt ++ ⟨#[ch]⟩, yat⟩ by unfold wrB; rw [if_neg h10])
        clear h10
        go_wp2_with fail
        refine AnyT.region (fun i => decide (10 ≤ i)) (fun w' => w'.cell? ⟨g, j * 4 + 2, none⟩ = some (.string ypt)) (by kernel_rfl) f2 (fun hHeld => ?_)
        ((refine AnyT.takeAny 0 32 ?_ rfl (by kernel_rfl) (by kernel_rfl) (by kernel_rfl) rfl rfl (fun _ _ _ _ h => h) rfl ?_ (by assumption) ?_); rotate_left; (intro w; go_simp; (try (with_reducible rfl))); simp only [Act.put, List.setIfInBounds_toArray, List.set_cons_zero, List.set_cons_succ])
        ((refine AnyT.takeAny 1 33 ?_ rfl (by kernel_rfl) (by kernel_rfl) (by kernel_rfl) rfl rfl (fun _ _ _ _ h => h) rfl ?_ (by assumption) ?_); rotate_left; (intro w; go_simp; (try (with_reducible rfl))); simp only [Act.put, List.setIfInBounds_toArray, List.set_cons_zero, List.set_cons_succ])
        ((refine AnyT.takeAny 2 34 ?_ rfl (by kernel_rfl) (by kernel_rfl) (by kernel_rfl) rfl rfl (fun _ _ _ _ h => h) rfl ?_ (by assumption) ?_); rotate_left; (intro w; go_simp; (try (with_reducible rfl))); simp only [Act.put, List.setIfInBounds_toArray, List.set_cons_zero, List.set_cons_succ])
        ((refine AnyT.take 3 35 ?_ rfl (by kernel_rfl) (by kernel_rfl) (by kernel_rfl) (by kernel_rfl) rfl (by kernel_rfl) rfl (fun _ _ _ _ h => h) rfl ?_ (by assumption) ?_); rotate_left; (intro w hSw; (try dsimp only at hSw); go_simp; (try (with_reducible rfl))); simp only [Act.put, List.setIfInBounds_toArray, List.set_cons_zero, List.set_cons_succ])
        ((refine AnyT.takeAny 4 36 ?_ rfl (by kernel_rfl) (by kernel_rfl) (by kernel_rfl) rfl rfl (fun _ _ _ _ h => h) rfl ?_ (by assumption) ?_); rotate_left; (intro w; go_simp; (try (with_reducible rfl))); simp only [Act.put, List.setIfInBounds_toArray, List.set_cons_zero, List.set_cons_succ])
        have hgw : g < wr.heap.size := by have := HW.out.lt; omega
        have HBA := Lib.hid (show Below wr.heap.size wr (wr.alloc (.cells #[.int .u8 (ch.toNat : Int)] 5)).drew from ((Below.refl wr.heap.size wr).alloc (Nat.le_refl _) (.cells #[.int .u8 (ch.toNat : Int)] 5)).drew)
        have hcv := run_one_byte_drew (P := Tryz.prog) 39 9 5 Tryz.underlying39 Tryz.underlying5 Tryz.underlying9 wr (ch.toNat : Int) 1
        rw [byte_back] at hcv
        have HZ6 := Lib.hid ((HBA.out.frozen (p := ⟨g, j * 4 + 2, none⟩) hgw).trans z2)
        ((refine AnyT.one (i := 5) (by kernel_rfl) rfl (fun K hK => ?_)))
        go_simp
        refine hK.out _ _ ((HBA.out.cell (p := ⟨g, j * 4 + 2, none⟩) hgw).trans f2) (fun hHeld => ?_)
        clear hK K
        (try simp only [Act.put, List.setIfInBounds_toArray, List.set_cons_zero, List.set_cons_succ])
        generalize hWA : (wr.alloc (.cells #[.int .u8 (ch.toNat : Int)] 5)).drew = wa at *
        clear hWA
        ((refine AnyT.one (i := 6) (by kernel_rfl) rfl (fun K hK => ?_)))
        go_simp
        refine hK.out _ _ hHeld (fun hHeld => ?_)
        clear hK K
        (try simp only [Act.put, List.setIfInBounds_toArray, List.set_cons_zero, List.set_cons_succ])
        have HNS := Lib.hid (show (ypt ++ (⟨#[ch]⟩ : ByteArray)).size = ypt.size + 1 by rw [ByteArray.size_append]; rfl)
        have hbig : ¬ (9223372036854775807 < ypt.size + 1) := by omega
        ((refine AnyT.takeAny 7 39 ?_ rfl (by kernel_rfl) (by kernel_rfl) (by kernel_rfl) rfl rfl (fun _ _ _ _ h => h) rfl ?_ (by assumption) ?_); rotate_left; (intro w; go_simp; (try (with_reducible rfl))); simp only [Act.put, List.setIfInBounds_toArray, List.set_cons_zero, List.set_cons_succ])
        clear hbig
        ((refine AnyT.takeAny 8 40 ?_ rfl (by kernel_rfl) (by kernel_rfl) (by kernel_rfl) rfl rfl (fun _ _ _ _ h => h) rfl ?_ (by assumption) ?_); rotate_left; (intro w; go_simp; (try (with_reducible rfl))); simp only [Act.put, List.setIfInBounds_toArray, List.set_cons_zero, List.set_cons_succ])
        ((refine AnyT.takeAny 9 41 ?_ rfl (by kernel_rfl) (by kernel_rfl) (by kernel_rfl) rfl rfl (fun _ _ _ _ h => h) rfl ?_ (by assumption) ?_); rotate_left; (intro w; go_simp; (try (with_reducible rfl))); simp only [Act.put, List.setIfInBounds_toArray, List.set_cons_zero, List.set_cons_succ])
        have zz := HZ6.out
        ((refine AnyT.last (i := 10) (by kernel_rfl) rfl (by kernel_rfl) (fun K hK => ?_)))
        go_simp
        refine hK.out _ _ ?_
        clear hK K
        (try simp only [Act.put, List.setIfInBounds_toArray, List.set_cons_zero, List.set_cons_succ])
        refine AnyT.done (by kernel_rfl) ?_ _
        have HL7 := Lib.hid ((HW.out.below hlr HBA.out).part HN.out HJ.out hgm hlg (ypt ++ ⟨#[ch]⟩))
        generalize wa.setCell ⟨g, j * 4 + 2, none⟩ (.string (ypt ++ ⟨#[ch]⟩)) = w7 at *
        clear hHeld zz HZ6 HBA hcv f1 z1 f2 z2
        have f1 := (HL7.out.own.at_ HN.out HJ.out 1 (by omega) (.slice L yls.length c) rfl).1
        have f2 := (HL7.out.own.at_ HN.out HJ.out 2 (by omega) (.string (ypt ++ ⟨#[ch]⟩)) rfl).1
        dsimp only at HL7
        generalize ypt ++ (⟨#[ch]⟩ : ByteArray) = np at *
        by_cases hfit : ypt.size + 1 ≤ 80
        · have hns : np.size ≤ 80 := by rw [HNS.out]; exact hfit
          have HF := Lib.hid (HSTEP.out.1 (by rw [HS.out]; unfold fitsB; simp; omega)); clear HSTEP
          rw [HS.out] at HF
          go_wp2_with fail
          go_roundw
          case rel => exact ⟨k + 1, by omega, by go_num, _, HF.out.1, HF.out.2, HL7.out⟩
          case measure => simp [intOf]; omega
        · have hns : 80 < np.size := by rw [HNS.out]; omega
          have HF := Lib.hid (HSTEP.out.2 (by rw [HS.out]; unfold fitsB; simp; omega)); clear HSTEP
          go_wp2_with fail
          go_ret
          exact ⟨by rw [HF.out]; rfl, HB1.out.trans HL7.out.low, fun h => by rw [HF.out] at h; cases h⟩
    · obtain rfl : k = text.size := by omega
      have htk : text.data.toList.take text.size = text.data.toList := List.take_of_length_le (by rw [Array.length_toList]; exact Nat.le_refl _)
      rw [htk] at hyf hok
      have HW := Lib.hid hW; have HY := Lib.hid hyf; have HOK := Lib.hid hok
      clear hW hyf hok htk
      go_wp2_with fail
      go_ret
      refine ⟨by rw [HOK.out]; rfl, HB1.out.trans HW.out.low, fun _ => ⟨y.L, y.c, ?_⟩⟩
      have := HW.out.own
      rw [← HY.out]
      exact this

end Go.Proofs.YtmeholhmadeehaaGreatDoor

/- What is read of a line, plainly. -/
namespace Go.Proofs.YtmeholhmadeehaaGreatDoor
open Go.RowKit

/-- A number in decimal digits. -/
def decT (c : Nat) : ByteArray := ⟨(Lib.decDigits c).toArray⟩
/-- What is read of a line. -/
def wantT (line : ByteArray) (most : Int) : ByteArray :=
  if most = -1 then (if line.size = 0 then ⟨#[45, 49]⟩ else decT (line.get! 0).toNat) else if 0 < most ∧ most < line.size then line.extract 0 most.toNat else line
/-- What is shown of it. -/
def shownT (line : ByteArray) (most : Int) : ByteArray := if most = -1 then ⟨#[]⟩ else wantT line most

end Go.Proofs.YtmeholhmadeehaaGreatDoor

/- Reading from a device, plainly. -/
namespace Go.Proofs.YtmeholhmadeehaaGreatDoor
open Go.RowKit

def atNext (f : Fil) : Fil := ⟨f.name, f.lines, f.part, f.at_ + 1⟩
structure Rd where
  dev : Dev
  text : ByteArray
  code : Int
def noRd (c : Int) : Rd := ⟨noDev, ⟨#[]⟩, c⟩
def readKey (d : Dev) (most : Int) : Rd :=
  if d.keys.length = 0 then noRd 3
  else ⟨⟨d.use, newRow (showTo d.scr (shownT (d.keys.getD 0 ByteArray.empty) most) (shownT (d.keys.getD 0 ByteArray.empty) most).size), d.files, d.keys.drop 1⟩, wantT (d.keys.getD 0 ByteArray.empty) most, 0⟩
def readFil (d : Dev) (most : Int) : Rd :=
  if ((d.files.getD (d.use - 1).toNat filD).lines.length : Int) ≤ (d.files.getD (d.use - 1).toNat filD).at_ then noRd 3
  else ⟨⟨d.use, d.scr, d.files.set (d.use - 1).toNat (atNext (d.files.getD (d.use - 1).toNat filD)), d.keys⟩, wantT ((d.files.getD (d.use - 1).toNat filD).lines.getD (d.files.getD (d.use - 1).toNat filD).at_.toNat ByteArray.empty) most, 0⟩
def readP (d : Dev) (most : Int) : Rd := if devB d then (if inB most (-1) 80 then (if d.use = 0 then readKey d most else readFil d most) else noRd 2) else noRd 1

theorem readP_low (d : Dev) (most : Int) : DevLow (readP d most).dev := by
  unfold readP
  split
  · rename_i h
    have hg := DevGood.of h
    have hl := hg.low
    split
    · split
      · unfold readKey
        split
        · exact noDev_low
        · have hf0 := showTo_fine hg.fine (shownT (d.keys.getD 0 ByteArray.empty) most) (shownT (d.keys.getD 0 ByteArray.empty) most).size
          have hf := newRow_fine hf0.len hf0.row0 hf0.row5 hf0.size
          exact ⟨by show (newRow _).rows.length ≤ 1000; have := hf.len; omega, fun r hr => by have := hf.size r hr; omega, hl.files, hl.file, by show (d.keys.drop 1).length ≤ 1000; rw [List.length_drop]; have := hl.keys; omega, fun r hr => hl.key r (List.mem_of_mem_drop hr)⟩
      · rename_i h0
        unfold readFil
        split
        · exact noDev_low
        · have hj : (d.use - 1).toNat < d.files.length := by have := hg.use0; have := hg.usen; omega
          refine ⟨hl.rows, hl.row, by show (d.files.set _ _).length ≤ 1000; rw [List.length_set]; exact hl.files, fun f hf => ?_, hl.keys, hl.key⟩
          rcases List.mem_or_eq_of_mem_set hf with hf | rfl
          · exact hl.file f hf
          · have := hl.file _ (getD_mem (d := filD) hj)
            exact this
    · exact noDev_low
  · exact noDev_low

theorem wantT_size (line : ByteArray) (most : Int) (h : line.size ≤ 1048576) : (wantT line most).size ≤ 1048576 := by
  unfold wantT
  split
  · split
    · show (2 : Nat) ≤ _; omega
    · have h1 := (line.get! 0).toNat_lt
      have : ∀ (k c : Nat), c < 10 ^ (k + 1) → (decT c).size ≤ k + 1 := by
        intro k
        induction k with
        | zero => intro c h; unfold decT; rw [Lib.decDigits, dif_pos (by simpa using h)]; exact Nat.le_refl _
        | succ k ih =>
          intro c h
          unfold decT
          rw [Lib.decDigits]
          split
          · show (1 : Nat) ≤ _; omega
          · have h2 := ih (c / 10) (by rw [Nat.pow_succ] at h; omega)
            unfold decT at h2
            simp only [ByteArray.size, List.size_toArray, List.length_append, List.length_cons, List.length_nil] at h2 ⊢
            omega
      have := this 2 (line.get! 0).toNat (by omega)
      omega
  · split
    · rw [ByteArray.size_extract]; omega
    · exact h

end Go.Proofs.YtmeholhmadeehaaGreatDoor
