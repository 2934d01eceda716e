/- The program's write to a file walked: the loop over the text. -/
import Derived.Test.YtcfmgmbolnifgaaJoinWAo
import Derived.Deep.DeepCutAuto
import Derived.Test.YtcfmgmbolnifgaaJoinWAn
import Derived.Test.YtcfmgmbolnifgaaJoinWAl
import Derived.Shelf.Spec.SlicesInsertGrow
namespace Go.Proofs.Ytcfmgmbolnifgaa
open Go.RowKit

theorem byte_ten {c : UInt8} (h : c = 10) : ((c.toNat : Int) == 10) = true := by subst h; rfl
theorem byte_not_ten {c : UInt8} (h : c ≠ 10) : ((c.toNat : Int) == 10) = false := by
  rw [beq_eq_false_iff_ne]
  intro e
  exact h (UInt8.toNat_inj.1 (by have : c.toNat = 10 := by omega
                                 rw [this]; rfl))
theorem byte_back (c : UInt8) : UInt8.ofNat ((c.toNat : Int)).toNat = c := by simp

/-- What follows for the plain law from one byte more. -/
theorem wr_step {f : Fil} {text : ByteArray} {k : Nat} {fy : Fil} (hk : k < text.size) (hy : fy = wrF f (text.data.toList.take k)) (hok : wrOk f (text.data.toList.take k) = true) :
    (fitsB (wrB fy text[k]) = true → wrB fy text[k] = wrF f (text.data.toList.take (k + 1)) ∧ wrOk f (text.data.toList.take (k + 1)) = true) ∧ (fitsB (wrB fy text[k]) = false → wrOk f text.data.toList = false) := by
  have hs := take_snoc text k hk
  have h1 : wrF f (text.data.toList.take (k + 1)) = wrB fy text[k] := by rw [hs, wrF_snoc, hy]
  have h2 : wrOk f (text.data.toList.take (k + 1)) = fitsB (wrB fy text[k]) := by rw [hs, wrOk_snoc, hok, hy, Bool.true_and]
  refine ⟨fun h => ⟨h1.symm, by rw [h2, h]⟩, fun h => ?_⟩
  have h3 := List.take_append_drop (k + 1) text.data.toList
  rw [← h3, wrOk_append, h2, h]
  rfl

set_option maxHeartbeats 8000000 in
set_option maxRecDepth 100000 in
theorem fileWrite_any (g cap n j lo : Nat) (xs : List Fx) (x : Fx) (text : ByteArray) (w : World) (h : OwnFx w lo w.heap.size (.slice (some ⟨g, 0, none⟩) n cap) xs) (hn : xs.length = n) (hj : j < xs.length) (hx : xs[j] = x) (hw : FilW x.f) (ht : text.size ≤ 1048576) (hlo : lo ≤ w.heap.size) :
    Calls Try.prog 102 #[.pointer (some ⟨g, j * 4, none⟩), .string text] w fun e w' => e = .returned (.bool (wrOk x.f text.data.toList)) ∧ Below lo w w' ∧
      (wrOk x.f text.data.toList = true → ∃ L c, OwnFx w' lo w'.heap.size (.slice (some ⟨g, 0, none⟩) n cap) (xs.set j ⟨wrF x.f text.data.toList, L, c⟩)) := by
  obtain ⟨cap1, w1, hr, hcells, hbw, hsz⟩ := bytes_of w text
  have hgl := h.top g rfl
  have hrow := h.row
  have hlg : lo ≤ g := (hrow.lt g rfl).1
  have hxs : xs.set j x = xs := by rw [← hx]; exact List.set_getElem_self hj
  have hbm : ∀ b, x.sl.ownBlock = some b → b < w.heap.size := fun b hb => (h.own x (hx ▸ List.getElem_mem hj)).2 b hb
  have HST : Hid (WrF w1 lo g cap n j w.heap.size xs x w1) := ⟨by rw [hxs]; exact (loc_ownFx _ _ _ _ w w1 (fun b _ h2 => hbw.block b h2) h).more hbw.size, fun b hb => by have := hbm b hb; omega, rfl, by omega, Below.refl _ _⟩
  have HB1 := Lib.hid (hbw.mono hlo)
  have HN := Lib.hid hn; have HJ := Lib.hid hj; have HCE := Lib.hid hcells; have HFW := Lib.hid hw
  have hgm : g ≠ w.heap.size := by omega
  have HHL : Hid (lo ≤ w1.heap.size) := by show lo ≤ w1.heap.size; omega
  clear h hrow hxs hbm hcells hbw hsz hx hw hn
  generalize hXF : x.f = f0 at *
  have HXF := Lib.hid hXF; clear hXF
  go_enter Try.func102, Try.ntmps102
  go_wp2_with fail
  clear hr
  go_loopw [10] (fun i wr => ∃ k : Nat, k ≤ text.size ∧ i = .int .i64 k ∧ ∃ y : Fx, y.f = wrF f0 (text.data.toList.take k) ∧ wrOk f0 (text.data.toList.take k) = true ∧ WrF w1 lo g cap n j w.heap.size xs y wr) (fun i _ => text.size - (intOf i).toNat)
  case atStart => exact ⟨0, Nat.zero_le _, rfl, x, by rw [List.take_zero]; exact HXF.out, by rw [List.take_zero]; rfl, HST.out⟩
  case round =>
    obtain ⟨k, hk, rfl, y, hyf, hok, hW⟩ := hrel
    by_cases hlt : k < text.size
    · have h255 := byte_le text[k]
      have hcell : wr.cell? ⟨w.heap.size, k, none⟩ = some (.int .u8 (text[k].toNat : Int)) := (World.cell?_of_block hW.keep).trans (HCE.out k hlt)
      have HSTEP := Lib.hid (wr_step hlt hyf hok)
      have hFW : FilW y.f := by rw [hyf]; exact HFW.out.all _ hok
      have hlr : lo ≤ wr.heap.size := Nat.le_trans HHL.out hW.low.size
      obtain ⟨⟨ynm, yls, ypt, yat⟩, L, c⟩ := y
      obtain ⟨p1, p2, -, -⟩ := hFW
      dsimp only at *
      have f1 := (hW.own.at_ HN.out HJ.out 1 (by omega) (.slice L yls.length c) rfl).1
      have z1 := (hW.own.at_ HN.out HJ.out 1 (by omega) (.slice L yls.length c) rfl).2
      have f2 := (hW.own.at_ HN.out HJ.out 2 (by omega) (.string ypt) rfl).1
      have z2 := (hW.own.at_ HN.out HJ.out 2 (by omega) (.string ypt) rfl).2
      have HW := Lib.hid hW; clear hW hyf hok
      generalize text[k] = ch at *
      by_cases h10 : ch = 10
      · have t10 := byte_ten h10
        have HS := Lib.hid (show wrB ⟨ynm, yls, ypt, yat⟩ ch = ⟨ynm, yls ++ [ypt], ⟨#[]⟩, yat⟩ by unfold wrB; rw [if_pos h10])
        clear h10
        go_wp2_with fail
        refine AnyT.region (fun i => decide (14 ≤ i)) (fun w' => w'.cell? ⟨g, j * 4 + 1, none⟩ = some (.slice L yls.length c) ∧ w'.cell? ⟨g, j * 4 + 2, none⟩ = some (.string ypt)) (by kernel_rfl) ⟨f1, f2⟩ (fun hHeld => ?_)
        ((refine AnyT.takeAny 0 16 ?_ rfl (by kernel_rfl) (by kernel_rfl) (by kernel_rfl) rfl rfl (fun _ _ _ _ h => h) rfl ?_ (by assumption) ?_); rotate_left; (intro w; go_simp; (try (with_reducible rfl))); simp only [Act.put, List.setIfInBounds_toArray, List.set_cons_zero, List.set_cons_succ])
        ((refine AnyT.takeAny 1 17 ?_ rfl (by kernel_rfl) (by kernel_rfl) (by kernel_rfl) rfl rfl (fun _ _ _ _ h => h) rfl ?_ (by assumption) ?_); rotate_left; (intro w; go_simp; (try (with_reducible rfl))); simp only [Act.put, List.setIfInBounds_toArray, List.set_cons_zero, List.set_cons_succ])
        ((refine AnyT.takeAny 2 18 ?_ rfl (by kernel_rfl) (by kernel_rfl) (by kernel_rfl) rfl rfl (fun _ _ _ _ h => h) rfl ?_ (by assumption) ?_); rotate_left; (intro w; go_simp; (try (with_reducible rfl))); simp only [Act.put, List.setIfInBounds_toArray, List.set_cons_zero, List.set_cons_succ])
        ((refine AnyT.takeAny 3 19 ?_ rfl (by kernel_rfl) (by kernel_rfl) (by kernel_rfl) rfl rfl (fun _ _ _ _ h => h) rfl ?_ (by assumption) ?_); rotate_left; (intro w; go_simp; (try (with_reducible rfl))); simp only [Act.put, List.setIfInBounds_toArray, List.set_cons_zero, List.set_cons_succ])
        ((refine AnyT.takeAny 4 20 ?_ rfl (by kernel_rfl) (by kernel_rfl) (by kernel_rfl) rfl rfl (fun _ _ _ _ h => h) rfl ?_ (by assumption) ?_); rotate_left; (intro w; go_simp; (try (with_reducible rfl))); simp only [Act.put, List.setIfInBounds_toArray, List.set_cons_zero, List.set_cons_succ])
        ((refine AnyT.take 5 21 ?_ rfl (by kernel_rfl) (by kernel_rfl) (by kernel_rfl) (by kernel_rfl) rfl (by kernel_rfl) rfl (fun _ _ _ _ h => h) rfl ?_ (by assumption) ?_); rotate_left; (intro w hSw; (try dsimp only at hSw); go_simp; (try (with_reducible rfl))); simp only [Act.put, List.setIfInBounds_toArray, List.set_cons_zero, List.set_cons_succ])
        ((refine AnyT.takeAny 6 22 ?_ rfl (by kernel_rfl) (by kernel_rfl) (by kernel_rfl) rfl rfl (fun _ _ _ _ h => h) rfl ?_ (by assumption) ?_); rotate_left; (intro w; go_simp; (try (with_reducible rfl))); simp only [Act.put, List.setIfInBounds_toArray, List.set_cons_zero, List.set_cons_succ])
        ((refine AnyT.takeAny 7 23 ?_ rfl (by kernel_rfl) (by kernel_rfl) (by kernel_rfl) rfl rfl (fun _ _ _ _ h => h) rfl ?_ (by assumption) ?_); rotate_left; (intro w; go_simp; (try (with_reducible rfl))); simp only [Act.put, List.setIfInBounds_toArray, List.set_cons_zero, List.set_cons_succ])
        ((refine AnyT.takeAny 8 24 ?_ rfl (by kernel_rfl) (by kernel_rfl) (by kernel_rfl) rfl rfl (fun _ _ _ _ h => h) rfl ?_ (by assumption) ?_); rotate_left; (intro w; go_simp; (try (with_reducible rfl))); simp only [Act.put, List.setIfInBounds_toArray, List.set_cons_zero, List.set_cons_succ])
        ((refine AnyT.take 9 25 ?_ rfl (by kernel_rfl) (by kernel_rfl) (by kernel_rfl) (by kernel_rfl) rfl (by kernel_rfl) rfl (fun _ _ _ _ h => h) rfl ?_ (by assumption) ?_); rotate_left; (intro w hSw; (try dsimp only at hSw); go_simp; (try (with_reducible rfl))); simp only [Act.put, List.setIfInBounds_toArray, List.set_cons_zero, List.set_cons_succ])
        have hgw : g < wr.heap.size := by have := HW.out.lt; omega
        have HBA := Lib.hid (show Below wr.heap.size wr (wr.alloc (.cells #[.string ypt] 9)).drew from ((Below.refl wr.heap.size wr).alloc (Nat.le_refl _) (.cells #[.string ypt] 9)).drew)
        have HCB := Lib.hid (show (wr.alloc (.cells #[.string ypt] 9)).drew.cell? ⟨wr.heap.size, 0, none⟩ = some (.string ypt) from (Blk.new wr 9 #[.string ypt]).cell 0)
        have HSZ := Lib.hid (show (wr.alloc (.cells #[.string ypt] 9)).drew.heap.size = wr.heap.size + 1 by show (wr.alloc _).heap.size = _; simp)
        have HOW := Lib.hid (show (wr.alloc (.cells #[.string ypt] 9)).drew.ownsRow lo 9 1 (.slice L yls.length c) yls.length (yls.map Value.string) from own_below ((HW.out.own.own _ (List.mem_of_getElem (by rw [List.getElem_set_self] : (xs.set j ⟨⟨ynm, yls, ypt, yat⟩, L, c⟩)[j]'(by rw [List.length_set]; exact HJ.out) = ⟨⟨ynm, yls, ypt, yat⟩, L, c⟩))).1) HBA.out)
        ((refine AnyT.one (i := 10) (by kernel_rfl) rfl (fun K hK => ?_)))
        go_simp
        refine hK.out _ _ ⟨(HBA.out.cell (p := ⟨g, j * 4 + 1, none⟩) hgw).trans f1, (HBA.out.cell (p := ⟨g, j * 4 + 2, none⟩) hgw).trans f2⟩ (fun hHeld => ?_)
        clear hK K
        (try simp only [Act.put, List.setIfInBounds_toArray, List.set_cons_zero, List.set_cons_succ])
        generalize hWA : (wr.alloc (.cells #[.string ypt] 9)).drew = wa at *
        clear hWA
        ((refine AnyT.one (i := 11) (by kernel_rfl) rfl (fun K hK => ?_)))
        refine step_appStr (by rfl) (.tmp 21) (.tmp 26) 22 (by rfl) Try.underlying22 wa lo (.slice L yls.length c) yls ypt yls.length (by rfl) HOW.out wr.heap.size (by rfl) HCB.out (by omega) (by have := HSZ.out; omega) ?_
        intro A6 c6 w6 hr6 hg6 hat6
        have hgy : (Value.slice L yls.length c).ownBlock ≠ some g := by
          intro e
          exact HW.out.own.far _ (List.mem_of_getElem (by rw [List.getElem_set_self] : (xs.set j ⟨⟨ynm, yls, ypt, yat⟩, L, c⟩)[j]'(by rw [List.length_set]; exact HJ.out) = ⟨⟨ynm, yls, ypt, yat⟩, L, c⟩)) g e rfl
        have hg6k : w6.heap[g]? = wa.heap[g]? := hg6.block g (by have := HSZ.out; omega) (fun e => hgy e.symm)
        have c61 := (World.cell?_of_block (a := ⟨g, j * 4 + 1, none⟩) hg6k).trans hHeld.1
        have c62 := (World.cell?_of_block (a := ⟨g, j * 4 + 2, none⟩) hg6k).trans hHeld.2
        refine hK.out _ _ ⟨c61, c62⟩ (fun hHeld => ?_)
        clear hK K
        (try simp only [Act.put, List.setIfInBounds_toArray, List.set_cons_zero, List.set_cons_succ])
        have HL6 := Lib.hid (WrF.line (A := A6) (c := c6) (s := ypt) (wa := wa) (w6 := w6) HW.out HN.out HJ.out hgm hlg hlr HBA.out hr6 hg6 hat6)
        have HZ6 := Lib.hid (show w6.frozen? ⟨g, j * 4 + 1, none⟩ = false ∧ w6.frozen? ⟨g, j * 4 + 2, none⟩ = false from ⟨(show _ = wa.frozen? ⟨g, j * 4 + 1, none⟩ by unfold World.frozen?; rw [hg6k]).trans ((HBA.out.frozen (p := ⟨g, j * 4 + 1, none⟩) hgw).trans z1), (show _ = wa.frozen? ⟨g, j * 4 + 2, none⟩ by unfold World.frozen?; rw [hg6k]).trans ((HBA.out.frozen (p := ⟨g, j * 4 + 2, none⟩) hgw).trans z2)⟩)
        ((refine AnyT.takeAny 12 28 ?_ rfl (by kernel_rfl) (by kernel_rfl) (by kernel_rfl) rfl rfl (fun _ _ _ _ h => h) rfl ?_ (by assumption) ?_); rotate_left; (intro w; go_simp; (try (with_reducible rfl))); simp only [Act.put, List.setIfInBounds_toArray, List.set_cons_zero, List.set_cons_succ])
        ((refine AnyT.takeAny 13 29 ?_ rfl (by kernel_rfl) (by kernel_rfl) (by kernel_rfl) rfl rfl (fun _ _ _ _ h => h) rfl ?_ (by assumption) ?_); rotate_left; (intro w; go_simp; (try (with_reducible rfl))); simp only [Act.put, List.setIfInBounds_toArray, List.set_cons_zero, List.set_cons_succ])
        obtain ⟨zz1, zz2⟩ := HZ6.out
        ((refine AnyT.last (i := 14) (by kernel_rfl) rfl (by kernel_rfl) (fun K hK => ?_)))
        go_simp
        refine hK.out _ _ ?_
        clear hK K
        (try simp only [Act.put, List.setIfInBounds_toArray, List.set_cons_zero, List.set_cons_succ])
        ((refine AnyT.last (i := 15) (by kernel_rfl) rfl (by kernel_rfl) (fun K hK => ?_)))
        go_simp
        refine hK.out _ _ ?_
        clear hK K
        (try simp only [Act.put, List.setIfInBounds_toArray, List.set_cons_zero, List.set_cons_succ])
        ((refine AnyT.last (i := 16) (by kernel_rfl) rfl (by kernel_rfl) (fun K hK => ?_)))
        go_simp
        refine hK.out _ _ ?_
        clear hK K
        (try simp only [Act.put, List.setIfInBounds_toArray, List.set_cons_zero, List.set_cons_succ])
        ((refine AnyT.last (i := 17) (by kernel_rfl) rfl (by kernel_rfl) (fun K hK => ?_)))
        go_simp
        refine hK.out _ _ ?_
        clear hK K
        (try simp only [Act.put, List.setIfInBounds_toArray, List.set_cons_zero, List.set_cons_succ])
        refine AnyT.done (by kernel_rfl) ?_ _
        have HL7 := Lib.hid (HL6.out.part HN.out HJ.out hgm hlg ⟨#[]⟩)
        generalize (w6.setCell ⟨g, j * 4 + 1, none⟩ (.slice A6 (yls.length + 1) c6)).setCell ⟨g, j * 4 + 2, none⟩ (.string ⟨#[]⟩) = w7 at *
        clear c61 c62 hg6k hgy hr6 hg6 hat6 hHeld zz1 zz2 HZ6 HL6 HBA HCB HSZ HOW f1 z1 f2 z2
        have f1 := (HL7.out.own.at_ HN.out HJ.out 1 (by omega) (.slice A6 (yls.length + 1) c6) (by simp [Fx.cells, Fx.sl])).1
        have f2 := (HL7.out.own.at_ HN.out HJ.out 2 (by omega) (.string ⟨#[]⟩) rfl).1
        by_cases hfit : yls.length + 1 ≤ 20
        · have HF := Lib.hid (HSTEP.out.1 (by rw [HS.out]; unfold fitsB; simp [ByteArray.size]; omega)); clear HSTEP
          rw [HS.out] at HF
          go_wp2_with fail
          go_roundw
          case rel => exact ⟨k + 1, by omega, by go_num, _, HF.out.1, HF.out.2, HL7.out⟩
          case measure => simp [intOf]; omega
        · have HF := Lib.hid (HSTEP.out.2 (by rw [HS.out]; unfold fitsB; simp [ByteArray.size]; omega)); clear HSTEP
          go_wp2_with fail
          go_ret
          exact ⟨by rw [HF.out]; rfl, HB1.out.trans HL7.out.low, fun h => by rw [HF.out] at h; cases h⟩
      · have t10 := byte_not_ten h10
        have HS := Lib.hid (show wrB ⟨ynm, yls, ypt, yat⟩ ch = ⟨ynm, yls, ypt ++ ⟨#[ch]⟩, yat⟩ by unfold wrB; rw [if_neg h10])
        clear h10
        go_wp2_with fail
        refine AnyT.region (fun i => decide (10 ≤ i)) (fun w' => w'.cell? ⟨g, j * 4 + 2, none⟩ = some (.string ypt)) (by kernel_rfl) f2 (fun hHeld => ?_)
        ((refine AnyT.takeAny 0 32 ?_ rfl (by kernel_rfl) (by kernel_rfl) (by kernel_rfl) rfl rfl (fun _ _ _ _ h => h) rfl ?_ (by assumption) ?_); rotate_left; (intro w; go_simp; (try (with_reducible rfl))); simp only [Act.put, List.setIfInBounds_toArray, List.set_cons_zero, List.set_cons_succ])
        ((refine AnyT.takeAny 1 33 ?_ rfl (by kernel_rfl) (by kernel_rfl) (by kernel_rfl) rfl rfl (fun _ _ _ _ h => h) rfl ?_ (by assumption) ?_); rotate_left; (intro w; go_simp; (try (with_reducible rfl))); simp only [Act.put, List.setIfInBounds_toArray, List.set_cons_zero, List.set_cons_succ])
        ((refine AnyT.takeAny 2 34 ?_ rfl (by kernel_rfl) (by kernel_rfl) (by kernel_rfl) rfl rfl (fun _ _ _ _ h => h) rfl ?_ (by assumption) ?_); rotate_left; (intro w; go_simp; (try (with_reducible rfl))); simp only [Act.put, List.setIfInBounds_toArray, List.set_cons_zero, List.set_cons_succ])
        ((refine AnyT.take 3 35 ?_ rfl (by kernel_rfl) (by kernel_rfl) (by kernel_rfl) (by kernel_rfl) rfl (by kernel_rfl) rfl (fun _ _ _ _ h => h) rfl ?_ (by assumption) ?_); rotate_left; (intro w hSw; (try dsimp only at hSw); go_simp; (try (with_reducible rfl))); simp only [Act.put, List.setIfInBounds_toArray, List.set_cons_zero, List.set_cons_succ])
        ((refine AnyT.takeAny 4 36 ?_ rfl (by kernel_rfl) (by kernel_rfl) (by kernel_rfl) rfl rfl (fun _ _ _ _ h => h) rfl ?_ (by assumption) ?_); rotate_left; (intro w; go_simp; (try (with_reducible rfl))); simp only [Act.put, List.setIfInBounds_toArray, List.set_cons_zero, List.set_cons_succ])
        have hgw : g < wr.heap.size := by have := HW.out.lt; omega
        have HBA := Lib.hid (show Below wr.heap.size wr (wr.alloc (.cells #[.int .u8 (ch.toNat : Int)] 5)).drew from ((Below.refl wr.heap.size wr).alloc (Nat.le_refl _) (.cells #[.int .u8 (ch.toNat : Int)] 5)).drew)
        have hcv := run_one_byte_drew (P := Try.prog) 109 9 5 Try.underlying109 Try.underlying5 Try.underlying9 wr (ch.toNat : Int) 1
        rw [byte_back] at hcv
        have HZ6 := Lib.hid ((HBA.out.frozen (p := ⟨g, j * 4 + 2, none⟩) hgw).trans z2)
        ((refine AnyT.one (i := 5) (by kernel_rfl) rfl (fun K hK => ?_)))
        go_simp
        refine hK.out _ _ ((HBA.out.cell (p := ⟨g, j * 4 + 2, none⟩) hgw).trans f2) (fun hHeld => ?_)
        clear hK K
        (try simp only [Act.put, List.setIfInBounds_toArray, List.set_cons_zero, List.set_cons_succ])
        generalize hWA : (wr.alloc (.cells #[.int .u8 (ch.toNat : Int)] 5)).drew = wa at *
        clear hWA
        ((refine AnyT.one (i := 6) (by kernel_rfl) rfl (fun K hK => ?_)))
        go_simp
        refine hK.out _ _ hHeld (fun hHeld => ?_)
        clear hK K
        (try simp only [Act.put, List.setIfInBounds_toArray, List.set_cons_zero, List.set_cons_succ])
        have HNS := Lib.hid (show (ypt ++ (⟨#[ch]⟩ : ByteArray)).size = ypt.size + 1 by rw [ByteArray.size_append]; rfl)
        have hbig : ¬ (9223372036854775807 < ypt.size + 1) := by omega
        ((refine AnyT.takeAny 7 39 ?_ rfl (by kernel_rfl) (by kernel_rfl) (by kernel_rfl) rfl rfl (fun _ _ _ _ h => h) rfl ?_ (by assumption) ?_); rotate_left; (intro w; go_simp; (try (with_reducible rfl))); simp only [Act.put, List.setIfInBounds_toArray, List.set_cons_zero, List.set_cons_succ])
        clear hbig
        ((refine AnyT.takeAny 8 40 ?_ rfl (by kernel_rfl) (by kernel_rfl) (by kernel_rfl) rfl rfl (fun _ _ _ _ h => h) rfl ?_ (by assumption) ?_); rotate_left; (intro w; go_simp; (try (with_reducible rfl))); simp only [Act.put, List.setIfInBounds_toArray, List.set_cons_zero, List.set_cons_succ])
        ((refine AnyT.takeAny 9 41 ?_ rfl (by kernel_rfl) (by kernel_rfl) (by kernel_rfl) rfl rfl (fun _ _ _ _ h => h) rfl ?_ (by assumption) ?_); rotate_left; (intro w; go_simp; (try (with_reducible rfl))); simp only [Act.put, List.setIfInBounds_toArray, List.set_cons_zero, List.set_cons_succ])
        have zz := HZ6.out
        ((refine AnyT.last (i := 10) (by kernel_rfl) rfl (by kernel_rfl) (fun K hK => ?_)))
        go_simp
        refine hK.out _ _ ?_
        clear hK K
        (try simp only [Act.put, List.setIfInBounds_toArray, List.set_cons_zero, List.set_cons_succ])
        refine AnyT.done (by kernel_rfl) ?_ _
        have HL7 := Lib.hid ((HW.out.below hlr HBA.out).part HN.out HJ.out hgm hlg (ypt ++ ⟨#[ch]⟩))
        generalize wa.setCell ⟨g, j * 4 + 2, none⟩ (.string (ypt ++ ⟨#[ch]⟩)) = w7 at *
        clear hHeld zz HZ6 HBA hcv f1 z1 f2 z2
        have f1 := (HL7.out.own.at_ HN.out HJ.out 1 (by omega) (.slice L yls.length c) rfl).1
        have f2 := (HL7.out.own.at_ HN.out HJ.out 2 (by omega) (.string (ypt ++ ⟨#[ch]⟩)) rfl).1
        dsimp only at HL7
        generalize ypt ++ (⟨#[ch]⟩ : ByteArray) = np at *
        by_cases hfit : ypt.size + 1 ≤ 80
        · have hns : np.size ≤ 80 := by rw [HNS.out]; exact hfit
          have HF := Lib.hid (HSTEP.out.1 (by rw [HS.out]; unfold fitsB; simp; omega)); clear HSTEP
          rw [HS.out] at HF
          go_wp2_with fail
          go_roundw
          case rel => exact ⟨k + 1, by omega, by go_num, _, HF.out.1, HF.out.2, HL7.out⟩
          case measure => simp [intOf]; omega
        · have hns : 80 < np.size := by rw [HNS.out]; omega
          have HF := Lib.hid (HSTEP.out.2 (by rw [HS.out]; unfold fitsB; simp; omega)); clear HSTEP
          go_wp2_with fail
          go_ret
          exact ⟨by rw [HF.out]; rfl, HB1.out.trans HL7.out.low, fun h => by rw [HF.out] at h; cases h⟩
    · obtain rfl : k = text.size := by omega
      have htk : text.data.toList.take text.size = text.data.toList := List.take_of_length_le (by rw [Array.length_toList]; exact Nat.le_refl _)
      rw [htk] at hyf hok
      have HW := Lib.hid hW; have HY := Lib.hid hyf; have HOK := Lib.hid hok
      clear hW hyf hok htk
      go_wp2_with fail
      go_ret
      refine ⟨by rw [HOK.out]; rfl, HB1.out.trans HW.out.low, fun _ => ⟨y.L, y.c, ?_⟩⟩
      have := HW.out.own
      rw [← HY.out]
      exact this

end Go.Proofs.Ytcfmgmbolnifgaa

/- UseDevice plainly; a file put into a row of files of the call's own. -/
namespace Go.Proofs.Ytcfmgmbolnifgaa
open Go.RowKit

def filNew (nm : ByteArray) : Fil := ⟨nm, [], ⟨#[]⟩, 0⟩
def ins {α : Type} (k : Nat) (y : α) (xs : List α) : List α := xs.take k ++ y :: xs.drop k
theorem ins_len {α : Type} (k : Nat) (y : α) (xs : List α) : (ins k y xs).length = xs.length + 1 := by
  unfold ins
  rw [List.length_append, List.length_cons, List.length_take, List.length_drop]
  omega
theorem ins_map {α β : Type} (f : α → β) (k : Nat) (y : α) (xs : List α) : (ins k y xs).map f = ins k (f y) (xs.map f) := by
  unfold ins
  rw [List.map_append, List.map_cons, List.map_take, List.map_drop]
theorem ins_mem {α : Type} {k : Nat} {y x : α} {xs : List α} (h : x ∈ ins k y xs) : x = y ∨ x ∈ xs := by
  unfold ins at h
  rcases List.mem_append.1 h with h | h
  · exact .inr (List.mem_of_mem_take h)
  · rcases List.mem_cons.1 h with h | h
    · exact .inl h
    · exact .inr (List.mem_of_mem_drop h)
theorem ins_end {α : Type} (y : α) (xs : List α) : ins xs.length y xs = xs ++ [y] := by
  unfold ins
  rw [List.take_length, List.drop_length]

/-- What UseDevice gives for devices that are right and a name that is right. -/
def useDev (d : Dev) (nm : ByteArray) : Dev × Int :=
  if nm.size = 0 then (⟨0, d.scr, d.files, d.keys⟩, 0)
  else if thereB d.files nm then (⟨(place d.files nm : Int) + 1, d.scr, d.files, d.keys⟩, 0)
  else if d.files.length = 3 then (noDev, 4)
  else (⟨(place d.files nm : Int) + 1, d.scr, ins (place d.files nm) (filNew nm) d.files, d.keys⟩, 0)
def useP (d : Dev) (nm : ByteArray) : Dev × Int := if devB d && (decide (nm.size = 0) || nameB nm) then useDev d nm else (noDev, 1)

theorem useP_low (d : Dev) (nm : ByteArray) : DevLow (useP d nm).1 := by
  unfold useP
  split
  · rename_i h
    simp only [Bool.and_eq_true, Bool.or_eq_true, decide_eq_true_eq] at h
    have hl := (DevGood.of h.1).low
    unfold useDev
    split
    · exact ⟨hl.rows, hl.row, hl.files, hl.file, hl.keys, hl.key⟩
    · rename_i h0
      split
      · exact ⟨hl.rows, hl.row, hl.files, hl.file, hl.keys, hl.key⟩
      · split
        · exact noDev_low
        · have hn : nm.size ≤ 8 := by
            rcases h.2 with h2 | h2
            · exact absurd h2 h0
            · unfold nameB at h2
              simp only [Bool.and_eq_true, decide_eq_true_eq] at h2
              exact h2.1.2
          refine ⟨hl.rows, hl.row, ?_, fun f hf => ?_, hl.keys, hl.key⟩
          · have := (DevGood.of h.1).n3
            show (ins _ _ _).length ≤ 1000
            rw [ins_len]; omega
          · rcases ins_mem hf with rfl | hf
            · refine ⟨?_, ?_, ?_, fun y hy => by cases hy⟩
              · show nm.size ≤ 1000; omega
              · show (0 : Nat) ≤ 1000; omega
              · show (0 : Nat) ≤ 1000; omega
            · exact hl.file f hf
  · exact noDev_low

theorem flat_ins (k : Nat) (y : Fx) (xs : List Fx) : flat (ins k y xs) = (flat xs).take (k * 4) ++ y.cells ++ (flat xs).drop (k * 4) := by
  have ht : ∀ (k : Nat) (xs : List Fx), flat (xs.take k) = (flat xs).take (k * 4) ∧ flat (xs.drop k) = (flat xs).drop (k * 4) := by
    intro k
    induction k with
    | zero => intro xs; simp [flat]
    | succ k ih =>
      intro xs
      cases xs with
      | nil => simp [flat]
      | cons x xs =>
        have hc : x.cells.length = 4 := rfl
        have e : flat (x :: xs) = x.cells ++ flat xs := by simp [flat]
        rw [e, List.take_succ_cons, List.drop_succ_cons, (ih xs).2]
        have e2 : flat (x :: xs.take k) = x.cells ++ flat (xs.take k) := by simp [flat]
        rw [e2, (ih xs).1]
        have e3 : (k + 1) * 4 = x.cells.length + k * 4 := by rw [hc]; omega
        rw [e3, List.take_length_add_append, List.drop_length_add_append]
        exact ⟨rfl, rfl⟩
  unfold ins
  rw [flat_append, (ht k xs).1]
  have e : flat (y :: xs.drop k) = y.cells ++ flat (xs.drop k) := by simp [flat]
  rw [e, (ht k xs).2, List.append_assoc]

/-- A file without lines is put into the row. -/
theorem OwnFx.insert {w w' : World} {lo hi k g' cap' : Nat} {v : Value} {xs : List Fx} {y : Fx} (h : OwnFx w lo hi v xs) (hh : hi ≤ w.heap.size) (hy : y.sl = .slice none 0 0) (hyl : y.f.lines = [])
    (hg : w.grownBy w' v.ownBlock) (hat : v.ownBlock = some g' ∨ w.heap.size ≤ g')
    (hr : w'.ownsRow lo 91 4 (.slice (some ⟨g', 0, none⟩) (xs.length + 1) cap') (xs.length + 1) ((flat xs).take (k * 4) ++ y.cells ++ (flat xs).drop (k * 4))) :
    OwnFx w' lo w'.heap.size (.slice (some ⟨g', 0, none⟩) (xs.length + 1) cap') (ins k y xs) := by
  have hsz := hg.size
  have hyn : ∀ b, y.sl.ownBlock ≠ some b := fun b e => by rw [hy] at e; cases e
  have hgv : ∀ b, b < w.heap.size → v.ownBlock ≠ some b → (Value.slice (some ⟨g', 0, none⟩) (xs.length + 1) cap').ownBlock ≠ some b := by
    intro b hb hv e
    have : g' = b := by simpa [Value.ownBlock] using e
    subst this
    rcases hat with h1 | h1
    · exact hv h1
    · omega
  have hrow : w'.ownsRow lo 91 4 (.slice (some ⟨g', 0, none⟩) (xs.length + 1) cap') (ins k y xs).length (flat (ins k y xs)) := by
    rw [flat_ins, ins_len]; exact hr
  refine ⟨⟨some ⟨g', 0, none⟩, cap', by rw [ins_len]⟩, hrow, fun b hb => (hrow.lt b hb).2, fun x hx => ?_, fun x hx b hb => ?_, ?_⟩
  · rcases ins_mem hx with rfl | hx
    · refine ⟨?_, fun b hb => absurd hb (hyn b)⟩
      rw [hy, hyl]
      exact World.ownsRow_nil _ _ _ _
    · have h1 := own_grown (h.own x hx).1 hg (fun b hb e => h.far x hx b hb e)
      exact ⟨h1, fun b hb => (h1.lt b hb).2⟩
  · rcases ins_mem hx with rfl | hx
    · exact absurd hb (hyn b)
    · exact hgv b (by have := (h.own x hx).2 b hb; omega) (h.far x hx b hb)
  · have hp := h.apart
    rw [← List.take_append_drop k xs, List.pairwise_append] at hp
    unfold ins
    rw [List.pairwise_append]
    refine ⟨hp.1, List.pairwise_cons.2 ⟨fun x _ b hb => absurd hb (hyn b), hp.2.1⟩, fun a ha b hb => ?_⟩
    rcases List.mem_cons.1 hb with rfl | hb
    · exact fun c _ e => hyn c e
    · exact hp.2.2 a ha b hb

end Go.Proofs.Ytcfmgmbolnifgaa

/- slices.Insert at files, one file: walked. -/
namespace Go.Proofs.Ytcfmgmbolnifgaa
open Go.RowKit

theorem run_copy_at {P : Program} (w : World) (dT sT ty elem : TypeId) (i : TypeInfo) (b o dLen dCap : Nat) (a : Addr) (sLen sCap m : Nat) (cs : List Value)
    (hu : P.underlying dT = some (.slice elem)) (hi : P.info? elem = some i) (hm : Nat.min sLen dLen = m) (hn : cs.length = m * i.size)
    (hsrc : ∀ j v, cs[j]? = some v → w.cell? (a.add j) = some v) (hc : ∀ j, j < cs.length → (w.cell? ⟨b, o + j, none⟩).isSome = true) (hf : ∀ j, j < cs.length → w.frozen? ⟨b, o + j, none⟩ = false) (h1 : ∀ v ∈ cs, v.oneCell' = true) :
    (Builtin.copy_ #[dT, sT] ty #[.slice (some ⟨b, o, none⟩) dLen dCap, .slice (some a) sLen sCap]).run P w = .ok (goInt m) (w.setCells b o cs) := by
  have hl := run_loadCells_list (P := P) w a cs hsrc
  have hst := run_storeCells_cells (P := P) b o cs 0 w (by simpa using hc) (by simpa using hf) h1
  rw [hn] at hl
  simp [Builtin.copy_, run_underlying hu, Builtin.lenOf, Builtin.firstCells, sizeOf, typeInfo, hi, hm, hl, hst]

theorem ins_get {α : Type} (l m : List α) (a q : Nat) (h : a ≤ l.length) : (l.take a ++ m ++ l.drop a)[q]? = if q < a then l[q]? else if q < a + m.length then m[q - a]? else l[q - m.length]? := by
  have ha : (l.take a).length = a := by rw [List.length_take]; omega
  by_cases h1 : q < a
  · rw [if_pos h1, List.append_assoc, List.getElem?_append_left (by omega), List.getElem?_take, if_pos h1]
  · rw [if_neg h1]
    by_cases h2 : q < a + m.length
    · rw [if_pos h2, List.getElem?_append_left (by rw [List.length_append]; omega), List.getElem?_append_right (by omega), ha]
    · rw [if_neg h2, List.getElem?_append_right (by rw [List.length_append]; omega), List.getElem?_drop, List.length_append, ha]
      congr 1; omega

abbrev FnIns : Nat := 101

/-- What slices.Insert gives. -/
def InsPost (w : World) (base n k : Nat) (v : Value) (fl vs : List Value) (e : Ending) (w' : World) : Prop :=
  ∃ g' cap', e = .returned (.slice (some ⟨g', 0, none⟩) (n + 1) cap') ∧ w'.ownsRow base 91 4 (.slice (some ⟨g', 0, none⟩) (n + 1) cap') (n + 1) (fl.take (k * 4) ++ vs ++ fl.drop (k * 4)) ∧ w.grownBy w' v.ownBlock ∧ (v.ownBlock = some g' ∨ w.heap.size ≤ g')

theorem ins_row {w' : World} {base n k g cap : Nat} {fl vs : List Value} {cs : Array Value} (hfl : fl.length = n * 4) (hk : k ≤ n) (hv : vs.length = 4) (hb : base ≤ g) (hB : Blk w' g 91 cs) (hs : cs.size = cap * 4) (hn : n + 1 ≤ cap) (hm : cap ≤ maxLen)
    (hc : ∀ q, q < (n + 1) * 4 → cs[q]? = if q < k * 4 then fl[q]? else if q < k * 4 + 4 then vs[q - k * 4]? else fl[q - 4]?) :
    w'.ownsRow base 91 4 (.slice (some ⟨g, 0, none⟩) (n + 1) cap) (n + 1) (fl.take (k * 4) ++ vs ++ fl.drop (k * 4)) := by
  refine ⟨?_, .inr ⟨g, cap, cs, rfl, hb, hB, hn, hm, hs, ?_⟩⟩
  · rw [List.length_append, List.length_append, List.length_take, List.length_drop, hv, hfl]; omega
  · apply List.ext_getElem?
    intro q
    rw [ins_get fl vs (k * 4) q (by omega), hv]
    by_cases hq : q < (n + 1) * 4
    · rw [List.getElem?_take, if_pos hq, Array.getElem?_toList, hc q hq]
    · rw [List.getElem?_take, if_neg hq, if_neg (by omega), if_neg (by omega), List.getElem?_eq_none (by omega)]

set_option maxHeartbeats 4000000 in
set_option maxRecDepth 100000 in
theorem insertFil_end (v : Value) (n vb vc base : Nat) (fl vs : List Value) (w : World) (hown : w.ownsRow base 91 4 v n fl) (hn : n ≤ 1000) (hbase : base ≤ w.heap.size)
    (hvs : Blk w vb 91 vs.toArray) (hvl : vs.length = 4) (h1v : ∀ u ∈ vs, u.oneCell' = true) :
    Calls Try.prog FnIns #[v, .int .i64 n, .slice (some ⟨vb, 0, none⟩) 1 vc] w (InsPost w base n n v fl vs) := by
  obtain ⟨i0, hi0, hz0, hz1, hz2⟩ := info_parts infoFile
  have hfl : fl.length = n * 4 := hown.1
  have HFL := Lib.hid (show fl.take (n * 4) ++ vs ++ fl.drop (n * 4) = fl ++ vs by rw [← hfl, List.take_length, List.drop_length, List.append_nil])
  have HO := Lib.hid hown
  have HNW := Lib.hid (show ∀ j u, vs[j]? = some u → w.cell? ((⟨vb, 0, none⟩ : Addr).add j) = some u from fun j u hj => by rw [Addr.add_lit, Nat.zero_add, hvs.cell]; simpa using hj)
  have HON := Lib.hid h1v; have HVL := Lib.hid (show vs.length = 1 * 4 from hvl); have HB := Lib.hid hbase
  have H63 := Lib.hid (show n + 1 ≤ maxLen by unfold maxLen; omega)
  have H64 := Lib.hid (show (n + 1) * 64 ≤ 140737488355328 by omega)
  have HFIN := Lib.hid (fun g cap w' (h1 : w'.ownsRow base 91 4 (.slice (some ⟨g, 0, none⟩) (n + 1) cap) (n + 1) (fl ++ vs)) (h2 : w.grownBy w' v.ownBlock) (h3 : v.ownBlock = some g ∨ g = w.heap.size) =>
    show InsPost w base n n v fl vs (.returned (.slice (some ⟨g, 0, none⟩) (n + 1) cap)) w' from ⟨g, cap, rfl, by rw [HFL.out]; exact h1, h2, h3.imp id (fun h => Nat.le_of_eq h.symm)⟩)
  rcases hown.2 with ⟨hv, hn0⟩ | ⟨g, cap, cur, hv, hg, hh, hnc, hm, hsz, htk⟩
  · subst hv hn0
    clear hfl hown hvs hvl h1v hbase hn
    go_enter Try.func101, Try.ntmps101
    go_wp2_with (at_builtin; refine wpList_append_lies _ (by rfl) (.tmp 23) (.tmp 24) 59 (by rfl) base 91 i0 _ 4 64 Try.underlying59 hi0 hz0 hz1 hz2 rfl (by decide) (.slice none 0 0) 0 fl (by rfl) HO.out ⟨vb, 0, none⟩ 1 vc vs (by rfl) HVL.out HNW.out HON.out (by omega) H63.out H64.out HB.out _ rfl ?_; intro g cap w6 hr6 hg6 hat6 hlt6; have HE := Lib.hid (HFIN.out g cap w6 hr6 hg6 hat6); clear hr6 hg6 hat6)
    go_ret
    exact HE.out
  · subst hv
    unfold maxLen at hm
    clear hfl hown hvs hvl h1v hbase hn hh hsz htk
    go_enter Try.func101, Try.ntmps101
    go_wp2_with (at_builtin; refine wpList_append_lies _ (by rfl) (.tmp 23) (.tmp 24) 59 (by rfl) base 91 i0 _ 4 64 Try.underlying59 hi0 hz0 hz1 hz2 rfl (by decide) (.slice (some ⟨g, 0, none⟩) n cap) n fl (by rfl) HO.out ⟨vb, 0, none⟩ 1 vc vs (by rfl) HVL.out HNW.out HON.out (by omega) H63.out H64.out HB.out _ rfl ?_; intro g cap w6 hr6 hg6 hat6 hlt6; have HE := Lib.hid (HFIN.out g cap w6 hr6 hg6 hat6); clear hr6 hg6 hat6)
    all_goals (go_ret; exact HE.out)

theorem shape_blk {w : World} {g : Nat} {t : TypeId} {cs : Array Value} (h : Blk w g t cs) : w.shape? g = some (t, cs.size) := by
  unfold Blk at h
  simp [World.shape?, h]

set_option maxHeartbeats 8000000 in
set_option maxRecDepth 100000 in
theorem insertFil_shift (g n cap k vb vc base : Nat) (fl vs : List Value) (cur : Array Value) (w : World) (hB : Blk w g 91 cur) (hsz : cur.size = cap * 4) (htk : cur.toList.take (n * 4) = fl) (hbg : base ≤ g) (hk : k < n) (hroom : n + 1 ≤ cap) (hcap : cap ≤ 9223372036854775807) (hn : n ≤ 1000)
    (hvs : Blk w vb 91 vs.toArray) (hne : vb ≠ g) (hvl : vs.length = 4) (h1v : ∀ u ∈ vs, u.oneCell' = true) (h1f : ∀ u ∈ fl, u.oneCell' = true) :
    Calls Try.prog FnIns #[.slice (some ⟨g, 0, none⟩) n cap, .int .i64 k, .slice (some ⟨vb, 0, none⟩) 1 vc] w (InsPost w base n k (.slice (some ⟨g, 0, none⟩) n cap) fl vs) := by
  obtain ⟨i0, hi0, hz0, hz1, hz2⟩ := info_parts infoFile
  have hfl : fl.length = n * 4 := by rw [← htk, List.length_take, Array.length_toList, hsz]; omega
  have hcur : ∀ q, q < n * 4 → cur[q]? = fl[q]? := fun q hq => by rw [← htk, List.getElem?_take, if_pos hq, Array.getElem?_toList]
  have hdl : (fl.drop (k * 4)).length = (n - k) * 4 := by rw [List.length_drop, hfl]; omega
  have hov : ∀ lb cb, (callFunc 133 #[.slice (some ⟨vb, 0, none⟩) 1 vc, .slice (some ⟨g, (k + 1) * 4, none⟩) lb cb]).run Try.prog w = .ok (.value (.bool false)) w := fun lb cb => by
    rw [run_callFunc_extern Try.func133 (by kernel_rfl) (by kernel_rfl) (by kernel_rfl) (e := Extern.SlicesOverlaps.overlaps #[59, 59] #[4]) (by kernel_rfl),
      Lib.run_overlaps_apart w 59 4 91 Try.underlying59 4 (fun W => by kernel_rfl) ⟨vb, 0, none⟩ ⟨g, (k + 1) * 4, none⟩ 1 vc lb cb hne 91 91 _ _ (shape_blk hvs) (shape_blk hB) (by omega) (hvs.frozen _) (hvs.frozen _)]
    rfl
  obtain ⟨W1, hW1⟩ : ∃ W1, W1 = w.drew.setCells g ((k + 1) * 4) (fl.drop (k * 4)) := ⟨_, rfl⟩
  obtain ⟨c1, hB1, hs1, hc1⟩ := Blk.setCells (fl.drop (k * 4)) ((k + 1) * 4) w.drew cur (hB.drewN 1)
  have o1 := setCells_same g (fl.drop (k * 4)) ((k + 1) * 4) w.drew
  rw [← hW1] at hB1 o1
  have hV1 : Blk W1 vb 91 vs.toArray := (o1.2.2.2.2 vb hne).trans hvs
  have hcp1 : ∀ ty dc sc, (Builtin.copy_ #[59, 59] ty #[.slice (some ⟨g, (k + 1) * 4, none⟩) (n - k) dc, .slice (some ⟨g, k * 4, none⟩) (n + 1 - k) sc]).run Try.prog w.drew = .ok (goInt ((n - k : Nat) : Int)) W1 := fun ty dc sc => by
    rw [hW1]
    exact run_copy_at w.drew _ _ ty 91 i0 g ((k + 1) * 4) (n - k) dc ⟨g, k * 4, none⟩ (n + 1 - k) sc (n - k) (fl.drop (k * 4)) Try.underlying59 hi0 (by simp only [Nat.min_def]; split <;> omega) (by rw [hdl, hz1])
      (fun j v hj => by
        rw [Addr.add_lit]
        rw [List.getElem?_drop] at hj
        have hq : k * 4 + j < n * 4 := by have := (List.getElem?_eq_some_iff.1 hj).1; omega
        exact ((hB.cell _).trans (hcur _ hq)).trans hj)
      (fun j hj => by
        show (w.cell? _).isSome = true
        rw [hB.cell, Array.getElem?_eq_getElem (by omega)]; rfl)
      (fun j _ => hB.frozen _) (fun v hv => h1f v (List.mem_of_mem_drop hv))
  have hcp2 : ∀ ty dc, (Builtin.copy_ #[59, 59] ty #[.slice (some ⟨g, k * 4, none⟩) (n + 1 - k) dc, .slice (some ⟨vb, 0, none⟩) 1 vc]).run Try.prog W1 = .ok (goInt ((1 : Nat) : Int)) (W1.setCells g (k * 4) vs) := fun ty dc =>
    run_copy_at W1 _ _ ty 91 i0 g (k * 4) (n + 1 - k) dc ⟨vb, 0, none⟩ 1 vc 1 vs Try.underlying59 hi0 (by simp only [Nat.min_def]; split <;> omega) (by rw [hvl, hz1])
      (fun j v hj => by rw [Addr.add_lit, Nat.zero_add, hV1.cell]; simpa using hj)
      (fun j hj => by rw [hB1.cell, Array.getElem?_eq_getElem (by omega)]; rfl) (fun j _ => hB1.frozen _) h1v
  obtain ⟨c2, hB2, hs2, hc2⟩ := Blk.setCells vs (k * 4) W1 c1 hB1
  have o2 := setCells_same g vs (k * 4) W1
  have HFIN := Lib.hid (show InsPost w base n k (.slice (some ⟨g, 0, none⟩) n cap) fl vs (.returned (.slice (some ⟨g, 0, none⟩) (n + 1) cap)) (W1.setCells g (k * 4) vs) by
    refine ⟨g, cap, rfl, ins_row hfl (by omega) hvl hbg hB2 (by omega) hroom (by unfold maxLen; omega) (fun q hq => ?_), ⟨o2.1.trans o1.1, o2.2.1.trans o1.2.1, o2.2.2.1.trans o1.2.2.1, Nat.le_of_eq (o2.2.2.2.1.trans o1.2.2.2.1).symm, fun b _ hb => (o2.2.2.2.2 b (fun e => hb (by rw [e]; rfl))).trans (o1.2.2.2.2 b (fun e => hb (by rw [e]; rfl)))⟩, .inl rfl⟩
    rw [hc2 q, hc1 q, hvl, hdl]
    by_cases h1 : q < k * 4
    · rw [if_neg (by omega), if_neg (by omega), if_pos h1]
      exact hcur q (by omega)
    · rw [if_neg h1]
      by_cases h2 : q < k * 4 + 4
      · rw [if_pos h2, if_pos ⟨by omega, h2, by omega⟩]
      · rw [if_neg h2, if_neg (by omega), if_pos ⟨by omega, by omega, by omega⟩, List.getElem?_drop]
        congr 1; omega)
  have HOV := Lib.hid hov; have HC1 := Lib.hid hcp1; have HC2 := Lib.hid hcp2
  have b0 : (0 : Int) ≤ (k : Int) := by omega
  have b1 : (k : Int) ≤ (n : Int) := by omega
  have b2 : (n : Int) ≤ (cap : Int) := by omega
  have b3 : (n : Int) + 1 ≤ (cap : Int) := by omega
  have b4 : (0 : Int) ≤ (n : Int) + 1 := by omega
  have b5 : (k : Int) + 1 ≤ (n : Int) + 1 := by omega
  have b6 : (0 : Int) ≤ (k : Int) + 1 := by omega
  have b7 : (k : Int) ≤ (n : Int) + 1 := by omega
  have b8 : ((k : Int) + 1).toNat = k + 1 := by omega
  have b9 : ((n : Int) + 1).toNat = n + 1 := by omega
  have d1 : ¬ (cap = k + 1) := by omega
  have d2 : ¬ (cap = k) := by omega
  have d3 : ((k : Int) == (n : Int)) = false := by rw [beq_eq_false_iff_ne]; omega
  have d4 : decide ((cap : Int) < (n : Int) + 1) = false := decide_eq_false (by omega)
  have d5 : k + 1 ≤ n + 1 := by omega
  have d6 : k ≤ n + 1 := by omega
  have d7 : n + 1 ≤ cap := by omega
  have wr1 : IntKind.i64.wrap ((k : Int) + 1) = (k : Int) + 1 := IntWalk.i64_in _ (by omega)
  clear hW1 hB hsz htk hfl hcur hdl hov hcp1 hcp2 hB1 hs1 hc1 o1 hV1 hB2 hs2 hc2 o2 hvs hvl h1v h1f hbg hne hroom
  go_enter Try.func101, Try.ntmps101
  go_wp2_with (simp only [HOV.out])
  go_region_law (refine step_copy_runI rfl _ _ 59 59 rfl (.slice (some ⟨g, (k + 1) * 4, none⟩) (n - k) (cap - (k + 1))) (.slice (some ⟨g, k * 4, none⟩) (n + 1 - k) (cap - k)) (by simp [Act.eval, Act.put]) (by simp [Act.eval, Act.put]) (HC1.out _ (cap - (k + 1)) (cap - k)) ?_)
  go_wp2_with (refine wpList_copy_runI _ rfl (.tmp 80) (.tmp 81) 59 59 rfl (.slice (some ⟨g, k * 4, none⟩) (n + 1 - k) (cap - k)) (.slice (some ⟨vb, 0, none⟩) 1 vc) rfl rfl (HC2.out _ _) ?_)
  go_ret
  exact HFIN.out

set_option maxHeartbeats 8000000 in
set_option maxRecDepth 100000 in
theorem insertFil_grow (g n cap k vb vc base : Nat) (fl vs : List Value) (cur : Array Value) (w : World) (hB : Blk w g 91 cur) (hsz : cur.size = cap * 4) (htk : cur.toList.take (n * 4) = fl) (hbase : base ≤ w.heap.size) (hk : k < n) (hnc : n ≤ cap) (hroom : cap < n + 1) (hn : n ≤ 1000)
    (hvs : Blk w vb 91 vs.toArray) (hvl : vs.length = 4) (h1v : ∀ u ∈ vs, u.oneCell' = true) (h1f : ∀ u ∈ fl, u.oneCell' = true) :
    Calls Try.prog FnIns #[.slice (some ⟨g, 0, none⟩) n cap, .int .i64 k, .slice (some ⟨vb, 0, none⟩) 1 vc] w (InsPost w base n k (.slice (some ⟨g, 0, none⟩) n cap) fl vs) := by
  obtain ⟨i0, hi0, hz0, hz1, hz2⟩ := info_parts infoFile
  have hfl : fl.length = n * 4 := by rw [← htk, List.length_take, Array.length_toList, hsz]; omega
  have hcur : ∀ q, q < n * 4 → cur[q]? = fl[q]? := fun q hq => by rw [← htk, List.getElem?_take, if_pos hq, Array.getElem?_toList]
  have hdl : (fl.drop (k * 4)).length = (n - k) * 4 := by rw [List.length_drop, hfl]; omega
  have hgw := hB.lt
  have hvw := hvs.lt
  obtain ⟨G, hG⟩ : ∃ G, G = grownCap w (n + 1) cap 91 := ⟨_, rfl⟩
  have hGn : n + 1 ≤ G := by rw [hG]; exact grownCap_ge w _ _ _
  have hG63 : G ≤ 9223372036854775807 := by
    have := grownCap_le_maxLen w (n + 1) cap 91 (by unfold maxLen; omega)
    rw [← hG] at this; unfold maxLen at this; omega
  obtain ⟨Z, hZ⟩ : ∃ Z, Z = (Value.agg #[.string ⟨#[]⟩, .slice none 0 0, .string ⟨#[]⟩, .int .i64 0]).cells := ⟨_, rfl⟩
  obtain ⟨ROW, hROW⟩ : ∃ ROW : Array Value, ROW = (fl.take (k * 4)).toArray ++ Builtin.zeroCells Z (n + 1 - k) ++ Builtin.zeroCells Z (G - (n + 1)) := ⟨_, rfl⟩
  have hZs : Z.size = 4 := by rw [hZ]; rfl
  have hzc : ∀ m, (Builtin.zeroCells Z m).size = m * 4 := fun m => by rw [size_zeroCells, hZs]
  have hRs : ROW.size = G * 4 := by
    rw [hROW]
    simp only [Array.size_append, List.size_toArray, List.length_take, hzc, hfl]
    rw [Nat.min_eq_left (by omega)]
    omega
  have hRc : ∀ q, q < k * 4 → ROW[q]? = fl[q]? := fun q hq => by
    rw [hROW, Array.append_assoc, Array.getElem?_append_left (by simp [hfl]; omega)]
    simp [hq]
  have hold : (Builtin.firstCells i0.size k (.slice (some ⟨g, 0, none⟩) k cap)).run Try.prog w.drew = .ok (fl.take (k * 4)).toArray w.drew := by
    rw [hz1]
    refine run_firstCells_some w.drew 4 k ⟨g, 0, none⟩ k cap (fl.take (k * 4)) (by rw [List.length_take, hfl]; omega) (fun j v hj => ?_)
    rw [List.getElem?_take] at hj
    split at hj
    · rw [Addr.add_lit, Nat.zero_add]
      exact ((hB.cell _).trans (hcur _ (by omega))).trans hj
    · cases hj
  obtain ⟨W1, hW1⟩ : ∃ W1, W1 = w.drew.alloc (.cells ROW 91) := ⟨_, rfl⟩
  have hkk : (n : Int) + 1 - (k : Int) = ((n + 1 - k : Nat) : Int) := by omega
  have hik : k + (n + 1 - k) = n + 1 := by omega
  have hrz : ∀ ty, (Builtin.append_ #[59, 3] ty #[.slice (some ⟨g, 0, none⟩) k cap, .int .i64 ((n : Int) + 1 - (k : Int))]).run Try.prog w = .ok (.slice (some ⟨w.heap.size, 0, none⟩) (n + 1) G) W1 := fun ty => by
    have h := Lib.run_append_grow_zeros w 59 3 ty 91 i0 _ .i64 .i64 Try.underlying59 Try.underlying3 hi0 hz0 (some ⟨g, 0, none⟩) k cap (fl.take (k * 4)) hold (n + 1 - k) (by omega) (by omega) (by omega) (by omega) (by rw [hz2]; omega) (by rw [hz2, hik]; exact growslice_fits hroom (by omega))
    rw [hik] at h
    rw [hkk, h, ← hG, ← hZ, ← hROW, ← hW1]
  have hB1 : Blk W1 w.heap.size 91 ROW := by rw [hW1]; exact Blk.new w.drew 91 ROW
  have ho1 : ∀ b, b < w.heap.size → W1.heap[b]? = w.heap[b]? := fun b hb => by rw [hW1]; exact Below.heap_alloc w.drew _ b hb
  have hz1' : W1.heap.size = w.heap.size + 1 := by rw [hW1]; simp
  obtain ⟨W2, hW2⟩ : ∃ W2, W2 = W1.setCells w.heap.size (k * 4) vs := ⟨_, rfl⟩
  obtain ⟨c2, hB2, hs2, hc2⟩ := Blk.setCells vs (k * 4) W1 ROW hB1
  have o2 := setCells_same w.heap.size vs (k * 4) W1
  have hV1 : Blk W1 vb 91 vs.toArray := (ho1 vb hvw).trans hvs
  have hcpA : ∀ ty dc, (Builtin.copy_ #[59, 59] ty #[.slice (some ⟨w.heap.size, k * 4, none⟩) (n + 1 - k) dc, .slice (some ⟨vb, 0, none⟩) 1 vc]).run Try.prog W1 = .ok (goInt ((1 : Nat) : Int)) W2 := fun ty dc => by
    rw [hW2]
    exact run_copy_at W1 _ _ ty 91 i0 w.heap.size (k * 4) (n + 1 - k) dc ⟨vb, 0, none⟩ 1 vc 1 vs Try.underlying59 hi0 (by simp only [Nat.min_def]; split <;> omega) (by rw [hvl, hz1])
      (fun j v hj => by rw [Addr.add_lit, Nat.zero_add, hV1.cell]; simpa using hj)
      (fun j hj => by rw [hB1.cell, Array.getElem?_eq_getElem (by omega)]; rfl) (fun j _ => hB1.frozen _) h1v
  rw [← hW2] at hB2 o2
  have hg2 : Blk W2 g 91 cur := ((o2.2.2.2.2 g (by omega)).trans (ho1 g hgw)).trans hB
  obtain ⟨W3, hW3⟩ : ∃ W3, W3 = W2.drew.setCells w.heap.size ((k + 1) * 4) (fl.drop (k * 4)) := ⟨_, rfl⟩
  obtain ⟨c3, hB3, hs3, hc3⟩ := Blk.setCells (fl.drop (k * 4)) ((k + 1) * 4) W2.drew c2 (hB2.drewN 1)
  have o3 := setCells_same w.heap.size (fl.drop (k * 4)) ((k + 1) * 4) W2.drew
  have hcpB : ∀ ty dc sc, (Builtin.copy_ #[59, 59] ty #[.slice (some ⟨w.heap.size, (k + 1) * 4, none⟩) (n - k) dc, .slice (some ⟨g, k * 4, none⟩) (n - k) sc]).run Try.prog W2.drew = .ok (goInt ((n - k : Nat) : Int)) W3 := fun ty dc sc => by
    rw [hW3]
    exact run_copy_at W2.drew _ _ ty 91 i0 w.heap.size ((k + 1) * 4) (n - k) dc ⟨g, k * 4, none⟩ (n - k) sc (n - k) (fl.drop (k * 4)) Try.underlying59 hi0 (by simp only [Nat.min_def]; split <;> omega) (by rw [hdl, hz1])
      (fun j v hj => by
        rw [Addr.add_lit]
        rw [List.getElem?_drop] at hj
        have hq : k * 4 + j < n * 4 := by have := (List.getElem?_eq_some_iff.1 hj).1; omega
        exact ((hg2.cell _).trans (hcur _ hq)).trans hj)
      (fun j hj => by
        show (W2.cell? _).isSome = true
        rw [hB2.cell, Array.getElem?_eq_getElem (by omega)]; rfl)
      (fun j _ => hB2.frozen _) (fun v hv => h1f v (List.mem_of_mem_drop hv))
  rw [← hW3] at hB3 o3
  have HFIN := Lib.hid (show InsPost w base n k (.slice (some ⟨g, 0, none⟩) n cap) fl vs (.returned (.slice (some ⟨w.heap.size, 0, none⟩) (n + 1) G)) W3 by
    have e1 : W1.os = w.os ∧ W1.tape = w.tape ∧ W1.output = w.output := by rw [hW1]; exact ⟨rfl, rfl, rfl⟩
    refine ⟨w.heap.size, G, rfl, ins_row hfl (by omega) hvl hbase hB3 (by omega) hGn (by unfold maxLen; omega) (fun q hq => ?_), ⟨o3.1.trans (o2.1.trans e1.1), o3.2.1.trans (o2.2.1.trans e1.2.1), o3.2.2.1.trans (o2.2.2.1.trans e1.2.2), ?_, fun b hb _ => (o3.2.2.2.2 b (by omega)).trans ((o2.2.2.2.2 b (by omega)).trans (ho1 b hb))⟩, .inr (Nat.le_refl _)⟩
    · rw [hc3 q, hc2 q, hvl, hdl]
      by_cases h1 : q < k * 4
      · rw [if_neg (by omega), if_neg (by omega), if_pos h1]
        exact hRc q h1
      · rw [if_neg h1]
        by_cases h2 : q < k * 4 + 4
        · rw [if_pos h2, if_neg (by omega), if_pos ⟨by omega, h2, by omega⟩]
        · rw [if_neg h2, if_pos ⟨by omega, by omega, by omega⟩, List.getElem?_drop]
          congr 1; omega
    · have h3 : W3.heap.size = W2.heap.size := o3.2.2.2.1
      have h2 : W2.heap.size = W1.heap.size := o2.2.2.2.1
      omega)
  have HRZ := Lib.hid hrz; have HCA := Lib.hid hcpA; have HCB := Lib.hid hcpB
  have b0 : (0 : Int) ≤ (k : Int) := by omega
  have b1 : (k : Int) ≤ (n : Int) := by omega
  have b2 : (n : Int) ≤ (cap : Int) := by omega
  have b3 : (k : Int) ≤ (n : Int) + 1 := by omega
  have b4 : (n : Int) + 1 ≤ (G : Int) := by omega
  have b5 : (k : Int) + 1 ≤ (n : Int) + 1 := by omega
  have b6 : (0 : Int) ≤ (k : Int) + 1 := by omega
  have b8 : ((k : Int) + 1).toNat = k + 1 := by omega
  have d1 : ¬ (G = k + 1) := by omega
  have d2 : ¬ (G = k) := by omega
  have d0 : ¬ (cap = k) := by omega
  have d3 : ((k : Int) == (n : Int)) = false := by rw [beq_eq_false_iff_ne]; omega
  have d4 : decide ((cap : Int) < (n : Int) + 1) = true := decide_eq_true (by omega)
  have d5 : k + 1 ≤ n + 1 := by omega
  have d6 : k ≤ n + 1 := by omega
  have d7 : k ≤ n := by omega
  have wr1 : IntKind.i64.wrap ((k : Int) + 1) = (k : Int) + 1 := IntWalk.i64_in _ (by omega)
  clear hW1 hW2 hW3 hB hsz htk hfl hcur hdl hG hZ hROW hZs hzc hRs hRc hold hkk hik hrz hB1 ho1 hz1' hB2 hs2 hc2 o2 hV1 hcpA hg2 hB3 hs3 hc3 o3 hcpB hvs hvl h1v h1f hbase
  go_enter Try.func101, Try.ntmps101
  go_wp2_with (first | (at_builtin; refine Lib.wpList_append_run _ rfl _ _ _ _ rfl _ _ rfl rfl _ _ (HRZ.out _) ?_) | (refine wpList_copy_runI _ rfl (.tmp 43) (.tmp 44) 59 59 rfl (.slice (some ⟨w.heap.size, k * 4, none⟩) (n + 1 - k) (G - k)) (.slice (some ⟨vb, 0, none⟩) 1 vc) rfl rfl (HCA.out _ _) ?_))
  go_region_law (refine step_copy_runI rfl _ _ 59 59 rfl (.slice (some ⟨w.heap.size, (k + 1) * 4, none⟩) (n - k) (G - (k + 1))) (.slice (some ⟨g, k * 4, none⟩) (n - k) (cap - k)) (by simp [Act.eval, Act.put]) (by simp [Act.eval, Act.put]) (HCB.out _ (G - (k + 1)) (cap - k)) ?_)
  go_wp2
  go_ret
  exact HFIN.out

theorem insertFil_any (v : Value) (n k vb vc base : Nat) (fl vs : List Value) (w : World) (hown : w.ownsRow base 91 4 v n fl) (hk : k ≤ n) (hn : n ≤ 1000) (hbase : base ≤ w.heap.size)
    (hvs : Blk w vb 91 vs.toArray) (hne : v.ownBlock ≠ some vb) (hvl : vs.length = 4) (h1v : ∀ u ∈ vs, u.oneCell' = true) (h1f : ∀ u ∈ fl, u.oneCell' = true) :
    Calls Try.prog FnIns #[v, .int .i64 k, .slice (some ⟨vb, 0, none⟩) 1 vc] w (InsPost w base n k v fl vs) := by
  by_cases he : k = n
  · subst he
    exact insertFil_end v k vb vc base fl vs w hown hn hbase hvs hvl h1v
  · rcases hown.2 with ⟨hv, hn0⟩ | ⟨g, cap, cur, hv, hg, hh, hnc, hm, hsz, htk⟩
    · omega
    · subst hv
      unfold maxLen at hm
      by_cases hr : n + 1 ≤ cap
      · exact insertFil_shift g n cap k vb vc base fl vs cur w hh hsz htk hg (by omega) hr (by omega) hn hvs (fun e => hne (by rw [e]; rfl)) hvl h1v h1f
      · exact insertFil_grow g n cap k vb vc base fl vs cur w hh hsz htk hbase (by omega) hnc (by omega) hn hvs hvl h1v h1f

end Go.Proofs.Ytcfmgmbolnifgaa
