/- l09OwnTree of the reference walked: nodes in a row that grows. -/
import Derived.Test.YtlodlplfmpikjaaGreatCpyT
namespace Go.Proofs.YtlodlplfmpikjaaGreat
open Go.RowKit

/-- An empty literal row, laid behind W. -/
theorem lit0_own {t : TypeId} {k : Nat} (W : World) (base : Nat) (hb : base ≤ W.heap.size) : (W.alloc (.cells #[] t)).ownsRow base t k (.slice (some ⟨W.heap.size, 0, none⟩) 0 0) 0 [] := by
  have := World.ownsRow_lit (base := base) (e := t) (size := k) W #[] 0 hb (by simp) (by simp)
  simpa using this

set_option maxHeartbeats 4000000 in
set_option maxRecDepth 100000 in
theorem l09OwnTree_f (x0 : List TyNode) (A0 : Option Addr) (c0 lo hi : Nat) (w : World) (h : shTree.R w lo hi [.slice A0 x0.length c0] x0) (hhi : hi ≤ w.heap.size) (hf : shTree.fit 1048576 x0) :
    Calls Tryz.prog 60 #[.agg #[.slice A0 x0.length c0]] w fun e w' => ∃ (B0 : Option Addr) (d0 : Nat), e = .returned (.agg #[.slice B0 x0.length d0]) ∧ Own shTree w' w.heap.size w'.heap.size [.slice B0 x0.length d0] x0 ∧ Below w.heap.size w w' := by
  have hn : x0.length ≤ 1048576 := hf.1
  have HA := Lib.hid (show (Sh.row 150 shNode).R w lo hi [.slice A0 x0.length c0] x0 from h); have HF := Lib.hid (show ∀ x ∈ x0, shNode.fit 1048576 x from hf.2)
  clear h hf
  have T0 := Lib.hid (Three.start w 103 103 103 #[.slice A0 x0.length c0] #[.slice none 0 0] #[.slice none 0 0])
  go_enter Tryz.func60, Tryz.ntmps60
  go_wp2_with fail
  go_loopw [4] (fun i wr => ∃ (k : Nat) (B : Option Addr) (d : Nat), k ≤ x0.length ∧ i = .int .i64 k ∧ Three w wr 103 103 103 #[.slice A0 x0.length c0] #[.slice none 0 0] #[.slice B k d] ∧ Own (Sh.row 150 shNode) wr (w.heap.size + 1 + 1 + 1) wr.heap.size [.slice B k d] (x0.take k)) (fun i _ => x0.length - (intOf i).toNat)
  case atStart => exact ⟨0, none, 0, Nat.zero_le _, rfl, T0.out, Own.nil_row _ _ _⟩
  case round =>
    obtain ⟨k, B, d, hk, rfl, hT, hO⟩ := hrel
    have f0 := hT.1.cell
    by_cases hlt : k < x0.length
    · obtain ⟨-, b, off, rfl, hb1, hb2, A1, c1, e100, e101, e102, hX⟩ := shNode_at ((Sh.row 150 shNode).R_below HA.out hT.2.2.2 hhi) hlt
      have HX := Lib.hid (HF.out _ (getD_in (d := shNode.d) hlt))
      have HTK := Lib.hid (take_succ_getD shNode hlt)
      generalize x0.getD k shNode.d = X at *
      obtain ⟨y0, y1, y2⟩ := X
      dsimp only at e100 e101 e102
      have hn1 : y1.length ≤ 1048576 := HX.out.2.1.1
      have hsz := hT.2.2.2.size
      have hs0 : w.heap.size + 1 + 1 < wr.heap.size := hT.2.2.1.lt
      have hwi : hi ≤ wr.heap.size := Nat.le_trans hhi hsz
      have hbA := (Below.refl wr.heap.size wr).alloc (Nat.le_refl _) (.cells #[.string y0, .slice A1 y1.length c1, .string y2] 150)
      have hbB := hbA.alloc (by simp) (.cells #[] 9)
      have HT := Lib.hid (hT.call hbB)
      have HO := Lib.hid (hO.below hbB (Nat.le_refl _))
      have HR := Lib.hid (rowG_of_shape (shNode_f1 (shNode.R_below hX hbB hwi)))
      have HL := Lib.hid (lit0_own (t := 9) (k := shS.k) (wr.alloc (.cells #[.string y0, .slice A1 y1.length c1, .string y2] 150)) (wr.heap.size + 1) (by simp))
      have B5 := Lib.hid ((Blk.new wr 150 #[.string y0, .slice A1 y1.length c1, .string y2]).alloc (.cells #[] 9))
      have hs1 : wr.heap.size + 1 ≤ ((wr.alloc (.cells #[.string y0, .slice A1 y1.length c1, .string y2] 150)).alloc (.cells #[] 9)).heap.size := by simp
      have e1 : (wr.alloc (.cells #[.string y0, .slice A1 y1.length c1, .string y2] 150)).heap.size = wr.heap.size + 1 := by simp
      rw [e1] at HL
      clear hT hO hX hbA hbB e1
      go_wp2_with (at_builtin; refine wpList_growR (s := shS) rfl (.tmp 19) (.tmp 21) 22 rfl Tryz.underlying22 rfl (by decide) (by decide) infoString flatText _ (wr.heap.size + 1) lo hi _ A1 c1 y1 rfl HL.out rfl HR.out (by omega) hs1 ?_)
      intro Bs ds ws hos hbs
      have hss : wr.heap.size + 1 ≤ ws.heap.size := Nat.le_trans hs1 hbs.size
      have HTS := Lib.hid (HT.out.below3 (hbs.mono (by omega)))
      have BS := Lib.hid (B5.out.below hbs (Nat.lt_succ_self _))
      have HOS := Lib.hid (HO.out.below hbs (Nat.le_succ _))
      have HES := Lib.hid hos
      have f5 := BS.out.cell; have z5 := BS.out.frozen
      have f2 := (HTS.out.2.2.1.far (p := ⟨wr.heap.size, 1, none⟩) (by dsimp only; omega) (.slice Bs y1.length ds)).cell
      have HTX := Lib.hid (show Three w (ws.setCell ⟨wr.heap.size, 1, none⟩ (.slice Bs y1.length ds)) _ _ _ _ _ _ from ⟨HTS.out.1.far (by dsimp only; omega) _, HTS.out.2.1.far (by dsimp only; omega) _, HTS.out.2.2.1.far (by dsimp only; omega) _, HTS.out.2.2.2.setCell (by dsimp only; omega) _⟩)
      have hzx : (ws.setCell ⟨wr.heap.size, 1, none⟩ (.slice Bs y1.length ds)).heap.size = ws.heap.size := by simp [World.setCell]
      have HZX := Lib.hid hzx
      have HOX := Lib.hid (show Own (Sh.row 150 shNode) (ws.setCell ⟨wr.heap.size, 1, none⟩ (.slice Bs y1.length ds)) (w.heap.size + 1 + 1 + 1) wr.heap.size [.slice B k d] (x0.take k) from HOS.out.keep fun q _ hq => Below.heap_setCell _ _ _ _ (by dsimp only; omega))
      have HEX := Lib.hid (show Own shNode (ws.setCell ⟨wr.heap.size, 1, none⟩ (.slice Bs y1.length ds)) (wr.heap.size + 1) ws.heap.size [.string y0, .slice Bs y1.length ds, .string y2] (y0, y1, y2) from Own.setCell (by
        have o1 := HES.out
        exact (Own.prod (Own.one ws (wr.heap.size + 1) (wr.heap.size + 1) _) (Own.prod o1 (Own.one ws ws.heap.size ws.heap.size _) (by omega) (by omega) (by omega)) (by omega) (by omega) (by omega))) (by dsimp only; omega) _)
      have hsx : w.heap.size + 1 + 1 + 1 ≤ (ws.setCell ⟨wr.heap.size, 1, none⟩ (.slice Bs y1.length ds)).heap.size := by rw [hzx]; omega
      have hsy : ws.heap.size ≤ (ws.setCell ⟨wr.heap.size, 1, none⟩ (.slice Bs y1.length ds)).heap.size := by rw [hzx]; omega
      clear hos hbs HT HO HR HL B5 hzx HTS HOS HES BS f0 e100 e101 e102
      go_wp2_with (at_builtin; refine wpList_grow (s := shNode) rfl (.tmp 25) (.tmp 27) 101 rfl Tryz.underlying101 rfl (by decide) (by decide) infoNode _ (w.heap.size + 1 + 1 + 1) wr.heap.size (wr.heap.size + 1) ws.heap.size B k d (x0.take k) [.string y0, .slice Bs y1.length ds, .string y2] (y0, y1, y2) rfl HOX.out HEX.out (by omega) (by omega) hsy hsx (by simp [World.setCell]; rfl) (by omega) ?_)
      intro B7 d7 w7 ho7 hb7 hs7 hk7
      rw [← HTK.out] at ho7
      have HT7 := Lib.hid (show Three w w7 103 103 103 _ _ _ from HTX.out.below3 hb7)
      have HO7 := Lib.hid ho7
      have f7 := HT7.out.2.2.1.cell
      have z7 := HT7.out.2.2.1.frozen
      clear hb7 ho7 hk7 f5 z5 f2
      go_wp2_with fail
      go_roundw
      case rel => exact ⟨k + 1, B7, d7, by omega, by go_num, HT7.out.store2 0 _, (HO7.out.setCell (p := ⟨w.heap.size + 1 + 1, 0, none⟩) (by dsimp only; omega) (.slice B7 (k + 1) d7)).more (Nat.le_refl _) (by simp [World.setCell])⟩
      case measure => simp [intOf]; omega
    · obtain rfl : k = x0.length := by omega
      rw [List.take_length] at hO
      have HT := Lib.hid hT; have HO := Lib.hid hO
      have f1 := hT.2.1.cell; have z1 := hT.2.1.frozen; have f2 := hT.2.2.1.cell
      have hs0 : w.heap.size + 1 + 1 < wr.heap.size := hT.2.2.1.lt
      clear hT hO
      go_wp2_with fail
      refine bodyPost_ret (v := .agg #[.slice B x0.length d]) (by simp [results, Tryz.results60, go_sem, f1]) rfl ⟨_, _, rfl, ?_, ?_⟩
      · refine Own.more (lo := w.heap.size + 1 + 1 + 1) (hi := wr.heap.size) ?_ (by omega) (by simp [World.setCell])
        iterate 1 (with_reducible refine Own.setCell ?_ (by dsimp only; omega) _)
        exact HO.out
      · iterate 1 (with_reducible refine Below.setCell ?_ (by simp; try omega) _)
        exact HT.out.2.2.2

end Go.Proofs.YtlodlplfmpikjaaGreat
