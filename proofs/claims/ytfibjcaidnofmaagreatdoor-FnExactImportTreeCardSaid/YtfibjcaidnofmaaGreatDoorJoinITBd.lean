/- The program's reader walked: scanPlain. -/
import Derived.Test.YtfibjcaidnofmaaGreatDoorJoinITAx
import Derived.Test.YtfibjcaidnofmaaGreatDoorJoinITAy
namespace Go.Proofs.YtfibjcaidnofmaaGreatDoor
open Go.RowKit

theorem contains_num (c : UInt8) : ([45, 46, 48, 49, 50, 51, 52, 53, 54, 55, 56, 57] : List UInt8).contains c = numCh c := by
  have : ∀ k : Fin 256, ([45, 46, 48, 49, 50, 51, 52, 53, 54, 55, 56, 57] : List UInt8).contains (UInt8.ofNat k) = numCh (UInt8.ofNat k) := by decide +kernel
  have h := this ⟨c.toNat, c.toNat_lt⟩
  have e : UInt8.ofNat c.toNat = c := UInt8.toNat_inj.1 (by rw [UInt8.toNat_ofNat']; exact Nat.mod_eq_of_lt c.toNat_lt)
  rw [e] at h
  exact h
theorem trimLeft_num (l : List UInt8) : Go.Lib.trimLeftS l [45, 46, 48, 49, 50, 51, 52, 53, 54, 55, 56, 57] = l.dropWhile numCh := by
  unfold Go.Lib.trimLeftS
  congr 1
  funext c
  exact contains_num c
theorem prefix_any (s p : ByteArray) (w : World) : Calls Tryz.prog 34 #[.string s, .string p] w fun e w' => e = .returned (.bool (p.data.toList.isPrefixOf s.data.toList)) ∧ w = w' :=
  (Tryz.strings_HasPrefix s p w).mono fun _ _ ⟨h1, h2⟩ => ⟨h1, h2.symm⟩

theorem qI_qS : ∀ (n : Nat) (l : List UInt8) (p : List UInt8 × List UInt8), l.length ≤ n → qI l = some p → qS l = p
  | n, [], p, _, h => by cases h
  | 0, _ :: _, _, hn, _ => absurd hn (by simp)
  | n + 1, c :: l, p, hn, h => by
    rw [List.length_cons] at hn
    by_cases hc : c = 34
    · subst hc
      cases l with
      | nil =>
        rw [qI_end [] (fun r e => by cases e)] at h
        rw [qS_end [] (fun r e => by cases e)]
        exact Option.some.inj h
      | cons d r =>
        by_cases hd : d = 34
        · subst hd
          rw [List.length_cons] at hn
          rw [qI_two] at h
          rw [qS_two]
          cases hq : qI r with
          | none => rw [hq] at h; cases h
          | some q =>
            rw [hq] at h
            rw [qI_qS n r q (by omega) hq]
            exact Option.some.inj h
        · rw [qI_end _ (fun z e => hd (by injection e))] at h
          rw [qS_end _ (fun z e => hd (by injection e))]
          exact Option.some.inj h
    · rw [qI_plain c l hc] at h
      rw [qS_plain c l hc]
      cases hq : qI l with
      | none => rw [hq] at h; cases h
      | some q =>
        rw [hq] at h
        rw [qI_qS n l q (by omega) hq]
        exact Option.some.inj h
theorem qI_sum (l : List UInt8) (p : List UInt8 × List UInt8) (h : qI l = some p) : p.1.length + p.2.length ≤ l.length := by
  have := qS_sum _ l (Nat.le_refl _)
  rw [qI_qS _ l p (Nat.le_refl _) h] at this
  exact this
theorem qI_drop (l : List UInt8) (p : List UInt8 × List UInt8) (h : qI l = some p) : ∃ m, m ≤ l.length ∧ l.drop m = p.2 := by
  have := qS_place ⟨l.toArray⟩ 0 (Nat.zero_le _)
  obtain ⟨q, _, h2, h3⟩ := this
  have h3' : l.drop q = (qS l).2 := h3
  have h2' : q ≤ l.length := by have : (⟨l.toArray⟩ : ByteArray).size = l.length := List.size_toArray; omega
  rw [qI_qS _ l p (Nat.le_refl _) h] at h3'
  exact ⟨q, h2', h3'⟩
theorem bI_sum (l : List UInt8) : (bI l).1.length + (bI l).2.length ≤ l.length + 1 := by
  have hw : (wordsB ⟨(Lib.cut l [41]).1.toArray⟩).length ≤ (Lib.cut l [41]).1.length + 1 := by
    have h1 : (wordsB ⟨(Lib.cut l [41]).1.toArray⟩).length = _ := Lib.splitB_all _ (by decide) 0 _ _ rfl
    have h2 := Lib.countB_le ⟨#[44]⟩ (by decide) _ (⟨(Lib.cut l [41]).1.toArray⟩ : ByteArray) (Nat.le_refl _)
    have h3 : (⟨(Lib.cut l [41]).1.toArray⟩ : ByteArray).size = (Lib.cut l [41]).1.length := List.size_toArray
    omega
  have hc : (Lib.cut l [41]).1.length + (Lib.cut l [41]).2.1.length ≤ l.length := by
    unfold Lib.cut
    split
    · show (l.take _).length + (l.drop _).length ≤ _
      rw [List.length_take, List.length_drop]
      omega
    · show l.length + 0 ≤ _
      omega
  unfold bI
  dsimp only
  rw [List.length_map]
  omega

set_option maxHeartbeats 8000000 in
set_option maxRecDepth 100000 in
theorem scanPlain_any (s : ByteArray) (hs : s.size ≤ 1048576) (w : World) (hE : EnvR w) :
    Calls Tryz.prog 35 #[.string s] w fun e w' => e = .returned (.tuple #[.string ⟨(sI s.data.toList).1.toArray⟩, .string ⟨(sI s.data.toList).2.toArray⟩]) ∧ Below w.heap.size w w' ∧ (sI s.data.toList).1.length ≤ s.size := by
  have HT := Lib.hid (trimLeft_any s ⟨#[45, 46, 48, 49, 50, 51, 52, 53, 54, 55, 56, 57]⟩ (by decide) (by decide) w)
  have htl := trimLeft_num s.data.toList
  have htd : Lib.trimLeftS s.data.toList (⟨#[45, 46, 48, 49, 50, 51, 52, 53, 54, 55, 56, 57]⟩ : ByteArray).data.toList = s.data.toList.dropWhile numCh := htl
  rw [htd] at HT
  have hdl : (s.data.toList.takeWhile numCh).length + (s.data.toList.dropWhile numCh).length = s.size := by
    rw [← List.length_append, List.takeWhile_append_dropWhile, len_list]
  have HDL := Lib.hid hdl
  have HE := Lib.hid hE
  have hds : (⟨(s.data.toList.dropWhile numCh).toArray⟩ : ByteArray).size = (s.data.toList.dropWhile numCh).length := List.size_toArray
  clear htl htd hE hdl
  by_cases hn : 0 < (s.data.toList.takeWhile numCh).length
  · have HR := Lib.hid (show sI s.data.toList = (s.data.toList.takeWhile numCh, s.data.toList.dropWhile numCh) by unfold sI; rw [if_pos hn])
    have hA : s.data.toList.takeWhile numCh ++ s.data.toList.dropWhile numCh = s.data.toList := List.takeWhile_append_dropWhile
    generalize s.data.toList.takeWhile numCh = A at *
    generalize s.data.toList.dropWhile numCh = D at *
    have hsum := HDL.out
    have hnn : (s.size : Int) - (D.length : Int) = (A.length : Int) := by omega
    have a0 : (0 : Int) ≤ (A.length : Int) := by omega
    have a1 : (A.length : Int) ≤ (s.size : Int) := by omega
    have ap : (0 : Int) < (A.length : Int) := by omega
    have HE1 := Lib.hid (show s.extract 0 A.length = ⟨A.toArray⟩ from ByteArray.ext (Array.toList_inj.1 (by rw [bytes_pop, ← hA, List.take_left])))
    have HE2 := Lib.hid (show s.extract A.length s.size = ⟨D.toArray⟩ from ByteArray.ext (Array.toList_inj.1 (by rw [drop_ext, ← hA, List.drop_left])))
    clear hA hsum hn
    go_enter Tryz.func35, Tryz.ntmps35
    go_wp2_with fail
    refine HT.out.mono ?_; rintro e1 w1 ⟨rfl, hb1⟩
    go_wp2_with fail
    go_quiet (fail)
    have HBq := Lib.hid (hb1.trans ((below_drewN' w1 nq).mono hb1.size))
    go_wp2_with fail
    go_ret2
    exact ⟨by rw [HR.out, ← HE1.out, ← HE2.out]; rfl, HBq.out, by rw [HR.out]; show A.length ≤ _; omega⟩
  · have HR := Lib.hid (show sI s.data.toList = pI (s.size + 1) s.data.toList by unfold sI; rw [if_neg hn, len_list])
    have hsum := HDL.out
    have hnn : (s.size : Int) - ((s.data.toList.dropWhile numCh).length : Int) = 0 := by omega
    generalize (s.data.toList.dropWhile numCh) = D at *
    generalize hQ : sI s.data.toList = Q at *
    have HQ := Lib.hid (HR.out)
    clear hQ hn hsum HR
    go_enter Tryz.func35, Tryz.ntmps35
    go_wp2_with fail
    refine HT.out.mono ?_; rintro e1 w1 ⟨rfl, hb1⟩
    have HBL := Lib.hid hb1
    have hE1 := Lib.hid (HE.out.below hb1)
    have HB0 := Lib.hid ((Below.refl w1.heap.size w1).alloc (Nat.le_refl _) (.cells #[.pointer none, .slice none 0 0] 82))
    have hbn := Lib.hid (bld_new w1)
    clear hb1
    go_wp2_with fail
    go_loopw [0] (fun t wr => ∃ (l : List UInt8) (g : Nat) (o : List UInt8), t = .string ⟨l.toArray⟩ ∧ l.length < g ∧ Bld wr w1.heap.size o ∧ o.length + l.length ≤ s.size ∧ o ++ (pI g l).1 = Q.1 ∧ (pI g l).2 = Q.2 ∧ Below w1.heap.size w1 wr) (fun t _ => strLen t)
    case atStart => exact ⟨s.data.toList, s.size + 1, [], by rw [Array.toArray_toList], by rw [len_list]; omega, hbn.out, by rw [len_list]; simp, by rw [HQ.out]; rfl, by rw [HQ.out], HB0.out⟩
    case round =>
      obtain ⟨l, g, o, rfl, hlg, hbl, hol, h1, h2, hbr⟩ := hrel
      obtain ⟨g, rfl⟩ : ∃ h, g = h + 1 := ⟨g - 1, by omega⟩
      have H1 := Lib.hid h1; have H2 := Lib.hid h2; have HBR := Lib.hid hbr
      have hszr := hbr.size
      have hls : (⟨l.toArray⟩ : ByteArray).size = l.length := List.size_toArray
      have HP34 := Lib.hid (prefix_any ⟨l.toArray⟩ ⟨#[34]⟩ wr)
      have HEr := Lib.hid (hE1.out.below hbr)
      have HBLr := Lib.hid hbl
      clear h1 h2 hbr hbl
      cases hm : [34].isPrefixOf l
      · have HP34' := Lib.hid (show Calls Tryz.prog 34 #[.string ⟨l.toArray⟩, .string ⟨#[34]⟩] wr fun e w' => e = .returned (.bool false) ∧ wr = w' from hm ▸ HP34.out)
        have HP36 := Lib.hid (prefix_any ⟨l.toArray⟩ ⟨#[36, 67, 40]⟩ wr)
        have HM := Lib.hid hm
        clear HP34 hm
        cases hm2 : [36, 67, 40].isPrefixOf l
        · have HP36' := Lib.hid (show Calls Tryz.prog 34 #[.string ⟨l.toArray⟩, .string ⟨#[36, 67, 40]⟩] wr fun e w' => e = .returned (.bool false) ∧ wr = w' from hm2 ▸ HP36.out)
          have HX := Lib.hid (pI_n g l HM.out hm2)
          have HF1 := Lib.hid (show o = Q.1 by rw [← H1.out, HX.out]; exact (List.append_nil o).symm)
          have HF2 := Lib.hid (show l = Q.2 by rw [← H2.out, HX.out])
          have HBT := Lib.hid (bldText w1.heap.size o wr HBLr.out hszr)
          clear hm2 HP36
          go_wp2_with fail
          refine HP34'.out.mono ?_; rintro e2 w2 ⟨rfl, rfl⟩
          go_wp2_with fail
          refine HP36'.out.mono ?_; rintro e3 w3 ⟨rfl, rfl⟩
          go_wp2_with fail
          refine HBT.out.mono ?_; rintro e4 w4 ⟨rfl, hb4⟩
          go_wp2_with fail
          go_ret2
          exact ⟨by rw [← HF1.out, ← HF2.out]; rfl, HBL.out.trans ((HBR.out.trans hb4).mono HBL.out.size), by rw [← HF1.out]; omega⟩
        · have HP36' := Lib.hid (show Calls Tryz.prog 34 #[.string ⟨l.toArray⟩, .string ⟨#[36, 67, 40]⟩] wr fun e w' => e = .returned (.bool true) ∧ wr = w' from hm2 ▸ HP36.out)
          have h3 : 3 ≤ l.length := (List.isPrefixOf_iff_prefix.1 hm2).length_le
          have h3i : (3 : Int) ≤ (l.length : Int) := by omega
          have HX := Lib.hid (pI_c g l HM.out hm2)
          have hbs := bI_sum (l.drop 3)
          rw [List.length_drop] at hbs
          have HEX3 := Lib.hid (show (⟨l.toArray⟩ : ByteArray).extract 3 l.length = ⟨(l.drop 3).toArray⟩ from ByteArray.ext (Array.toList_inj.1 (bytes_drop1' l 3)))
          have hds3 : (⟨(l.drop 3).toArray⟩ : ByteArray).size = l.length - 3 := by rw [← List.length_drop]; exact List.size_toArray
          have HSB := Lib.hid (scanBytes_any ⟨(l.drop 3).toArray⟩ (by omega) wr HEr.out)
          have HSB' := Lib.hid (show Calls Tryz.prog 93 #[.string ((⟨l.toArray⟩ : ByteArray).extract 3 l.length)] wr fun e w' => e = .returned (.tuple #[.string ⟨(bI (l.drop 3)).1.toArray⟩, .string ⟨(bI (l.drop 3)).2.toArray⟩]) ∧ Below wr.heap.size wr w' by rw [HEX3.out]; exact HSB.out)
          clear hm2 HP36 HSB hds3
          rw [show bI (l.drop 3) = ((bI (l.drop 3)).1, (bI (l.drop 3)).2) from rfl] at HX
          generalize (bI (l.drop 3)).1 = x at *
          generalize (bI (l.drop 3)).2 = z at *
          go_wp2_with fail
          refine HP34'.out.mono ?_; rintro e2 w2 ⟨rfl, rfl⟩
          go_wp2_with fail
          refine HP36'.out.mono ?_; rintro e3 w3 ⟨rfl, rfl⟩
          go_wp2_with fail
          refine HSB'.out.mono ?_; rintro e4 w4 ⟨rfl, hb4⟩
          have HBLn := Lib.hid (show Bld w4 w1.heap.size o from bld_below HBLr.out hb4)
          have HBn := Lib.hid (HBR.out.trans (hb4.mono hszr))
          have hxz : x.length + z.length ≤ l.length := by omega
          clear hb4
          have hxs : (⟨x.toArray⟩ : ByteArray).size = x.length := List.size_toArray
          have HWS := Lib.hid (fun W (h : Bld W w1.heap.size o) (h2 : w1.heap.size ≤ W.heap.size) => bldString w1.heap.size o ⟨x.toArray⟩ W h (by omega) h2)
          have HP95 := Lib.hid (fun W => prefix_any ⟨z.toArray⟩ ⟨#[95]⟩ W)
          have hzz : (⟨z.toArray⟩ : ByteArray).size = z.length := List.size_toArray
          cases hm3 : [95].isPrefixOf z
          · have HP95' := Lib.hid (fun W => show Calls Tryz.prog 34 #[.string ⟨z.toArray⟩, .string ⟨#[95]⟩] W fun e w' => e = .returned (.bool false) ∧ W = w' from hm3 ▸ HP95.out W)
            have HTS := Lib.hid (pT_stop g x z (fun r e => by rw [e] at hm3; revert hm3; simp))
            clear hm3 HP95
            have HF1 := Lib.hid (show o ++ x = Q.1 by rw [← H1.out, HX.out, HTS.out])
            have HF2 := Lib.hid (show z = Q.2 by rw [← H2.out, HX.out, HTS.out])
            go_wp2_with fail
            refine (HWS.out _ HBLn.out (HBn.out.size)).mono ?_; rintro e5 w5 ⟨rfl, hb5, hbb5⟩
            have HB5 := Lib.hid (HBn.out.trans hbb5)
            have HBT := Lib.hid (bldText w1.heap.size (o ++ x) w5 hb5 HB5.out.size)
            clear hb5 hbb5
            go_wp2_with fail
            refine (HP95'.out _).mono ?_; rintro e6 w6 ⟨rfl, rfl⟩
            go_wp2_with fail
            refine HBT.out.mono ?_; rintro e7 w7 ⟨rfl, hb7⟩
            go_wp2_with fail
            go_ret2
            exact ⟨by rw [← HF1.out, ← HF2.out]; rfl, HBL.out.trans ((HB5.out.trans hb7).mono HBL.out.size), by rw [← HF1.out, List.length_append]; omega⟩
          · have HP95' := Lib.hid (fun W => show Calls Tryz.prog 34 #[.string ⟨z.toArray⟩, .string ⟨#[95]⟩] W fun e w' => e = .returned (.bool true) ∧ W = w' from hm3 ▸ HP95.out W)
            obtain ⟨y, hy⟩ := (one_pre 95 z).1 hm3
            have HTS := Lib.hid (show pT g (x, z) = (x ++ (pI g y).1, (pI g y).2) by rw [hy, pT_more])
            have hyl : z.length = y.length + 1 := by rw [hy]; rfl
            have HEX := Lib.hid (show ((⟨z.toArray⟩ : ByteArray).extract 1 (y.length + 1)) = ⟨y.toArray⟩ from ByteArray.ext (Array.toList_inj.1 (by rw [← hyl, bytes_drop1, hy]; rfl)))
            have hz1 : (1 : Int) ≤ (z.length : Int) := by omega
            clear hm3 HP95 hy
            go_wp2_with fail
            refine (HWS.out _ HBLn.out (HBn.out.size)).mono ?_; rintro e5 w5 ⟨rfl, hb5, hbb5⟩
            have HB5 := Lib.hid (HBn.out.trans hbb5)
            clear hbb5
            go_wp2_with fail
            refine (HP95'.out _).mono ?_; rintro e6 w6 ⟨rfl, rfl⟩
            go_wp2_with fail
            go_roundw
            case rel => exact ⟨y, g, o ++ x, by rw [HEX.out], by omega, hb5, by rw [List.length_append]; omega, by rw [← H1.out, HX.out, HTS.out, List.append_assoc], by rw [← H2.out, HX.out, HTS.out], HB5.out⟩
            case measure =>
              rw [HEX.out]
              show (⟨y.toArray⟩ : ByteArray).size < (⟨l.toArray⟩ : ByteArray).size
              have hys : (⟨y.toArray⟩ : ByteArray).size = y.length := List.size_toArray
              omega
      · have HP34' := Lib.hid (show Calls Tryz.prog 34 #[.string ⟨l.toArray⟩, .string ⟨#[34]⟩] wr fun e w' => e = .returned (.bool true) ∧ wr = w' from hm ▸ HP34.out)
        have hl1 : 1 ≤ l.length := (List.isPrefixOf_iff_prefix.1 hm).length_le
        have HQI := Lib.hid (quotedI_any ⟨l.toArray⟩ (by omega) (by omega) wr)
        have HM := Lib.hid hm
        clear hm HP34
        cases hqi : qI (l.drop 1) with
        | none =>
          have HQI' := Lib.hid (show Calls Tryz.prog 92 #[.string ⟨l.toArray⟩] wr fun e w' => e = .returned (.tuple #[.string ⟨#[]⟩, .int .i64 0]) ∧ Below wr.heap.size wr w' by
            have := HQI.out
            rw [show (⟨l.toArray⟩ : ByteArray).data.toList = l from rfl, hqi] at this
            exact this)
          have HX := Lib.hid (pI_x g l HM.out hqi)
          have HF1 := Lib.hid (show o = Q.1 by rw [← H1.out, HX.out]; exact (List.append_nil o).symm)
          have HF2 := Lib.hid (show l = Q.2 by rw [← H2.out, HX.out])
          clear hqi HQI
          go_wp2_with fail
          refine HP34'.out.mono ?_; rintro e2 w2 ⟨rfl, rfl⟩
          go_wp2_with fail
          refine HQI'.out.mono ?_; rintro e3 w3 ⟨rfl, hb3⟩
          have HB3 := Lib.hid (HBR.out.trans (hb3.mono hszr))
          have HBT := Lib.hid (bldText w1.heap.size o w3 (bld_below HBLr.out hb3) HB3.out.size)
          clear hb3
          go_wp2_with fail
          refine HBT.out.mono ?_; rintro e4 w4 ⟨rfl, hb4⟩
          go_wp2_with fail
          go_ret2
          exact ⟨by rw [← HF1.out, ← HF2.out]; rfl, HBL.out.trans ((HB3.out.trans hb4).mono HBL.out.size), by rw [← HF1.out]; omega⟩
        | some p =>
          obtain ⟨x, z⟩ := p
          have hqs := qI_sum _ _ hqi
          obtain ⟨m, hm1, hm2⟩ := qI_drop _ _ hqi
          have hm2 : (l.drop 1).drop m = z := hm2
          rw [List.length_drop] at hqs hm1
          have hzl : z.length = l.length - 1 - m := by
            have := congrArg List.length hm2
            rw [List.length_drop, List.length_drop] at this
            exact this.symm
          have hnn2 : l.length - z.length = m + 1 := by omega
          have HQI' := Lib.hid (show Calls Tryz.prog 92 #[.string ⟨l.toArray⟩] wr fun e w' => e = .returned (.tuple #[.string ⟨x.toArray⟩, .int .i64 ((m + 1 : Nat) : Int)]) ∧ Below wr.heap.size wr w' by
            have := HQI.out
            rw [show (⟨l.toArray⟩ : ByteArray).data.toList = l from rfl, hqi] at this
            rw [← hnn2, ← hls]
            exact this)
          have HX := Lib.hid (pI_q g l (x, z) HM.out hqi)
          have HEXm := Lib.hid (show (⟨l.toArray⟩ : ByteArray).extract (m + 1) l.length = ⟨z.toArray⟩ from ByteArray.ext (Array.toList_inj.1 (by rw [bytes_drop1' l (m + 1)]; show l.drop (m + 1) = z; rw [← hm2, List.drop_drop, Nat.add_comm])))
          have hxz : x.length + z.length ≤ l.length := by have h : x.length + z.length ≤ l.length - 1 := hqs; omega
          have hml : m + 1 ≤ l.length := by omega
          clear hqi HQI hm2 hnn2 hqs
          generalize hM : m + 1 = M at *
          have hM0 : ((M : Int) == 0) = false := by rw [beq_eq_false_iff_ne]; omega
          have hM1 : (0 : Int) ≤ (M : Int) := by omega
          have hM2 : (M : Int) ≤ (l.length : Int) := by omega
          clear hM hzl hm1
          go_wp2_with fail
          refine HP34'.out.mono ?_; rintro e2 w2 ⟨rfl, rfl⟩
          go_wp2_with fail
          refine HQI'.out.mono ?_; rintro e3 w3 ⟨rfl, hb3⟩
          go_wp2_with fail
          go_quiet (fail)
          rw [HEXm.out]
          have HBLn := Lib.hid (show Bld (w3.drewN nq) w1.heap.size o from bld_below HBLr.out (hb3.trans ((below_drewN' w3 nq).mono hb3.size)))
          have HBn := Lib.hid ((HBR.out.trans (hb3.mono hszr)).trans ((below_drewN' w3 nq).mono ((HBR.out.trans (hb3.mono hszr)).size)))
          generalize w3.drewN nq = w4 at *
          clear hb3
          have hxs : (⟨x.toArray⟩ : ByteArray).size = x.length := List.size_toArray
          have HWS := Lib.hid (fun W (h : Bld W w1.heap.size o) (h2 : w1.heap.size ≤ W.heap.size) => bldString w1.heap.size o ⟨x.toArray⟩ W h (by omega) h2)
          have HP95 := Lib.hid (fun W => prefix_any ⟨z.toArray⟩ ⟨#[95]⟩ W)
          have hzz : (⟨z.toArray⟩ : ByteArray).size = z.length := List.size_toArray
          cases hm3 : [95].isPrefixOf z
          · have HP95' := Lib.hid (fun W => show Calls Tryz.prog 34 #[.string ⟨z.toArray⟩, .string ⟨#[95]⟩] W fun e w' => e = .returned (.bool false) ∧ W = w' from hm3 ▸ HP95.out W)
            have HTS := Lib.hid (pT_stop g x z (fun r e => by rw [e] at hm3; revert hm3; simp))
            clear hm3 HP95
            have HF1 := Lib.hid (show o ++ x = Q.1 by rw [← H1.out, HX.out, HTS.out])
            have HF2 := Lib.hid (show z = Q.2 by rw [← H2.out, HX.out, HTS.out])
            go_wp2_with fail
            refine (HWS.out _ HBLn.out (HBn.out.size)).mono ?_; rintro e5 w5 ⟨rfl, hb5, hbb5⟩
            have HB5 := Lib.hid (HBn.out.trans hbb5)
            have HBT := Lib.hid (bldText w1.heap.size (o ++ x) w5 hb5 HB5.out.size)
            clear hb5 hbb5
            go_wp2_with fail
            refine (HP95'.out _).mono ?_; rintro e6 w6 ⟨rfl, rfl⟩
            go_wp2_with fail
            refine HBT.out.mono ?_; rintro e7 w7 ⟨rfl, hb7⟩
            go_wp2_with fail
            go_ret2
            exact ⟨by rw [← HF1.out, ← HF2.out]; rfl, HBL.out.trans ((HB5.out.trans hb7).mono HBL.out.size), by rw [← HF1.out, List.length_append]; omega⟩
          · have HP95' := Lib.hid (fun W => show Calls Tryz.prog 34 #[.string ⟨z.toArray⟩, .string ⟨#[95]⟩] W fun e w' => e = .returned (.bool true) ∧ W = w' from hm3 ▸ HP95.out W)
            obtain ⟨y, hy⟩ := (one_pre 95 z).1 hm3
            have HTS := Lib.hid (show pT g (x, z) = (x ++ (pI g y).1, (pI g y).2) by rw [hy, pT_more])
            have hyl : z.length = y.length + 1 := by rw [hy]; rfl
            have HEX := Lib.hid (show ((⟨z.toArray⟩ : ByteArray).extract 1 (y.length + 1)) = ⟨y.toArray⟩ from ByteArray.ext (Array.toList_inj.1 (by rw [← hyl, bytes_drop1, hy]; rfl)))
            have hz1 : (1 : Int) ≤ (z.length : Int) := by omega
            clear hm3 HP95 hy
            go_wp2_with fail
            refine (HWS.out _ HBLn.out (HBn.out.size)).mono ?_; rintro e5 w5 ⟨rfl, hb5, hbb5⟩
            have HB5 := Lib.hid (HBn.out.trans hbb5)
            clear hbb5
            go_wp2_with fail
            refine (HP95'.out _).mono ?_; rintro e6 w6 ⟨rfl, rfl⟩
            go_wp2_with fail
            go_roundw
            case rel => exact ⟨y, g, o ++ x, by rw [HEX.out], by omega, hb5, by rw [List.length_append]; omega, by rw [← H1.out, HX.out, HTS.out, List.append_assoc], by rw [← H2.out, HX.out, HTS.out], HB5.out⟩
            case measure =>
              rw [HEX.out]
              show (⟨y.toArray⟩ : ByteArray).size < (⟨l.toArray⟩ : ByteArray).size
              have hys : (⟨y.toArray⟩ : ByteArray).size = y.length := List.size_toArray
              omega
end Go.Proofs.YtfibjcaidnofmaaGreatDoor

