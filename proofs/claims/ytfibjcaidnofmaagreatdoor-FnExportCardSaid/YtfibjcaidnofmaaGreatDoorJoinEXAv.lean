/- The reference's line of a node. -/
import Derived.Test.YtfibjcaidnofmaaGreatDoorJoinEXAf
import Derived.Test.YtfibjcaidnofmaaGreatDoorJoinEXAl
import Derived.Test.YtfibjcaidnofmaaGreatDoorJoinEXAo
import Derived.Test.YtfibjcaidnofmaaGreatDoorJoinEXAr
import Derived.Test.YtfibjcaidnofmaaGreatDoorJoinEXAs
import Derived.Test.YtfibjcaidnofmaaGreatDoorJoinEXAt
namespace Go.Proofs.YtfibjcaidnofmaaGreatDoor
open Go.RowKit

theorem moreP_len : ∀ (n k : Nat) (l : List UInt8), l.length ≤ n → l.length ≤ k → (moreP k l).length ≤ 9 * l.length
  | 0, k, l, hn, _ => by
    obtain rfl := List.eq_nil_of_length_eq_zero (Nat.le_zero.1 hn)
    rw [moreP_nil]; exact Nat.zero_le _
  | n + 1, k, l, hn, hk => by
    by_cases h : l = []
    · subst h; rw [moreP_nil]; exact Nat.zero_le _
    · have h1 := runRest_len l h
      have h2 := congrArg List.length (runs_split l h)
      rw [List.length_append] at h2
      have h3 := formP_len (runOf l)
      have h4 := moreP_len n k (runRest l) (by omega) (by omega)
      rw [moreP_step k l h hk, List.length_cons, List.length_append]
      omega
theorem plainP_len (l : List UInt8) : (plainP l).length ≤ 9 * l.length + 2 := by
  cases hc : canonB l
  · by_cases h : l = []
    · subst h
      unfold plainP
      rw [hc]
      exact Nat.le_refl _
    · have h1 := runRest_len l h
      have h2 := congrArg List.length (runs_split l h)
      rw [List.length_append] at h2
      have h3 := formP_len (runOf l)
      have h4 := moreP_len l.length l.length (runRest l) (by omega) (by omega)
      rw [plainP_runs hc h, List.length_append]
      omega
  · unfold plainP
    rw [hc, if_pos rfl]
    omega

def joinT (l : List ByteArray) : List UInt8 := Lib.join (l.map fun s => plainP s.data.toList) [44]
def subsT (l : List ByteArray) : List UInt8 := if l = [] then [] else 40 :: (joinT l ++ [41])
def lineT (x : Nod) : List UInt8 := 94 :: (x.name.data.toList ++ (subsT x.subs ++ 61 :: plainP x.value.data.toList))
def nodeLineP (x : Nod) : List UInt8 := if nodB x then lineT x else []
/-- What stands ahead of the subscript k. -/
def preT (x : Nod) (k : Nat) : List UInt8 := 94 :: (x.name.data.toList ++ (if k = 0 then [] else 40 :: joinT (x.subs.take k)))
theorem txt_cons (c : UInt8) (s : ByteArray) : ((⟨#[c]⟩ : ByteArray) ++ s) = ⟨(c :: s.data.toList).toArray⟩ := by
  have := mk_app1 c s.data.toList
  rw [Array.toArray_toList] at this
  exact this
theorem preT_zero (x : Nod) : preT x 0 = 94 :: x.name.data.toList := by unfold preT; rw [if_pos rfl, List.append_nil]
theorem preT_one (x : Nod) (h : 0 < x.subs.length) : preT x 1 = preT x 0 ++ [40] ++ plainP (x.subs.getD 0 ByteArray.empty).data.toList := by
  rw [preT_zero]
  unfold preT
  rw [if_neg (by omega), List.take_succ_eq_append_getElem h, List.getD_eq_getElem?_getD, List.getElem?_eq_getElem h]
  show 94 :: (_ ++ 40 :: joinT ([] ++ [_])) = _
  unfold joinT
  rw [List.nil_append, List.map_cons, List.map_nil, join_one]
  simp
theorem preT_more (x : Nod) (k : Nat) (h : k < x.subs.length) (h0 : k ≠ 0) : preT x (k + 1) = preT x k ++ [44] ++ plainP (x.subs.getD k ByteArray.empty).data.toList := by
  unfold preT
  rw [if_neg (by omega), if_neg h0, List.take_succ_eq_append_getElem h, List.getD_eq_getElem?_getD, List.getElem?_eq_getElem h]
  unfold joinT
  rw [List.map_append, List.map_cons, List.map_nil, join_snoc _ _ _ (by intro e; have := congrArg List.length e; rw [List.length_map, List.length_take, List.length_nil, Nat.min_eq_left (by omega)] at this; omega)]
  simp
theorem lineT_pre (x : Nod) : lineT x = preT x x.subs.length ++ (if x.subs.length = 0 then [] else [41]) ++ [61] ++ plainP x.value.data.toList := by
  unfold lineT subsT preT
  by_cases h : x.subs = []
  · rw [h]; simp
  · have h0 : x.subs.length ≠ 0 := fun e => h (List.eq_nil_of_length_eq_zero e)
    rw [if_neg h, if_neg h0, if_neg h0, List.take_length]
    simp
theorem nodB_facts {x : Nod} (h : nodB x = true) : x.name.size ≤ 8 ∧ x.subs.length ≤ 4 ∧ (∀ y ∈ x.subs, y.size ≤ 24) ∧ x.value.size ≤ 64 := by
  unfold nodB subsB at h
  simp only [Bool.and_eq_true, decide_eq_true_eq] at h
  obtain ⟨⟨h1, h2, h3⟩, h4⟩ := h
  refine ⟨?_, h2, fun y hy => ?_, h4⟩
  · unfold nameB at h1
    simp only [Bool.and_eq_true, decide_eq_true_eq] at h1
    exact h1.1.2
  · have := (List.all_eq_true.1 h3) y hy
    unfold subB at this
    simp only [Bool.and_eq_true, decide_eq_true_eq] at this
    exact this.2
theorem getD_mem' {α : Type} {fs : List α} {d : α} {k : Nat} (h : k < fs.length) : fs.getD k d ∈ fs := by
  rw [List.getD_eq_getElem?_getD, List.getElem?_eq_getElem h]
  exact List.getElem_mem _
theorem preT_len (x : Nod) (hb : nodB x = true) : ∀ k, k ≤ x.subs.length → (preT x k).length ≤ 9 + 300 * k
  | 0, _ => by
    have := (nodB_facts hb).1
    rw [preT_zero, List.length_cons, len_list]; omega
  | k + 1, hk => by
    have h1 := preT_len x hb k (by omega)
    have h2 := (nodB_facts hb).2.2.1 _ (getD_mem' (d := ByteArray.empty) (show k < x.subs.length by omega))
    have h3 := plainP_len (x.subs.getD k ByteArray.empty).data.toList
    rw [len_list] at h3
    by_cases h0 : k = 0
    · subst h0
      rw [preT_one x (by omega), List.length_append, List.length_append, List.length_cons, List.length_nil]; omega
    · rw [preT_more x k (by omega) h0, List.length_append, List.length_append, List.length_cons, List.length_nil]; omega

end Go.Proofs.YtfibjcaidnofmaaGreatDoor

/- The program's reader walked: scanPlain. -/
namespace Go.Proofs.YtfibjcaidnofmaaGreatDoor
open Go.RowKit

theorem contains_num (c : UInt8) : ([45, 46, 48, 49, 50, 51, 52, 53, 54, 55, 56, 57] : List UInt8).contains c = numCh c := by
  have : ∀ k : Fin 256, ([45, 46, 48, 49, 50, 51, 52, 53, 54, 55, 56, 57] : List UInt8).contains (UInt8.ofNat k) = numCh (UInt8.ofNat k) := by decide +kernel
  have h := this ⟨c.toNat, c.toNat_lt⟩
  have e : UInt8.ofNat c.toNat = c := UInt8.toNat_inj.1 (by rw [UInt8.toNat_ofNat']; exact Nat.mod_eq_of_lt c.toNat_lt)
  rw [e] at h
  exact h
theorem trimLeft_num (l : List UInt8) : Go.Lib.trimLeftS l [45, 46, 48, 49, 50, 51, 52, 53, 54, 55, 56, 57] = l.dropWhile numCh := by
  unfold Go.Lib.trimLeftS
  congr 1
  funext c
  exact contains_num c
theorem prefix_any (s p : ByteArray) (w : World) : Calls Tryz.prog 34 #[.string s, .string p] w fun e w' => e = .returned (.bool (p.data.toList.isPrefixOf s.data.toList)) ∧ w = w' :=
  (Tryz.strings_HasPrefix s p w).mono fun _ _ ⟨h1, h2⟩ => ⟨h1, h2.symm⟩

theorem qI_qS : ∀ (n : Nat) (l : List UInt8) (p : List UInt8 × List UInt8), l.length ≤ n → qI l = some p → qS l = p
  | n, [], p, _, h => by cases h
  | 0, _ :: _, _, hn, _ => absurd hn (by simp)
  | n + 1, c :: l, p, hn, h => by
    rw [List.length_cons] at hn
    by_cases hc : c = 34
    · subst hc
      cases l with
      | nil =>
        rw [qI_end [] (fun r e => by cases e)] at h
        rw [qS_end [] (fun r e => by cases e)]
        exact Option.some.inj h
      | cons d r =>
        by_cases hd : d = 34
        · subst hd
          rw [List.length_cons] at hn
          rw [qI_two] at h
          rw [qS_two]
          cases hq : qI r with
          | none => rw [hq] at h; cases h
          | some q =>
            rw [hq] at h
            rw [qI_qS n r q (by omega) hq]
            exact Option.some.inj h
        · rw [qI_end _ (fun z e => hd (by injection e))] at h
          rw [qS_end _ (fun z e => hd (by injection e))]
          exact Option.some.inj h
    · rw [qI_plain c l hc] at h
      rw [qS_plain c l hc]
      cases hq : qI l with
      | none => rw [hq] at h; cases h
      | some q =>
        rw [hq] at h
        rw [qI_qS n l q (by omega) hq]
        exact Option.some.inj h
theorem qI_sum (l : List UInt8) (p : List UInt8 × List UInt8) (h : qI l = some p) : p.1.length + p.2.length ≤ l.length := by
  have := qS_sum _ l (Nat.le_refl _)
  rw [qI_qS _ l p (Nat.le_refl _) h] at this
  exact this
theorem qI_drop (l : List UInt8) (p : List UInt8 × List UInt8) (h : qI l = some p) : ∃ m, m ≤ l.length ∧ l.drop m = p.2 := by
  have := qS_place ⟨l.toArray⟩ 0 (Nat.zero_le _)
  obtain ⟨q, _, h2, h3⟩ := this
  have h3' : l.drop q = (qS l).2 := h3
  have h2' : q ≤ l.length := by have : (⟨l.toArray⟩ : ByteArray).size = l.length := List.size_toArray; omega
  rw [qI_qS _ l p (Nat.le_refl _) h] at h3'
  exact ⟨q, h2', h3'⟩
theorem bI_sum (l : List UInt8) : (bI l).1.length + (bI l).2.length ≤ l.length + 1 := by
  have hw : (wordsB ⟨(Lib.cut l [41]).1.toArray⟩).length ≤ (Lib.cut l [41]).1.length + 1 := by
    have h1 : (wordsB ⟨(Lib.cut l [41]).1.toArray⟩).length = _ := Lib.splitB_all _ (by decide) 0 _ _ rfl
    have h2 := Lib.countB_le ⟨#[44]⟩ (by decide) _ (⟨(Lib.cut l [41]).1.toArray⟩ : ByteArray) (Nat.le_refl _)
    have h3 : (⟨(Lib.cut l [41]).1.toArray⟩ : ByteArray).size = (Lib.cut l [41]).1.length := List.size_toArray
    omega
  have hc : (Lib.cut l [41]).1.length + (Lib.cut l [41]).2.1.length ≤ l.length := by
    unfold Lib.cut
    split
    · show (l.take _).length + (l.drop _).length ≤ _
      rw [List.length_take, List.length_drop]
      omega
    · show l.length + 0 ≤ _
      omega
  unfold bI
  dsimp only
  rw [List.length_map]
  omega

set_option maxHeartbeats 8000000 in
set_option maxRecDepth 100000 in
theorem scanPlain_any (s : ByteArray) (hs : s.size ≤ 1048576) (w : World) (hE : EnvR w) :
    Calls Tryz.prog 35 #[.string s] w fun e w' => e = .returned (.tuple #[.string ⟨(sI s.data.toList).1.toArray⟩, .string ⟨(sI s.data.toList).2.toArray⟩]) ∧ Below w.heap.size w w' ∧ (sI s.data.toList).1.length ≤ s.size := by
  have HT := Lib.hid (trimLeft_any s ⟨#[45, 46, 48, 49, 50, 51, 52, 53, 54, 55, 56, 57]⟩ (by decide) (by decide) w)
  have htl := trimLeft_num s.data.toList
  have htd : Lib.trimLeftS s.data.toList (⟨#[45, 46, 48, 49, 50, 51, 52, 53, 54, 55, 56, 57]⟩ : ByteArray).data.toList = s.data.toList.dropWhile numCh := htl
  rw [htd] at HT
  have hdl : (s.data.toList.takeWhile numCh).length + (s.data.toList.dropWhile numCh).length = s.size := by
    rw [← List.length_append, List.takeWhile_append_dropWhile, len_list]
  have HDL := Lib.hid hdl
  have HE := Lib.hid hE
  have hds : (⟨(s.data.toList.dropWhile numCh).toArray⟩ : ByteArray).size = (s.data.toList.dropWhile numCh).length := List.size_toArray
  clear htl htd hE hdl
  by_cases hn : 0 < (s.data.toList.takeWhile numCh).length
  · have HR := Lib.hid (show sI s.data.toList = (s.data.toList.takeWhile numCh, s.data.toList.dropWhile numCh) by unfold sI; rw [if_pos hn])
    have hA : s.data.toList.takeWhile numCh ++ s.data.toList.dropWhile numCh = s.data.toList := List.takeWhile_append_dropWhile
    generalize s.data.toList.takeWhile numCh = A at *
    generalize s.data.toList.dropWhile numCh = D at *
    have hsum := HDL.out
    have hnn : (s.size : Int) - (D.length : Int) = (A.length : Int) := by omega
    have a0 : (0 : Int) ≤ (A.length : Int) := by omega
    have a1 : (A.length : Int) ≤ (s.size : Int) := by omega
    have ap : (0 : Int) < (A.length : Int) := by omega
    have HE1 := Lib.hid (show s.extract 0 A.length = ⟨A.toArray⟩ from ByteArray.ext (Array.toList_inj.1 (by rw [bytes_pop, ← hA, List.take_left])))
    have HE2 := Lib.hid (show s.extract A.length s.size = ⟨D.toArray⟩ from ByteArray.ext (Array.toList_inj.1 (by rw [drop_ext, ← hA, List.drop_left])))
    clear hA hsum hn
    go_enter Tryz.func35, Tryz.ntmps35
    go_wp2_with fail
    refine HT.out.mono ?_; rintro e1 w1 ⟨rfl, hb1⟩
    go_wp2_with fail
    go_quiet (fail)
    have HBq := Lib.hid (hb1.trans ((below_drewN' w1 nq).mono hb1.size))
    go_wp2_with fail
    go_ret2
    exact ⟨by rw [HR.out, ← HE1.out, ← HE2.out]; rfl, HBq.out, by rw [HR.out]; show A.length ≤ _; omega⟩
  · have HR := Lib.hid (show sI s.data.toList = pI (s.size + 1) s.data.toList by unfold sI; rw [if_neg hn, len_list])
    have hsum := HDL.out
    have hnn : (s.size : Int) - ((s.data.toList.dropWhile numCh).length : Int) = 0 := by omega
    generalize (s.data.toList.dropWhile numCh) = D at *
    generalize hQ : sI s.data.toList = Q at *
    have HQ := Lib.hid (HR.out)
    clear hQ hn hsum HR
    go_enter Tryz.func35, Tryz.ntmps35
    go_wp2_with fail
    refine HT.out.mono ?_; rintro e1 w1 ⟨rfl, hb1⟩
    have HBL := Lib.hid hb1
    have hE1 := Lib.hid (HE.out.below hb1)
    have HB0 := Lib.hid ((Below.refl w1.heap.size w1).alloc (Nat.le_refl _) (.cells #[.pointer none, .slice none 0 0] 82))
    have hbn := Lib.hid (bld_new w1)
    clear hb1
    go_wp2_with fail
    go_loopw [0] (fun t wr => ∃ (l : List UInt8) (g : Nat) (o : List UInt8), t = .string ⟨l.toArray⟩ ∧ l.length < g ∧ Bld wr w1.heap.size o ∧ o.length + l.length ≤ s.size ∧ o ++ (pI g l).1 = Q.1 ∧ (pI g l).2 = Q.2 ∧ Below w1.heap.size w1 wr) (fun t _ => strLen t)
    case atStart => exact ⟨s.data.toList, s.size + 1, [], by rw [Array.toArray_toList], by rw [len_list]; omega, hbn.out, by rw [len_list]; simp, by rw [HQ.out]; rfl, by rw [HQ.out], HB0.out⟩
    case round =>
      obtain ⟨l, g, o, rfl, hlg, hbl, hol, h1, h2, hbr⟩ := hrel
      obtain ⟨g, rfl⟩ : ∃ h, g = h + 1 := ⟨g - 1, by omega⟩
      have H1 := Lib.hid h1; have H2 := Lib.hid h2; have HBR := Lib.hid hbr
      have hszr := hbr.size
      have hls : (⟨l.toArray⟩ : ByteArray).size = l.length := List.size_toArray
      have HP34 := Lib.hid (prefix_any ⟨l.toArray⟩ ⟨#[34]⟩ wr)
      have HEr := Lib.hid (hE1.out.below hbr)
      have HBLr := Lib.hid hbl
      clear h1 h2 hbr hbl
      cases hm : [34].isPrefixOf l
      · have HP34' := Lib.hid (show Calls Tryz.prog 34 #[.string ⟨l.toArray⟩, .string ⟨#[34]⟩] wr fun e w' => e = .returned (.bool false) ∧ wr = w' from hm ▸ HP34.out)
        have HP36 := Lib.hid (prefix_any ⟨l.toArray⟩ ⟨#[36, 67, 40]⟩ wr)
        have HM := Lib.hid hm
        clear HP34 hm
        cases hm2 : [36, 67, 40].isPrefixOf l
        · have HP36' := Lib.hid (show Calls Tryz.prog 34 #[.string ⟨l.toArray⟩, .string ⟨#[36, 67, 40]⟩] wr fun e w' => e = .returned (.bool false) ∧ wr = w' from hm2 ▸ HP36.out)
          have HX := Lib.hid (pI_n g l HM.out hm2)
          have HF1 := Lib.hid (show o = Q.1 by rw [← H1.out, HX.out]; exact (List.append_nil o).symm)
          have HF2 := Lib.hid (show l = Q.2 by rw [← H2.out, HX.out])
          have HBT := Lib.hid (bldText w1.heap.size o wr HBLr.out hszr)
          clear hm2 HP36
          go_wp2_with fail
          refine HP34'.out.mono ?_; rintro e2 w2 ⟨rfl, rfl⟩
          go_wp2_with fail
          refine HP36'.out.mono ?_; rintro e3 w3 ⟨rfl, rfl⟩
          go_wp2_with fail
          refine HBT.out.mono ?_; rintro e4 w4 ⟨rfl, hb4⟩
          go_wp2_with fail
          go_ret2
          exact ⟨by rw [← HF1.out, ← HF2.out]; rfl, HBL.out.trans ((HBR.out.trans hb4).mono HBL.out.size), by rw [← HF1.out]; omega⟩
        · have HP36' := Lib.hid (show Calls Tryz.prog 34 #[.string ⟨l.toArray⟩, .string ⟨#[36, 67, 40]⟩] wr fun e w' => e = .returned (.bool true) ∧ wr = w' from hm2 ▸ HP36.out)
          have h3 : 3 ≤ l.length := (List.isPrefixOf_iff_prefix.1 hm2).length_le
          have h3i : (3 : Int) ≤ (l.length : Int) := by omega
          have HX := Lib.hid (pI_c g l HM.out hm2)
          have hbs := bI_sum (l.drop 3)
          rw [List.length_drop] at hbs
          have HEX3 := Lib.hid (show (⟨l.toArray⟩ : ByteArray).extract 3 l.length = ⟨(l.drop 3).toArray⟩ from ByteArray.ext (Array.toList_inj.1 (bytes_drop1' l 3)))
          have hds3 : (⟨(l.drop 3).toArray⟩ : ByteArray).size = l.length - 3 := by rw [← List.length_drop]; exact List.size_toArray
          have HSB := Lib.hid (scanBytes_any ⟨(l.drop 3).toArray⟩ (by omega) wr HEr.out)
          have HSB' := Lib.hid (show Calls Tryz.prog 93 #[.string ((⟨l.toArray⟩ : ByteArray).extract 3 l.length)] wr fun e w' => e = .returned (.tuple #[.string ⟨(bI (l.drop 3)).1.toArray⟩, .string ⟨(bI (l.drop 3)).2.toArray⟩]) ∧ Below wr.heap.size wr w' by rw [HEX3.out]; exact HSB.out)
          clear hm2 HP36 HSB hds3
          rw [show bI (l.drop 3) = ((bI (l.drop 3)).1, (bI (l.drop 3)).2) from rfl] at HX
          generalize (bI (l.drop 3)).1 = x at *
          generalize (bI (l.drop 3)).2 = z at *
          go_wp2_with fail
          refine HP34'.out.mono ?_; rintro e2 w2 ⟨rfl, rfl⟩
          go_wp2_with fail
          refine HP36'.out.mono ?_; rintro e3 w3 ⟨rfl, rfl⟩
          go_wp2_with fail
          refine HSB'.out.mono ?_; rintro e4 w4 ⟨rfl, hb4⟩
          have HBLn := Lib.hid (show Bld w4 w1.heap.size o from bld_below HBLr.out hb4)
          have HBn := Lib.hid (HBR.out.trans (hb4.mono hszr))
          have hxz : x.length + z.length ≤ l.length := by omega
          clear hb4
          have hxs : (⟨x.toArray⟩ : ByteArray).size = x.length := List.size_toArray
          have HWS := Lib.hid (fun W (h : Bld W w1.heap.size o) (h2 : w1.heap.size ≤ W.heap.size) => bldString w1.heap.size o ⟨x.toArray⟩ W h (by omega) h2)
          have HP95 := Lib.hid (fun W => prefix_any ⟨z.toArray⟩ ⟨#[95]⟩ W)
          have hzz : (⟨z.toArray⟩ : ByteArray).size = z.length := List.size_toArray
          cases hm3 : [95].isPrefixOf z
          · have HP95' := Lib.hid (fun W => show Calls Tryz.prog 34 #[.string ⟨z.toArray⟩, .string ⟨#[95]⟩] W fun e w' => e = .returned (.bool false) ∧ W = w' from hm3 ▸ HP95.out W)
            have HTS := Lib.hid (pT_stop g x z (fun r e => by rw [e] at hm3; revert hm3; simp))
            clear hm3 HP95
            have HF1 := Lib.hid (show o ++ x = Q.1 by rw [← H1.out, HX.out, HTS.out])
            have HF2 := Lib.hid (show z = Q.2 by rw [← H2.out, HX.out, HTS.out])
            go_wp2_with fail
            refine (HWS.out _ HBLn.out (HBn.out.size)).mono ?_; rintro e5 w5 ⟨rfl, hb5, hbb5⟩
            have HB5 := Lib.hid (HBn.out.trans hbb5)
            have HBT := Lib.hid (bldText w1.heap.size (o ++ x) w5 hb5 HB5.out.size)
            clear hb5 hbb5
            go_wp2_with fail
            refine (HP95'.out _).mono ?_; rintro e6 w6 ⟨rfl, rfl⟩
            go_wp2_with fail
            refine HBT.out.mono ?_; rintro e7 w7 ⟨rfl, hb7⟩
            go_wp2_with fail
            go_ret2
            exact ⟨by rw [← HF1.out, ← HF2.out]; rfl, HBL.out.trans ((HB5.out.trans hb7).mono HBL.out.size), by rw [← HF1.out, List.length_append]; omega⟩
          · have HP95' := Lib.hid (fun W => show Calls Tryz.prog 34 #[.string ⟨z.toArray⟩, .string ⟨#[95]⟩] W fun e w' => e = .returned (.bool true) ∧ W = w' from hm3 ▸ HP95.out W)
            obtain ⟨y, hy⟩ := (one_pre 95 z).1 hm3
            have HTS := Lib.hid (show pT g (x, z) = (x ++ (pI g y).1, (pI g y).2) by rw [hy, pT_more])
            have hyl : z.length = y.length + 1 := by rw [hy]; rfl
            have HEX := Lib.hid (show ((⟨z.toArray⟩ : ByteArray).extract 1 (y.length + 1)) = ⟨y.toArray⟩ from ByteArray.ext (Array.toList_inj.1 (by rw [← hyl, bytes_drop1, hy]; rfl)))
            have hz1 : (1 : Int) ≤ (z.length : Int) := by omega
            clear hm3 HP95 hy
            go_wp2_with fail
            refine (HWS.out _ HBLn.out (HBn.out.size)).mono ?_; rintro e5 w5 ⟨rfl, hb5, hbb5⟩
            have HB5 := Lib.hid (HBn.out.trans hbb5)
            clear hbb5
            go_wp2_with fail
            refine (HP95'.out _).mono ?_; rintro e6 w6 ⟨rfl, rfl⟩
            go_wp2_with fail
            go_roundw
            case rel => exact ⟨y, g, o ++ x, by rw [HEX.out], by omega, hb5, by rw [List.length_append]; omega, by rw [← H1.out, HX.out, HTS.out, List.append_assoc], by rw [← H2.out, HX.out, HTS.out], HB5.out⟩
            case measure =>
              rw [HEX.out]
              show (⟨y.toArray⟩ : ByteArray).size < (⟨l.toArray⟩ : ByteArray).size
              have hys : (⟨y.toArray⟩ : ByteArray).size = y.length := List.size_toArray
              omega
      · have HP34' := Lib.hid (show Calls Tryz.prog 34 #[.string ⟨l.toArray⟩, .string ⟨#[34]⟩] wr fun e w' => e = .returned (.bool true) ∧ wr = w' from hm ▸ HP34.out)
        have hl1 : 1 ≤ l.length := (List.isPrefixOf_iff_prefix.1 hm).length_le
        have HQI := Lib.hid (quotedI_any ⟨l.toArray⟩ (by omega) (by omega) wr)
        have HM := Lib.hid hm
        clear hm HP34
        cases hqi : qI (l.drop 1) with
        | none =>
          have HQI' := Lib.hid (show Calls Tryz.prog 92 #[.string ⟨l.toArray⟩] wr fun e w' => e = .returned (.tuple #[.string ⟨#[]⟩, .int .i64 0]) ∧ Below wr.heap.size wr w' by
            have := HQI.out
            rw [show (⟨l.toArray⟩ : ByteArray).data.toList = l from rfl, hqi] at this
            exact this)
          have HX := Lib.hid (pI_x g l HM.out hqi)
          have HF1 := Lib.hid (show o = Q.1 by rw [← H1.out, HX.out]; exact (List.append_nil o).symm)
          have HF2 := Lib.hid (show l = Q.2 by rw [← H2.out, HX.out])
          clear hqi HQI
          go_wp2_with fail
          refine HP34'.out.mono ?_; rintro e2 w2 ⟨rfl, rfl⟩
          go_wp2_with fail
          refine HQI'.out.mono ?_; rintro e3 w3 ⟨rfl, hb3⟩
          have HB3 := Lib.hid (HBR.out.trans (hb3.mono hszr))
          have HBT := Lib.hid (bldText w1.heap.size o w3 (bld_below HBLr.out hb3) HB3.out.size)
          clear hb3
          go_wp2_with fail
          refine HBT.out.mono ?_; rintro e4 w4 ⟨rfl, hb4⟩
          go_wp2_with fail
          go_ret2
          exact ⟨by rw [← HF1.out, ← HF2.out]; rfl, HBL.out.trans ((HB3.out.trans hb4).mono HBL.out.size), by rw [← HF1.out]; omega⟩
        | some p =>
          obtain ⟨x, z⟩ := p
          have hqs := qI_sum _ _ hqi
          obtain ⟨m, hm1, hm2⟩ := qI_drop _ _ hqi
          have hm2 : (l.drop 1).drop m = z := hm2
          rw [List.length_drop] at hqs hm1
          have hzl : z.length = l.length - 1 - m := by
            have := congrArg List.length hm2
            rw [List.length_drop, List.length_drop] at this
            exact this.symm
          have hnn2 : l.length - z.length = m + 1 := by omega
          have HQI' := Lib.hid (show Calls Tryz.prog 92 #[.string ⟨l.toArray⟩] wr fun e w' => e = .returned (.tuple #[.string ⟨x.toArray⟩, .int .i64 ((m + 1 : Nat) : Int)]) ∧ Below wr.heap.size wr w' by
            have := HQI.out
            rw [show (⟨l.toArray⟩ : ByteArray).data.toList = l from rfl, hqi] at this
            rw [← hnn2, ← hls]
            exact this)
          have HX := Lib.hid (pI_q g l (x, z) HM.out hqi)
          have HEXm := Lib.hid (show (⟨l.toArray⟩ : ByteArray).extract (m + 1) l.length = ⟨z.toArray⟩ from ByteArray.ext (Array.toList_inj.1 (by rw [bytes_drop1' l (m + 1)]; show l.drop (m + 1) = z; rw [← hm2, List.drop_drop, Nat.add_comm])))
          have hxz : x.length + z.length ≤ l.length := by have h : x.length + z.length ≤ l.length - 1 := hqs; omega
          have hml : m + 1 ≤ l.length := by omega
          clear hqi HQI hm2 hnn2 hqs
          generalize hM : m + 1 = M at *
          have hM0 : ((M : Int) == 0) = false := by rw [beq_eq_false_iff_ne]; omega
          have hM1 : (0 : Int) ≤ (M : Int) := by omega
          have hM2 : (M : Int) ≤ (l.length : Int) := by omega
          clear hM hzl hm1
          go_wp2_with fail
          refine HP34'.out.mono ?_; rintro e2 w2 ⟨rfl, rfl⟩
          go_wp2_with fail
          refine HQI'.out.mono ?_; rintro e3 w3 ⟨rfl, hb3⟩
          go_wp2_with fail
          go_quiet (fail)
          rw [HEXm.out]
          have HBLn := Lib.hid (show Bld (w3.drewN nq) w1.heap.size o from bld_below HBLr.out (hb3.trans ((below_drewN' w3 nq).mono hb3.size)))
          have HBn := Lib.hid ((HBR.out.trans (hb3.mono hszr)).trans ((below_drewN' w3 nq).mono ((HBR.out.trans (hb3.mono hszr)).size)))
          generalize w3.drewN nq = w4 at *
          clear hb3
          have hxs : (⟨x.toArray⟩ : ByteArray).size = x.length := List.size_toArray
          have HWS := Lib.hid (fun W (h : Bld W w1.heap.size o) (h2 : w1.heap.size ≤ W.heap.size) => bldString w1.heap.size o ⟨x.toArray⟩ W h (by omega) h2)
          have HP95 := Lib.hid (fun W => prefix_any ⟨z.toArray⟩ ⟨#[95]⟩ W)
          have hzz : (⟨z.toArray⟩ : ByteArray).size = z.length := List.size_toArray
          cases hm3 : [95].isPrefixOf z
          · have HP95' := Lib.hid (fun W => show Calls Tryz.prog 34 #[.string ⟨z.toArray⟩, .string ⟨#[95]⟩] W fun e w' => e = .returned (.bool false) ∧ W = w' from hm3 ▸ HP95.out W)
            have HTS := Lib.hid (pT_stop g x z (fun r e => by rw [e] at hm3; revert hm3; simp))
            clear hm3 HP95
            have HF1 := Lib.hid (show o ++ x = Q.1 by rw [← H1.out, HX.out, HTS.out])
            have HF2 := Lib.hid (show z = Q.2 by rw [← H2.out, HX.out, HTS.out])
            go_wp2_with fail
            refine (HWS.out _ HBLn.out (HBn.out.size)).mono ?_; rintro e5 w5 ⟨rfl, hb5, hbb5⟩
            have HB5 := Lib.hid (HBn.out.trans hbb5)
            have HBT := Lib.hid (bldText w1.heap.size (o ++ x) w5 hb5 HB5.out.size)
            clear hb5 hbb5
            go_wp2_with fail
            refine (HP95'.out _).mono ?_; rintro e6 w6 ⟨rfl, rfl⟩
            go_wp2_with fail
            refine HBT.out.mono ?_; rintro e7 w7 ⟨rfl, hb7⟩
            go_wp2_with fail
            go_ret2
            exact ⟨by rw [← HF1.out, ← HF2.out]; rfl, HBL.out.trans ((HB5.out.trans hb7).mono HBL.out.size), by rw [← HF1.out, List.length_append]; omega⟩
          · have HP95' := Lib.hid (fun W => show Calls Tryz.prog 34 #[.string ⟨z.toArray⟩, .string ⟨#[95]⟩] W fun e w' => e = .returned (.bool true) ∧ W = w' from hm3 ▸ HP95.out W)
            obtain ⟨y, hy⟩ := (one_pre 95 z).1 hm3
            have HTS := Lib.hid (show pT g (x, z) = (x ++ (pI g y).1, (pI g y).2) by rw [hy, pT_more])
            have hyl : z.length = y.length + 1 := by rw [hy]; rfl
            have HEX := Lib.hid (show ((⟨z.toArray⟩ : ByteArray).extract 1 (y.length + 1)) = ⟨y.toArray⟩ from ByteArray.ext (Array.toList_inj.1 (by rw [← hyl, bytes_drop1, hy]; rfl)))
            have hz1 : (1 : Int) ≤ (z.length : Int) := by omega
            clear hm3 HP95 hy
            go_wp2_with fail
            refine (HWS.out _ HBLn.out (HBn.out.size)).mono ?_; rintro e5 w5 ⟨rfl, hb5, hbb5⟩
            have HB5 := Lib.hid (HBn.out.trans hbb5)
            clear hbb5
            go_wp2_with fail
            refine (HP95'.out _).mono ?_; rintro e6 w6 ⟨rfl, rfl⟩
            go_wp2_with fail
            go_roundw
            case rel => exact ⟨y, g, o ++ x, by rw [HEX.out], by omega, hb5, by rw [List.length_append]; omega, by rw [← H1.out, HX.out, HTS.out, List.append_assoc], by rw [← H2.out, HX.out, HTS.out], HB5.out⟩
            case measure =>
              rw [HEX.out]
              show (⟨y.toArray⟩ : ByteArray).size < (⟨l.toArray⟩ : ByteArray).size
              have hys : (⟨y.toArray⟩ : ByteArray).size = y.length := List.size_toArray
              omega
end Go.Proofs.YtfibjcaidnofmaaGreatDoor

/- ReadPlain of both walked; that they say the same. -/
namespace Go.Proofs.YtfibjcaidnofmaaGreatDoor
open Go.RowKit

def rdI (T : List UInt8) : List UInt8 × Bool := if ¬ 64 < (sI T).1.length ∧ plainP (sI T).1 = T then ((sI T).1, true) else ([], false)
theorem bytes_eq (A : List UInt8) (T : ByteArray) : ((⟨A.toArray⟩ : ByteArray).toList == T.toList) = decide (A = T.data.toList) := by
  rw [Bool.eq_iff_iff, beq_iff_eq, decide_eq_true_iff, ByteArray.toList_eq, ByteArray.toList_eq]

set_option maxHeartbeats 4000000 in
set_option maxRecDepth 100000 in
theorem implReadPlain_any (T : ByteArray) (hT : T.size ≤ 1048576) (w : World) (hE : EnvR w) :
    Calls Tryz.prog 24 #[.string T] w fun e w' => e = .returned (.tuple #[.string ⟨(rdI T.data.toList).1.toArray⟩, .bool (rdI T.data.toList).2]) ∧ Below w.heap.size w w' := by
  have HS := Lib.hid (scanPlain_any T hT w hE)
  have hR := Lib.hid (show rdI T.data.toList = if ¬ 64 < (sI T.data.toList).1.length ∧ plainP (sI T.data.toList).1 = T.data.toList then ((sI T.data.toList).1, true) else ([], false) from rfl)
  generalize rdI T.data.toList = Q at *
  have HE := Lib.hid hE
  clear hE
  generalize (sI T.data.toList).1 = s at *
  generalize (sI T.data.toList).2 = z at *
  have HL := Lib.hid (fun b c W h => long_one b ⟨s.toArray⟩ c W h)
  have hsz : (⟨s.toArray⟩ : ByteArray).size = s.length := List.size_toArray
  by_cases h64 : 64 < s.length
  · have hd : decide (64 < (⟨s.toArray⟩ : ByteArray).size) = true := decide_eq_true (by omega)
    rw [hd] at HL
    have HF := Lib.hid (show Q = ([], false) by rw [hR.out, if_neg (fun h => h.1 h64)])
    clear hd hsz
    go_enter Tryz.func24, Tryz.ntmps24
    go_wp2_with fail
    refine HS.out.mono ?_; rintro e1 w1 ⟨rfl, hb1, _⟩
    have HB1 := Lib.hid hb1
    have HBA := Lib.hid ((Below.refl w1.heap.size w1).alloc (Nat.le_refl _) (.cells #[.string ⟨s.toArray⟩] 9))
    clear hb1
    go_wp2_with fail
    refine (HL.out _ _ _ (cell_of_row _ _ _ _ _ _ (heap_alloc_new _ _))).mono ?_
    rintro e2 w2 ⟨rfl, q, rfl⟩
    go_wp2_with fail
    go_ret2
    exact ⟨by rw [HF.out]; rfl, HB1.out.trans ((HBA.out.trans ((below_drewN' _ q).mono HBA.out.size)).mono HB1.out.size)⟩
  · have hd : decide (64 < (⟨s.toArray⟩ : ByteArray).size) = false := decide_eq_false (by omega)
    rw [hd] at HL
    have HP := Lib.hid (fun W h => plain_any ⟨s.toArray⟩ (by omega) W h)
    have HEQ := Lib.hid (bytes_eq (plainP s) T)
    have HPX := Lib.hid (show plainP (⟨s.toArray⟩ : ByteArray).data.toList = plainP s from rfl)
    rw [HPX.out] at HP
    have HQ := Lib.hid (show Q = if plainP s = T.data.toList then (s, true) else ([], false) by
      rw [hR.out]
      by_cases h : plainP s = T.data.toList
      · rw [if_pos ⟨h64, h⟩, if_pos h]
      · rw [if_neg (fun k => h k.2), if_neg h])
    generalize plainP s = P at *
    clear hd HPX hR
    by_cases hp : P = T.data.toList
    · have hq : ((⟨P.toArray⟩ : ByteArray).toList == T.toList) = true := by rw [HEQ.out, decide_eq_true hp]
      have HF := Lib.hid (show Q = (s, true) by rw [HQ.out, if_pos hp])
      have HH := Lib.hid hp
      clear hp hsz
      generalize (⟨P.toArray⟩ : ByteArray) = PB at *
      go_enter Tryz.func24, Tryz.ntmps24
      go_wp2_with fail
      refine HS.out.mono ?_; rintro e1 w1 ⟨rfl, hb1, _⟩
      have HB1 := Lib.hid hb1
      have HBA := Lib.hid ((Below.refl w1.heap.size w1).alloc (Nat.le_refl _) (.cells #[.string ⟨s.toArray⟩] 9))
      clear hb1
      go_wp2_with fail
      refine (HL.out _ _ _ (cell_of_row _ _ _ _ _ _ (heap_alloc_new _ _))).mono ?_
      rintro e2 w2 ⟨rfl, q, rfl⟩
      have HB2 := Lib.hid (HB1.out.trans ((HBA.out.trans ((below_drewN' _ q).mono HBA.out.size)).mono HB1.out.size))
      go_wp2_with fail
      refine (HP.out _ (HE.out.1.below HB2.out)).mono ?_; rintro e3 w3 ⟨rfl, hb3⟩
      go_wp2_with fail
      go_ret2
      exact ⟨by rw [HF.out]; rfl, HB2.out.trans (hb3.mono HB2.out.size)⟩
    · have hq : ((⟨P.toArray⟩ : ByteArray).toList == T.toList) = false := by rw [HEQ.out, decide_eq_false hp]
      have HF := Lib.hid (show Q = ([], false) by rw [HQ.out, if_neg hp])
      have HH := Lib.hid hp
      clear hp hsz
      generalize (⟨P.toArray⟩ : ByteArray) = PB at *
      go_enter Tryz.func24, Tryz.ntmps24
      go_wp2_with fail
      refine HS.out.mono ?_; rintro e1 w1 ⟨rfl, hb1, _⟩
      have HB1 := Lib.hid hb1
      have HBA := Lib.hid ((Below.refl w1.heap.size w1).alloc (Nat.le_refl _) (.cells #[.string ⟨s.toArray⟩] 9))
      clear hb1
      go_wp2_with fail
      refine (HL.out _ _ _ (cell_of_row _ _ _ _ _ _ (heap_alloc_new _ _))).mono ?_
      rintro e2 w2 ⟨rfl, q, rfl⟩
      have HB2 := Lib.hid (HB1.out.trans ((HBA.out.trans ((below_drewN' _ q).mono HBA.out.size)).mono HB1.out.size))
      go_wp2_with fail
      refine (HP.out _ (HE.out.1.below HB2.out)).mono ?_; rintro e3 w3 ⟨rfl, hb3⟩
      go_wp2_with fail
      go_ret2
      exact ⟨by rw [HF.out]; rfl, HB2.out.trans (hb3.mono HB2.out.size)⟩
end Go.Proofs.YtfibjcaidnofmaaGreatDoor
