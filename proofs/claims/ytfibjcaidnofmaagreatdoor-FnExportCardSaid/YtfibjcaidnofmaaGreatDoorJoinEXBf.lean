/- The program's ReadLine walked. -/
import Derived.Test.YtfibjcaidnofmaaGreatDoorJoinEXBc
import Derived.Test.YtfibjcaidnofmaaGreatDoorJoinEXAv
import Derived.Test.YtfibjcaidnofmaaGreatDoorJoinEXAy
import Derived.Test.YtfibjcaidnofmaaGreatDoorJoinEXBb
namespace Go.Proofs.YtfibjcaidnofmaaGreatDoor
open Go.RowKit

theorem trim_dropH (c : UInt8) (l : List UInt8) : Lib.trimPrefix l [c] = dropH c l := by
  unfold Lib.trimPrefix Lib.hasPrefix
  cases l with
  | nil => rfl
  | cons x r =>
    by_cases h : x = c
    · subst h; rw [dropH_yes, if_pos (by simp [List.isPrefixOf])]; rfl
    · rw [dropH_no c (x :: r) (fun r' e => h (by injection e)), if_neg (by simp [List.isPrefixOf]; exact fun e => h e.symm)]
theorem index_nm : ∀ l : List UInt8, Lib.indexAny l [40, 61] = if l.dropWhile nmCh = [] then -1 else ((l.takeWhile nmCh).length : Int)
  | [] => rfl
  | b :: l => by
    have ih := index_nm l
    have e : Lib.indexAny (b :: l) [40, 61] = if ([40, 61] : List UInt8).contains b then 0 else if Lib.indexAny l [40, 61] == -1 then -1 else Lib.indexAny l [40, 61] + 1 := rfl
    have hc : ([40, 61] : List UInt8).contains b = !nmCh b := by
      unfold nmCh
      rw [Bool.not_not]
      simp
      rfl
    rw [e, hc]
    cases hb : nmCh b
    · rw [List.dropWhile_cons, List.takeWhile_cons, hb]; rfl
    · rw [List.dropWhile_cons, List.takeWhile_cons, hb, if_neg (by decide), if_pos rfl, if_pos rfl, ih]
      by_cases h : l.dropWhile nmCh = []
      · rw [if_pos h, if_pos h]; rfl
      · rw [if_neg h, if_neg h]
        have h2 : (((l.takeWhile nmCh).length : Int) == -1) = false := by rw [beq_eq_false_iff_ne]; omega
        rw [h2, List.length_cons]
        show ((l.takeWhile nmCh).length : Int) + 1 = _
        omega
theorem pI_sum : ∀ (f : Nat) (l : List UInt8), (pI f l).1.length + (pI f l).2.length ≤ l.length
  | 0, l => by show 0 + l.length ≤ _; omega
  | f + 1, l => by
    have tail : ∀ (a m : List UInt8), a.length + m.length ≤ l.length → (pT f (a, m)).1.length + (pT f (a, m)).2.length ≤ l.length := by
      intro a m h1
      by_cases h95 : ∃ r, m = 95 :: r
      · obtain ⟨r, rfl⟩ := h95
        rw [pT_more, List.length_append]
        have := pI_sum f r
        rw [List.length_cons] at h1
        show _ + (pI f r).2.length ≤ _
        omega
      · rw [pT_stop f a _ (fun r e => h95 ⟨r, e⟩)]
        exact h1
    cases h : [34].isPrefixOf l
    · cases h2 : [36, 67, 40].isPrefixOf l
      · rw [pI_n f _ h h2]
        show 0 + l.length ≤ _; omega
      · rw [pI_c f _ h h2]
        have h3 := bI_sum (l.drop 3)
        have h4 := (List.isPrefixOf_iff_prefix.1 h2).length_le
        rw [List.length_drop] at h3
        simp only [List.length_cons, List.length_nil] at h4
        exact tail (bI (l.drop 3)).1 (bI (l.drop 3)).2 (by omega)
    · cases hq : qI (l.drop 1) with
      | none =>
        rw [pI_x f _ h hq]
        show 0 + l.length ≤ _; omega
      | some p =>
        rw [pI_q f _ p h hq]
        have h3 := qI_sum (l.drop 1) p hq
        rw [List.length_drop] at h3
        exact tail p.1 p.2 (by omega)
theorem sI_sum (l : List UInt8) : (sI l).1.length + (sI l).2.length ≤ l.length := by
  unfold sI
  split
  · have h3 := congrArg List.length (List.takeWhile_append_dropWhile (p := numCh) (l := l))
    rw [List.length_append] at h3
    show (l.takeWhile numCh).length + (l.dropWhile numCh).length ≤ _
    omega
  · exact pI_sum _ _
theorem mkB_size (l : List UInt8) : (mkB l).size = l.length := List.size_toArray
theorem mkB_list (l : List UInt8) : (mkB l).data.toList = l := rfl
theorem mkB_drop (l : List UInt8) (k : Nat) : (mkB l).extract k (mkB l).size = mkB (l.drop k) := by
  rw [ext_take, mkB_list, mkB_size, List.take_of_length_le (by rw [List.length_drop]; exact Nat.le_refl _)]
theorem mkB_take (l : List UInt8) (k : Nat) : (mkB l).extract 0 k = mkB (l.take k) := by
  rw [ext_take, mkB_list, List.drop_zero, Nat.sub_zero]

theorem rlI_def (T : List UInt8) : rlI T = if (dropH 94 T).dropWhile nmCh = [] then none else (subsI 4 ((dropH 94 T).dropWhile nmCh)).map fun p => ⟨mkB ((dropH 94 T).takeWhile nmCh), p.1, mkB (sI (dropH 61 (dropH 41 p.2))).1⟩ := rfl
theorem rdlI_none (T : List UInt8) (h : rlI T = none) : rdlI T = none := by unfold rdlI; rw [h]
theorem rdlI_some (T : List UInt8) (n : Nod) (h : rlI T = some n) : rdlI T = if nodeLineP n = T ∧ T ≠ [] then some n else none := by unfold rdlI; rw [h]
theorem dropH_len (c : UInt8) (l : List UInt8) : (dropH c l).length ≤ l.length := by
  unfold dropH
  split
  · exact Nat.le_refl _
  · split
    · simp
    · exact Nat.le_refl _
def strSz (v : Value) : Nat := match v with
  | .string s => s.size
  | _ => 0
set_option maxHeartbeats 8000000 in
set_option maxRecDepth 100000 in
theorem implReadLine_any (T : ByteArray) (hT : T.size ≤ 1048576) (w : World) (hE : EnvR w) :
    Calls Tryz.prog 10 #[.string T] w fun e w' => (∃ v, e = .returned (.tuple #[v, .bool (rdlI T.data.toList).isSome]) ∧ NodO w' (w.heap.size + 1) v ((rdlI T.data.toList).getD nodD)) ∧ Below w.heap.size w w' := by
  have HBZ := Lib.hid (Blk.new w 32 #[.string ⟨#[]⟩, .slice none 0 0, .string ⟨#[]⟩])
  have hD := (Below.refl w.heap.size w).alloc (Nat.le_refl _) (.cells #[.string ⟨#[]⟩, .slice none 0 0, .string ⟨#[]⟩] 32)
  have HD := Lib.hid hD
  have HE := Lib.hid hE
  have hsz := alloc_sz w (.cells #[.string ⟨#[]⟩, .slice none 0 0, .string ⟨#[]⟩] 32)
  have htp : ∀ (s : ByteArray) (c : UInt8) (W : World), Calls Tryz.prog 32 #[.string s, .string ⟨#[c]⟩] W fun e w' => e = .returned (.string ⟨(Lib.trimPrefix s.data.toList [c]).toArray⟩) ∧ w' = W := fun s c W => Tryz.strings_TrimPrefix s ⟨#[c]⟩ W
  have HTP := Lib.hid htp
  clear htp
  have hDl : (dropH 94 T.data.toList).length ≤ T.size := by
    have := dropH_len 94 T.data.toList
    rw [len_list] at this; exact this
  have ht1 : ∀ W, Calls Tryz.prog 32 #[.string T, .string ⟨#[94]⟩] W fun e w' => e = .returned (.string (mkB (dropH 94 T.data.toList))) ∧ w' = W := fun W => by
    have h := HTP.out T 94 W
    rw [trim_dropH] at h
    exact h
  have HT1 := Lib.hid ht1
  have hidx : ∀ W, Calls Tryz.prog 33 #[.string (mkB (dropH 94 T.data.toList)), .string ⟨#[40, 61]⟩] W fun e w' => e = .returned (.int .i64 (if (dropH 94 T.data.toList).dropWhile nmCh = [] then -1 else (((dropH 94 T.data.toList).takeWhile nmCh).length : Int))) ∧ Below W.heap.size W w' := fun W => by
    have h := indexAny_eq (mkB (dropH 94 T.data.toList)) (by rw [mkB_size]; omega) W
    rw [mkB_list, index_nm] at h
    exact h
  have HIX := Lib.hid hidx
  have HRI := Lib.hid (rlI_def T.data.toList)
  have HRN := Lib.hid (rdlI_none T.data.toList)
  have HRS := Lib.hid (fun n => rdlI_some T.data.toList n)
  generalize rdlI T.data.toList = Q at *
  generalize rlI T.data.toList = RI at *
  generalize dropH 94 T.data.toList = D at *
  clear ht1 hidx hD hE
  by_cases hno : D.dropWhile nmCh = []
  · rw [if_pos hno] at HIX HRI
    have HF := Lib.hid (HRN.out HRI.out)
    have HH := Lib.hid hno
    clear hno
    go_enter Tryz.func10, Tryz.ntmps10
    go_wp2_with fail
    refine (HT1.out _).mono ?_; rintro e1 w1 ⟨rfl, rfl⟩
    go_wp2_with fail
    refine (HIX.out _).mono ?_; rintro e2 w2 ⟨rfl, hb2⟩
    have HZ2 := Lib.hid (HBZ.out.below hb2 (by omega))
    have HB2 := Lib.hid (HD.out.trans (hb2.mono (by omega)))
    have f2 := HZ2.out.cell
    have z2 := HZ2.out.frozen
    clear hb2
    go_wp2_with fail
    refine bodyPost_ret (v := .tuple #[.agg #[.string ⟨#[]⟩, .slice none 0 0, .string ⟨#[]⟩], .bool false]) (by simp [results, Tryz.results10, go_sem, f2]) rfl ⟨?_, ?_⟩
    · exact ⟨_, by rw [HF.out]; rfl, by rw [HF.out]; exact NodO.zero _ _⟩
    · repeat (with_reducible refine Below.setCell ?_ (by first | exact Nat.le_refl _ | (show _ ≤ _; omega)) _)
      exact HB2.out
  · rw [if_neg hno] at HIX HRI
    have HH := Lib.hid hno
    have hle : (D.takeWhile nmCh).length + (D.dropWhile nmCh).length = D.length := by
      rw [← List.length_append, List.takeWhile_append_dropWhile]
    have hnm0 : (mkB D).extract 0 (D.takeWhile nmCh).length = mkB (D.takeWhile nmCh) := by
      rw [mkB_take]
      congr 1
      exact List.prefix_iff_eq_take.1 (List.takeWhile_prefix nmCh) |>.symm
    have hz0 : (mkB D).extract (D.takeWhile nmCh).length (mkB D).size = mkB (D.dropWhile nmCh) := by
      rw [mkB_drop]
      congr 1
      have h3 := List.takeWhile_append_dropWhile (p := nmCh) (l := D)
      generalize D.takeWhile nmCh = A at *
      generalize D.dropWhile nmCh = B at *
      rw [← h3, List.drop_left]
    have hnms : (mkB (D.takeWhile nmCh)).size ≤ 1048576 := by rw [mkB_size]; omega
    have hml := mkB_size D
    generalize mkB (D.takeWhile nmCh) = nm at *
    generalize hkk : (D.takeWhile nmCh).length = kk at *
    generalize D.dropWhile nmCh = Z0 at *
    have hki : (kk : Int) ≤ ((mkB D).size : Int) := by omega
    have hk0 : (0 : Int) ≤ (kk : Int) := by omega
    have HNM := Lib.hid hnm0; have HZ0 := Lib.hid hz0
    generalize mkB D = DB at *
    clear hno hkk hml
    go_enter Tryz.func10, Tryz.ntmps10
    go_wp2_with fail
    refine (HT1.out _).mono ?_; rintro e1 w1 ⟨rfl, rfl⟩
    go_wp2_with fail
    refine (HIX.out _).mono ?_; rintro e2 w2 ⟨rfl, hb2⟩
    have hs2 := hb2.size
    have HZ2 := Lib.hid (HBZ.out.below hb2 (by omega))
    have HB2 := Lib.hid (HD.out.trans (hb2.mono (by omega)))
    clear hb2 hsz
    go_upto_region 6 with fail
    have HBNn := Lib.hid (Blk.new w2 32 #[.string nm, .slice none 0 0, .string ⟨#[]⟩])
    have HZn := Lib.hid (HZ2.out.alloc (.cells #[.string nm, .slice none 0 0, .string ⟨#[]⟩] 32))
    have HBn := Lib.hid (HB2.out.alloc HB2.out.size (.cells #[.string nm, .slice none 0 0, .string ⟨#[]⟩] 32))
    have hNB : w.heap.size < w2.heap.size := by have := HZ2.out.lt; exact this
    generalize w2.alloc (.cells #[.string nm, .slice none 0 0, .string ⟨#[]⟩] 32) = wn at *
    generalize w2.heap.size = NB at *
    have hZl : Z0.length ≤ T.size := by omega
    clear hs2 HZ2 HB2 HIX HT1 HNM hnm0 hle
    go_wp2_with fail
    clear hz0 HZ0 hki hk0
    go_loopw [4] (fun v wr => ∃ (k : Nat) (z : List UInt8) (A : Option Addr) (c : Nat) (L : List ByteArray), v = .string (mkB z) ∧ z.length ≤ T.size ∧ L.length + k = 4 ∧ Blk wr NB 32 #[.string nm, .slice A L.length c, .string ⟨#[]⟩] ∧ OwnStrs wr (NB + 1) 9 (.slice A L.length c) L ∧ Blk wr w.heap.size 32 #[.string ⟨#[]⟩, .slice none 0 0, .string ⟨#[]⟩] ∧ Below w.heap.size w wr ∧ (∀ y ∈ L, y.size ≤ 1048576) ∧ subsI 4 Z0 = (subsI k z).map (fun p => (L ++ p.1, p.2))) (fun v _ => strSz v)
    case atStart => exact ⟨4, Z0, none, 0, [], rfl, hZl, rfl, HBNn.out, OwnR.nil_ _ _ _, HZn.out, HBn.out, (fun y hy => absurd hy List.not_mem_nil), by cases subsI 4 Z0 <;> rfl⟩
    case round =>
      clear HBNn HZn HBn hZl
      obtain ⟨k, z, A, c, L, rfl, hzl, hLk, hbn, hown, hz, hbl, hLs, hsub⟩ := hrel
      have HBNr := Lib.hid hbn; have HOr := Lib.hid hown; have HZr := Lib.hid hz; have HBr := Lib.hid hbl; have HLS := Lib.hid hLs; have HSUB := Lib.hid hsub
      have HER := Lib.hid (HE.out.below hbl)
      have hNl := hbn.lt
      have hp40 : ∀ W, Calls Tryz.prog 34 #[.string (mkB z), .string ⟨#[40]⟩] W fun e w' => e = .returned (.bool ([40].isPrefixOf z)) ∧ W = w' := fun W => prefix_any (mkB z) ⟨#[40]⟩ W
      have hp44 : ∀ W, Calls Tryz.prog 34 #[.string (mkB z), .string ⟨#[44]⟩] W fun e w' => e = .returned (.bool ([44].isPrefixOf z)) ∧ W = w' := fun W => prefix_any (mkB z) ⟨#[44]⟩ W
      have HP40 := Lib.hid hp40; have HP44 := Lib.hid hp44
      clear hbn hown hz hbl hLs hsub hp40 hp44
      cases h40 : [40].isPrefixOf z
      · cases h44 : [44].isPrefixOf z
        · rw [h40] at HP40
          rw [h44] at HP44
          have hop : openCh z = false := by unfold openCh; rw [h40, h44]; rfl
          have hsi : subsI k z = some ([], z) := by
            cases k <;> (rw [subsI, if_neg (by rw [hop]; exact Bool.false_ne_true)])
          have hri := HRI.out
          rw [HSUB.out, hsi] at hri
          have hri2 : RI = some ⟨nm, L, mkB (sI (dropH 61 (dropH 41 z))).1⟩ := by
            rw [hri]
            show some (Nod.mk nm (L ++ []) _) = _
            rw [List.append_nil]
          have HQ := Lib.hid (HRS.out _ hri2)
          have ht41 : ∀ W, Calls Tryz.prog 32 #[.string (mkB z), .string ⟨#[41]⟩] W fun e w' => e = .returned (.string (mkB (dropH 41 z))) ∧ w' = W := fun W => by
            have h := HTP.out (mkB z) 41 W
            rw [trim_dropH] at h
            exact h
          have ht61 : ∀ W, Calls Tryz.prog 32 #[.string (mkB (dropH 41 z)), .string ⟨#[61]⟩] W fun e w' => e = .returned (.string (mkB (dropH 61 (dropH 41 z)))) ∧ w' = W := fun W => by
            have h := HTP.out (mkB (dropH 41 z)) 61 W
            rw [trim_dropH] at h
            exact h
          have HT41 := Lib.hid ht41; have HT61 := Lib.hid ht61
          have hd1 := dropH_len 41 z
          have hd2 := dropH_len 61 (dropH 41 z)
          have hss := sI_sum (dropH 61 (dropH 41 z))
          have hsc1 : ∀ W, EnvR W → Calls Tryz.prog 35 #[.string (mkB (dropH 61 (dropH 41 z)))] W fun e w' => e = .returned (.tuple #[.string (mkB (sI (dropH 61 (dropH 41 z))).1), .string (mkB (sI (dropH 61 (dropH 41 z))).2)]) ∧ Below W.heap.size W w' := fun W hE => (scanPlain_any (mkB (dropH 61 (dropH 41 z))) (by rw [mkB_size]; omega) W hE).mono fun e w' h => ⟨h.1, h.2.1⟩
          have HS1 := Lib.hid hsc1
          have hvs : (mkB (sI (dropH 61 (dropH 41 z))).1).size ≤ 1048576 := by rw [mkB_size]; omega
          generalize mkB (sI (dropH 61 (dropH 41 z))).1 = val at *
          generalize mkB (sI (dropH 61 (dropH 41 z))).2 = rst at *
          generalize mkB (dropH 61 (dropH 41 z)) = zb at *
          generalize mkB (dropH 41 z) = za at *
          clear h40 h44 hop hsi hri hri2 ht41 ht61 hd1 hd2 hss hsc1 HSUB HRI HRS HRN HTP
          go_wp2_with fail
          refine (HP40.out _).mono ?_; rintro e3 w3 ⟨rfl, rfl⟩
          go_wp2_with fail
          refine (HP44.out _).mono ?_; rintro e4 w4 ⟨rfl, rfl⟩
          go_wp2_with fail
          refine (HT41.out _).mono ?_; rintro e5 w5 ⟨rfl, rfl⟩
          go_wp2_with fail
          refine (HT61.out _).mono ?_; rintro e6 w6 ⟨rfl, rfl⟩
          go_wp2_with fail
          refine (HS1.out _ HER.out).mono ?_; rintro e8 w8 ⟨rfl, hb8⟩
          have hs8 := hb8.size
          have HBN8 := Lib.hid (HBNr.out.below hb8 (by omega))
          have HO8 := Lib.hid (HOr.out.below hb8)
          have HZ8 := Lib.hid (HZr.out.below hb8 (by omega))
          have HB8 := Lib.hid (HBr.out.trans (hb8.mono (by omega)))
          have f8 := HBN8.out.cell
          have z8 := HBN8.out.frozen
          clear hb8
          go_upto_region 15 with fail
          have HBN9 := Lib.hid (show Blk (w8.setCell ⟨NB, 2, none⟩ (.string val)) NB 32 #[.string nm, .slice A L.length c, .string val] from HBN8.out.set_ 2 _)
          have HO9 := Lib.hid (HO8.out.set_low (g := NB) (o := 2) (u := .string val) (by omega))
          have HZ9 := Lib.hid (show Blk (w8.setCell ⟨NB, 2, none⟩ (.string val)) w.heap.size 32 _ from HZ8.out.far (by show w.heap.size ≠ NB; omega) _)
          have HB9 := Lib.hid (HB8.out.setCell (p := ⟨NB, 2, none⟩) (by show w.heap.size ≤ NB; omega) (.string val))
          generalize w8.setCell ⟨NB, 2, none⟩ (.string val) = w9 at *
          have HNL := Lib.hid (implNodeLine_any ⟨nm, L, val⟩ (.agg #[.string nm, .slice A L.length c, .string val]) (NB + 1) w9.heap.size w9 ⟨A, c, rfl, OwnR.reads HO9.out⟩ (Nat.le_refl _) ⟨hnms, hvs, by show L.length ≤ _; omega, HLS.out⟩ (HE.out.below HB9.out).1)
          have f9 := HBN9.out.cell
          have hNB9 := HBN9.out.lt
          generalize nodeLineP ⟨nm, L, val⟩ = P at *
          have HEQ := Lib.hid (bytes_eq P T)
          clear f8 z8 HBN8 HO8 HZ8 HB8
          by_cases h0 : T.size = 0
          · have he : T.toList.isEmpty = true := by
              rw [ByteArray.toList_eq, show T.data.toList = [] from List.eq_nil_of_length_eq_zero (by rw [len_list]; exact h0)]; rfl
            have HF := Lib.hid (show Q = none by rw [HQ.out, if_neg (fun h => h.2 (List.eq_nil_of_length_eq_zero (by rw [len_list]; exact h0)))])
            have HZ0' := Lib.hid h0
            clear h0
            have f11 := HZ9.out.cell
            have z11 := HZ9.out.frozen
            go_wp2_with fail
            refine bodyPost_ret (v := .tuple #[.agg #[.string ⟨#[]⟩, .slice none 0 0, .string ⟨#[]⟩], .bool false]) (by simp [results, Tryz.results10, go_sem, f11]) rfl ⟨?_, ?_⟩
            · exact ⟨_, by rw [HF.out]; rfl, by rw [HF.out]; exact NodO.zero _ _⟩
            · repeat (with_reducible refine Below.setCell ?_ (by first | exact Nat.le_refl _ | (show _ ≤ _; omega)) _)
              exact HB9.out
          · have he := bytes_full T h0
            have HN0 := Lib.hid h0
            clear h0
            by_cases hp9 : P = T.data.toList
            · have hq : ((⟨P.toArray⟩ : ByteArray).toList == T.toList) = true := by rw [HEQ.out, decide_eq_true hp9]
              have HF := Lib.hid (show Q = some ⟨nm, L, val⟩ by rw [HQ.out, if_pos ⟨hp9, fun e => HN0.out (by rw [← len_list, e]; rfl)⟩])
              have HPP := Lib.hid hp9
              clear hp9
              generalize (⟨P.toArray⟩ : ByteArray) = PB at *
              go_wp2_with fail
              refine HNL.out.mono ?_; rintro e10 w10 ⟨rfl, hb10⟩
              have hs10 := hb10.size
              have HBN10 := Lib.hid (HBN9.out.below hb10 HBN9.out.lt)
              have HZ10 := Lib.hid (HZ9.out.below hb10 HZ9.out.lt)
              have HO10 := Lib.hid (HO9.out.below hb10)
              have HB10 := Lib.hid (HB9.out.trans (hb10.mono HB9.out.size))
              have f10 := HBN10.out.cell
              have f11 := HZ10.out.cell
              have z11 := HZ10.out.frozen
              clear hb10
              go_wp2_with fail
              refine bodyPost_ret (v := .tuple #[.agg #[.string nm, .slice A L.length c, .string val], .bool true]) (by simp [results, Tryz.results10, go_sem, f11]) rfl ⟨?_, ?_⟩
              · exact ⟨_, by rw [HF.out]; rfl, by rw [HF.out]; exact ⟨A, c, rfl, (((HO10.out.mono (by omega)).set_low (by omega)).set_low (by omega)).set_low (by omega)⟩⟩
              · repeat (with_reducible refine Below.setCell ?_ (by first | exact Nat.le_refl _ | (show _ ≤ _; omega)) _)
                exact HB10.out
            · have hq : ((⟨P.toArray⟩ : ByteArray).toList == T.toList) = false := by rw [HEQ.out, decide_eq_false hp9]
              have HF := Lib.hid (show Q = none by rw [HQ.out, if_neg (fun h => hp9 h.1)])
              have HPP := Lib.hid hp9
              clear hp9
              generalize (⟨P.toArray⟩ : ByteArray) = PB at *
              go_wp2_with fail
              refine HNL.out.mono ?_; rintro e10 w10 ⟨rfl, hb10⟩
              have hs10 := hb10.size
              have HBN10 := Lib.hid (HBN9.out.below hb10 HBN9.out.lt)
              have HZ10 := Lib.hid (HZ9.out.below hb10 HZ9.out.lt)
              have HO10 := Lib.hid (HO9.out.below hb10)
              have HB10 := Lib.hid (HB9.out.trans (hb10.mono HB9.out.size))
              have f10 := HBN10.out.cell
              have f11 := HZ10.out.cell
              have z11 := HZ10.out.frozen
              clear hb10
              go_wp2_with fail
              refine bodyPost_ret (v := .tuple #[.agg #[.string ⟨#[]⟩, .slice none 0 0, .string ⟨#[]⟩], .bool false]) (by simp [results, Tryz.results10, go_sem, f11]) rfl ⟨?_, ?_⟩
              · exact ⟨_, by rw [HF.out]; rfl, by rw [HF.out]; exact NodO.zero _ _⟩
              · repeat (with_reducible refine Below.setCell ?_ (by first | exact Nat.le_refl _ | (show _ ≤ _; omega)) _)
                exact HB10.out
        · have hop : openCh z = true := by unfold openCh; rw [h40, h44]; rfl
          have hz1 : 1 ≤ z.length := by
            cases z with
            | nil => cases hop
            | cons _ _ => simp
          have hz1i : (1 : Int) ≤ ((mkB z).size : Int) := by rw [mkB_size]; omega
          have hex : (mkB z).extract 1 (mkB z).size = mkB (z.drop 1) := mkB_drop z 1
          have hsum := sI_sum (z.drop 1)
          rw [List.length_drop] at hsum
          have HSC := Lib.hid (fun W hE => scanPlain_any (mkB (z.drop 1)) (by rw [mkB_size, List.length_drop]; omega) W hE)
          have hsc1 : ∀ W, EnvR W → Calls Tryz.prog 35 #[.string ((mkB z).extract 1 (mkB z).size)] W fun e w' => e = .returned (.tuple #[.string (mkB (sI (z.drop 1)).1), .string (mkB (sI (z.drop 1)).2)]) ∧ Below W.heap.size W w' := fun W hE => by rw [hex]; exact (HSC.out W hE).mono fun e w' h => ⟨h.1, h.2.1⟩
          have HS1 := Lib.hid hsc1
          clear HSC hsc1 hex
          have hys : (mkB (sI (z.drop 1)).1).size ≤ 1048576 := by rw [mkB_size]; omega
          have H44 := Lib.hid h44
          rw [h40] at HP40
          rw [h44] at HP44
          clear h40 h44
          have HSI := Lib.hid (show ∀ j, subsI (j + 1) z = (subsI j (sI (z.drop 1)).2).map (fun p => (mkB (sI (z.drop 1)).1 :: p.1, p.2)) from fun j => by
            rw [subsI]; exact if_pos hop)
          have HS0 := Lib.hid (show subsI 0 z = none by rw [subsI]; exact if_pos hop)
          generalize mkB (sI (z.drop 1)).1 = y at *
          generalize hz2 : (sI (z.drop 1)).2 = z2 at *
          have HZL := Lib.hid hsum
          clear hz2 hop hsum
          go_wp2_with fail
          refine (HP40.out _).mono ?_; rintro e3 w3 ⟨rfl, rfl⟩
          go_wp2_with fail
          refine (HP44.out _).mono ?_; rintro e4 w4 ⟨rfl, rfl⟩
          go_wp2_with fail
          refine (HS1.out _ HER.out).mono ?_; rintro e5 w5 ⟨rfl, hb5⟩
          have hs5 := hb5.size
          have HBN5 := Lib.hid (HBNr.out.below hb5 (by omega))
          have hown5 := HOr.out.below hb5
          have HZ5 := Lib.hid (HZr.out.below hb5 (by omega))
          have HB5 := Lib.hid (HBr.out.trans (hb5.mono (by omega)))
          have f5 := HBN5.out.cell
          have hNl5 : NB + 1 ≤ w5.heap.size := HBN5.out.lt
          have hfb : ∀ o, ∀ i, (w5.alloc o).cell? ⟨NB, i, none⟩ = (#[.string nm, .slice A L.length c, .string ⟨#[]⟩] : Array Value)[i]? := fun o => (HBN5.out.alloc o).cell
          clear hb5
          go_upto_region 11 with (first
            | fail
            | (at_builtin; refine wpList_app1 (enc := Value.string) rfl (.tmp 35) (.tmp 37) 29 9 rfl Tryz.underlying29 rfl (by omega) (fun _ => rfl) infoTxt w5 (NB + 1) _ L y rfl hown5 rfl (by omega) hNl5 ?_; intro v6 w6 hown6 hb6; obtain ⟨A6, c6, rfl⟩ := hown6.1; have HBN6 := Lib.hid (HBN5.out.below hb6 (Nat.lt_succ_self NB)); have f6 := HBN6.out.cell; have z6 := HBN6.out.frozen))
          have HZ6 := Lib.hid (HZ5.out.below hb6 (by omega))
          have HB6 := Lib.hid (HB5.out.trans (hb6.mono (by omega)))
          have HBN7 := Lib.hid (show Blk (w6.setCell ⟨NB, 1, none⟩ (.slice A6 (L ++ [y]).length c6)) NB 32 #[.string nm, .slice A6 (L ++ [y]).length c6, .string ⟨#[]⟩] from HBN6.out.set_ 1 _)
          have HZ7 := Lib.hid (show Blk (w6.setCell ⟨NB, 1, none⟩ (.slice A6 (L ++ [y]).length c6)) w.heap.size 32 _ from HZ6.out.far (by show w.heap.size ≠ NB; omega) _)
          have HO7 := Lib.hid (hown6.set_low (g := NB) (o := 1) (u := (.slice A6 (L ++ [y]).length c6)) (by omega))
          have HB7 := Lib.hid (HB6.out.setCell (p := ⟨NB, 1, none⟩) (by show w.heap.size ≤ NB; omega) (.slice A6 (L ++ [y]).length c6))
          rw [List.length_append, List.length_singleton] at HBN7 HZ7 HO7 HB7
          generalize w6.setCell ⟨NB, 1, none⟩ (.slice A6 (L.length + 1) c6) = w7 at *
          have f7 := HBN7.out.cell
          have hNl7 := HBN7.out.lt
          clear HBN6 HZ6 HB6 HBN5 HZ5 HB5 f5 f6 z6 hfb hown5 hown6 hb6 HBNr HOr HZr HBr HS1
          by_cases hk0 : k = 0
          · subst hk0
            have HF := Lib.hid (HRN.out (by rw [HRI.out, HSUB.out, HS0.out]; rfl))
            have i5 : (4 : Int) < (L.length : Int) + 1 := by omega
            have i5' : (4 : Int) < ((L.length + 1 : Nat) : Int) := by omega
            have HLK := Lib.hid hLk
            clear hLk
            have f11 := HZ7.out.cell
            have z11 := HZ7.out.frozen
            go_wp2_with fail
            refine bodyPost_ret (v := .tuple #[.agg #[.string ⟨#[]⟩, .slice none 0 0, .string ⟨#[]⟩], .bool false]) (by simp [results, Tryz.results10, go_sem, f11]) rfl ⟨?_, ?_⟩
            · exact ⟨_, by rw [HF.out]; rfl, by rw [HF.out]; exact NodO.zero _ _⟩
            · repeat (with_reducible refine Below.setCell ?_ (by first | exact Nat.le_refl _ | (show _ ≤ _; omega)) _)
              exact HB7.out
          · obtain ⟨j, rfl⟩ : ∃ j, k = j + 1 := ⟨k - 1, by omega⟩
            have i5 : ¬ (4 : Int) < (L.length : Int) + 1 := by omega
            have i5' : ¬ (4 : Int) < ((L.length + 1 : Nat) : Int) := by omega
            go_wp2_with fail
            go_roundw
            case rel => exact ⟨j, z2, A6, c6, L ++ [y], rfl, by have := HZL.out; omega, by rw [List.length_append, List.length_singleton]; omega, by rw [List.length_append, List.length_singleton]; exact HBN7.out, by rw [List.length_append, List.length_singleton]; exact HO7.out, HZ7.out, HB7.out, by intro x hx; (rcases List.mem_append.1 hx with h | h); exact HLS.out x h; rw [List.mem_singleton.1 h]; exact hys, by rw [HSUB.out, HSI.out j]; cases subsI j z2 <;> simp⟩
            case measure => have := HZL.out; show (mkB z2).size < (mkB z).size; rw [mkB_size, mkB_size]; omega
      · have hop : openCh z = true := by unfold openCh; rw [h40]; rfl
        have hz1 : 1 ≤ z.length := by
          cases z with
          | nil => cases hop
          | cons _ _ => simp
        have hz1i : (1 : Int) ≤ ((mkB z).size : Int) := by rw [mkB_size]; omega
        have hex : (mkB z).extract 1 (mkB z).size = mkB (z.drop 1) := mkB_drop z 1
        have hsum := sI_sum (z.drop 1)
        rw [List.length_drop] at hsum
        have HSC := Lib.hid (fun W hE => scanPlain_any (mkB (z.drop 1)) (by rw [mkB_size, List.length_drop]; omega) W hE)
        have hsc1 : ∀ W, EnvR W → Calls Tryz.prog 35 #[.string ((mkB z).extract 1 (mkB z).size)] W fun e w' => e = .returned (.tuple #[.string (mkB (sI (z.drop 1)).1), .string (mkB (sI (z.drop 1)).2)]) ∧ Below W.heap.size W w' := fun W hE => by rw [hex]; exact (HSC.out W hE).mono fun e w' h => ⟨h.1, h.2.1⟩
        have HS1 := Lib.hid hsc1
        clear HSC hsc1 hex
        have hys : (mkB (sI (z.drop 1)).1).size ≤ 1048576 := by rw [mkB_size]; omega
        have H40 := Lib.hid h40
        rw [h40] at HP40
        clear h40
        have HSI := Lib.hid (show ∀ j, subsI (j + 1) z = (subsI j (sI (z.drop 1)).2).map (fun p => (mkB (sI (z.drop 1)).1 :: p.1, p.2)) from fun j => by
          rw [subsI]; exact if_pos hop)
        have HS0 := Lib.hid (show subsI 0 z = none by rw [subsI]; exact if_pos hop)
        generalize mkB (sI (z.drop 1)).1 = y at *
        generalize hz2 : (sI (z.drop 1)).2 = z2 at *
        have HZL := Lib.hid hsum
        clear hz2 hop hsum
        go_wp2_with fail
        refine (HP40.out _).mono ?_; rintro e3 w3 ⟨rfl, rfl⟩
        go_wp2_with fail
        refine (HS1.out _ HER.out).mono ?_; rintro e5 w5 ⟨rfl, hb5⟩
        have hs5 := hb5.size
        have HBN5 := Lib.hid (HBNr.out.below hb5 (by omega))
        have hown5 := HOr.out.below hb5
        have HZ5 := Lib.hid (HZr.out.below hb5 (by omega))
        have HB5 := Lib.hid (HBr.out.trans (hb5.mono (by omega)))
        have f5 := HBN5.out.cell
        have hNl5 : NB + 1 ≤ w5.heap.size := HBN5.out.lt
        have hfb : ∀ o, ∀ i, (w5.alloc o).cell? ⟨NB, i, none⟩ = (#[.string nm, .slice A L.length c, .string ⟨#[]⟩] : Array Value)[i]? := fun o => (HBN5.out.alloc o).cell
        clear hb5
        go_upto_region 11 with (first
          | fail
          | (at_builtin; refine wpList_app1 (enc := Value.string) rfl (.tmp 35) (.tmp 37) 29 9 rfl Tryz.underlying29 rfl (by omega) (fun _ => rfl) infoTxt w5 (NB + 1) _ L y rfl hown5 rfl (by omega) hNl5 ?_; intro v6 w6 hown6 hb6; obtain ⟨A6, c6, rfl⟩ := hown6.1; have HBN6 := Lib.hid (HBN5.out.below hb6 (Nat.lt_succ_self NB)); have f6 := HBN6.out.cell; have z6 := HBN6.out.frozen))
        have HZ6 := Lib.hid (HZ5.out.below hb6 (by omega))
        have HB6 := Lib.hid (HB5.out.trans (hb6.mono (by omega)))
        have HBN7 := Lib.hid (show Blk (w6.setCell ⟨NB, 1, none⟩ (.slice A6 (L ++ [y]).length c6)) NB 32 #[.string nm, .slice A6 (L ++ [y]).length c6, .string ⟨#[]⟩] from HBN6.out.set_ 1 _)
        have HZ7 := Lib.hid (show Blk (w6.setCell ⟨NB, 1, none⟩ (.slice A6 (L ++ [y]).length c6)) w.heap.size 32 _ from HZ6.out.far (by show w.heap.size ≠ NB; omega) _)
        have HO7 := Lib.hid (hown6.set_low (g := NB) (o := 1) (u := (.slice A6 (L ++ [y]).length c6)) (by omega))
        have HB7 := Lib.hid (HB6.out.setCell (p := ⟨NB, 1, none⟩) (by show w.heap.size ≤ NB; omega) (.slice A6 (L ++ [y]).length c6))
        rw [List.length_append, List.length_singleton] at HBN7 HZ7 HO7 HB7
        generalize w6.setCell ⟨NB, 1, none⟩ (.slice A6 (L.length + 1) c6) = w7 at *
        have f7 := HBN7.out.cell
        have hNl7 := HBN7.out.lt
        clear HBN6 HZ6 HB6 HBN5 HZ5 HB5 f5 f6 z6 hfb hown5 hown6 hb6 HBNr HOr HZr HBr HS1
        by_cases hk0 : k = 0
        · subst hk0
          have HF := Lib.hid (HRN.out (by rw [HRI.out, HSUB.out, HS0.out]; rfl))
          have i5 : (4 : Int) < (L.length : Int) + 1 := by omega
          have i5' : (4 : Int) < ((L.length + 1 : Nat) : Int) := by omega
          have HLK := Lib.hid hLk
          clear hLk
          have f11 := HZ7.out.cell
          have z11 := HZ7.out.frozen
          go_wp2_with fail
          refine bodyPost_ret (v := .tuple #[.agg #[.string ⟨#[]⟩, .slice none 0 0, .string ⟨#[]⟩], .bool false]) (by simp [results, Tryz.results10, go_sem, f11]) rfl ⟨?_, ?_⟩
          · exact ⟨_, by rw [HF.out]; rfl, by rw [HF.out]; exact NodO.zero _ _⟩
          · repeat (with_reducible refine Below.setCell ?_ (by first | exact Nat.le_refl _ | (show _ ≤ _; omega)) _)
            exact HB7.out
        · obtain ⟨j, rfl⟩ : ∃ j, k = j + 1 := ⟨k - 1, by omega⟩
          have i5 : ¬ (4 : Int) < (L.length : Int) + 1 := by omega
          have i5' : ¬ (4 : Int) < ((L.length + 1 : Nat) : Int) := by omega
          go_wp2_with fail
          go_roundw
          case rel => exact ⟨j, z2, A6, c6, L ++ [y], rfl, by have := HZL.out; omega, by rw [List.length_append, List.length_singleton]; omega, by rw [List.length_append, List.length_singleton]; exact HBN7.out, by rw [List.length_append, List.length_singleton]; exact HO7.out, HZ7.out, HB7.out, by intro x hx; (rcases List.mem_append.1 hx with h | h); exact HLS.out x h; rw [List.mem_singleton.1 h]; exact hys, by rw [HSUB.out, HSI.out j]; cases subsI j z2 <;> simp⟩
          case measure => have := HZL.out; show (mkB z2).size < (mkB z).size; rw [mkB_size, mkB_size]; omega
end Go.Proofs.YtfibjcaidnofmaaGreatDoor

