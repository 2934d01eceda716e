/- The reference's ReadLine walked, the whole. -/
import Derived.Test.YtfibjcaidnofmaaGreatDoorJoinITBh
import Derived.Test.YtfibjcaidnofmaaGreatDoorJoinITBf
namespace Go.Proofs.YtfibjcaidnofmaaGreatDoor
open Go.RowKit

theorem step_app1 {α : Type} {enc : α → Value} {P : Program} {ops : Array Oper} {o : Oper} {a : Go.Act} {K : Go.Act → World → Prop} {Q : Exit → Go.Act → World → Prop} {E : Prop} (hgd : o.guard = none) (s x : Operand) (t e : TypeId)
    (ho : o.op = .call { callee := .builtin .append, args := #[s, x], argTypes := #[t, t] }) (ht : P.underlying t = some (.slice e))
    {z : Value} {by_ : Nat} (hzz : z.cells.size = 1) (hby : by_ ≤ 16) (hone : ∀ x : α, (enc x).oneCell' = true) (hinfo : (P.info? e).map (fun i => (i.zero, i.size, i.bytes)) = some (some z, 1, by_))
    (w : World) (base : Nat) (v : Value) (xs : List α) (y : α) (hs : a.eval s = v) (hown : OwnR enc w base e v xs)
    (hx : a.eval x = .slice (some ⟨w.heap.size, 0, none⟩) 1 1) (hlen : xs.length ≤ 1000000000) (hbase : base ≤ w.heap.size)
    (h : ∀ A' c' w', w'.ownsRow base e 1 (.slice A' (xs ++ [y]).length c') (xs ++ [y]).length ((xs ++ [y]).map enc) → Below base w w' → K (a.put o.dst (.slice A' (xs ++ [y]).length c')) w') :
    if Region.wanted o (yielded ops a.tmps) = true then Oper.wp P o a (w.alloc (.cells #[enc y] e)) K Q else E := by
  have hw : Region.wanted o (yielded ops a.tmps) = true := by simp [Region.wanted, hgd]
  rw [if_pos hw]
  obtain ⟨i0, hi0, hz0, hz1, hz2⟩ := info_parts hinfo
  refine wp_append_own _ s x t ho base e i0 _ 1 by_ ht hi0 hz0 hz1 hz2 hzz (by decide) v xs.length (xs.map enc) hs (hown.2.alloc _) ⟨w.heap.size, 0, none⟩ 1 1 [enc y] hx rfl ?_ ?_ (by unfold maxLen; omega) (Nat.le_trans (Nat.mul_le_mul_left _ hby) (by omega)) (by simp; omega) ?_
  · intro j u hj
    match j, hj with
    | 0, hj => simp at hj; subst hj; simp [Addr.add]
  · intro u hu; simp at hu; subst hu; exact hone y
  · intro v' w' h1 h2 _
    have hB : Below base w w' := ((Below.refl base w).alloc hbase _).grown h2 (by simp; omega) (fun k hk => by
      have := hown.2.lt k hk
      omega)
    have e3 : (xs ++ [y]).length = xs.length + 1 := by simp
    rcases h1.2 with ⟨e1, e2⟩ | ⟨g, cap, cur, e1, _⟩
    · omega
    · rw [e1] at h1 ⊢
      rw [← e3] at h1 ⊢
      refine h _ _ w' ?_ hB
      rw [List.map_append]
      exact h1
theorem alloc_sz (w : World) (o : Obj) : (w.alloc o).heap.size = w.heap.size + 1 := by simp
/-- The value v is a node of the call's own that reads as x. -/
def NodO (w : World) (base : Nat) (v : Value) (x : Nod) : Prop := ∃ A c, v = .agg #[.string x.name, .slice A x.subs.length c, .string x.value] ∧ OwnStrs w base 9 (.slice A x.subs.length c) x.subs
theorem NodO.zero (w : World) (base : Nat) : NodO w base (.agg #[.string ⟨#[]⟩, .slice none 0 0, .string ⟨#[]⟩]) nodD := ⟨none, 0, rfl, OwnR.nil_ _ _ _⟩
theorem NodO.reads {w : World} {base : Nat} {v : Value} {x : Nod} (h : NodO w base v x) : NodR w base w.heap.size v x := by
  obtain ⟨A, c, e, h⟩ := h
  exact ⟨A, c, e, OwnR.reads h⟩
theorem OwnR.set_low {α : Type} {enc : α → Value} {w : World} {base g o : Nat} {u : Value} {t : TypeId} {v : Value} {xs : List α} (h : OwnR enc w base t v xs) (hg : g < base) : OwnR enc (w.setCell ⟨g, o, none⟩ u) base t v xs := h.within (within_set w g o u) (by omega)
theorem u8_not {c d : UInt8} (h : c.toNat ≠ d.toNat) : c ≠ d := fun e => h (by rw [e])
theorem nmCh_cases (c : UInt8) : (nmCh c = false ∧ c.toNat = 40) ∨ (nmCh c = false ∧ c.toNat = 61) ∨ (nmCh c = true ∧ c.toNat ≠ 40 ∧ c.toNat ≠ 61) := by
  by_cases h1 : c.toNat = 40
  · have : c = 40 := u8_eq h1
    subst this; exact .inl ⟨rfl, rfl⟩
  · by_cases h2 : c.toNat = 61
    · have : c = 61 := u8_eq h2
      subst this; exact .inr (.inl ⟨rfl, rfl⟩)
    · refine .inr (.inr ⟨?_, h1, h2⟩)
      unfold nmCh
      have e1 : (c == 40) = false := by rw [beq_eq_false_iff_ne]; exact u8_not h1
      have e2 : (c == 61) = false := by rw [beq_eq_false_iff_ne]; exact u8_not h2
      rw [e1, e2]; rfl
theorem ext_take (T : ByteArray) (p q : Nat) : T.extract p q = mkB ((T.data.toList.drop p).take (q - p)) := by
  rw [← mkB_data (T.extract p q)]
  congr 1
  rw [ByteArray.data_extract, Array.toList_extract, List.extract_eq_take_drop]

theorem rlR_yes (T : List UInt8) (h : [40].isPrefixOf ((dropH 94 T).dropWhile nmCh) = true) : rlR T = ((subsS (T.length + 1) (T.length + 1) (((dropH 94 T).dropWhile nmCh).drop 1)).1, dropH 41 (subsS (T.length + 1) (T.length + 1) (((dropH 94 T).dropWhile nmCh).drop 1)).2) := by
  unfold rlR; rw [if_pos h]
theorem rlR_no (T : List UInt8) (h : [40].isPrefixOf ((dropH 94 T).dropWhile nmCh) = false) : rlR T = ([], (dropH 94 T).dropWhile nmCh) := by
  unfold rlR; rw [if_neg (by rw [h]; exact Bool.false_ne_true)]
/-- Where the reader stands behind the subscripts. -/
def RdlMid (T : ByteArray) (B R N : Nat) (nm : ByteArray) (L : List ByteArray) (z : List UInt8) (w0 wr : World) : Prop :=
  ∃ (p : Nat) (A : Option Addr) (c : Nat), p ≤ T.size ∧ RdAt wr R T p ∧ Blk wr N 32 #[.string nm, .slice A L.length c, .string ⟨#[]⟩] ∧ OwnStrs wr (N + 1) 9 (.slice A L.length c) L ∧ T.data.toList.drop p = z ∧
    L.length ≤ T.size ∧ (∀ y ∈ L, y.size ≤ 1048576) ∧ Blk wr B 32 #[.string ⟨#[]⟩, .slice none 0 0, .string ⟨#[]⟩] ∧ Below w0.heap.size w0 wr

set_option maxHeartbeats 8000000 in
set_option maxRecDepth 100000 in
theorem specReadLine_any (T : ByteArray) (w : World) :
    Calls Tryz.prog 52 #[.string T] w fun e w' => (∃ v, e = .returned (.tuple #[v, .bool (rdlS T.data.toList).isSome]) ∧ NodO w' (w.heap.size + 1) v ((rdlS T.data.toList).getD nodD)) ∧ Below w.heap.size w w' := by
  have HBZ0 := Lib.hid (Blk.new w 32 #[.string ⟨#[]⟩, .slice none 0 0, .string ⟨#[]⟩])
  have HD := Lib.hid ((Below.refl w.heap.size w).alloc (Nat.le_refl _) (.cells #[.string ⟨#[]⟩, .slice none 0 0, .string ⟨#[]⟩] 32))
  by_cases hbig : 60000 < T.size
  · have hR := Lib.hid (show rdlS T.data.toList = none by unfold rdlS; rw [if_pos (by rw [len_list]; exact hbig)])
    rw [hR.out]
    have i1 : (60000 : Int) < (T.size : Int) := by omega
    have f := HBZ0.out.cell
    have z := HBZ0.out.frozen
    go_enter Tryz.func52, Tryz.ntmps52
    go_wp2_with fail
    refine bodyPost_ret (v := .tuple #[.agg #[.string ⟨#[]⟩, .slice none 0 0, .string ⟨#[]⟩], .bool false]) (by simp [results, Tryz.results52, go_sem, f]) rfl ⟨?_, ?_⟩
    · exact ⟨_, rfl, NodO.zero _ _⟩
    · repeat (with_reducible refine Below.setCell ?_ (by first | exact Nat.le_refl _ | (show _ ≤ _; omega)) _)
      exact HD.out
  · have i1 : ¬ (60000 : Int) < (T.size : Int) := by omega
    have HRD := Lib.hid (show rdlS T.data.toList = if nodeLineP (rlS T.data.toList) = T.data.toList ∧ T.data.toList ≠ [] then some (rlS T.data.toList) else none by unfold rdlS; rw [len_list, if_neg hbig])
    have HRS := Lib.hid (rlS_R T.data.toList)
    have HRY := Lib.hid (rlR_yes T.data.toList)
    have HRN := Lib.hid (rlR_no T.data.toList)
    rw [len_list] at HRS HRY
    generalize rlR T.data.toList = RR at *
    generalize rdlS T.data.toList = Q at *
    generalize rlS T.data.toList = X at *
    have hT : T.size ≤ 1048576 := by omega
    have HBZ := Lib.hid (HBZ0.out.alloc (.cells #[.string T, .int .i64 ((0 : Nat) : Int)] 128))
    have HB0 := Lib.hid (HD.out.alloc HD.out.size (.cells #[.string T, .int .i64 ((0 : Nat) : Int)] 128))
    have hsz : ((w.alloc (.cells #[.string ⟨#[]⟩, .slice none 0 0, .string ⟨#[]⟩] 32)).alloc (.cells #[.string T, .int .i64 ((0 : Nat) : Int)] 128)).heap.size = w.heap.size + 1 + 1 := by rw [alloc_sz, alloc_sz]
    have BX := Blk.new (w.alloc (.cells #[.string ⟨#[]⟩, .slice none 0 0, .string ⟨#[]⟩] 32)) 128 #[.string T, .int .i64 ((0 : Nat) : Int)]
    rw [alloc_sz] at BX
    have HBX := Lib.hid BX
    clear BX hbig HBZ0 HD
    go_enter Tryz.func52, Tryz.ntmps52
    go_upto_region 4 with fail
    generalize (w.alloc (.cells #[.string ⟨#[]⟩, .slice none 0 0, .string ⟨#[]⟩] 32)).alloc (.cells #[.string T, .int .i64 ((0 : Nat) : Int)] 128) = wb at *
    obtain ⟨p1, _, hp1, hd1, _, hm1⟩ := more_at (w.heap.size + 1) T 94 0 (Nat.zero_le _) hT wb HBX.out
    rw [List.drop_zero] at hd1 hm1
    have HM1 := Lib.hid hm1
    rw [← hd1] at HRS HRY HRN
    clear hm1 hd1
    go_wp2_with fail
    refine HM1.out.mono ?_; rintro e1 w1 ⟨rfl, hr1, hw1⟩
    have HR1 := Lib.hid hr1
    have HW1 := Lib.hid hw1
    have f1 := hr1.cell
    clear hr1 hw1 HM1 HBX
    go_upto_block 0 with fail
    go_cut [] (fun wr => ∃ q : Nat, p1 ≤ q ∧ q ≤ T.size ∧ RdAt wr (w.heap.size + 1) T q ∧ (T.data.toList.drop p1).takeWhile nmCh = (T.data.toList.drop p1).take (q - p1) ∧ (T.data.toList.drop p1).dropWhile nmCh = T.data.toList.drop q ∧ Within (w.heap.size + 1) (w.heap.size + 2) wb wr)
    case first =>
      go_wp2_with fail
      go_loopw [] (fun wi => ∃ q : Nat, p1 ≤ q ∧ q ≤ T.size ∧ RdAt wi (w.heap.size + 1) T q ∧ (∀ c ∈ (T.data.toList.drop p1).take (q - p1), nmCh c = true) ∧ Within (w.heap.size + 1) (w.heap.size + 2) wb wi) (fun wi => T.size - standsAt wi (w.heap.size + 1))
      case atStart => exact ⟨p1, Nat.le_refl _, hp1, HR1.out, (fun c h => by rw [Nat.sub_self] at h; cases h), HW1.out⟩
      case round =>
        clear f1
        obtain ⟨q, hq1, hq2, hRi, hall, hwi⟩ := hrel
        have HWi := Lib.hid hwi; have HRi := Lib.hid hRi; have HALL := Lib.hid hall
        have HSTi := Lib.hid (standsAt_rd hRi)
        have fi := hRi.cell
        have zi := hRi.frozen
        clear hwi hRi hall
        have q0 : (0 : Int) ≤ (q : Int) := by omega
        have hlen : (T.data.toList.drop p1).length = T.size - p1 := by rw [List.length_drop, Array.length_toList]; rfl
        have hdd : (T.data.toList.drop p1).drop (q - p1) = T.data.toList.drop q := by rw [List.drop_drop, show p1 + (q - p1) = q by omega]
        by_cases hlt : q < T.size
        · have i1 : (q : Int) < (T.size : Int) := by omega
          have hat : (T.data.toList.drop p1)[q - p1]? = some T[q] := by
            rw [List.getElem?_drop, show p1 + (q - p1) = q by omega]; exact get_list T q hlt
          have HNX := Lib.hid (fun h : nmCh T[q] = true => show ∀ c ∈ (T.data.toList.drop p1).take (q + 1 - p1), nmCh c = true by
            rw [show q + 1 - p1 = (q - p1) + 1 by omega, take_snoc' _ _ _ hat]
            intro c hc
            rcases List.mem_append.1 hc with hc | hc
            · exact HALL.out c hc
            · rw [List.mem_singleton.1 hc]; exact h)
          have HEX := Lib.hid (fun h : nmCh T[q] = false => span_exit nmCh (T.data.toList.drop p1) (q - p1) (by rw [hlen]; omega) HALL.out (fun c hc => by rw [hat] at hc; injection hc with hc; rw [← hc]; exact h))
          have HDD := Lib.hid hdd
          have hcase := nmCh_cases T[q]
          clear hat hlen hdd
          generalize nmCh T[q] = NC at *
          rcases hcase with ⟨rfl, k1⟩ | ⟨rfl, k1⟩ | ⟨rfl, k1, k2⟩
          · have q40 : ((T[q].toNat : Int) != 40) = false := by rw [bne_eq_false_iff_eq]; omega
            have HK := Lib.hid k1; clear k1
            go_wp2_with fail
            go_meet
            case rel =>
              obtain ⟨e1, e2⟩ := HEX.out (by first | rfl | trivial)
              exact ⟨q, hq1, hq2, HRi.out, e1, by rw [e2, HDD.out], HWi.out⟩
          · have q40 : ((T[q].toNat : Int) != 40) = true := by rw [bne_iff_ne]; omega
            have q61 : ((T[q].toNat : Int) != 61) = false := by rw [bne_eq_false_iff_eq]; omega
            have HK := Lib.hid k1; clear k1
            go_wp2_with fail
            go_meet
            case rel =>
              obtain ⟨e1, e2⟩ := HEX.out (by first | rfl | trivial)
              exact ⟨q, hq1, hq2, HRi.out, e1, by rw [e2, HDD.out], HWi.out⟩
          · have q40 : ((T[q].toNat : Int) != 40) = true := by rw [bne_iff_ne]; omega
            have q61 : ((T[q].toNat : Int) != 61) = true := by rw [bne_iff_ne]; omega
            have hw1 : IntKind.i64.wrap ((q : Int) + 1) = (q : Int) + 1 := by rw [IntWalk.i64_in _ (by omega)]
            have HR3 := Lib.hid (show RdAt (wr.setCell ⟨w.heap.size + 1, 1, none⟩ (.int .i64 ((q : Int) + 1))) (w.heap.size + 1) T (q + 1) from HRi.out.set_ 1 (.int .i64 ((q : Int) + 1)))
            have HW3 := Lib.hid (HWi.out.trans (within_set wr (w.heap.size + 1) 1 (.int .i64 ((q : Int) + 1))))
            go_wp2_with fail
            go_roundw
            case rel => exact ⟨q + 1, by omega, by omega, HR3.out, HNX.out (by first | rfl | trivial), HW3.out⟩
            case measure => rw [standsAt_rd HR3.out, HSTi.out]; omega
        · have i1 : ¬ (q : Int) < (T.size : Int) := by omega
          have hq : q = T.size := by omega
          obtain ⟨e1, e2⟩ := span_exit nmCh (T.data.toList.drop p1) (q - p1) (by rw [hlen]; omega) HALL.out (fun c hc => by rw [List.getElem?_eq_none (by rw [hlen]; omega)] at hc; cases hc)
          rw [hdd] at e2
          have HE1 := Lib.hid e1; have HE2 := Lib.hid e2
          have HQ := Lib.hid hq
          clear e1 e2 hdd hlen hq
          go_wp2_with fail
          go_meet
          case rel => exact ⟨q, hq1, hq2, HRi.out, HE1.out, HE2.out, HWi.out⟩
    case rest =>
      obtain ⟨q, hq1, hq2, hRc, e1, e2, hwc⟩ := hcut
      have fc := hRc.cell
      have c1 : (0 : Int) ≤ (p1 : Int) := by omega
      have c2 : (p1 : Int) ≤ (q : Int) := by omega
      have c3 : (q : Int) ≤ (T.size : Int) := by omega
      have BN := Blk.new wc 32 #[.string ⟨#[]⟩, .slice none 0 0, .string ⟨#[]⟩]
      have fn := BN.cell
      have zn := BN.frozen
      have HRc := Lib.hid hRc
      have HWc := Lib.hid hwc
      have hsc := hwc.size
      rw [e1] at HRS
      rw [e2] at HRY HRN
      clear hRc hwc BN e1 e2
      go_upto_region 9 with fail
      have hBc := HB0.out.trans ((HWc.out.below (by omega)).mono (by omega))
      have HRn := Lib.hid (HRc.out.alloc (.cells #[.string (T.extract p1 q), .slice none 0 0, .string ⟨#[]⟩] 32))
      have HBNn := Lib.hid (Blk.new wc 32 #[.string (T.extract p1 q), .slice none 0 0, .string ⟨#[]⟩])
      have HZn := Lib.hid ((HBZ.out.within HWc.out (.inl (by omega))).alloc (.cells #[.string (T.extract p1 q), .slice none 0 0, .string ⟨#[]⟩] 32))
      have HBn := Lib.hid (hBc.alloc hBc.size (.cells #[.string (T.extract p1 q), .slice none 0 0, .string ⟨#[]⟩] 32))
      have hsn := alloc_sz wc (.cells #[.string (T.extract p1 q), .slice none 0 0, .string ⟨#[]⟩] 32)
      generalize wc.alloc (.cells #[.string (T.extract p1 q), .slice none 0 0, .string ⟨#[]⟩] 32) = wn at *
      generalize wc.heap.size = NB at *
      rw [← ext_take] at HRS
      have hnm : (T.extract p1 q).size ≤ 1048576 := by rw [ByteArray.size_extract]; omega
      generalize T.extract p1 q = nm at *
      obtain ⟨p2, hp2a, hp2, hd2, hpl2, hm2⟩ := more_at (w.heap.size + 1) T 40 q hq2 hT wn HRn.out
      have HM2 := Lib.hid hm2
      have HD2 := Lib.hid hd2
      have HPL := Lib.hid hpl2
      clear hm2 hd2 hpl2 fc fn zn hBc HRc HWc
      go_wp2_with fail
      refine HM2.out.mono ?_; rintro e2 w2 ⟨rfl, hr2, hw2⟩
      have hs2 := hw2.size
      have HR2 := Lib.hid hr2
      have HBN2 := Lib.hid (HBNn.out.within hw2 (.inr (by omega)))
      have HZ2 := Lib.hid (HZn.out.within hw2 (.inl (by omega)))
      have HB2 := Lib.hid (HBn.out.trans ((hw2.below (by omega)).mono (by omega)))
      clear hr2 hw2 HM2 HRn HBNn HZn HBn
      go_upto_if 62 with fail
      go_cut [] (fun wr => RdlMid T w.heap.size (w.heap.size + 1) NB nm RR.1 RR.2 w wr)
      case first =>
        cases h40 : [40].isPrefixOf (T.data.toList.drop q)
        · have HRR := Lib.hid (HRN.out h40)
          have HDQ := Lib.hid (show T.data.toList.drop p2 = T.data.toList.drop q by rw [HD2.out, dropH_no 40 _ (fun r e => by rw [(one_pre 40 _).2 ⟨r, e⟩] at h40; cases h40)])
          clear h40
          go_wp2_with fail
          go_meet
          case rel => exact ⟨p2, none, 0, hp2, HR2.out, by rw [HRR.out]; exact HBN2.out, by rw [HRR.out]; exact OwnR.nil_ _ _ _, by rw [HRR.out, HDQ.out], by rw [HRR.out]; exact Nat.zero_le _, by rw [HRR.out]; exact fun y hy => absurd hy List.not_mem_nil, HZ2.out, HB2.out⟩
        · have HRR := Lib.hid (HRY.out h40)
          have HPQ := Lib.hid (HPL.out h40)
          have hdq : T.data.toList.drop p2 = (T.data.toList.drop q).drop 1 := by rw [List.drop_drop, HPQ.out]
          obtain ⟨q3, hq3a, hq3, hd3, hl3, ht3⟩ := textS_at (w.heap.size + 1) T p2 (T.size + 1) hp2 (by omega) hT w2.drew HR2.out
          rw [← hdq, subsS_step, ← hd3] at HRR
          have hy : (mkB (tS (T.size + 1) (T.data.toList.drop p2)).1).size ≤ 1048576 := by rw [show (mkB (tS (T.size + 1) (T.data.toList.drop p2)).1).size = (tS (T.size + 1) (T.data.toList.drop p2)).1.length from List.size_toArray]; omega
          generalize mkB (tS (T.size + 1) (T.data.toList.drop p2)).1 = y at *
          have HT := Lib.hid ht3
          obtain ⟨wa, hwa⟩ : ∃ wa, wa = w2 := ⟨_, rfl⟩
          rw [← hwa] at HT HR2 HBN2 HZ2 HB2 hs2 ⊢
          obtain ⟨A, c, L, hL0, hbn, hown⟩ : ∃ (A : Option Addr) (c : Nat) (L : List ByteArray), L = [] ∧ Blk wa NB 32 #[.string nm, .slice A L.length c, .string ⟨#[]⟩] ∧ OwnStrs wa (NB + 1) 9 (.slice A L.length c) L := ⟨none, 0, [], rfl, HBN2.out, OwnR.nil_ _ _ _⟩
          have HBNa := Lib.hid hbn; have HOa := Lib.hid hown; have HZa := HZ2; have HBa := HB2
          have HL0 := Lib.hid hL0; have HD3 := Lib.hid hd3
          have hLn : L.length ≤ 1000 := by rw [hL0]; exact Nat.zero_le _
          clear ht3 hd3 hbn hown hwa hL0 HBN2 HZ2 HB2 HR2 h40 hdq
          go_wp2_with fail
          refine AnyT.region (fun i => decide (7 ≤ i)) (fun w' => ∀ i, w'.cell? ⟨NB, i, none⟩ = (#[.string nm, .slice A L.length c, .string ⟨#[]⟩] : Array Value)[i]?) (by kernel_rfl) HBNa.out.cell (fun hHeld => ?_)
          ((refine AnyT.takeAny 0 63 ?_ rfl (by kernel_rfl) (by kernel_rfl) (by kernel_rfl) rfl rfl (fun _ _ _ _ h => h) rfl ?_ (by assumption) ?_); rotate_left; (intro w; go_simp; (try (with_reducible rfl))); simp only [Act.put, List.setIfInBounds_toArray, List.set_cons_zero, List.set_cons_succ])
          ((refine AnyT.take 1 64 ?_ rfl (by kernel_rfl) (by kernel_rfl) (by kernel_rfl) (by kernel_rfl) rfl (by kernel_rfl) rfl (fun _ _ _ _ h => h) rfl ?_ (by assumption) ?_); rotate_left; (intro w hSw; (try dsimp only at hSw); go_simp; (try (with_reducible rfl))); simp only [Act.put, List.setIfInBounds_toArray, List.set_cons_zero, List.set_cons_succ])
          ((refine AnyT.takeAny 2 65 ?_ rfl (by kernel_rfl) (by kernel_rfl) (by kernel_rfl) rfl rfl (fun _ _ _ _ h => h) rfl ?_ (by assumption) ?_); rotate_left; (intro w; go_simp; (try (with_reducible rfl))); simp only [Act.put, List.setIfInBounds_toArray, List.set_cons_zero, List.set_cons_succ])
          ((refine AnyT.one (i := 3) (by kernel_rfl) rfl (fun K hK => ?_)))
          go_simp
          refine HT.out.mono ?_
          rintro e5 w5 ⟨rfl, hr5, hw5⟩
          have hWd : Within (w.heap.size + 1) (w.heap.size + 2) wa w5 := (within_drew wa _ _).trans hw5
          have hs5 := hWd.size
          have HR5 := Lib.hid hr5
          have HBN5 := Lib.hid (HBNa.out.within hWd (.inr (by omega)))
          have HO5 := Lib.hid (HOa.out.within hWd (by omega))
          have HZ5 := Lib.hid (HZa.out.within hWd (.inl (by omega)))
          have HB5 := Lib.hid (HBa.out.trans ((hWd.below (by omega)).mono (by omega)))
          clear hr5 hw5 hWd HT
          refine hK.out _ _ HBN5.out.cell (fun hHeld => ?_)
          clear hK K
          (try simp only [Go.Act.put, List.setIfInBounds_toArray, List.set_cons_zero, List.set_cons_succ])
          ((refine AnyT.one (i := 4) (by kernel_rfl) rfl (fun K hK => ?_)))
          go_simp
          refine hK.out _ _ (HBN5.out.alloc _).cell (fun hHeld => ?_)
          clear hK K
          (try simp only [Go.Act.put, List.setIfInBounds_toArray, List.set_cons_zero, List.set_cons_succ])
          have hNl5 := HBN5.out.lt
          ((refine AnyT.one (i := 5) (by kernel_rfl) rfl (fun K hK => ?_)))
          refine step_app1 (enc := Value.string) (by rfl) (.tmp 64) (.tmp 67) 29 9 (by rfl) Tryz.underlying29 rfl (by omega) (fun _ => rfl) infoTxt w5 (NB + 1) _ L y (by rfl) HO5.out (by rfl) (by omega) hNl5 ?_
          intro A6 c6 w6 hr6 hb6
          have HBN6 := Lib.hid (HBN5.out.below hb6 (by omega))
          have HR6 := Lib.hid (HR5.out.below hb6 (by omega))
          have HZ6 := Lib.hid (HZ5.out.below hb6 (by omega))
          have HO6 := Lib.hid (show OwnStrs w6 (NB + 1) 9 (.slice A6 (L ++ [y]).length c6) (L ++ [y]) from ⟨⟨_, _, rfl⟩, hr6⟩)
          have HB6 := Lib.hid (HB5.out.trans (hb6.mono (by omega)))
          clear hr6 hb6
          refine hK.out _ _ HBN6.out.cell (fun hHeld => ?_)
          clear hK K
          (try simp only [Go.Act.put, List.setIfInBounds_toArray, List.set_cons_zero, List.set_cons_succ])
          ((refine AnyT.takeAny 6 69 ?_ rfl (by kernel_rfl) (by kernel_rfl) (by kernel_rfl) rfl rfl (fun _ _ _ _ h => h) rfl ?_ (by assumption) ?_); rotate_left; (intro w; go_simp; (try (with_reducible rfl))); simp only [Act.put, List.setIfInBounds_toArray, List.set_cons_zero, List.set_cons_succ])
          have f6 := HBN6.out.cell
          have z6 := HBN6.out.frozen
          have HBN7 := Lib.hid (show Blk (w6.setCell ⟨NB, 1, none⟩ (.slice A6 (L ++ [y]).length c6)) NB 32 #[.string nm, .slice A6 (L ++ [y]).length c6, .string ⟨#[]⟩] from HBN6.out.set_ 1 _)
          have HR7 := Lib.hid (show RdAt (w6.setCell ⟨NB, 1, none⟩ (.slice A6 (L ++ [y]).length c6)) (w.heap.size + 1) T q3 from HR6.out.far (by show w.heap.size + 1 ≠ NB; omega) _)
          have HZ7 := Lib.hid (show Blk (w6.setCell ⟨NB, 1, none⟩ (.slice A6 (L ++ [y]).length c6)) w.heap.size 32 _ from HZ6.out.far (by show w.heap.size ≠ NB; omega) _)
          have HO7 := Lib.hid (HO6.out.set_low (g := NB) (o := 1) (u := (.slice A6 (L ++ [y]).length c6)) (by omega))
          have HB7 := Lib.hid (HB6.out.setCell (p := ⟨NB, 1, none⟩) (by show w.heap.size ≤ NB; omega) (.slice A6 (L ++ [y]).length c6))
          rw [List.length_append, List.length_singleton] at HBN7 HR7 HZ7 HO7 HB7
          generalize hLy : L ++ [y] = Ly at *
          have hLl : Ly.length = L.length + 1 := by rw [← hLy, List.length_append, List.length_singleton]
          rw [← hLl] at HBN7 HR7 HZ7 HO7 HB7
          have HLY := Lib.hid hLy; have HLL := Lib.hid hLl
          clear hLy hLl
          ((refine AnyT.last (i := 7) (by kernel_rfl) rfl (by kernel_rfl) (fun K hK => ?_)))
          go_simp
          refine hK.out _ _ ?_
          clear hK K
          (try simp only [Go.Act.put, List.setIfInBounds_toArray, List.set_cons_zero, List.set_cons_succ])
          refine AnyT.done (by kernel_rfl) ?_ _
          clear f6 z6 hHeld
          have HLE := Lib.hid (show Ly = [y] by rw [← HLY.out, HL0.out]; rfl)
          have HSE := Lib.hid (show Ly ++ (sT (T.size + 1) T.size (T.data.toList.drop q3)).1 = RR.1 ∧ dropH 41 (sT (T.size + 1) T.size (T.data.toList.drop q3)).2 = RR.2 by rw [HLE.out, HRR.out]; exact ⟨rfl, rfl⟩)
          have HPG := Lib.hid (show Ly.length ≤ q3 by rw [HLE.out]; have := HPQ.out; show 1 ≤ q3; omega)
          have HYS := Lib.hid (show ∀ z ∈ Ly, z.size ≤ 1048576 by rw [HLE.out]; intro z hz; rw [List.mem_singleton.1 hz]; exact hy)
          clear HLY HLL HLE HL0 HRR HPQ
          go_wp2_with fail
          go_loopw [] (fun wr => ∃ (p g : Nat) (A : Option Addr) (c : Nat) (L : List ByteArray), p ≤ T.size ∧ T.size - p ≤ g ∧ RdAt wr (w.heap.size + 1) T p ∧ Blk wr NB 32 #[.string nm, .slice A L.length c, .string ⟨#[]⟩] ∧ OwnStrs wr (NB + 1) 9 (.slice A L.length c) L ∧ Blk wr w.heap.size 32 #[.string ⟨#[]⟩, .slice none 0 0, .string ⟨#[]⟩] ∧ Below w.heap.size w wr ∧ NB < wr.heap.size ∧ L.length ≤ p ∧ (∀ z ∈ L, z.size ≤ 1048576) ∧ L ++ (sT (T.size + 1) g (T.data.toList.drop p)).1 = RR.1 ∧ dropH 41 (sT (T.size + 1) g (T.data.toList.drop p)).2 = RR.2) (fun wr => T.size - standsAt wr (w.heap.size + 1))
          case atStart => exact ⟨q3, T.size, A6, c6, Ly, hq3, by omega, HR7.out, HBN7.out, HO7.out, HZ7.out, HB7.out, HBN7.out.lt, HPG.out, HYS.out, HSE.out.1, HSE.out.2⟩
          case round =>
            clear HR7 HBN7 HO7 HZ7 HB7 HPG HYS HSE HB6 HBN6 HZ6 HR6 HO6 HB5 HBN5 HZ5 HR5 HO5 HBNa HOa HZa HBa HD3
            obtain ⟨p, g, A, c, L, hp, hg, hR, hbn, hown, hz, hbl, hNl, hLp, hLs, h1, h2⟩ := hrel
            have H1 := Lib.hid h1; have H2 := Lib.hid h2; have HLS := Lib.hid hLs
            have HSTi := Lib.hid (standsAt_rd hR)
            obtain ⟨pn, hpa, hpn, hdn, hpl, hmn⟩ := more_at (w.heap.size + 1) T 44 p hp hT wr hR
            have HMN := Lib.hid hmn; have HDN := Lib.hid hdn; have HPN := Lib.hid hpl
            have HBNr := Lib.hid hbn; have HOr := Lib.hid hown; have HZr := Lib.hid hz; have HBr := Lib.hid hbl
            clear h1 h2 hLs hmn hdn hpl hbn hown hz hbl hR
            cases h44 : [44].isPrefixOf (T.data.toList.drop p)
            · rw [h44] at HMN
              have HNP := Lib.hid (show T.data.toList.drop pn = T.data.toList.drop p by rw [HDN.out, dropH_no 44 _ (fun r e => by rw [(one_pre 44 _).2 ⟨r, e⟩] at h44; cases h44)])
              have hst : sT (T.size + 1) g (T.data.toList.drop p) = ([], T.data.toList.drop p) := if_neg (by rw [h44]; exact Bool.false_ne_true)
              rw [hst, List.append_nil] at H1
              rw [hst] at H2
              clear h44 hst
              go_wp2_with fail
              refine HMN.out.mono ?_; rintro e4 w4 ⟨rfl, hr4, hw4⟩
              have hs4 := hw4.size
              have HBN4 := Lib.hid (HBNr.out.within hw4 (.inr (by omega)))
              have HO4 := Lib.hid (HOr.out.within hw4 (by omega))
              have HZ4 := Lib.hid (HZr.out.within hw4 (.inl (by omega)))
              have HB4 := Lib.hid (HBr.out.trans ((hw4.below (by omega)).mono (by omega)))
              obtain ⟨p5, hp5a, hp5, hd5, _, hm5⟩ := more_at (w.heap.size + 1) T 41 pn hpn hT w4 hr4
              have HM5 := Lib.hid hm5; have HD5 := Lib.hid hd5
              clear hr4 hw4 hm5 hd5 HMN HBNr HOr HZr HBr
              go_wp2_with fail
              refine HM5.out.mono ?_; rintro e5 w5 ⟨rfl, hr5, hw5⟩
              have hs5 := hw5.size
              have HR5 := Lib.hid hr5
              have HBN5 := Lib.hid (HBN4.out.within hw5 (.inr (by omega)))
              have HO5 := Lib.hid (HO4.out.within hw5 (by omega))
              have HZ5 := Lib.hid (HZ4.out.within hw5 (.inl (by omega)))
              have HB5 := Lib.hid (HB4.out.trans ((hw5.below (by omega)).mono (by omega)))
              clear hr5 hw5 HM5 HBN4 HO4 HZ4 HB4
              go_wp2_with fail
              go_meet
              case rel =>
                have hl1 : L = RR.1 := H1.out
                exact ⟨p5, A, c, hp5, HR5.out, by rw [← hl1]; exact HBN5.out, by rw [← hl1]; exact HO5.out, by rw [HD5.out, HNP.out]; exact H2.out, by rw [← hl1]; omega, by rw [← hl1]; exact HLS.out, HZ5.out, HB5.out⟩
            · rw [h44] at HMN
              have HPQ := Lib.hid (HPN.out h44)
              have hdq : T.data.toList.drop pn = (T.data.toList.drop p).drop 1 := by rw [List.drop_drop, HPQ.out]
              have hst : sT (T.size + 1) g (T.data.toList.drop p) = subsS (T.size + 1) g (T.data.toList.drop pn) := by unfold sT; rw [if_pos h44, hdq]
              have hplt := HPQ.out
              obtain ⟨g, rfl⟩ : ∃ h, g = h + 1 := ⟨g - 1, by omega⟩
              rw [hst, subsS_step] at H1 H2
              clear h44 hst hdq
              go_wp2_with fail
              refine HMN.out.mono ?_; rintro e4 wa ⟨rfl, hr4, hw4⟩
              have hs4 := hw4.size
              have HBNa := Lib.hid (HBNr.out.within hw4 (.inr (by omega)))
              have HOa := Lib.hid (HOr.out.within hw4 (by omega))
              have HZa := Lib.hid (HZr.out.within hw4 (.inl (by omega)))
              have HBa := Lib.hid (HBr.out.trans ((hw4.below (by omega)).mono (by omega)))
              obtain ⟨q3, hq3a, hq3, hd3, hl3, ht3⟩ := textS_at (w.heap.size + 1) T pn (T.size + 1) hpn (by omega) hT wa.drew hr4
              rw [← hd3] at H1 H2
              have hy : (mkB (tS (T.size + 1) (T.data.toList.drop pn)).1).size ≤ 1048576 := by rw [show (mkB (tS (T.size + 1) (T.data.toList.drop pn)).1).size = (tS (T.size + 1) (T.data.toList.drop pn)).1.length from List.size_toArray]; omega
              generalize mkB (tS (T.size + 1) (T.data.toList.drop pn)).1 = y at *
              have HT := Lib.hid ht3
              clear ht3 hd3 hr4 hw4 HMN HBNr HOr HZr HBr hl3
              go_wp2_with fail
              refine AnyT.region (fun i => decide (7 ≤ i)) (fun w' => ∀ i, w'.cell? ⟨NB, i, none⟩ = (#[.string nm, .slice A L.length c, .string ⟨#[]⟩] : Array Value)[i]?) (by kernel_rfl) HBNa.out.cell (fun hHeld => ?_)
              ((refine AnyT.takeAny 0 72 ?_ rfl (by kernel_rfl) (by kernel_rfl) (by kernel_rfl) rfl rfl (fun _ _ _ _ h => h) rfl ?_ (by assumption) ?_); rotate_left; (intro w; go_simp; (try (with_reducible rfl))); simp only [Act.put, List.setIfInBounds_toArray, List.set_cons_zero, List.set_cons_succ])
              ((refine AnyT.take 1 73 ?_ rfl (by kernel_rfl) (by kernel_rfl) (by kernel_rfl) (by kernel_rfl) rfl (by kernel_rfl) rfl (fun _ _ _ _ h => h) rfl ?_ (by assumption) ?_); rotate_left; (intro w hSw; (try dsimp only at hSw); go_simp; (try (with_reducible rfl))); simp only [Act.put, List.setIfInBounds_toArray, List.set_cons_zero, List.set_cons_succ])
              ((refine AnyT.takeAny 2 74 ?_ rfl (by kernel_rfl) (by kernel_rfl) (by kernel_rfl) rfl rfl (fun _ _ _ _ h => h) rfl ?_ (by assumption) ?_); rotate_left; (intro w; go_simp; (try (with_reducible rfl))); simp only [Act.put, List.setIfInBounds_toArray, List.set_cons_zero, List.set_cons_succ])
              ((refine AnyT.one (i := 3) (by kernel_rfl) rfl (fun K hK => ?_)))
              go_simp
              refine HT.out.mono ?_
              rintro e5 w5 ⟨rfl, hr5, hw5⟩
              have hWd : Within (w.heap.size + 1) (w.heap.size + 2) wa w5 := (within_drew wa _ _).trans hw5
              have hs5 := hWd.size
              have HR5 := Lib.hid hr5
              have HBN5 := Lib.hid (HBNa.out.within hWd (.inr (by omega)))
              have HO5 := Lib.hid (HOa.out.within hWd (by omega))
              have HZ5 := Lib.hid (HZa.out.within hWd (.inl (by omega)))
              have HB5 := Lib.hid (HBa.out.trans ((hWd.below (by omega)).mono (by omega)))
              clear hr5 hw5 hWd HT
              refine hK.out _ _ HBN5.out.cell (fun hHeld => ?_)
              clear hK K
              (try simp only [Go.Act.put, List.setIfInBounds_toArray, List.set_cons_zero, List.set_cons_succ])
              ((refine AnyT.one (i := 4) (by kernel_rfl) rfl (fun K hK => ?_)))
              go_simp
              refine hK.out _ _ (HBN5.out.alloc _).cell (fun hHeld => ?_)
              clear hK K
              (try simp only [Go.Act.put, List.setIfInBounds_toArray, List.set_cons_zero, List.set_cons_succ])
              have hNl5 := HBN5.out.lt
              ((refine AnyT.one (i := 5) (by kernel_rfl) rfl (fun K hK => ?_)))
              refine step_app1 (enc := Value.string) (by rfl) (.tmp 73) (.tmp 76) 29 9 (by rfl) Tryz.underlying29 rfl (by omega) (fun _ => rfl) infoTxt w5 (NB + 1) _ L y (by rfl) HO5.out (by rfl) (by omega) hNl5 ?_
              intro A6 c6 w6 hr6 hb6
              have HBN6 := Lib.hid (HBN5.out.below hb6 (by omega))
              have HR6 := Lib.hid (HR5.out.below hb6 (by omega))
              have HZ6 := Lib.hid (HZ5.out.below hb6 (by omega))
              have HO6 := Lib.hid (show OwnStrs w6 (NB + 1) 9 (.slice A6 (L ++ [y]).length c6) (L ++ [y]) from ⟨⟨_, _, rfl⟩, hr6⟩)
              have HB6 := Lib.hid (HB5.out.trans (hb6.mono (by omega)))
              clear hr6 hb6
              refine hK.out _ _ HBN6.out.cell (fun hHeld => ?_)
              clear hK K
              (try simp only [Go.Act.put, List.setIfInBounds_toArray, List.set_cons_zero, List.set_cons_succ])
              ((refine AnyT.takeAny 6 78 ?_ rfl (by kernel_rfl) (by kernel_rfl) (by kernel_rfl) rfl rfl (fun _ _ _ _ h => h) rfl ?_ (by assumption) ?_); rotate_left; (intro w; go_simp; (try (with_reducible rfl))); simp only [Act.put, List.setIfInBounds_toArray, List.set_cons_zero, List.set_cons_succ])
              have f6 := HBN6.out.cell
              have z6 := HBN6.out.frozen
              have HBN7 := Lib.hid (show Blk (w6.setCell ⟨NB, 1, none⟩ (.slice A6 (L ++ [y]).length c6)) NB 32 #[.string nm, .slice A6 (L ++ [y]).length c6, .string ⟨#[]⟩] from HBN6.out.set_ 1 _)
              have HR7 := Lib.hid (show RdAt (w6.setCell ⟨NB, 1, none⟩ (.slice A6 (L ++ [y]).length c6)) (w.heap.size + 1) T q3 from HR6.out.far (by show w.heap.size + 1 ≠ NB; omega) _)
              have HZ7 := Lib.hid (show Blk (w6.setCell ⟨NB, 1, none⟩ (.slice A6 (L ++ [y]).length c6)) w.heap.size 32 _ from HZ6.out.far (by show w.heap.size ≠ NB; omega) _)
              have HO7 := Lib.hid (HO6.out.set_low (g := NB) (o := 1) (u := (.slice A6 (L ++ [y]).length c6)) (by omega))
              have HB7 := Lib.hid (HB6.out.setCell (p := ⟨NB, 1, none⟩) (by show w.heap.size ≤ NB; omega) (.slice A6 (L ++ [y]).length c6))
              rw [List.length_append, List.length_singleton] at HBN7 HR7 HZ7 HO7 HB7
              generalize hLy : L ++ [y] = Ly at *
              have hLl : Ly.length = L.length + 1 := by rw [← hLy, List.length_append, List.length_singleton]
              rw [← hLl] at HBN7 HR7 HZ7 HO7 HB7
              have HLY := Lib.hid hLy; have HLL := Lib.hid hLl
              clear hLy hLl
              ((refine AnyT.last (i := 7) (by kernel_rfl) rfl (by kernel_rfl) (fun K hK => ?_)))
              go_simp
              refine hK.out _ _ ?_
              clear hK K
              (try simp only [Go.Act.put, List.setIfInBounds_toArray, List.set_cons_zero, List.set_cons_succ])
              refine AnyT.done (by kernel_rfl) ?_ _
              clear f6 z6 hHeld
              go_roundw
              case rel => exact ⟨_, _, _, _, _, _, _, _, _, ⟨q3, g, A6, c6, Ly, hq3, by omega, HR7.out, HBN7.out, HO7.out, HZ7.out, HB7.out, HBN7.out.lt, by rw [HLL.out]; omega, by rw [← HLY.out]; intro z hz; (rcases List.mem_append.1 hz with h | h); exact HLS.out z h; rw [List.mem_singleton.1 h]; exact hy, by rw [← HLY.out, List.append_assoc]; exact H1.out, H2.out⟩, rfl⟩
              case measure => rw [standsAt_rd HR7.out, HSTi.out]; omega
      case rest =>
        obtain ⟨p, A, c, hp, hR, hBN, hO, hd, hLn, hLs, hZ, hB⟩ := hcut
        have hNl := hBN.lt
        have HBNa := Lib.hid hBN; have HOa := Lib.hid hO; have HZa := Lib.hid hZ; have HBa := Lib.hid hB
        have HLS := Lib.hid hLs
        obtain ⟨p7, _, hp7, hd7, _, hm7⟩ := more_at (w.heap.size + 1) T 61 p hp hT wc hR
        rw [hd] at hd7
        rw [← hd7] at HRS
        have HM7 := Lib.hid hm7
        clear hm7 hd7 hd hR hBN hO hZ hB hLs HR2 HBN2 HZ2 HB2 HRY HRN HD2 HPL HR1 HW1
        go_wp2_with fail
        refine HM7.out.mono ?_; rintro e7 w7 ⟨rfl, hr7, hw7⟩
        have hs7 := hw7.size
        have HBN7 := Lib.hid (HBNa.out.within hw7 (.inr (by omega)))
        have HO7 := Lib.hid (HOa.out.within hw7 (by omega))
        have HZ7 := Lib.hid (HZa.out.within hw7 (.inl (by omega)))
        have HB7 := Lib.hid (HBa.out.trans ((hw7.below (by omega)).mono (by omega)))
        obtain ⟨q8, _, hq8, _, hl8, ht8⟩ := textS_at (w.heap.size + 1) T p7 (T.size + 1) hp7 (by omega) hT w7 hr7
        have hvs : (mkB (tS (T.size + 1) (T.data.toList.drop p7)).1).size ≤ 1048576 := by rw [show (mkB (tS (T.size + 1) (T.data.toList.drop p7)).1).size = (tS (T.size + 1) (T.data.toList.drop p7)).1.length from List.size_toArray]; omega
        generalize mkB (tS (T.size + 1) (T.data.toList.drop p7)).1 = val at *
        have HT8 := Lib.hid ht8
        clear ht8 hr7 hw7 HM7 HBNa HOa HZa HBa
        have f7 := HBN7.out.cell
        have z7 := HBN7.out.frozen
        go_wp2_with fail
        refine HT8.out.mono ?_; rintro e8 w8 ⟨rfl, hr8, hw8⟩
        have hs8 := hw8.size
        have HBN8 := Lib.hid (HBN7.out.within hw8 (.inr (by omega)))
        have HO8 := Lib.hid (HO7.out.within hw8 (by omega))
        have HZ8 := Lib.hid (HZ7.out.within hw8 (.inl (by omega)))
        have HB8 := Lib.hid (HB7.out.trans ((hw8.below (by omega)).mono (by omega)))
        clear hr8 hw8 HT8 f7 z7 HBN7 HO7 HZ7 HB7
        have f8 := HBN8.out.cell
        have z8 := HBN8.out.frozen
        go_upto_region 16 with fail
        have HBN9 := Lib.hid (show Blk (w8.setCell ⟨NB, 2, none⟩ (.string val)) NB 32 #[.string nm, .slice A RR.1.length c, .string val] from HBN8.out.set_ 2 _)
        have HO9 := Lib.hid (HO8.out.set_low (g := NB) (o := 2) (u := .string val) (by omega))
        have HZ9 := Lib.hid (show Blk (w8.setCell ⟨NB, 2, none⟩ (.string val)) w.heap.size 32 _ from HZ8.out.far (by show w.heap.size ≠ NB; omega) _)
        have HB9 := Lib.hid (HB8.out.setCell (p := ⟨NB, 2, none⟩) (by show w.heap.size ≤ NB; omega) (.string val))
        generalize w8.setCell ⟨NB, 2, none⟩ (.string val) = w9 at *
        have HXE := HRS.out
        subst HXE
        have HNL := Lib.hid (specNodeLine_any ⟨nm, RR.1, val⟩ (.agg #[.string nm, .slice A RR.1.length c, .string val]) (NB + 1) w9.heap.size w9 ⟨A, c, rfl, OwnR.reads HO9.out⟩ (Nat.le_refl _) ⟨hnm, hvs, by show RR.1.length ≤ _; omega, HLS.out⟩)
        have f9 := HBN9.out.cell
        have hNB9 := HBN9.out.lt
        generalize nodeLineP ⟨nm, RR.1, val⟩ = P at *
        have HEQ := Lib.hid (bytes_eq P T)
        clear f8 z8 HBN8 HO8 HZ8 HB8 HRS
        by_cases hp9 : P = T.data.toList
        · by_cases h0 : T.size = 0
          · have hq : ((⟨P.toArray⟩ : ByteArray).toList == T.toList) = true := by rw [HEQ.out, decide_eq_true hp9]
            have he : T.toList.isEmpty = true := by
              rw [ByteArray.toList_eq, show T.data.toList = [] from List.eq_nil_of_length_eq_zero (by rw [len_list]; exact h0)]; rfl
            have HF := Lib.hid (show Q = none by rw [HRD.out, if_neg (fun h => h.2 (List.eq_nil_of_length_eq_zero (by rw [len_list]; exact h0)))])
            have HH := Lib.hid hp9; have HZ0 := Lib.hid h0
            clear hp9 h0
            generalize (⟨P.toArray⟩ : ByteArray) = PB at *
            go_wp2_with fail
            refine HNL.out.mono ?_; rintro e10 w10 ⟨rfl, hb10⟩
            have hs10 := hb10.size
            have HBN10 := Lib.hid (HBN9.out.below hb10 HBN9.out.lt)
            have HZ10 := Lib.hid (HZ9.out.below hb10 HZ9.out.lt)
            have HO10 := Lib.hid (HO9.out.below hb10)
            have HB10 := Lib.hid (HB9.out.trans (hb10.mono HB9.out.size))
            have f10 := HBN10.out.cell
            have f11 := HZ10.out.cell
            have z11 := HZ10.out.frozen
            clear hb10
            go_wp2_with fail
            refine bodyPost_ret (v := .tuple #[.agg #[.string ⟨#[]⟩, .slice none 0 0, .string ⟨#[]⟩], .bool false]) (by simp [results, Tryz.results52, go_sem, f11]) rfl ⟨?_, ?_⟩
            · exact ⟨_, by rw [HF.out]; rfl, by rw [HF.out]; exact NodO.zero _ _⟩
            · repeat (with_reducible refine Below.setCell ?_ (by first | exact Nat.le_refl _ | (show _ ≤ _; omega)) _)
              exact HB10.out
          · have hq : ((⟨P.toArray⟩ : ByteArray).toList == T.toList) = true := by rw [HEQ.out, decide_eq_true hp9]
            have he := bytes_full T h0
            have HF := Lib.hid (show Q = some ⟨nm, RR.1, val⟩ by rw [HRD.out, if_pos ⟨hp9, fun e => h0 (by rw [← len_list, e]; rfl)⟩])
            have HH := Lib.hid hp9; have HZ0 := Lib.hid h0
            clear hp9 h0
            generalize (⟨P.toArray⟩ : ByteArray) = PB at *
            go_wp2_with fail
            refine HNL.out.mono ?_; rintro e10 w10 ⟨rfl, hb10⟩
            have hs10 := hb10.size
            have HBN10 := Lib.hid (HBN9.out.below hb10 HBN9.out.lt)
            have HZ10 := Lib.hid (HZ9.out.below hb10 HZ9.out.lt)
            have HO10 := Lib.hid (HO9.out.below hb10)
            have HB10 := Lib.hid (HB9.out.trans (hb10.mono HB9.out.size))
            have f10 := HBN10.out.cell
            have f11 := HZ10.out.cell
            have z11 := HZ10.out.frozen
            clear hb10
            go_wp2_with fail
            refine bodyPost_ret (v := .tuple #[.agg #[.string nm, .slice A RR.1.length c, .string val], .bool true]) (by simp [results, Tryz.results52, go_sem, f11]) rfl ⟨?_, ?_⟩
            · exact ⟨_, by rw [HF.out]; rfl, by rw [HF.out]; exact ⟨A, c, rfl, (((HO10.out.mono (by omega)).set_low (by omega)).set_low (by omega)).set_low (by omega)⟩⟩
            · repeat (with_reducible refine Below.setCell ?_ (by first | exact Nat.le_refl _ | (show _ ≤ _; omega)) _)
              exact HB10.out
        · have hq : ((⟨P.toArray⟩ : ByteArray).toList == T.toList) = false := by rw [HEQ.out, decide_eq_false hp9]
          have HF := Lib.hid (show Q = none by rw [HRD.out, if_neg (fun h => hp9 h.1)])
          have HH := Lib.hid hp9
          clear hp9
          generalize (⟨P.toArray⟩ : ByteArray) = PB at *
          go_wp2_with fail
          refine HNL.out.mono ?_; rintro e10 w10 ⟨rfl, hb10⟩
          have hs10 := hb10.size
          have HBN10 := Lib.hid (HBN9.out.below hb10 HBN9.out.lt)
          have HZ10 := Lib.hid (HZ9.out.below hb10 HZ9.out.lt)
          have HO10 := Lib.hid (HO9.out.below hb10)
          have HB10 := Lib.hid (HB9.out.trans (hb10.mono HB9.out.size))
          have f10 := HBN10.out.cell
          have f11 := HZ10.out.cell
          have z11 := HZ10.out.frozen
          clear hb10
          go_wp2_with fail
          refine bodyPost_ret (v := .tuple #[.agg #[.string ⟨#[]⟩, .slice none 0 0, .string ⟨#[]⟩], .bool false]) (by simp [results, Tryz.results52, go_sem, f11]) rfl ⟨?_, ?_⟩
          · exact ⟨_, by rw [HF.out]; rfl, by rw [HF.out]; exact NodO.zero _ _⟩
          · repeat (with_reducible refine Below.setCell ?_ (by first | exact Nat.le_refl _ | (show _ ≤ _; omega)) _)
            exact HB10.out
end Go.Proofs.YtfibjcaidnofmaaGreatDoor

