/- The reference's reading of a tree's text, walked: its lines, the number announced, SameSubs. -/
import Derived.Test.YtfibjcaidnofmaaGreatDoorJoinITBk
import Derived.Test.YtfibjcaidnofmaaGreatDoorJoinITAv
import Derived.Test.YtfibjcaidnofmaaGreatDoorJoinITAe
import Derived.Test.YtfibjcaidnofmaaGreatDoorJoinITBc
namespace Go.Proofs.YtfibjcaidnofmaaGreatDoor
open Go.RowKit

set_option maxHeartbeats 4000000 in
set_option maxRecDepth 100000 in
theorem sameSubs_n (A B : Option Addr) (c d : Nat) (xs ys : List ByteArray) (lo hi lo' hi' : Nat) (w : World) (h : StrR w lo hi A xs.length xs) (h' : StrR w lo' hi' B ys.length ys) (hhi : hi ≤ w.heap.size) (hhi' : hi' ≤ w.heap.size) (hn : xs.length ≤ 1048576) (hm : ys.length ≤ 1048576) :
    Calls Tryz.prog 11 #[.slice A xs.length c, .slice B ys.length d] w fun e w' => e = .returned (.bool (sameB xs ys)) ∧ Below w.heap.size w w' := by
  have HC := Lib.hid (l02Same_r A B c d xs ys lo hi lo' hi' w (of_rowR h) (of_rowR h') hhi hhi' (by omega) (by omega))
  generalize sameB xs ys = ANS at *
  clear h h'
  go_enter Tryz.func11, Tryz.ntmps11
  go_wp2_with fail
  refine HC.out.mono ?_
  rintro e1 w1 ⟨rfl, hb1⟩
  have HB := Lib.hid hb1; clear hb1 HC
  go_wp2_with fail
  go_ret
  exact ⟨rfl, HB.out⟩

/-- The lines up to place i: the current one began at place f. -/
structure LinR (s : ByteArray) (i f : Nat) (ls : List ByteArray) : Prop where
  fi : f ≤ i
  is : i ≤ s.size
  eq : (s.data.toList.take i).foldl stepL ([], []) = (ls.map fun x => x.data.toList, (s.extract f i).data.toList)
  few : ls.length ≤ i
theorem LinR.start (s : ByteArray) : LinR s 0 0 [] := ⟨Nat.le_refl _, Nat.zero_le _, by simp, Nat.le_refl _⟩
theorem list_take_succ (s : ByteArray) (i : Nat) (h : i < s.size) : s.data.toList.take (i + 1) = s.data.toList.take i ++ [s[i]] := take_snoc' _ _ _ (get_list s i h)
theorem ext_snoc (s : ByteArray) (f i : Nat) (hf : f ≤ i) (h : i < s.size) : (s.extract f (i + 1)).data.toList = (s.extract f i).data.toList ++ [s[i]] := by
  rw [ByteArray.data_extract, ByteArray.data_extract, Array.toList_extract, Array.toList_extract, List.extract_eq_take_drop, List.extract_eq_take_drop]
  have hlen : s.data.toList.length = s.size := by simp
  rw [show i + 1 - f = (i - f) + 1 by omega]
  refine take_snoc' _ _ _ ?_
  rw [List.getElem?_drop, show f + (i - f) = i by omega]
  exact get_list s i h
theorem LinR.end_ {s : ByteArray} {i f : Nat} {ls : List ByteArray} (h : LinR s i f ls) (hi : i < s.size) (hc : s[i] = 10) : LinR s (i + 1) (i + 1) (ls ++ [s.extract f i]) := by
  obtain ⟨h1, h2, h3, h4⟩ := h
  refine ⟨Nat.le_refl _, hi, ?_, by simp; omega⟩
  rw [list_take_succ s i hi, List.foldl_append, h3, hc, List.foldl_cons, List.foldl_nil, stepL_end]
  simp [ByteArray.data_extract]
theorem LinR.in_ {s : ByteArray} {i f : Nat} {ls : List ByteArray} (h : LinR s i f ls) (hi : i < s.size) (hc : s[i] ≠ 10) : LinR s (i + 1) f ls := by
  obtain ⟨h1, h2, h3, h4⟩ := h
  refine ⟨by omega, hi, ?_, by omega⟩
  rw [list_take_succ s i hi, List.foldl_append, h3, List.foldl_cons, List.foldl_nil, stepL_in _ hc, ext_snoc s f i h1 hi]
theorem LinR.done {s : ByteArray} {f : Nat} {ls : List ByteArray} (h : LinR s s.size f ls) : (linesP s.data.toList).1.map mkB = ls ∧ decide ((linesP s.data.toList).2 = []) = (f == s.size) := by
  have h3 := h.eq
  rw [List.take_of_length_le (by simp)] at h3
  unfold linesP
  rw [h3]
  refine ⟨?_, ?_⟩
  · rw [List.map_map]
    conv => rhs; rw [← List.map_id ls]
    exact List.map_congr_left fun x _ => mkB_data x
  · have hl : (s.extract f s.size).data.toList.length = s.size - f := by
      rw [Array.length_toList]
      show (s.extract f s.size).size = _
      rw [ByteArray.size_extract, Nat.min_self]
    have := h.fi
    by_cases e : f = s.size
    · rw [decide_eq_true (List.eq_nil_of_length_eq_zero (by rw [hl]; omega)), e]; simp
    · rw [decide_eq_false (fun hn => by have hn' : (s.extract f s.size).data.toList = [] := hn; rw [hn'] at hl; simp at hl; omega)]
      symm; rw [beq_eq_false_iff_ne]; exact e

theorem nat_beq (a b : Nat) : (a == b) = ((a : Int) == (b : Int)) := by
  by_cases h : a = b
  · subst h; simp
  · have h2 : ¬ (a : Int) = (b : Int) := by omega
    rw [beq_eq_false_iff_ne.2 h, beq_eq_false_iff_ne.2 h2]
theorem byte_ten {c : UInt8} (h : c = 10) : ((c.toNat : Int) == 10) = true := by subst h; rfl
theorem byte_not_ten {c : UInt8} (h : c ≠ 10) : ((c.toNat : Int) == 10) = false := by
  rw [beq_eq_false_iff_ne]
  intro e
  exact h (UInt8.toNat_inj.1 (by have : c.toNat = 10 := by omega
                                 rw [this]; rfl))

set_option maxHeartbeats 4000000 in
set_option maxRecDepth 100000 in
theorem l22Lines_any (s : ByteArray) (hs : s.size ≤ 1048576) (w : World) :
    Calls Tryz.prog 50 #[.string s] w fun e w' => (∃ A c, e = .returned (.tuple #[.slice A (linesP s.data.toList).1.length c, .bool (decide ((linesP s.data.toList).2 = []))]) ∧ StrR w' w.heap.size w'.heap.size A (linesP s.data.toList).1.length ((linesP s.data.toList).1.map mkB)) ∧ Below w.heap.size w w' := by
  have HD := Lib.hid (fun (f : Nat) (ls : List ByteArray) (h : LinR s s.size f ls) => h.done)
  generalize (linesP s.data.toList).2 = R2 at *
  have hlen : ∃ n, n = (linesP s.data.toList).1.length := ⟨_, rfl⟩
  obtain ⟨n, hn⟩ := hlen
  rw [← hn]
  have HN := Lib.hid (show ((linesP s.data.toList).1.map mkB).length = n by rw [List.length_map]; exact hn.symm)
  clear hn
  generalize (linesP s.data.toList).1.map mkB = R1 at *
  have h0 := Lib.hid (OwnR.none_ (enc := Value.string) w w.heap.size 9 (Nat.le_refl _))
  have hbw := (Below.refl w.heap.size w).alloc (Nat.le_refl _) (.cells #[] 9)
  have HBW := Lib.hid hbw
  clear hbw
  go_enter Tryz.func50, Tryz.ntmps50
  go_wp2_with fail
  generalize w.alloc (.cells #[] 9) = wa at *
  go_loopw [4, 5, 6] (fun v f i wr => ∃ (k g : Nat) (ls : List ByteArray), i = .int .i64 k ∧ f = .int .i64 g ∧ LinR s k g ls ∧ Grows Value.string wr wa.heap.size 9 (.slice (some ⟨w.heap.size, 0, none⟩) 0 0) v ls ∧ Below wa.heap.size wa wr) (fun _ _ i _ => s.size - (intOf i).toNat)
  case atStart => exact ⟨0, 0, [], rfl, rfl, LinR.start s, Grows.start _ _ _ _, Below.refl _ _⟩
  case round =>
    obtain ⟨k, g, ls, rfl, rfl, hL, hown, hbel⟩ := hrel
    have hgk := hL.fi
    have hks := hL.is
    have hfew := hL.few
    by_cases hlt : k < s.size
    · have i1 : (k : Int) < (s.size : Int) := by omega
      by_cases hc : s[k] = 10
      · have HL := Lib.hid (hL.end_ hlt hc)
        have t10 := byte_ten hc
        clear hL hc
        go_wp2_with (at_builtin; refine wpList_app1G rfl (.tmp 18) (.tmp 23) 29 9 rfl Tryz.underlying29 rfl (by omega) (fun _ => rfl) infoString wr wa.heap.size _ _ ls _ rfl hown rfl (by omega) hbel.size ?_; intro v1 w2 hown1 hb2)
        go_roundw
        case rel => exact ⟨k + 1, k + 1, _, by go_num, by go_num, HL.out, hown1, hbel.trans hb2⟩
        case measure => simp [intOf]; omega
      · have HL := Lib.hid (hL.in_ hlt hc)
        have t10 := byte_not_ten hc
        clear hL hc
        go_wp2_with fail
        go_roundw
        case rel => exact ⟨k + 1, g, ls, by go_num, rfl, HL.out, hown, hbel⟩
        case measure => simp [intOf]; omega
    · obtain rfl : k = s.size := by omega
      obtain ⟨e1, e2⟩ := HD.out g ls hL
      have HO := Lib.hid (hown.done h0.out (show Below wa.heap.size wa wr from hbel) HBW.out.size)
      have HB := Lib.hid (HBW.out.trans (hbel.mono HBW.out.size))
      have HE1 := Lib.hid e1
      have HE2 := Lib.hid e2
      clear hL hown hbel e1 e2
      go_wp2_with fail
      go_ret2
      obtain ⟨⟨A, c, rfl⟩, ho⟩ := id HO.out
      have hl : ls.length = n := by rw [← HE1.out]; exact HN.out
      refine ⟨⟨A, c, ?_, ?_⟩, HB.out⟩
      · rw [HE2.out, hl, nat_beq]; rfl
      · rw [HE1.out, ← hl]; exact OwnR.reads HO.out

theorem digit_lo {c : UInt8} : isDig c = false ↔ c.toNat < 48 ∨ 57 < c.toNat := by
  unfold isDig
  rw [decide_eq_false_iff_not]
  omega
theorem nodesW_len {l : List UInt8} (h : nodesW.isPrefixOf l = true) : 6 ≤ l.length := by
  obtain ⟨t, rfl⟩ := List.isPrefixOf_iff_prefix.1 h
  simp [nodesW]
theorem valFrom_snoc (l : List UInt8) (c : UInt8) (n : Nat) : valFrom n (l ++ [c]) = 10 * valFrom n l + dg c := by rw [valFrom_append, valFrom_cons, valFrom_nil]

set_option maxHeartbeats 4000000 in
set_option maxRecDepth 100000 in
theorem l22Many_any (s : ByteArray) (hs : s.size ≤ 1048576) (w : World) :
    Calls Tryz.prog 51 #[.string s] w fun e w' => e = .returned (.int .i64 (manyP s.data.toList)) ∧ Below w.heap.size w w' := by
  have HST := Lib.hid (fun W => l16Starts_any s ⟨#[110, 111, 100, 101, 115, 32]⟩ hs (by decide) W)
  have hlen : s.data.toList.length = s.size := by simp
  cases hp : nodesW.isPrefixOf s.data.toList with
  | false =>
    have HM := Lib.hid (show manyP s.data.toList = -1 by unfold manyP; rw [hp]; rfl)
    rw [HM.out]
    have HP := Lib.hid (show ([110, 111, 100, 101, 115, 32] : List UInt8).isPrefixOf s.data.toList = false from hp)
    clear hp
    go_enter Tryz.func51, Tryz.ntmps51
    go_wp2_with fail
    refine (HST.out _).mono ?_
    rintro e1 w1 ⟨rfl, hb1⟩
    rw [HP.out]
    go_wp2_with fail
    go_ret
    exact ⟨rfl, by subst hb1; exact Below.refl _ _⟩
  | true =>
    have h6 := nodesW_len hp
    have HP := Lib.hid (show ([110, 111, 100, 101, 115, 32] : List UInt8).isPrefixOf s.data.toList = true from hp)
    have hmd : manyP s.data.toList = manyD (s.data.toList.drop 6) := by unfold manyP; rw [hp]; rfl
    rw [hmd]
    have hdl : (s.data.toList.drop 6).length = s.size - 6 := by rw [List.length_drop, hlen]
    clear hp hmd
    by_cases hsz : s.size < 7 ∨ 15 < s.size
    · have HM := Lib.hid (manyD_len (d := s.data.toList.drop 6) (by omega))
      rw [HM.out]
      clear hdl
      by_cases h7 : s.size < 7
      · have i1 : (s.size : Int) < 7 := by omega
        go_enter Tryz.func51, Tryz.ntmps51
        go_wp2_with fail
        refine (HST.out _).mono ?_
        rintro e1 w1 ⟨rfl, hb1⟩
        rw [HP.out]
        go_wp2_with fail
        go_ret
        exact ⟨rfl, by subst hb1; exact Below.refl _ _⟩
      · have i1 : ¬ (s.size : Int) < 7 := by omega
        have i2 : (15 : Int) < (s.size : Int) := by omega
        go_enter Tryz.func51, Tryz.ntmps51
        go_wp2_with fail
        refine (HST.out _).mono ?_
        rintro e1 w1 ⟨rfl, hb1⟩
        rw [HP.out]
        go_wp2_with fail
        go_ret
        exact ⟨rfl, by subst hb1; exact Below.refl _ _⟩
    · have i1 : ¬ (s.size : Int) < 7 := by omega
      have i2 : ¬ (15 : Int) < (s.size : Int) := by omega
      obtain ⟨D, hD⟩ : ∃ D, D = s.data.toList.drop 6 := ⟨_, rfl⟩
      rw [← hD] at hdl ⊢
      have HD := Lib.hid hD
      have HX := Lib.hid (show s.extract 6 s.size = mkB D by rw [ext_take, hD, List.take_of_length_le (by rw [List.length_drop, hlen]; exact Nat.le_refl _)])
      clear hD
      obtain ⟨M, hM⟩ : ∃ M, M = manyD D := ⟨_, rfl⟩
      rw [← hM]
      have HMM := Lib.hid hM
      clear hM
      go_enter Tryz.func51, Tryz.ntmps51
      go_wp2_with fail
      refine (HST.out _).mono ?_
      rintro e1 w1 ⟨rfl, hb1⟩
      subst hb1
      rw [HP.out]
      go_wp2_with fail
      go_loopw [3, 4] (fun n i wr => ∃ k v : Nat, k ≤ D.length ∧ i = .int .i64 ((k + 6 : Nat) : Int) ∧ n = .int .i64 v ∧ v = valFrom 0 (D.take k) ∧ v < 10 ^ k ∧ Hid (∀ c ∈ D.take k, isDig c = true) ∧ w = wr) (fun _ i _ => D.length + 6 - (intOf i).toNat)
      case atStart => exact ⟨0, 0, Nat.zero_le _, rfl, rfl, by simp [valFrom], by omega, fun c hc => by simp at hc, rfl⟩
      case round =>
        obtain ⟨k, v, hk, rfl, rfl, hv, hv10, HDG, rfl⟩ := hrel
        have hV := Lib.hid hv; clear hv
        have hk9 : D.length ≤ 9 := by omega
        have hv9 : v < 1000000000 := Nat.lt_of_lt_of_le hv10 (Nat.le_trans (Nat.pow_le_pow_right (by omega) (show k ≤ 9 by omega)) (by decide))
        by_cases hlt : k < D.length
        · obtain ⟨q, hq⟩ : ∃ q, q = k + 6 := ⟨_, rfl⟩
          have hqz : ((k + 6 : Nat) : Int) = (q : Int) := by omega
          have hqs : q < s.size := by omega
          have hqi : (q : Int) < (s.size : Int) := by omega
          have hDk : D[k]? = some s[q] := by
            have h1 := get_list s q hqs
            rw [HD.out, List.getElem?_drop, Nat.add_comm, ← hq]; exact h1
          have htk := take_snoc' D k _ hDk
          have hp10 : 10 ^ (k + 1) = 10 * 10 ^ k := by rw [Nat.pow_succ]; omega
          rw [hqz]
          have hqk := Lib.hid hq
          clear hq hqz
          by_cases hc1 : s[q].toNat < 48
          · have HM := Lib.hid (manyD_dig (d := D) ⟨_, List.mem_of_getElem? hDk, digit_lo.2 (.inl hc1)⟩)
            have c1 : (s[q].toNat : Int) < 48 := by omega
            clear htk hDk
            go_wp2_with fail
            go_ret
            exact ⟨by rw [show M = -1 from HMM.out.trans HM.out]; rfl, Below.refl _ _⟩
          · have c1 : ¬ (s[q].toNat : Int) < 48 := by omega
            by_cases hc2 : 57 < s[q].toNat
            · have HM := Lib.hid (manyD_dig (d := D) ⟨_, List.mem_of_getElem? hDk, digit_lo.2 (.inr hc2)⟩)
              have c2 : (57 : Int) < (s[q].toNat : Int) := by omega
              clear htk hDk
              go_wp2_with fail
              go_ret
              exact ⟨by rw [show M = -1 from HMM.out.trans HM.out]; rfl, Below.refl _ _⟩
            · have c2 : ¬ (57 : Int) < (s[q].toNat : Int) := by omega
              have hdg : dg s[q] = s[q].toNat - 48 := by unfold dg; omega
              have hdig : isDig s[q] = true := by unfold isDig; rw [decide_eq_true_eq]; omega
              have HV2 := Lib.hid (show 10 * v + dg s[q] = valFrom 0 (D.take (k + 1)) by rw [htk, valFrom_snoc, ← hV.out])
              have HDG2 := Lib.hid (show ∀ c ∈ D.take (k + 1), isDig c = true by
                rw [htk]
                intro c hc
                rcases List.mem_append.1 hc with hc | hc
                · exact HDG.out c hc
                · rw [List.mem_singleton.1 hc]; exact hdig)
              have HW2 := Lib.hid (show 10 * v + dg s[q] < 10 ^ (k + 1) by rw [hp10]; omega)
              have HDV := Lib.hid hdg
              have hsub : (s[q].toNat : Int) - 48 = ((s[q].toNat - 48 : Nat) : Int) := by omega
              clear hdg hdig htk hDk hp10
              go_wp2_with fail
              go_roundw
              case rel => exact ⟨k + 1, 10 * v + dg s[q], by omega, by first | go_num | (congr 1; have := hqk.out; omega), by (congr 1; have := HDV.out; first | omega | (push_cast; omega)), HV2.out, HW2.out, HDG2, trivial⟩
              case measure => simp [intOf]; have := hqk.out; omega
        · obtain rfl : k = D.length := by omega
          rw [List.take_of_length_le (Nat.le_refl _)] at hV HDG
          have hqs : ((D.length + 6 : Nat) : Int) = (s.size : Int) := by omega
          have HDEC := Lib.hid (fun W => l21Dec_any v (by omega) W)
          have hmd : manyD D = if Lib.decDigits v = D then (v : Int) else -1 := by
            unfold manyD
            rw [← hV.out]
            by_cases h : Lib.decDigits v = D
            · rw [if_pos ⟨by omega, hk9, h⟩, if_pos h]
            · rw [if_neg (fun hh => h hh.2.2), if_neg h]
          have HTE := Lib.hid (show ((decT v).toList == (s.extract 6 s.size).toList) = decide (Lib.decDigits v = D) by
            rw [HX.out, ByteArray.toList_eq, ByteArray.toList_eq]
            show ((Lib.decDigits v).toArray.toList == D.toArray.toList) = _
            simp only
            by_cases h : Lib.decDigits v = D
            · rw [decide_eq_true h, h]; simp
            · rw [decide_eq_false h]; exact beq_eq_false_iff_ne.2 h)
          have HMD := Lib.hid (HMM.out.trans hmd)
          have i6 : ¬ (s.size : Int) < 6 := by omega
          clear hmd
          go_wp2_with fail
          refine AnyT.region (fun _ => false) (fun _ => True) (by kernel_rfl) trivial (fun hHeld => ?_)
          have HBD := Lib.hid (below_drewN' w 1)
          have hdr : w.drew = w.drewN 1 := rfl
          rw [hdr]
          generalize w.drewN 1 = w4 at *
          clear hdr
          ((refine AnyT.takeAny 0 42 ?_ rfl (by kernel_rfl) (by kernel_rfl) (by kernel_rfl) rfl rfl (fun _ _ _ _ h => h) rfl ?_ (by assumption) ?_); rotate_left; (intro w; go_simp; (try (with_reducible rfl))); simp only [Act.put, List.setIfInBounds_toArray, List.set_cons_zero, List.set_cons_succ])
          ((refine AnyT.takeAny 2 44 ?_ rfl (by kernel_rfl) (by kernel_rfl) (by kernel_rfl) rfl rfl (fun _ _ _ _ h => h) rfl ?_ (by assumption) ?_); rotate_left; (intro w; go_simp; (try (with_reducible rfl))); simp only [Act.put, List.setIfInBounds_toArray, List.set_cons_zero, List.set_cons_succ])
          refine AnyT.takeAny 3 45 (.string (s.extract 6 s.size)) rfl (by kernel_rfl) (by kernel_rfl) (by kernel_rfl) rfl rfl (fun _ _ _ _ h => h) rfl (fun W => by go_simp) (by assumption) ?_
          simp only [Act.put, List.setIfInBounds_toArray, List.set_cons_zero, List.set_cons_succ]
          ((refine AnyT.one (i := 1) (by kernel_rfl) rfl (fun K hK => ?_)))
          go_simp
          refine (HDEC.out _).mono ?_
          rintro e5 w5 ⟨rfl, hb5⟩
          go_simp
          have HB5 := Lib.hid (HBD.out.trans (hb5.mono HBD.out.size))
          refine hK.out _ _ trivial (fun hHeld => ?_)
          clear hK K hb5
          (try simp only [Act.put, List.setIfInBounds_toArray, List.set_cons_zero, List.set_cons_succ])
          have hte := HTE.out
          by_cases hd : Lib.decDigits v = D
          · rw [decide_eq_true hd] at hte
            ((refine AnyT.takeAny 4 46 ?_ rfl (by kernel_rfl) (by kernel_rfl) (by kernel_rfl) rfl rfl (fun _ _ _ _ h => h) rfl ?_ (by assumption) ?_); rotate_left; (intro w; go_simp; (try (with_reducible rfl))); simp only [Act.put, List.setIfInBounds_toArray, List.set_cons_zero, List.set_cons_succ])
            refine AnyT.done (by kernel_rfl) ?_ _
            clear hHeld
            go_wp2_with fail
            go_ret
            exact ⟨by rw [show M = (v : Int) from HMD.out.trans (if_pos hd)]; rfl, HB5.out⟩
          · rw [decide_eq_false hd] at hte
            ((refine AnyT.takeAny 4 46 ?_ rfl (by kernel_rfl) (by kernel_rfl) (by kernel_rfl) rfl rfl (fun _ _ _ _ h => h) rfl ?_ (by assumption) ?_); rotate_left; (intro w; go_simp; (try (with_reducible rfl))); simp only [Act.put, List.setIfInBounds_toArray, List.set_cons_zero, List.set_cons_succ])
            refine AnyT.done (by kernel_rfl) ?_ _
            clear hHeld
            go_wp2_with fail
            go_ret
            exact ⟨by rw [show M = -1 from HMD.out.trans (if_neg hd)]; rfl, HB5.out⟩

end Go.Proofs.YtfibjcaidnofmaaGreatDoor

