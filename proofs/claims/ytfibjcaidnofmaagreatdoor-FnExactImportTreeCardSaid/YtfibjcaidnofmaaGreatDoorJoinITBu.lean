/- The reference's ImportTree walked. -/
import Derived.Test.YtfibjcaidnofmaaGreatDoorJoinITBt
namespace Go.Proofs.YtfibjcaidnofmaaGreatDoor
open Go.RowKit

theorem ins_map (ts : List Nod) (x : Nod) : insOne befP keyT (ts.map tyOf) (tyOf x) = (insOne befP keyN ts x).map tyOf ∧ hasOne befP keyT (ts.map tyOf) (tyOf x) = hasOne befP keyN ts x := by
  have e1 : (ts.map tyOf).takeWhile (fun y => befP (keyT y) (keyT (tyOf x))) = (ts.takeWhile fun y => befP (keyN y) (keyN x)).map tyOf := by rw [List.takeWhile_map]; rfl
  have e2 : (ts.map tyOf).dropWhile (fun y => befP (keyT y) (keyT (tyOf x))) = (ts.dropWhile fun y => befP (keyN y) (keyN x)).map tyOf := by rw [List.dropWhile_map]; rfl
  unfold insOne hasOne
  rw [e1, e2]
  cases ts.dropWhile fun y => befP (keyN y) (keyN x) with
  | nil => exact ⟨by rw [List.map_append]; rfl, rfl⟩
  | cons y r =>
    refine ⟨?_, rfl⟩
    rw [List.map_append]
    show _ ++ tyOf x :: (if keyT (tyOf y) = keyT (tyOf x) then r.map tyOf else tyOf y :: r.map tyOf) = _ ++ (x :: (if keyN y = keyN x then r else y :: r)).map tyOf
    rw [keyT_tyOf, keyT_tyOf]
    split <;> rfl
theorem ins_mem {ts : List Nod} {x y : Nod} (h : y ∈ insOne befP keyN ts x) : y ∈ ts ∨ y = x := by
  unfold insOne at h
  rcases List.mem_append.1 h with h | h
  · exact .inl ((List.takeWhile_sublist _).subset h)
  · rcases List.mem_cons.1 h with h | h
    · exact .inr h
    · left
      have hs : y ∈ ts.dropWhile fun y => befP (keyN y) (keyN x) := by
        cases hd : ts.dropWhile fun y => befP (keyN y) (keyN x) with
        | nil => rw [hd] at h; cases h
        | cons z r =>
          rw [hd] at h
          have h' : y ∈ (if keyN z = keyN x then r else z :: r) := h
          split at h'
          · exact List.mem_cons_of_mem _ h'
          · exact h'
      exact (List.dropWhile_sublist _).subset hs
theorem insN_mem : ∀ (L : List Nod) (s : List Nod × Bool) (y : Nod), y ∈ (L.foldl (insStep befP keyN) s).1 → y ∈ s.1 ∨ y ∈ L
  | [], s, y, h => .inl h
  | x :: L, s, y, h => by
    rcases insN_mem L _ y h with h | h
    · rcases ins_mem (show y ∈ insOne befP keyN s.1 x from h) with h | h
      · exact .inl h
      · exact .inr (by rw [h]; exact List.mem_cons_self ..)
    · exact .inr (List.mem_cons_of_mem _ h)
theorem smT_ins {ns : List Nod} (h : ∀ x ∈ ns, nodB x = true) (hn : ns.length ≤ 120) : SmT ((insN ns).1.map tyOf) := by
  refine ⟨by rw [List.length_map]; have := insN_len ns; omega, fun x hx => ?_⟩
  obtain ⟨y, hy, rfl⟩ := List.mem_map.1 hx
  have hy2 : y ∈ ns := by
    rcases insN_mem ns ([], false) y hy with h | h
    · cases h
    · exact h
  have hb := h y hy2
  have h1 := nodB_facts hb
  exact ⟨by have := h1.2.1; show y.subs.length ≤ _; omega, fun z hz => by have := nodB_facts0 hb z hz; omega⟩
/-- The address of a row of the call's own. -/
theorem own_addr {w : World} {lo hi : Nat} {A : Option Addr} {n c : Nat} {ts : List TyNode} (h : Own shTree w lo hi [.slice A n c] ts) : n = ts.length ∧ n ≤ c ∧ ((A = none ∧ n = 0 ∧ c = 0) ∨ ∃ b off, A = some ⟨b, off, none⟩) := by
  obtain ⟨F, ⟨A', c', cs, Fs, e, ho, _⟩, _⟩ := h
  injection e with e _
  injection e with e1 e2 e3
  subst e1 e3
  rcases ho.2 with ⟨e4, e5⟩ | ⟨g, cap, cur, e4, _, _, hn, _⟩
  · injection e4 with e4 e6 e7
    exact ⟨e2, by omega, .inl ⟨e4, by omega, e7⟩⟩
  · injection e4 with e4 e6 e7
    exact ⟨e2, by omega, .inr ⟨g, 0, e4⟩⟩
theorem own_row {w : World} {lo hi : Nat} {A : Option Addr} {c : Nat} {ts : List TyNode} (h : Own shTree w lo hi [.slice A ts.length c] ts) : RowG shNode w lo hi A ts := rowG_of_shape (t := 32) (c := c) h.reads
/-- What a tree's text is read as. -/
def ImpR (w : World) (lo hi : Nat) (imp : Int × List Nod) (e : Ending) : Prop :=
  ∃ A c, e = .returned (.tuple #[.agg #[.slice A imp.2.length c], .int .i64 imp.1]) ∧ shTree.R w lo hi [.slice A imp.2.length c] (imp.2.map tyOf)
theorem impR_none {w : World} {lo hi : Nat} {imp : Int × List Nod} {k : Int} (h : imp = (k, [])) : ImpR w lo hi imp (.returned (.tuple #[.agg #[.slice none 0 0], .int .i64 k])) := by
  subst h
  exact ⟨none, 0, rfl, shTree_R.2 ⟨none, 0, rfl, fun hp => absurd hp (by simp)⟩⟩

theorem importP_nil {l : List UInt8} (h : ¬ 60000 < l.length) (hl : (linesP l).1 = []) : importP l = (14, []) := by
  unfold importP
  rw [if_neg h, hl]
theorem importP_cons {l : List UInt8} (h : ¬ 60000 < l.length) {a : List UInt8} {L : List (List UInt8)} (hl : (linesP l).1 = a :: L) :
    (120 < manyP a → importP l = (4, [])) ∧ (¬ 120 < manyP a → (decide ((linesP l).2 = []) = false ∨ manyP a < 0 ∨ manyP a ≠ L.length) → importP l = (14, [])) ∧
    (¬ 120 < manyP a → decide ((linesP l).2 = []) = true → ¬ manyP a < 0 → manyP a = L.length → (readAll L = none → importP l = (14, [])) ∧ (∀ ns, readAll L = some ns → (insN ns).2 = true → importP l = (5, [])) ∧ (∀ ns, readAll L = some ns → (insN ns).2 = false → importP l = (0, (insN ns).1))) := by
  unfold importP
  rw [if_neg h, hl]
  refine ⟨fun h1 => if_pos h1, fun h1 h2 => ?_, fun h1 h2 h3 h4 => ?_⟩
  · show (if 120 < manyP a then _ else _) = _
    rw [if_neg h1, if_pos]
    rcases h2 with h2 | h2
    · exact .inl (of_decide_eq_false h2)
    · exact .inr h2
  · have e : ∀ X : Int × List Nod, (if 120 < manyP a then (4, []) else if (linesP l).2 ≠ [] ∨ manyP a < 0 ∨ manyP a ≠ L.length then (14, []) else X) = X := fun X => by
      rw [if_neg h1, if_neg]
      rintro (h5 | h5 | h5)
      · exact h5 (of_decide_eq_true h2)
      · exact h3 h5
      · exact h5 h4
    refine ⟨fun hr => (e _).trans (by rw [hr]), fun ns hr hi => (e _).trans (by rw [hr]; exact if_pos hi), fun ns hr hi => (e _).trans (by rw [hr]; exact if_neg (by rw [hi]; exact Bool.false_ne_true))⟩

set_option maxHeartbeats 8000000 in
set_option maxRecDepth 100000 in
theorem specImportTree_any (s : ByteArray) (hs : s.size ≤ 1048576) (w : World) :
    Calls Tryz.prog 16 #[.string s] w fun e w' => ImpR w' w.heap.size w'.heap.size (importP s.data.toList) e ∧ Below w.heap.size w w' := by
  obtain ⟨IMP, hIMP⟩ : ∃ IMP, IMP = importP s.data.toList := ⟨_, rfl⟩
  rw [← hIMP]
  have HI := Lib.hid hIMP
  have hlen : s.data.toList.length = s.size := by simp
  have hb0 := (Below.refl w.heap.size w).alloc (Nat.le_refl _) (.cells #[.slice none 0 0] 26)
  have HB0 := Lib.hid hb0
  have B0 := Lib.hid (Blk.new w 26 #[.slice none 0 0])
  clear hIMP hb0
  by_cases hbig : 60000 < s.size
  · have i1 : (60000 : Int) < (s.size : Int) := by omega
    have HE := Lib.hid (show IMP = (4, []) by rw [HI.out]; unfold importP; rw [if_pos (by rw [hlen]; exact hbig)])
    have f1 := B0.out.cell
    have z1 := B0.out.frozen
    go_enter Tryz.func16, Tryz.ntmps16
    go_wp2_with fail
    refine bodyPost_ret (v := .tuple #[.agg #[.slice none 0 0], .int .i64 4]) (by simp [results, Tryz.results16, go_sem, f1]) rfl ⟨impR_none HE.out, ?_⟩
    first | exact HB0.out | exact HB0.out.setCell (p := ⟨w.heap.size, 0, none⟩) (Nat.le_refl _) _
  · have i1 : ¬ (60000 : Int) < (s.size : Int) := by omega
    have h60 : ¬ 60000 < s.data.toList.length := by rw [hlen]; exact hbig
    have HIN := Lib.hid (fun hl => HI.out.trans (importP_nil h60 hl))
    have HIC := Lib.hid (fun a L hl => importP_cons h60 (a := a) (L := L) hl)
    rw [← HI.out] at HIC
    clear h60
    have HLL := Lib.hid (linesP_len s.data.toList)
    have HLC := Lib.hid (show (linesP s.data.toList).1.length ≤ s.size by rw [linesP_count, ← hlen]; exact List.count_le_length)
    have HLN := Lib.hid (fun W => l22Lines_any s hs W)
    generalize decide ((linesP s.data.toList).2 = []) = wh at *
    generalize (linesP s.data.toList).1 = LS at *
    go_enter Tryz.func16, Tryz.ntmps16
    go_wp2_with fail
    refine (HLN.out _).mono ?_
    rintro e1 w1 ⟨⟨A1, c1, rfl, hr1⟩, hb1⟩
    have HB1 := Lib.hid (HB0.out.trans (hb1.mono HB0.out.size))
    have B01 := Lib.hid (B0.out.below hb1 B0.out.lt)
    have hz0 : (w.alloc (.cells #[.slice none 0 0] 26)).heap.size = w.heap.size + 1 := by simp
    have HR1 := Lib.hid (hr1.more (Nat.zero_le _) (Nat.le_refl _))
    have hs1 : w.heap.size + 1 ≤ w1.heap.size := by have := hb1.size; omega
    clear hr1 hb1 hz0
    have f1 := B01.out.cell
    have z1 := B01.out.frozen
    cases LS with
    | nil =>
      have HE := Lib.hid (show IMP = (14, []) from HIN.out rfl)
      cases wh
      all_goals
        go_wp2_with fail
        refine bodyPost_ret (v := .tuple #[.agg #[.slice none 0 0], .int .i64 14]) (by simp [results, Tryz.results16, go_sem, f1]) rfl ⟨impR_none HE.out, ?_⟩
        exact HB1.out.setCell (by dsimp only; omega) _
    | cons a L =>
      have HLa := Lib.hid (show a.length ≤ s.size by have := HLL.out.1 a (List.mem_cons_self ..); omega)
      have HLi := Lib.hid (show ∀ l ∈ L, l.length ≤ s.size from fun l hl => by have := HLL.out.1 l (List.mem_cons_of_mem _ hl); omega)
      have hll : (a :: L).length = L.length + 1 := rfl
      obtain ⟨n, hn⟩ : ∃ n, n = (a :: L).length := ⟨_, rfl⟩
      rw [← hn] at HR1 ⊢
      have hn1 : n = L.length + 1 := hn
      have hnb : n ≤ 1048576 := by have h0 := HLC.out; rw [hll] at h0; omega
      obtain ⟨b, off, rfl, _, hbl, hc0⟩ := HR1.out.at_ (show 0 < n by omega)
      have hc0 : w1.cell? ⟨b, off, none⟩ = some (.string (mkB a)) := hc0
      have HM := Lib.hid (fun W => l22Many_any (mkB a) (by have h0 := HLa.out; show a.toArray.size ≤ _; rw [List.size_toArray]; omega) W)
      have hma : manyP (mkB a).data.toList = manyP a := rfl
      rw [hma] at HM
      obtain ⟨l1, l2, l3⟩ := HIC.out a L rfl
      have HL1 := Lib.hid l1; have HL2 := Lib.hid l2; have HL3 := Lib.hid l3
      have hmp := manyP_le a
      generalize manyP a = M at *
      clear hn hll hma l1 l2 l3 HIC HIN
      have hn0 : (0 : Int) < (n : Int) := by omega
      have HN1 := Lib.hid hn1
      clear hn1
      go_wp2_with fail
      refine (HM.out _).mono ?_
      rintro e2 w2 ⟨rfl, hb2⟩
      have hs2 := hb2.size
      have HB2 := Lib.hid (HB1.out.trans (hb2.mono (by omega)))
      have B02 := Lib.hid (B01.out.below hb2 (by omega))
      have HR2 := Lib.hid (HR1.out.below hb2 (Nat.le_refl _))
      clear hb2 hc0 f1 z1
      have f1 := B02.out.cell
      have z1 := B02.out.frozen
      by_cases h120 : 120 < M
      · have HE := Lib.hid (HL1.out h120)
        go_wp2_with fail
        refine bodyPost_ret (v := .tuple #[.agg #[.slice none 0 0], .int .i64 4]) (by simp [results, Tryz.results16, go_sem, f1]) rfl ⟨impR_none HE.out, ?_⟩
        exact HB2.out.setCell (by dsimp only; omega) _
      cases wh with
      | false =>
        have HE := Lib.hid (HL2.out (by omega) (.inl rfl))
        go_wp2_with fail
        refine bodyPost_ret (v := .tuple #[.agg #[.slice none 0 0], .int .i64 14]) (by simp [results, Tryz.results16, go_sem, f1]) rfl ⟨impR_none HE.out, ?_⟩
        exact HB2.out.setCell (by dsimp only; omega) _
      | true =>
        by_cases hM0 : M < 0
        · have HE := Lib.hid (HL2.out (by omega) (.inr (.inl hM0)))
          go_wp2_with fail
          refine bodyPost_ret (v := .tuple #[.agg #[.slice none 0 0], .int .i64 14]) (by simp [results, Tryz.results16, go_sem, f1]) rfl ⟨impR_none HE.out, ?_⟩
          exact HB2.out.setCell (by dsimp only; omega) _
        by_cases hML : M = (L.length : Int)
        · obtain ⟨l1, l2, l3⟩ := HL3.out (by omega) rfl (by omega) hML
          have HL4 := Lib.hid l1; have HL5 := Lib.hid l2; have HL6 := Lib.hid l3
          have hneq : (M != (n : Int) - 1) = false := by
            rw [bne_eq_false_iff_eq]; have h0 := HN1.out; omega
          have hL120 : L.length ≤ 120 := by omega
          have hn121 : n ≤ 121 := by have h0 := HN1.out; omega
          clear l1 l2 l3 HL1 HL2 HL3 HM hML
          go_wp2_with fail
          have B0a := Lib.hid (B02.out.alloc (.cells #[.slice none 0 0] 26))
          have BTa := Lib.hid (Blk.new w2 26 #[.slice none 0 0])
          have hba := (Below.refl w2.heap.size w2).alloc (Nat.le_refl _) (.cells #[.slice none 0 0] 26)
          have HBa := Lib.hid hba
          have hza : (w2.alloc (.cells #[.slice none 0 0] 26)).heap.size = w2.heap.size + 1 := by simp
          have HRa := Lib.hid ((HR2.out.below hba hs2).more (Nat.le_refl _) (show w1.heap.size ≤ w2.heap.size from hs2))
          clear hba f1 z1
          generalize w2.alloc (.cells #[.slice none 0 0] 26) = wa at *
          go_loopw [8, 9] (fun x y wr => ∃ (j : Nat) (ns : List Nod) (A : Option Addr) (c : Nat), j ≤ L.length ∧ y = .int .i64 ((j + 1 : Nat) : Int) ∧ x = .bool (insN ns).2 ∧ Hid (readAll (L.take j) = some ns) ∧ Blk wr w2.heap.size 26 #[.slice A ((insN ns).1.map tyOf).length c] ∧ Own shTree wr (w2.heap.size + 1) wr.heap.size [.slice A ((insN ns).1.map tyOf).length c] ((insN ns).1.map tyOf) ∧ Below w2.heap.size wa wr) (fun _ y _ => n + 1 - (intOf y).toNat)
          case atStart => exact ⟨0, [], none, 0, Nat.zero_le _, rfl, rfl, rfl, BTa.out, Own.nil_row _ _ _, Below.refl _ _⟩
          case round =>
            obtain ⟨j, ns, A, c, hj, rfl, rfl, HNS, hBt, hO, hb⟩ := hrel
            have HBt := Lib.hid hBt; have HO := Lib.hid hO; have HB := Lib.hid hb
            have hszr : wa.heap.size ≤ wr.heap.size := hb.size
            have hnsl : ns.length = j := by have h0 := readAll_len HNS.out; rw [List.length_take] at h0; omega
            have HNSL := Lib.hid hnsl
            have HNB := Lib.hid (readAll_ok HNS.out)
            clear hBt hO hb hnsl
            by_cases hlt : j < L.length
            · obtain ⟨q, hq⟩ : ∃ q, q = j + 1 := ⟨_, rfl⟩
              have hqz : ((j + 1 : Nat) : Int) = (q : Int) := by omega
              have hqn : q < n := by have h0 := HN1.out; omega
              have hqi : (q : Int) < (n : Int) := by omega
              obtain ⟨b', off', eb, _, _, hcq⟩ := (HRa.out.below HB.out (Nat.le_refl _)).at_ hqn
              injection eb with eb
              injection eb with eb1 eb2
              subst eb1 eb2
              have hget : ((a :: L).map mkB).getD q ByteArray.empty = mkB (L.getD j []) := by
                rw [hq, List.getD_eq_getElem?_getD, List.getElem?_map, List.getElem?_cons_succ, List.getElem?_eq_getElem hlt, List.getD_eq_getElem?_getD, List.getElem?_eq_getElem hlt]; rfl
              rw [hget] at hcq
              have hLj : L[j]? = some (L.getD j []) := by rw [List.getD_eq_getElem?_getD, List.getElem?_eq_getElem hlt]; rfl
              generalize L.getD j [] = l at *
              have HLj := Lib.hid (show L.take (j + 1) = L.take j ++ [l] by rw [List.take_add_one, hLj]; rfl)
              have HRL := Lib.hid (fun W => by have h0 := specReadLine_any (mkB l) W; rw [show (mkB l).data.toList = l from rfl, rdl_same] at h0; exact h0)
              have HOK := Lib.hid (fun x (h : rdlI l = some x) => rdl_ok l x h)
              have HST := Lib.hid (show readAll (L.take (j + 1)) = (rdlI l).map fun n => ns ++ [n] by rw [HLj.out, readAll_snoc, HNS.out]; rfl)
              generalize rdlI l = RD at *
              have HQ := Lib.hid hq
              rw [hqz]
              clear hget hLj hq hqz
              go_wp2_with fail
              refine (HRL.out _).mono ?_
              rintro e3 w3 ⟨⟨v3, rfl, A3, c3, rfl, ho3⟩, hb3⟩
              have hs3 := hb3.size
              have hb4 := hb3.trans (((Below.refl w3.heap.size w3).alloc (Nat.le_refl _) (.cells #[.string (RD.getD nodD).name, .slice A3 (RD.getD nodD).subs.length c3, .string (RD.getD nodD).value] 32)).mono hs3)
              have HB4 := Lib.hid (HB.out.trans (hb4.mono (by omega)))
              have HBt4 := Lib.hid (HBt.out.below hb4 HBt.out.lt)
              have HO4 := Lib.hid (HO.out.below hb4 (Nat.le_refl _))
              have HN4 := Lib.hid (Blk.new w3 32 #[.string (RD.getD nodD).name, .slice A3 (RD.getD nodD).subs.length c3, .string (RD.getD nodD).value])
              have HS4 := Lib.hid (show StrR (w3.alloc (.cells #[.string (RD.getD nodD).name, .slice A3 (RD.getD nodD).subs.length c3, .string (RD.getD nodD).value] 32)) 0 w3.heap.size A3 (RD.getD nodD).subs.length (RD.getD nodD).subs from ((OwnR.reads (d := ByteArray.empty) ho3).more (Nat.zero_le _) (Nat.le_refl _)).below ((Below.refl w3.heap.size w3).alloc (Nat.le_refl _) _) (Nat.le_refl _))
              have hz4 : (w3.alloc (.cells #[.string (RD.getD nodD).name, .slice A3 (RD.getD nodD).subs.length c3, .string (RD.getD nodD).value] 32)).heap.size = w3.heap.size + 1 := by simp
              clear ho3 hb3 hb4 hcq
              go_upto_region 17 with fail
              generalize w3.alloc (.cells #[.string (RD.getD nodD).name, .slice A3 (RD.getD nodD).subs.length c3, .string (RD.getD nodD).value] 32) = w4 at *
              have B04 := Lib.hid (B0a.out.below HB4.out (by omega))
              cases RD with
              | none =>
                have HE := Lib.hid (HL4.out (readAll_none (k := j + 1) HST.out))
                have f1 := B04.out.cell
                have z1 := B04.out.frozen
                go_wp2_with fail
                refine bodyPost_ret (v := .tuple #[.agg #[.slice none 0 0], .int .i64 14]) (by simp [results, Tryz.results16, go_sem, f1]) rfl ⟨impR_none HE.out, ?_⟩
                exact (HB2.out.trans ((HBa.out.trans (HB4.out.mono (Nat.le_refl _))).mono (by omega))).setCell (by dsimp only; omega) _
              | some x =>
                have hxn : (Option.some x).getD nodD = x := rfl
                rw [hxn] at HN4 HS4
                have hxb := HOK.out x rfl
                have HF := Lib.hid (nodB_facts hxb)
                have HF0 := Lib.hid (nodB_facts0 hxb)
                have HT := Lib.hid (smT_ins HNB.out (by have h0 := HNSL.out; omega))
                have hts120 : ((insN ns).1.map tyOf).length < 120 := by have h0 := HNSL.out; have h1 := insN_len ns; rw [List.length_map]; omega
                have HPUT := Lib.hid (show (insN (ns ++ [x])).1.map tyOf = insOne befP keyT ((insN ns).1.map tyOf) (x.name, x.subs, x.value) by rw [insAll_snoc]; exact (ins_map (insN ns).1 x).1.symm)
                have HHAS := Lib.hid (show ((insN ns).2 || hasK ((insN ns).1.map tyOf) (x.name, x.subs)) = (insN (ns ++ [x])).2 by
                  rw [insAll_snoc]
                  show _ = ((insN ns).2 || hasOne befP keyN (insN ns).1 x)
                  rw [← (ins_map (insN ns).1 x).2, (put_is _ (tyOf x)).2]; rfl)
                obtain ⟨-, hcc, hAA⟩ := own_addr HO4.out
                have hst : x.subs.length ≤ 1048576 ∧ ∀ y ∈ x.subs, y.size ≤ 1048576 := ⟨by have h0 := HF.out.2.1; omega, fun y hy => by have h0 := HF0.out y hy; omega⟩
                have HST2 := Lib.hid hst
                have HCC := Lib.hid hcc
                have HAA := Lib.hid hAA
                generalize (insN ns).1.map tyOf = ts at *
                generalize (insN ns).2 = tw at *
                have hs4w : w3.heap.size < w4.heap.size := by omega
                have HAT := Lib.hid (l03At_any A c (w2.heap.size + 1) wr.heap.size ts x.name A3 c3 0 w3.heap.size x.subs w4 (own_row HO4.out) HS4.out (by omega) (by omega) HT.out hst)
                generalize hHK : hasK ts (x.name, x.subs) = HK at *
                clear hcc hAA hst hxb hxn
                have fB := HBt4.out.cell
                have fN := HN4.out.cell
                go_wp2_with fail
                refine HAT.out.mono ?_
                rintro e5 w5 ⟨rfl, hb5⟩
                have hs5 := hb5.size
                have HB5 := Lib.hid (HB4.out.trans (hb5.mono (by have := HB4.out.size; omega)))
                have HBt5 := Lib.hid (HBt4.out.below hb5 HBt4.out.lt)
                have HO5 := Lib.hid (HO4.out.below hb5 (by omega))
                have HN5 := Lib.hid (HN4.out.below hb5 HN4.out.lt)
                have HS5 := Lib.hid (HS4.out.below hb5 (by omega))
                clear hb5 fB fN HAT
                go_upto_region 20 with fail
                go_cut [8] (fun b wc => b = .bool (tw || HK) ∧ w5 = wc)
                case first =>
                  cases tw
                  all_goals
                    go_wp2_with fail
                    go_meet
                  case rel => exact ⟨rfl, rfl⟩
                  case rel => exact ⟨rfl, rfl⟩
                case rest =>
                  obtain ⟨rfl, rfl⟩ := hcut
                  have fB := HBt5.out.cell
                  have zB := HBt5.out.frozen
                  have fN := HN5.out.cell
                  go_wp2_with fail
                  refine (l03Put_any A c (w2.heap.size + 1) wr.heap.size ts x.name x.value A3 c3 0 w3.heap.size x.subs w5 (own_row HO5.out) HCC.out HS5.out (by omega) (by omega) HT.out HST2.out hts120 HAA.out).mono ?_
                  rintro e6 w6 ⟨⟨A6, c6, rfl, ho6⟩, hb6⟩
                  rw [← HPUT.out] at ho6
                  have HO6 := Lib.hid ho6
                  have HB6 := Lib.hid (HB5.out.trans (hb6.mono (by have := HB5.out.size; omega)))
                  have HBt6 := Lib.hid (HBt5.out.below hb6 HBt5.out.lt)
                  have hs6 := hb6.size
                  clear hb6 ho6 fB zB fN
                  have fB := HBt6.out.cell
                  have zB := HBt6.out.frozen
                  go_wp2_with fail
                  go_roundw
                  case rel => exact ⟨j + 1, ns ++ [x], A6, c6, by omega, congrArg (Value.int .i64) (by have h0 := HQ.out; omega), congrArg Value.bool HHAS.out, HST.out, by rw [HPUT.out]; exact HBt6.out.set_ 0 _, (HO6.out.setCell (by dsimp only; omega) _).more (by omega) (by simp [World.setCell]), HB6.out.setCell (Nat.le_refl _) _⟩
                  case measure => simp [intOf]; have h0 := HQ.out; omega
            · obtain rfl : j = L.length := by omega
              rw [List.take_of_length_le (Nat.le_refl _)] at HNS
              have hqn : ¬ (((L.length + 1 : Nat) : Int) < (n : Int)) := by have h0 := HN1.out; omega
              have B0w := Lib.hid (B0a.out.below HB.out (by omega))
              have HBW := Lib.hid (HB2.out.trans ((HBa.out.trans HB.out).mono (by omega)))
              have f1 := B0w.out.cell
              have z1 := B0w.out.frozen
              have hns : readAll L = some ns := HNS
              cases hTW : (insN ns).2 with
              | true =>
                have HE := Lib.hid (HL5.out ns hns hTW)
                clear hns hTW
                go_wp2_with fail
                refine bodyPost_ret (v := .tuple #[.agg #[.slice none 0 0], .int .i64 5]) (by simp [results, Tryz.results16, go_sem, f1]) rfl ⟨impR_none HE.out, ?_⟩
                exact HBW.out.setCell (by dsimp only; omega) _
              | false =>
                have HE := Lib.hid (HL6.out ns hns hTW)
                have fB := HBt.out.cell
                clear hns hTW
                go_wp2_with fail
                refine bodyPost_ret (v := .tuple #[.agg #[.slice A ((insN ns).1.map tyOf).length c], .int .i64 0]) (by simp [results, Tryz.results16, go_sem, f1]) rfl ⟨?_, ?_⟩
                · rw [HE.out]
                  refine ⟨A, c, by rw [List.length_map], ?_⟩
                  have h0 := ((HO.out.setCell (p := ⟨w.heap.size, 0, none⟩) (by dsimp only; omega) (.slice A ((insN ns).1.map tyOf).length c)).more (lo' := w.heap.size) (hi' := wr.heap.size) (by omega) (Nat.le_refl _)).reads
                  rw [List.length_map] at h0
                  rw [show (wr.setCell ⟨w.heap.size, 0, none⟩ (.slice A (insN ns).1.length c)).heap.size = wr.heap.size by simp [World.setCell]]
                  exact h0
                · exact HBW.out.setCell (by dsimp only; omega) _
        · have HE := Lib.hid (HL2.out (by omega) (.inr (.inr hML)))
          have hneq : (M != (n : Int) - 1) = true := by
            rw [bne_iff_ne]; have h0 := HN1.out; omega
          go_wp2_with fail
          refine bodyPost_ret (v := .tuple #[.agg #[.slice none 0 0], .int .i64 14]) (by simp [results, Tryz.results16, go_sem, f1]) rfl ⟨impR_none HE.out, ?_⟩
          exact HB2.out.setCell (by dsimp only; omega) _

end Go.Proofs.YtfibjcaidnofmaaGreatDoor

