/- The program's reader walked: quoted, scanBytes. -/
import Derived.Test.YtcjaaknnfohllaaGreatDoorJoinRSAAl
import Derived.Test.YtcjaaknnfohllaaGreatDoorJoinRSAAm
import Derived.Test.YtcjaaknnfohllaaGreatDoorShelfA
import Derived.Test.YtcjaaknnfohllaaGreatDoorJoinRSAAh
namespace Go.Proofs.YtcjaaknnfohllaaGreatDoor
open Go.RowKit

/-- What the library reads of the world, the error variables too. -/
def ErrIn (w : World) (g : Nat) : Prop := ∃ ev, w.cell? ⟨g, 0, none⟩ = some ev ∧ (ev = .nilIface ∨ ∃ te pe, ev = .iface te pe)
theorem ErrIn.below {w w' : World} {g : Nat} (h : ErrIn w g) (hb : Below w.heap.size w w') : ErrIn w' g := by
  obtain ⟨ev, h1, h2⟩ := h
  have hlt : g < w.heap.size := by
    rcases Nat.lt_or_ge g w.heap.size with h' | h'
    · exact h'
    · unfold World.cell? at h1
      rw [Array.getElem?_eq_none h'] at h1; cases h1
  exact ⟨ev, (hb.cell (p := ⟨g, 0, none⟩) hlt).trans h1, h2⟩
def EnvR (w : World) : Prop := EnvIn w ∧ ErrIn w 2 ∧ ErrIn w 3
theorem EnvR.below {w w' : World} (h : EnvR w) (hb : Below w.heap.size w w') : EnvR w' := ⟨h.1.below hb, h.2.1.below hb, h.2.2.below hb⟩

theorem atoi_any (s : ByteArray) (hs : s.size ≤ 1048576) (w : World) (hE : EnvR w) : Calls Tryz.prog 125 #[.string s] w fun e w' => (∃ ev, e = .returned (.tuple #[.int .i64 (atoiV s.data.toList), ev])) ∧ Below w.heap.size w w' := by
  cases h : Lib.atoiAll s.data.toList with
  | ok v =>
    refine (Tryz.strconv_Atoi_ok s (by omega) v h w).mono ?_
    rintro e w' ⟨rfl, hw⟩
    refine ⟨⟨.nilIface, by unfold atoiV; rw [h]⟩, ?_⟩
    rcases hw with rfl | ⟨t, rfl⟩
    · exact Below.refl _ _
    · exact ⟨rfl, rfl, rfl, by rw [Lib.bytesWorld_size]; omega, fun k hk => Lib.bytesWorld_at_old w _ t k hk⟩
  | range =>
    obtain ⟨ev, h1, h2⟩ := hE.2.2
    refine (Tryz.strconv_Atoi_range s (by omega) h ev w h1 h2).mono ?_
    rintro e w' ⟨N, rfl, _, _, hb⟩
    exact ⟨⟨_, by unfold atoiV; rw [h]⟩, hb⟩
  | _ =>
    obtain ⟨ev, h1, h2⟩ := hE.2.1
    refine (Tryz.strconv_Atoi_syntax s (by omega) h ev w h1 h2).mono ?_
    rintro e w' ⟨N, rfl, _, _, hb⟩
    exact ⟨⟨_, by unfold atoiV; rw [h]⟩, hb⟩

def addQ (b : List UInt8) (o : Option (List UInt8 × List UInt8)) : Option (List UInt8 × List UInt8) := o.map fun p => (b ++ p.1, p.2)
theorem addQ_cons (b : List UInt8) (c : UInt8) (o : Option (List UInt8 × List UInt8)) : addQ b (o.map (fun p => (c :: p.1, p.2))) = addQ (b ++ [c]) o := by
  cases o with
  | none => rfl
  | some p => unfold addQ; simp
def qIV (n : Nat) : Option (List UInt8 × List UInt8) → Value
  | some p => .tuple #[.string ⟨p.1.toArray⟩, .int .i64 ((n - p.2.length : Nat) : Int)]
  | none => .tuple #[.string ⟨#[]⟩, .int .i64 0]

set_option maxHeartbeats 8000000 in
set_option maxRecDepth 100000 in
theorem quotedI_any (s : ByteArray) (h0 : 1 ≤ s.size) (hs : s.size ≤ 1048576) (w : World) :
    Calls Tryz.prog 107 #[.string s] w fun e w' => e = .returned (qIV s.size (qI (s.data.toList.drop 1))) ∧ Below w.heap.size w w' := by
  generalize hQ : qI (s.data.toList.drop 1) = Q at *
  have HQ := Lib.hid hQ; clear hQ
  have hbn := Lib.hid (bld_new w)
  have HB0 := Lib.hid ((Below.refl w.heap.size w).alloc (Nat.le_refl _) (.cells #[.pointer none, .slice none 0 0] 109))
  go_enter Tryz.func107, Tryz.ntmps107
  go_wp2_with fail
  go_loopw [5] (fun i wr => ∃ (k : Nat) (b : List UInt8), k ≤ s.size ∧ i = .int .i64 k ∧ Bld wr w.heap.size b ∧ b.length ≤ k ∧ addQ b (qI (s.data.toList.drop k)) = Q ∧ Below w.heap.size w wr) (fun i _ => s.size - (intOf i).toNat)
  case atStart => exact ⟨1, [], h0, rfl, hbn.out, by simp, by rw [HQ.out]; cases Q <;> rfl, HB0.out⟩
  case round =>
    obtain ⟨k, b, hk, rfl, hbl, hln, hq, hb⟩ := hrel
    have HBL := Lib.hid hbl; have HB := Lib.hid hb
    have hsz := hb.size
    clear hb hbl
    by_cases hlt : k < s.size
    · have i1 : (k : Int) < (s.size : Int) := by omega
      have i0 : (0 : Int) ≤ (k : Int) := by omega
      have hdk := drop_at s k hlt
      rw [hdk] at hq
      by_cases h34 : s[k] = 34
      · have q34 : ((s[k].toNat : Int) == 34) = true := by rw [h34]; rfl
        rw [h34] at hq
        have i2 : (0 : Int) ≤ (k : Int) + 1 := by omega
        have j1 : ((k : Int) + 1).toNat = k + 1 := by omega
        by_cases hl2 : k + 1 < s.size
        · have i3 : (k : Int) + 1 < (s.size : Int) := by omega
          have hdk2 := drop_at s (k + 1) hl2
          rw [hdk2] at hq
          by_cases h342 : s[k + 1] = 34
          · have q342 : ((s[k + 1].toNat : Int) == 34) = true := by rw [h342]; rfl
            rw [h342, qI_two, addQ_cons] at hq
            have HQ2 := Lib.hid hq
            have HW := Lib.hid (bldByte w.heap.size b 34 wr HBL.out (by omega) hsz)
            clear hq hdk hdk2 h34 h342
            go_wp2_with fail
            refine HW.out.mono ?_; rintro e1 w1 ⟨rfl, hb1, hbb⟩
            go_wp2_with fail
            go_roundw
            case rel => exact ⟨k + 2, b ++ [34], by omega, by go_num, hb1, by rw [List.length_append]; simp only [List.length_cons, List.length_nil]; omega, HQ2.out, HB.out.trans hbb⟩
            case measure => simp [intOf]; omega
          · have q342 : ((s[k + 1].toNat : Int) == 34) = false := by rw [beq_eq_false_iff_ne]; exact fun e => h342 (u8_eq (by have : s[k + 1].toNat = 34 := (by omega); rw [this]; rfl))
            rw [← hdk2, qI_end _ (fun r e => by rw [hdk2] at e; injection e with e1 _; exact h342 e1)] at hq
            have HR := Lib.hid (show qIV s.size Q = .tuple #[.string ⟨b.toArray⟩, .int .i64 ((k : Int) + 1)] by
              rw [← hq]
              unfold addQ qIV
              simp only [Option.map_some, List.append_nil]
              rw [len_at s (k + 1) (by omega)]; rfl)
            have HT := Lib.hid (bldText w.heap.size b wr HBL.out hsz)
            clear hq hdk hdk2 h34 h342
            go_wp2_with fail
            refine HT.out.mono ?_; rintro e1 w1 ⟨rfl, hbb⟩
            go_wp2_with fail
            go_ret2
            exact ⟨by rw [HR.out]; rfl, HB.out.trans hbb⟩
        · have i3 : ¬ (k : Int) + 1 < (s.size : Int) := by omega
          have hk1 : k + 1 = s.size := by omega
          rw [List.drop_of_length_le (show s.data.toList.length ≤ k + 1 by rw [Array.length_toList]; show s.size ≤ k + 1; omega), qI_end [] (fun r e => by cases e)] at hq
          have HR := Lib.hid (show qIV s.size Q = .tuple #[.string ⟨b.toArray⟩, .int .i64 ((k : Int) + 1)] by
            rw [← hq]
            unfold addQ qIV
            simp only [Option.map_some, List.append_nil, List.length_nil, Nat.sub_zero]
            rw [← hk1]; rfl)
          have HT := Lib.hid (bldText w.heap.size b wr HBL.out hsz)
          have HK := Lib.hid hk1
          clear hq hdk h34 hk1
          go_wp2_with fail
          refine HT.out.mono ?_; rintro e1 w1 ⟨rfl, hbb⟩
          go_wp2_with fail
          go_ret2
          exact ⟨by rw [HR.out]; rfl, HB.out.trans hbb⟩
      · have q34 : ((s[k].toNat : Int) == 34) = false := by rw [beq_eq_false_iff_ne]; exact fun e => h34 (u8_eq (by have : s[k].toNat = 34 := (by omega); rw [this]; rfl))
        rw [qI_plain _ _ h34, addQ_cons] at hq
        have HQ2 := Lib.hid hq
        have HW := Lib.hid (bldByte w.heap.size b s[k] wr HBL.out (by omega) hsz)
        clear hq hdk h34
        go_wp2_with fail
        refine HW.out.mono ?_; rintro e1 w1 ⟨rfl, hb1, hbb⟩
        go_wp2_with fail
        go_roundw
        case rel => exact ⟨k + 1, b ++ [s[k]], by omega, by go_num, hb1, by rw [List.length_append]; simp only [List.length_cons, List.length_nil]; omega, HQ2.out, HB.out.trans hbb⟩
        case measure => simp [intOf]; omega
    · have i1 : ¬ (k : Int) < (s.size : Int) := by omega
      rw [List.drop_of_length_le (show s.data.toList.length ≤ k by rw [Array.length_toList]; show s.size ≤ k; omega)] at hq
      have HR := Lib.hid (show qIV s.size Q = .tuple #[.string ⟨#[]⟩, .int .i64 0] by rw [← hq]; rfl)
      clear hq
      go_wp2_with fail
      go_ret2
      exact ⟨by rw [HR.out]; rfl, HB.out⟩

theorem splitB_size (sep : ByteArray) (save : Nat) : ∀ (k : Nat) (s : ByteArray), ∀ x ∈ Lib.splitB sep save k s, x.size ≤ s.size
  | 0, s, x, hx => by rw [Lib.splitB_zero, List.mem_singleton] at hx; rw [hx]; exact Nat.le_refl _
  | k + 1, s, x, hx => by
    unfold Lib.splitB at hx
    split at hx
    · rw [List.mem_singleton] at hx; rw [hx]; exact Nat.le_refl _
    · rcases List.mem_cons.1 hx with h | h
      · rw [h, ByteArray.size_extract]; omega
      · have := splitB_size sep save k _ x h
        rw [ByteArray.size_extract] at this; omega
theorem byteI_mod (v : Int) : ∃ y : UInt8, y = byteI v ∧ v % 256 = (y.toNat : Int) := ⟨_, rfl, by unfold byteI; rw [UInt8.toNat_ofNat']; omega⟩

set_option maxHeartbeats 8000000 in
set_option maxRecDepth 100000 in
theorem scanBytes_any (s : ByteArray) (hs : s.size ≤ 1048576) (w : World) (hE : EnvR w) :
    Calls Tryz.prog 108 #[.string s] w fun e w' => e = .returned (.tuple #[.string ⟨(bI s.data.toList).1.toArray⟩, .string ⟨(bI s.data.toList).2.toArray⟩]) ∧ Below w.heap.size w w' := by
  obtain ⟨m, hm⟩ := hE.1.2
  have HC := Lib.hid (Tryz.strings_Cut s ⟨#[41]⟩ m w (by omega) hm)
  have HE := Lib.hid hE
  have hil : (Lib.cut s.data.toList [41]).1.length ≤ s.size := by
    unfold Lib.cut
    split
    · rw [List.length_take, len_list']; exact Nat.min_le_right _ _
    · rw [len_list']; exact Nat.le_refl _
  have HQ1 := Lib.hid (show (bI s.data.toList).1 = (wordsB ⟨(Lib.cut s.data.toList [41]).1.toArray⟩).map (fun w => byteI (atoiV w.data.toList)) from rfl)
  have HQ2 := Lib.hid (show (bI s.data.toList).2 = (Lib.cut s.data.toList [41]).2.1 from rfl)
  generalize (bI s.data.toList).1 = Q1 at *
  generalize (bI s.data.toList).2 = Q2 at *
  clear hE hm
  go_enter Tryz.func108, Tryz.ntmps108
  go_wp2_with fail
  refine HC.out.mono ?_; rintro e1 w1 ⟨rfl, nq, rfl⟩
  have hEd := Lib.hid (HE.out.below (below_drewN' w nq))
  have HBd := Lib.hid (below_drewN' w nq)
  generalize w.drewN nq = wa at *
  have HI : (⟨(Lib.cut s.data.toList [41]).1.toArray⟩ : ByteArray).size ≤ s.size := by
    show (Lib.cut s.data.toList [41]).1.toArray.size ≤ _
    rw [List.size_toArray]; exact hil
  have HCV := Lib.hid (show (Lib.cut s.data.toList (⟨#[41]⟩ : ByteArray).data.toList) = Lib.cut s.data.toList [41] from rfl)
  rw [HCV.out]
  generalize (⟨(Lib.cut s.data.toList [41]).1.toArray⟩ : ByteArray) = N at *
  have HQ2' := Lib.hid (show (⟨(Lib.cut s.data.toList [41]).2.1.toArray⟩ : ByteArray) = ⟨Q2.toArray⟩ by rw [HQ2.out])
  rw [HQ2'.out]
  generalize (Lib.cut s.data.toList [41]).2.2 = fnd at *
  obtain ⟨m2, hm2⟩ := hEd.out.1.2
  go_upto_region 3 with fail
  have hown0 : OwnR encB (wa.alloc (.cells #[] 5)) wa.heap.size 5 (.slice (some ⟨wa.heap.size, 0, none⟩) 0 0) [] := OwnR.none_ _ _ _ (Nat.le_refl _)
  have HO0 := Lib.hid hown0
  have HB0 := Lib.hid ((Below.refl wa.heap.size wa).alloc (Nat.le_refl _) (.cells #[] 5))
  have hEa := Lib.hid (hEd.out.below HB0.out)
  obtain ⟨m3, hm3⟩ := hEa.out.1.2
  have HSP := Lib.hid (Tryz.strings_Split N ⟨#[44]⟩ m3 _ (by omega) hm3 (by decide))
  have hwl : (wordsB N).length = Lib.countB N ⟨#[44]⟩ + 1 := Lib.splitB_all _ (by decide) 0 _ N rfl
  have hcn : Lib.countB N ⟨#[44]⟩ ≤ N.size := Lib.countB_le _ (by decide) _ N (Nat.le_refl _)
  have hsz0 : wa.heap.size < (wa.alloc (.cells #[] 5)).heap.size := by simp
  generalize hwb : wa.alloc (.cells #[] 5) = wb at *
  have HWB := Lib.hid hwb
  clear hwb hown0 hm2 hm3
  go_wp2_with fail
  refine HSP.out.mono ?_; rintro e2 w2 ⟨rfl, hw2⟩
  rw [← hwl]
  have HLZ := Lib.hid (fun x (hx : x ∈ wordsB N) => splitB_size _ _ _ N x hx)
  have HCE := Lib.hid (show ∀ k (x : ByteArray), (wordsB N)[k]? = some x → w2.cell? ⟨wb.heap.size, k, none⟩ = some (.string x) from fun k x hx => by
    rw [hw2]
    have := (Blk.new wb 9 ((wordsB N).map Value.string).toArray).cell k
    refine this.trans ?_
    rw [List.getElem?_toArray, List.getElem?_map, hx]; rfl)
  have HB2 := Lib.hid (show Below wb.heap.size wb w2 by rw [hw2]; exact (Below.refl _ _).alloc (Nat.le_refl _) _)
  have hsz2 : wb.heap.size < w2.heap.size := by rw [hw2]; simp
  have hll : (wordsB N).length ≤ 1048577 := by omega
  have hE2 := Lib.hid (hEa.out.below HB2.out)
  clear hw2 HSP hcn hwl HWB
  generalize wordsB N = L at *
  go_wp2_with fail
  go_loopw [7, 22] (fun v i wr => ∃ (k : Nat) (bs : List UInt8), k ≤ L.length ∧ i = .int .i64 k ∧ Grows encB wr w2.heap.size 5 (.slice (some ⟨wa.heap.size, 0, none⟩) 0 0) v bs ∧ bs.length = k ∧ bs = (L.take k).map (fun x => byteI (atoiV x.data.toList)) ∧ Below w2.heap.size w2 wr) (fun _ i _ => L.length - (intOf i).toNat)
  case atStart => exact ⟨0, [], Nat.zero_le _, rfl, Grows.start _ _ _ _, rfl, rfl, Below.refl _ _⟩
  case round =>
    obtain ⟨k, bs, hk, rfl, hg, hbl, hbs, hbr⟩ := hrel
    have HBR := Lib.hid hbr; have HBS := Lib.hid hbs
    have hszr := hbr.size
    clear hbs
    by_cases hlt : k < L.length
    · have i1 : (k : Int) < (L.length : Int) := by omega
      have i0 : (0 : Int) ≤ (k : Int) := by omega
      have hgk : L[k]? = some (L.getD k ByteArray.empty) := by rw [List.getD_eq_getElem?_getD, List.getElem?_eq_getElem hlt]; rfl
      have hcell : wr.cell? ⟨wb.heap.size, k, none⟩ = some (.string (L.getD k ByteArray.empty)) := (hbr.cell (p := ⟨wb.heap.size, k, none⟩) hsz2).trans (HCE.out k _ hgk)
      have hxs := HLZ.out _ (List.mem_of_getElem? hgk)
      have HAT := Lib.hid (atoi_any (L.getD k ByteArray.empty) (by omega) wr (hE2.out.below hbr))
      obtain ⟨y, hy, hmod⟩ := byteI_mod (atoiV (L.getD k ByteArray.empty).data.toList)
      have HNX := Lib.hid (show bs ++ [y] = (L.take (k + 1)).map (fun x => byteI (atoiV x.data.toList)) by
        rw [List.take_succ_eq_append_getElem hlt, List.map_append, ← HBS.out, hy, List.getD_eq_getElem?_getD, List.getElem?_eq_getElem hlt]; rfl)
      clear hbr hy hgk
      generalize atoiV (L.getD k ByteArray.empty).data.toList = V at *
      generalize L.getD k ByteArray.empty = X at *
      have hb2 : bs.length ≤ 2000000 := by omega
      go_wp2_with fail
      refine HAT.out.mono ?_; rintro e3 w3 ⟨⟨ev, rfl⟩, hb3⟩
      have hg3 : Grows encB w3 w2.heap.size 5 (.slice (some ⟨wa.heap.size, 0, none⟩) 0 0) u7 bs := by
        rcases hg with hg | hg
        · exact .inl (hg.below hb3)
        · exact .inr hg
      have hs3 := Nat.le_trans hszr hb3.size
      go_wp2_with (first
        | fail
        | (at_builtin; refine wpList_app1G (enc := encB) rfl (.tmp 31) (.tmp 34) 102 5 rfl Tryz.underlying102 rfl (by omega) (fun _ => rfl) infoByte w3 w2.heap.size _ _ bs y rfl hg3 rfl (by omega) hs3 ?_; intro v4 w4 hown4 hb4))
      go_roundw
      case rel => exact ⟨k + 1, _, by omega, by go_num, hown4, by rw [List.length_append, hbl]; rfl, HNX.out, HBR.out.trans ((hb3.mono hszr).trans hb4)⟩
      case measure => simp [intOf]; omega
    · have i1 : ¬ (k : Int) < (L.length : Int) := by omega
      have hown := Grows.done hg HO0.out (HB2.out.trans (HBR.out.mono HB2.out.size)) (Nat.le_trans (Nat.le_of_lt hsz0) HB2.out.size)
      have hcv := convert_own hown
      have HR1 := Lib.hid (show bs = Q1 by rw [HBS.out, HQ1.out, List.take_of_length_le (by omega)])
      go_wp2_with fail
      go_ret2
      exact ⟨by rw [← HR1.out]; rfl, HBd.out.trans ((HB0.out.trans ((HB2.out.trans (HBR.out.mono HB2.out.size)).mono HB0.out.size)).mono HBd.out.size)⟩
end Go.Proofs.YtcjaaknnfohllaaGreatDoor

/- The reference's reader walked: text. -/
namespace Go.Proofs.YtcjaaknnfohllaaGreatDoor
open Go.RowKit

theorem qS_sum : ∀ (n : Nat) (l : List UInt8), l.length ≤ n → (qS l).1.length + (qS l).2.length ≤ l.length
  | n, [], _ => by unfold qS; exact Nat.le_refl _
  | 0, _ :: _, h => absurd h (by simp)
  | n + 1, c :: l, h => by
    rw [List.length_cons] at h
    by_cases hc : c = 34
    · subst hc
      cases l with
      | nil => rw [qS_end [] (fun r e => by cases e)]; exact Nat.zero_le _
      | cons d r =>
        by_cases hd : d = 34
        · subst hd
          rw [List.length_cons] at h
          have := qS_sum n r (by omega)
          rw [qS_two]
          simp only [List.length_cons]; omega
        · rw [qS_end _ (fun z e => hd (by injection e))]
          simp only [List.length_cons, List.length_nil]; omega
    · have := qS_sum n l (by omega)
      rw [qS_plain c l hc]
      simp only [List.length_cons]; omega
theorem cS_sum : ∀ (f : Nat) (l : List UInt8), (cS f l).1.length + (cS f l).2.length ≤ l.length + 1
  | 0, l => by show 0 + l.length ≤ _; omega
  | f + 1, l => by
    have hr := dS_rest 3 0 l
    rw [cS_step]
    by_cases h1 : ∃ r, (dS 3 0 l).2 = 44 :: r
    · obtain ⟨r, e⟩ := h1
      rw [e, List.length_cons] at hr
      have := cS_sum f r
      rw [e, cT_comma]
      simp only [List.length_cons]; omega
    · by_cases h2 : ∃ r, (dS 3 0 l).2 = 41 :: r
      · obtain ⟨r, e⟩ := h2
        rw [e, List.length_cons] at hr
        rw [e, cT_close]
        simp only [List.length_cons, List.length_nil]; omega
      · rw [cT_stop f _ (fun r e => h1 ⟨r, e⟩) (fun r e => h2 ⟨r, e⟩)]
        simp only [List.length_cons, List.length_nil]; omega
/-- What a reading leaves is an end of the text. -/
theorem qS_place (T : ByteArray) (p : Nat) (hp : p ≤ T.size) : ∃ q, p ≤ q ∧ q ≤ T.size ∧ T.data.toList.drop q = (qS (T.data.toList.drop p)).2 := by
  have : ∀ (n : Nat) (l : List UInt8), l.length ≤ n → ∃ m, m ≤ l.length ∧ l.drop m = (qS l).2 := by
    intro n
    induction n with
    | zero => intro l h; obtain rfl := List.eq_nil_of_length_eq_zero (Nat.le_zero.1 h); exact ⟨0, Nat.zero_le _, rfl⟩
    | succ n ih =>
      intro l h
      cases l with
      | nil => exact ⟨0, Nat.zero_le _, rfl⟩
      | cons c l =>
        rw [List.length_cons] at h
        by_cases hc : c = 34
        · subst hc
          cases l with
          | nil => exact ⟨1, by simp, by rw [qS_end [] (fun r e => by cases e)]; rfl⟩
          | cons d r =>
            by_cases hd : d = 34
            · subst hd
              rw [List.length_cons] at h
              obtain ⟨m, h1, h2⟩ := ih r (by omega)
              exact ⟨m + 2, by simp only [List.length_cons]; omega, by rw [qS_two, List.drop_succ_cons, List.drop_succ_cons]; exact h2⟩
            · exact ⟨1, by simp, by rw [qS_end _ (fun z e => hd (by injection e))]; rfl⟩
        · obtain ⟨m, h1, h2⟩ := ih l (by omega)
          exact ⟨m + 1, by rw [List.length_cons]; omega, by rw [qS_plain c l hc, List.drop_succ_cons]; exact h2⟩
  obtain ⟨m, h1, h2⟩ := this _ (T.data.toList.drop p) (Nat.le_refl _)
  rw [List.length_drop, Array.length_toList] at h1
  have h1' : m ≤ T.size - p := h1
  exact ⟨p + m, by omega, by omega, by rw [← h2, List.drop_drop]⟩
theorem cS_place (T : ByteArray) (f p : Nat) (hp : p ≤ T.size) : ∃ q, p ≤ q ∧ q ≤ T.size ∧ T.data.toList.drop q = (cS f (T.data.toList.drop p)).2 := by
  induction f generalizing p with
  | zero => exact ⟨p, Nat.le_refl _, hp, rfl⟩
  | succ f ih =>
    obtain ⟨q, h1, h2, h3⟩ := dS_place T p hp
    rw [cS_step, ← h3]
    have next : ∀ c r, T.data.toList.drop q = c :: r → q < T.size ∧ r = T.data.toList.drop (q + 1) := by
      intro c r e
      have hlt : q < T.size := by
        rcases Nat.lt_or_ge q T.size with h' | h'
        · exact h'
        · rw [List.drop_of_length_le (by rw [Array.length_toList]; exact h')] at e; cases e
      refine ⟨hlt, ?_⟩
      have := drop_at T q hlt
      rw [e] at this
      injection this
    by_cases k1 : ∃ r, T.data.toList.drop q = 44 :: r
    · obtain ⟨r, e⟩ := k1
      obtain ⟨hlt, hr⟩ := next _ _ e
      obtain ⟨q2, g1, g2, g3⟩ := ih (q + 1) hlt
      exact ⟨q2, by omega, g2, by rw [e, cT_comma, hr]; exact g3⟩
    · by_cases k2 : ∃ r, T.data.toList.drop q = 41 :: r
      · obtain ⟨r, e⟩ := k2
        obtain ⟨hlt, hr⟩ := next _ _ e
        exact ⟨q + 1, by omega, hlt, by rw [e, cT_close, hr]⟩
      · exact ⟨q, h1, h2, by rw [cT_stop f _ (fun r e => k1 ⟨r, e⟩) (fun r e => k2 ⟨r, e⟩)]⟩
theorem quotedS_at (B : Nat) (T : ByteArray) (a : Nat) (ha : a ≤ T.size) (hT : T.size ≤ 1048576) (w : World) (hB : RdAt w B T a) :
    ∃ x q, a ≤ q ∧ q ≤ T.size ∧ x.length ≤ q - a ∧ qS (T.data.toList.drop a) = (x, T.data.toList.drop q) ∧
      Calls Tryz.prog 96 #[.pointer (some ⟨B, 0, none⟩)] w fun e w' => e = .returned (.string ⟨x.toArray⟩) ∧ RdAt w' B T q ∧ Within B (B + 1) w w' := by
  obtain ⟨q, h1, h2, h3⟩ := qS_place T a ha
  have hs := qS_sum _ (T.data.toList.drop a) (Nat.le_refl _)
  have hc := quotedS_any B T a ha hT w hB
  rw [← h3, len_at T q h2] at hc
  rw [← h3, List.length_drop, List.length_drop, Array.length_toList] at hs
  have hs' : (qS (T.data.toList.drop a)).1.length + (T.size - q) ≤ T.size - a := hs
  exact ⟨_, q, h1, h2, by omega, by rw [h3], hc⟩
theorem codesS_at (B : Nat) (T : ByteArray) (a f : Nat) (ha : a ≤ T.size) (hf : T.size - a < f) (hT : T.size ≤ 1048576) (w : World) (hB : RdAt w B T a) :
    ∃ x q, a ≤ q ∧ q ≤ T.size ∧ x.length ≤ q - a + 1 ∧ cS f (T.data.toList.drop a) = (x, T.data.toList.drop q) ∧
      Calls Tryz.prog 97 #[.pointer (some ⟨B, 0, none⟩)] w fun e w' => e = .returned (.string ⟨x.toArray⟩) ∧ RdAt w' B T q ∧ Within B (B + 1) w w' := by
  obtain ⟨q, h1, h2, h3⟩ := cS_place T f a ha
  have hs := cS_sum f (T.data.toList.drop a)
  have hc := codesS_any B T a f ha hf hT w hB
  rw [← h3, len_at T q h2] at hc
  rw [← h3, List.length_drop, List.length_drop, Array.length_toList] at hs
  have hs' : (cS f (T.data.toList.drop a)).1.length + (T.size - q) ≤ T.size - a + 1 := hs
  exact ⟨_, q, h1, h2, by omega, by rw [h3], hc⟩
theorem pre_place (T : ByteArray) (p : Nat) (pre : List UInt8) (h : pre.isPrefixOf (T.data.toList.drop p) = true) (hp : p ≤ T.size) : p + pre.length ≤ T.size := by
  have := (List.isPrefixOf_iff_prefix.1 h).length_le
  rw [List.length_drop, Array.length_toList] at this
  have h' : pre.length ≤ T.size - p := this
  omega

set_option maxHeartbeats 8000000 in
set_option maxRecDepth 100000 in
theorem textS_any (B : Nat) (T : ByteArray) (a f : Nat) (ha : a ≤ T.size) (hf : T.size - a < f) (hT : T.size ≤ 1048576) (w : World) (hB : RdAt w B T a) :
    Calls Tryz.prog 41 #[.pointer (some ⟨B, 0, none⟩)] w fun e w' => e = .returned (.string ⟨(tS f (T.data.toList.drop a)).1.toArray⟩) ∧ RdAt w' B T (T.size - (tS f (T.data.toList.drop a)).2.length) ∧ Within B (B + 1) w w' ∧ (tS f (T.data.toList.drop a)).1.length ≤ 2 * T.size := by
  have hBl := hB.lt
  generalize hQ : tS f (T.data.toList.drop a) = Q at *
  have HQ := Lib.hid hQ; have HB := Lib.hid hB
  clear hQ hB
  go_enter Tryz.func41, Tryz.ntmps41
  go_wp2_with fail
  go_loopw [3] (fun v wr => ∃ (p g : Nat) (o : List UInt8), p ≤ T.size ∧ T.size - p < g ∧ RdAt wr B T p ∧ v = .string ⟨o.toArray⟩ ∧ o.length ≤ 2 * p ∧ o ++ (tS g (T.data.toList.drop p)).1 = Q.1 ∧ (tS g (T.data.toList.drop p)).2 = Q.2 ∧ Within B (B + 1) w wr) (fun _ wr => T.size - standsAt wr B)
  case atStart => exact ⟨a, f, [], ha, hf, HB.out, rfl, Nat.zero_le _, by rw [HQ.out]; rfl, by rw [HQ.out], within_refl _ _ _⟩
  case round =>
    obtain ⟨p, g, o, hp, hg, hR, rfl, hol, h1, h2, hw⟩ := hrel
    obtain ⟨g, rfl⟩ : ∃ h, g = h + 1 := ⟨g - 1, by omega⟩
    have H1 := Lib.hid h1; have H2 := Lib.hid h2; have HW := Lib.hid hw; have HR := Lib.hid hR
    have hws := hw.size
    have HST := Lib.hid (standsAt_rd hR)
    have HM := Lib.hid (more_any B T ⟨#[34]⟩ p hp hT (by decide) wr hR)
    clear h1 h2 hw hR
    cases hm : (⟨#[34]⟩ : ByteArray).data.toList.isPrefixOf (T.data.toList.drop p)
    · rw [hm, if_neg (by decide)] at HM
      go_wp2_with fail
      refine HM.out.mono ?_; rintro e1 w1 ⟨rfl, hr1, hw1⟩
      have HW1 := Lib.hid (HW.out.trans hw1)
      have HR1 := Lib.hid hr1
      have HM2 := Lib.hid (more_any B T ⟨#[36, 67, 40]⟩ p hp hT (by decide) w1 hr1)
      have HP34 := Lib.hid hm
      clear hr1 hw1 HM hm
      cases hm2 : (⟨#[36, 67, 40]⟩ : ByteArray).data.toList.isPrefixOf (T.data.toList.drop p)
      · rw [hm2, if_neg (by decide)] at HM2
        have HT := Lib.hid (tS_n g (T.data.toList.drop p) HP34.out hm2)
        clear hm2
        go_wp2_with fail
        refine HM2.out.mono ?_; rintro e2 w2 ⟨rfl, hr2, hw2⟩
        have HW2 := Lib.hid (HW1.out.trans hw2)
        have HR2 := Lib.hid hr2
        have f2 := hr2.cell
        clear hw2 hr2
        go_wp2_with fail
        go_loopw [] (fun wi => ∃ q : Nat, p ≤ q ∧ q ≤ T.size ∧ RdAt wi B T q ∧ (∀ c ∈ (T.data.toList.drop p).take (q - p), numCh c = true) ∧ Within B (B + 1) w wi) (fun wi => T.size - standsAt wi B)
        case atStart => exact ⟨p, Nat.le_refl _, hp, HR2.out, (fun c h => by rw [Nat.sub_self] at h; cases h), HW2.out⟩
        case round =>
          clear f2
          obtain ⟨q, hq1, hq2, hRi, hall, hwi⟩ := hrel
          have HWi := Lib.hid hwi; have HRi := Lib.hid hRi; have HALL := Lib.hid hall
          have HSTi := Lib.hid (standsAt_rd hRi)
          have fi := hRi.cell
          clear hwi hRi hall
          have q0 : (0 : Int) ≤ (q : Int) := by omega
          have p0 : (0 : Int) ≤ (p : Int) := by omega
          have pq : (p : Int) ≤ (q : Int) := by omega
          have qs : (q : Int) ≤ (T.size : Int) := by omega
          have hlen : (T.data.toList.drop p).length = T.size - p := by rw [List.length_drop, Array.length_toList]; rfl
          by_cases hlt : q < T.size
          · have i1 : (q : Int) < (T.size : Int) := by omega
            have hat : (T.data.toList.drop p)[q - p]? = some T[q] := by
              rw [List.getElem?_drop, show p + (q - p) = q by omega]; exact get_list T q hlt
            have HNX := Lib.hid (fun h : numCh T[q] = true => show ∀ c ∈ (T.data.toList.drop p).take (q + 1 - p), numCh c = true by
              rw [show q + 1 - p = (q - p) + 1 by omega, take_snoc' _ _ _ hat]
              intro c hc
              rcases List.mem_append.1 hc with hc | hc
              · exact HALL.out c hc
              · rw [List.mem_singleton.1 hc]; exact h)
            have HEX := Lib.hid (fun h : numCh T[q] = false => span_exit numCh (T.data.toList.drop p) (q - p) (by rw [hlen]; omega) HALL.out (fun c hc => by rw [hat] at hc; injection hc with hc; rw [← hc]; exact h))
            clear hat hlen
            have hcase : (numCh T[q] = true ∧ 48 ≤ T[q].toNat ∧ T[q].toNat ≤ 57) ∨ (numCh T[q] = true ∧ T[q].toNat = 45) ∨ (numCh T[q] = true ∧ T[q].toNat = 46) ∨ (numCh T[q] = false ∧ T[q].toNat < 48 ∧ T[q].toNat ≠ 45 ∧ T[q].toNat ≠ 46) ∨ (numCh T[q] = false ∧ 57 < T[q].toNat) := by
              have e45 : (T[q] == 45) = decide (T[q].toNat = 45) := by rw [Bool.eq_iff_iff, beq_iff_eq, decide_eq_true_iff]; exact ⟨fun e => by rw [e]; rfl, fun e => u8_eq e⟩
              have e46 : (T[q] == 46) = decide (T[q].toNat = 46) := by rw [Bool.eq_iff_iff, beq_iff_eq, decide_eq_true_iff]; exact ⟨fun e => by rw [e]; rfl, fun e => u8_eq e⟩
              unfold numCh isDig
              rw [e45, e46]
              by_cases k1 : T[q].toNat = 45
              · right; left; exact ⟨by simp [k1], k1⟩
              · by_cases k2 : T[q].toNat = 46
                · right; right; left; exact ⟨by simp [k2], k2⟩
                · by_cases k3 : 48 ≤ T[q].toNat
                  · by_cases k4 : T[q].toNat ≤ 57
                    · left; exact ⟨by simp [k3, k4], k3, k4⟩
                    · right; right; right; right; exact ⟨by simp [k1, k2]; omega, by omega⟩
                  · right; right; right; left; exact ⟨by simp [k1, k2]; omega, by omega, k1, k2⟩
            generalize numCh T[q] = NC at *
            rcases hcase with ⟨rfl, k1, k2⟩ | ⟨rfl, k1⟩ | ⟨rfl, k1⟩ | ⟨rfl, k1, k2, k3⟩ | ⟨rfl, k1⟩
            · have c1 : (48 : Int) ≤ (T[q].toNat : Int) := by omega
              have c2 : (T[q].toNat : Int) ≤ 57 := by omega
              have kd : decide ((48 : Int) ≤ (T[q].toNat : Int)) = true := decide_eq_true c1
              have kd' : decide (48 ≤ T[q].toNat) = true := decide_eq_true k1
              have ke : decide ((T[q].toNat : Int) ≤ 57) = true := decide_eq_true c2
              have ke' : decide (T[q].toNat ≤ 57) = true := decide_eq_true k2
              go_wp2_with fail
              go_quiet (fail)
              have R1 : RdAt (wr.drewN nq) B T q := HRi.out
              have W1 : Within B (B + 1) w (wr.drewN nq) := HWi.out.trans (Within.of_below (below_drewN' wr nq))
              generalize wr.drewN nq = wb at *
              have fb := R1.cell
              have zb := R1.frozen
              have HR3 := Lib.hid (show RdAt (wb.setCell ⟨B, 1, none⟩ (.int .i64 ((q : Int) + 1))) B T (q + 1) from R1.set_ 1 (.int .i64 ((q : Int) + 1)))
              have HW3 := Lib.hid (W1.trans (within_set wb B 1 (.int .i64 ((q : Int) + 1))))
              clear R1 W1 fi
              go_wp2_with fail
              go_roundw
              case rel => exact ⟨q + 1, by omega, by omega, HR3.out, HNX.out (by first | rfl | trivial), HW3.out⟩
              case measure => rw [standsAt_rd HR3.out, HSTi.out]; omega
            · have c1 : ¬ (48 : Int) ≤ (T[q].toNat : Int) := by omega
              have kd : decide ((48 : Int) ≤ (T[q].toNat : Int)) = false := decide_eq_false c1
              have kd' : decide (48 ≤ T[q].toNat) = false := decide_eq_false (by omega)
              have q45 : ((T[q].toNat : Int) == 45) = true := by rw [beq_iff_eq]; omega
              have HK := Lib.hid k1; clear k1
              go_wp2_with fail
              go_quiet (fail)
              have R1 : RdAt (wr.drewN nq) B T q := HRi.out
              have W1 : Within B (B + 1) w (wr.drewN nq) := HWi.out.trans (Within.of_below (below_drewN' wr nq))
              generalize wr.drewN nq = wb at *
              have fb := R1.cell
              have zb := R1.frozen
              have HR3 := Lib.hid (show RdAt (wb.setCell ⟨B, 1, none⟩ (.int .i64 ((q : Int) + 1))) B T (q + 1) from R1.set_ 1 (.int .i64 ((q : Int) + 1)))
              have HW3 := Lib.hid (W1.trans (within_set wb B 1 (.int .i64 ((q : Int) + 1))))
              clear R1 W1 fi
              go_wp2_with fail
              go_roundw
              case rel => exact ⟨q + 1, by omega, by omega, HR3.out, HNX.out (by first | rfl | trivial), HW3.out⟩
              case measure => rw [standsAt_rd HR3.out, HSTi.out]; omega
            · have c1 : ¬ (48 : Int) ≤ (T[q].toNat : Int) := by omega
              have kd : decide ((48 : Int) ≤ (T[q].toNat : Int)) = false := decide_eq_false c1
              have kd' : decide (48 ≤ T[q].toNat) = false := decide_eq_false (by omega)
              have q45 : ((T[q].toNat : Int) == 45) = false := by rw [beq_eq_false_iff_ne]; omega
              have q46 : ((T[q].toNat : Int) == 46) = true := by rw [beq_iff_eq]; omega
              have HK := Lib.hid k1; clear k1
              go_wp2_with fail
              go_quiet (fail)
              have R1 : RdAt (wr.drewN nq) B T q := HRi.out
              have W1 : Within B (B + 1) w (wr.drewN nq) := HWi.out.trans (Within.of_below (below_drewN' wr nq))
              generalize wr.drewN nq = wb at *
              have fb := R1.cell
              have zb := R1.frozen
              have HR3 := Lib.hid (show RdAt (wb.setCell ⟨B, 1, none⟩ (.int .i64 ((q : Int) + 1))) B T (q + 1) from R1.set_ 1 (.int .i64 ((q : Int) + 1)))
              have HW3 := Lib.hid (W1.trans (within_set wb B 1 (.int .i64 ((q : Int) + 1))))
              clear R1 W1 fi
              go_wp2_with fail
              go_roundw
              case rel => exact ⟨q + 1, by omega, by omega, HR3.out, HNX.out (by first | rfl | trivial), HW3.out⟩
              case measure => rw [standsAt_rd HR3.out, HSTi.out]; omega
            · have c1 : ¬ (48 : Int) ≤ (T[q].toNat : Int) := by omega
              have kd : decide ((48 : Int) ≤ (T[q].toNat : Int)) = false := decide_eq_false c1
              have kd' : decide (48 ≤ T[q].toNat) = false := decide_eq_false (by omega)
              have q45 : ((T[q].toNat : Int) == 45) = false := by rw [beq_eq_false_iff_ne]; omega
              have q46 : ((T[q].toNat : Int) == 46) = false := by rw [beq_eq_false_iff_ne]; omega
              clear k1 k2 k3
              go_wp2_with fail
              go_quiet (fail)
              have R1 : RdAt (wr.drewN nq) B T q := HRi.out
              have W1 : Within B (B + 1) w (wr.drewN nq) := HWi.out.trans (Within.of_below (below_drewN' wr nq))
              generalize wr.drewN nq = wb at *
              have HF1 := Lib.hid (show o ++ (T.data.toList.drop p).take (q - p) = Q.1 by rw [← H1.out, HT.out, (HEX.out (by first | rfl | trivial)).1])
              have HF2 := Lib.hid (drop_len T q Q.2 hq2 (by rw [← H2.out, HT.out, (HEX.out (by first | rfl | trivial)).2, List.drop_drop]; congr 1; omega))
              clear fi
              have fb := R1.cell
              go_wp2_with fail
              go_quiet (fail)
              have R2 : RdAt (wb.drewN nq) B T q := R1
              have W2 : Within B (B + 1) w (wb.drewN nq) := W1.trans (Within.of_below (below_drewN' wb nq))
              generalize wb.drewN nq = wz at *
              go_wp2_with fail
              go_ret
              exact ⟨by rw [← HF1.out, ← mk_app]; exact congrArg (fun z => Ending.returned (.string ((⟨o.toArray⟩ : ByteArray) ++ z))) (ByteArray.ext (Array.toList_inj.1 (by rw [extract_list]))), by rw [← HF2.out]; exact R2, W2, by have h9 := congrArg List.length HF1.out; simp only [List.length_append, List.length_take, List.length_drop, len_list] at h9; omega⟩
            · have c1 : (48 : Int) ≤ (T[q].toNat : Int) := by omega
              have c2 : ¬ (T[q].toNat : Int) ≤ 57 := by omega
              have kd : decide ((48 : Int) ≤ (T[q].toNat : Int)) = true := decide_eq_true c1
              have kd' : decide (48 ≤ T[q].toNat) = true := decide_eq_true (by omega)
              have ke : decide ((T[q].toNat : Int) ≤ 57) = false := decide_eq_false c2
              have ke' : decide (T[q].toNat ≤ 57) = false := decide_eq_false (by omega)
              have q45 : ((T[q].toNat : Int) == 45) = false := by rw [beq_eq_false_iff_ne]; omega
              have q46 : ((T[q].toNat : Int) == 46) = false := by rw [beq_eq_false_iff_ne]; omega
              go_wp2_with fail
              go_quiet (fail)
              have R1 : RdAt (wr.drewN nq) B T q := HRi.out
              have W1 : Within B (B + 1) w (wr.drewN nq) := HWi.out.trans (Within.of_below (below_drewN' wr nq))
              generalize wr.drewN nq = wb at *
              have HF1 := Lib.hid (show o ++ (T.data.toList.drop p).take (q - p) = Q.1 by rw [← H1.out, HT.out, (HEX.out (by first | rfl | trivial)).1])
              have HF2 := Lib.hid (drop_len T q Q.2 hq2 (by rw [← H2.out, HT.out, (HEX.out (by first | rfl | trivial)).2, List.drop_drop]; congr 1; omega))
              clear fi
              have fb := R1.cell
              go_wp2_with fail
              go_quiet (fail)
              have R2 : RdAt (wb.drewN nq) B T q := R1
              have W2 : Within B (B + 1) w (wb.drewN nq) := W1.trans (Within.of_below (below_drewN' wb nq))
              generalize wb.drewN nq = wz at *
              go_wp2_with fail
              go_ret
              exact ⟨by rw [← HF1.out, ← mk_app]; exact congrArg (fun z => Ending.returned (.string ((⟨o.toArray⟩ : ByteArray) ++ z))) (ByteArray.ext (Array.toList_inj.1 (by rw [extract_list]))), by rw [← HF2.out]; exact R2, W2, by have h9 := congrArg List.length HF1.out; simp only [List.length_append, List.length_take, List.length_drop, len_list] at h9; omega⟩
          · have i1 : ¬ (q : Int) < (T.size : Int) := by omega
            have kd : decide ((q : Int) < (T.size : Int)) = false := decide_eq_false i1
            have kd' : decide (q < T.size) = false := decide_eq_false hlt
            have HEX := Lib.hid (fun _ : true = true => span_exit numCh (T.data.toList.drop p) (q - p) (by rw [hlen]; omega) HALL.out (fun c hc => by rw [List.getElem?_eq_none (by rw [hlen]; omega)] at hc; cases hc))
            clear hlen
            go_wp2_with fail
            go_quiet (fail)
            have R1 : RdAt (wr.drewN nq) B T q := HRi.out
            have W1 : Within B (B + 1) w (wr.drewN nq) := HWi.out.trans (Within.of_below (below_drewN' wr nq))
            generalize wr.drewN nq = wb at *
            have HF1 := Lib.hid (show o ++ (T.data.toList.drop p).take (q - p) = Q.1 by rw [← H1.out, HT.out, (HEX.out (by first | rfl | trivial)).1])
            have HF2 := Lib.hid (drop_len T q Q.2 hq2 (by rw [← H2.out, HT.out, (HEX.out (by first | rfl | trivial)).2, List.drop_drop]; congr 1; omega))
            clear fi
            have fb := R1.cell
            go_wp2_with fail
            go_quiet (fail)
            have R2 : RdAt (wb.drewN nq) B T q := R1
            have W2 : Within B (B + 1) w (wb.drewN nq) := W1.trans (Within.of_below (below_drewN' wb nq))
            generalize wb.drewN nq = wz at *
            go_wp2_with fail
            go_ret
            exact ⟨by rw [← HF1.out, ← mk_app]; exact congrArg (fun z => Ending.returned (.string ((⟨o.toArray⟩ : ByteArray) ++ z))) (ByteArray.ext (Array.toList_inj.1 (by rw [extract_list]))), by rw [← HF2.out]; exact R2, W2, by have h9 := congrArg List.length HF1.out; simp only [List.length_append, List.length_take, List.length_drop, len_list] at h9; omega⟩
      · rw [hm2, if_pos rfl] at HM2
        have hpl := pre_place T p _ hm2 hp
        have HT := Lib.hid (tS_c g (T.data.toList.drop p) HP34.out hm2)
        clear hm2
        go_wp2_with fail
        refine HM2.out.mono ?_; rintro e2 w2 ⟨rfl, hr2, hw2⟩
        have hp3 : p + 3 ≤ T.size := hpl
        have hr2' : RdAt w2 B T (p + 3) := hr2
        obtain ⟨x, q, hq1, hq2, hxl, hcx, hcc⟩ := codesS_at B T (p + 3) (T.data.toList.drop p).length hp3 (by rw [List.length_drop, Array.length_toList]; show T.size - (p + 3) < T.size - p; omega) hT w2 hr2'
        have HCC := Lib.hid hcc
        have HX := Lib.hid (show tS (g + 1) (T.data.toList.drop p) = tT g (x, T.data.toList.drop q) by rw [HT.out, List.drop_drop]; exact congrArg (tT g) hcx)
        have HW2 := Lib.hid (HW1.out.trans hw2)
        have hxo : o.length + x.length ≤ 2 * q := by omega
        have hpq : p < q := by omega
        clear hcc hcx hr2 hr2' hw2 HT
        go_wp2_with fail
        refine HCC.out.mono ?_; rintro e3 w3 ⟨rfl, hr3, hw3⟩
        have HW3 := Lib.hid (HW2.out.trans hw3)
        have HM3 := Lib.hid (more_any B T ⟨#[95]⟩ q hq2 hT (by decide) w3 hr3)
        have hxs : x.length ≤ 3000000 := by omega
        clear hr3 hw3
        cases hm3 : (⟨#[95]⟩ : ByteArray).data.toList.isPrefixOf (T.data.toList.drop q)
        · rw [hm3, if_neg (by decide)] at HM3
          have HTS := Lib.hid (tT_stop g x (T.data.toList.drop q) (fun r e => by rw [(one_pre 95 _).2 ⟨r, e⟩] at hm3; cases hm3))
          clear hm3
          have HF1 := Lib.hid (show o ++ x = Q.1 by rw [← H1.out, HX.out, HTS.out])
          have HF2 := Lib.hid (drop_len T q Q.2 hq2 (by rw [← H2.out, HX.out, HTS.out]))
          go_wp2_with fail
          refine HM3.out.mono ?_; rintro e4 w4 ⟨rfl, hr4, hw4⟩
          have hW4 := HW3.out.trans hw4
          go_wp2_with fail
          go_ret
          exact ⟨by rw [← HF1.out, ← mk_app]; rfl, by rw [← HF2.out]; exact hr4, hW4, by rw [← HF1.out, List.length_append]; omega⟩
        · rw [hm3, if_pos rfl] at HM3
          obtain ⟨r, hr⟩ := (one_pre 95 _).1 hm3
          have hq3 : q < T.size := by
            rcases Nat.lt_or_ge q T.size with h' | h'
            · exact h'
            · rw [List.drop_of_length_le (by rw [Array.length_toList]; exact h')] at hr; cases hr
          have hr2 : r = T.data.toList.drop (q + 1) := by
            have := drop_at T q hq3
            rw [hr] at this
            injection this
          have HTS := Lib.hid (show tT g (x, T.data.toList.drop q) = (x ++ (tS g (T.data.toList.drop (q + 1))).1, (tS g (T.data.toList.drop (q + 1))).2) by rw [hr, tT_more, hr2])
          clear hm3 hr hr2
          go_wp2_with fail
          refine HM3.out.mono ?_; rintro e4 w4 ⟨rfl, hr4, hw4⟩
          have hr4' : RdAt w4 B T (q + 1) := hr4
          have hW4 := HW3.out.trans hw4
          go_wp2_with fail
          go_roundw
          case rel => exact ⟨q + 1, g, o ++ x, hq3, by omega, hr4', by rw [← mk_app], by rw [List.length_append]; omega, by rw [← H1.out, HX.out, HTS.out, List.append_assoc], by rw [← H2.out, HX.out, HTS.out], hW4⟩
          case measure => rw [standsAt_rd hr4', HST.out]; omega
    · rw [hm, if_pos rfl] at HM
      have hpl := pre_place T p _ hm hp
      have HT := Lib.hid (tS_q g (T.data.toList.drop p) hm)
      clear hm
      go_wp2_with fail
      refine HM.out.mono ?_; rintro e2 w2 ⟨rfl, hr2, hw2⟩
      have hp3 : p + 1 ≤ T.size := hpl
      have hr2' : RdAt w2 B T (p + 1) := hr2
      obtain ⟨x, q, hq1, hq2, hxl, hcx, hcc⟩ := quotedS_at B T (p + 1) hp3 hT w2 hr2'
      have HCC := Lib.hid hcc
      have HX := Lib.hid (show tS (g + 1) (T.data.toList.drop p) = tT g (x, T.data.toList.drop q) by rw [HT.out, List.drop_drop]; exact congrArg (tT g) hcx)
      have HW2 := Lib.hid (HW.out.trans hw2)
      have hxo : o.length + x.length ≤ 2 * q := by omega
      have hpq : p < q := by omega
      clear hcc hcx hr2 hr2' hw2 HT
      go_wp2_with fail
      refine HCC.out.mono ?_; rintro e3 w3 ⟨rfl, hr3, hw3⟩
      have HW3 := Lib.hid (HW2.out.trans hw3)
      have HM3 := Lib.hid (more_any B T ⟨#[95]⟩ q hq2 hT (by decide) w3 hr3)
      have hxs : x.length ≤ 3000000 := by omega
      clear hr3 hw3
      cases hm3 : (⟨#[95]⟩ : ByteArray).data.toList.isPrefixOf (T.data.toList.drop q)
      · rw [hm3, if_neg (by decide)] at HM3
        have HTS := Lib.hid (tT_stop g x (T.data.toList.drop q) (fun r e => by rw [(one_pre 95 _).2 ⟨r, e⟩] at hm3; cases hm3))
        clear hm3
        have HF1 := Lib.hid (show o ++ x = Q.1 by rw [← H1.out, HX.out, HTS.out])
        have HF2 := Lib.hid (drop_len T q Q.2 hq2 (by rw [← H2.out, HX.out, HTS.out]))
        go_wp2_with fail
        refine HM3.out.mono ?_; rintro e4 w4 ⟨rfl, hr4, hw4⟩
        have hW4 := HW3.out.trans hw4
        go_wp2_with fail
        go_ret
        exact ⟨by rw [← HF1.out, ← mk_app]; rfl, by rw [← HF2.out]; exact hr4, hW4, by rw [← HF1.out, List.length_append]; omega⟩
      · rw [hm3, if_pos rfl] at HM3
        obtain ⟨r, hr⟩ := (one_pre 95 _).1 hm3
        have hq3 : q < T.size := by
          rcases Nat.lt_or_ge q T.size with h' | h'
          · exact h'
          · rw [List.drop_of_length_le (by rw [Array.length_toList]; exact h')] at hr; cases hr
        have hr2 : r = T.data.toList.drop (q + 1) := by
          have := drop_at T q hq3
          rw [hr] at this
          injection this
        have HTS := Lib.hid (show tT g (x, T.data.toList.drop q) = (x ++ (tS g (T.data.toList.drop (q + 1))).1, (tS g (T.data.toList.drop (q + 1))).2) by rw [hr, tT_more, hr2])
        clear hm3 hr hr2
        go_wp2_with fail
        refine HM3.out.mono ?_; rintro e4 w4 ⟨rfl, hr4, hw4⟩
        have hr4' : RdAt w4 B T (q + 1) := hr4
        have hW4 := HW3.out.trans hw4
        go_wp2_with fail
        go_roundw
        case rel => exact ⟨q + 1, g, o ++ x, hq3, by omega, hr4', by rw [← mk_app], by rw [List.length_append]; omega, by rw [← H1.out, HX.out, HTS.out, List.append_assoc], by rw [← H2.out, HX.out, HTS.out], hW4⟩
        case measure => rw [standsAt_rd hr4', HST.out]; omega
end Go.Proofs.YtcjaaknnfohllaaGreatDoor

/- The program's reader walked: scanPlain. -/
namespace Go.Proofs.YtcjaaknnfohllaaGreatDoor
open Go.RowKit

theorem contains_num (c : UInt8) : ([45, 46, 48, 49, 50, 51, 52, 53, 54, 55, 56, 57] : List UInt8).contains c = numCh c := by
  have : ∀ k : Fin 256, ([45, 46, 48, 49, 50, 51, 52, 53, 54, 55, 56, 57] : List UInt8).contains (UInt8.ofNat k) = numCh (UInt8.ofNat k) := by decide +kernel
  have h := this ⟨c.toNat, c.toNat_lt⟩
  have e : UInt8.ofNat c.toNat = c := UInt8.toNat_inj.1 (by rw [UInt8.toNat_ofNat']; exact Nat.mod_eq_of_lt c.toNat_lt)
  rw [e] at h
  exact h
theorem trimLeft_num (l : List UInt8) : Go.Lib.trimLeftS l [45, 46, 48, 49, 50, 51, 52, 53, 54, 55, 56, 57] = l.dropWhile numCh := by
  unfold Go.Lib.trimLeftS
  congr 1
  funext c
  exact contains_num c
theorem hasPre (s p : List UInt8) : Lib.hasPrefix s p = p.isPrefixOf s := rfl
theorem prefix_any (s p : ByteArray) (w : World) : Calls Tryz.prog 45 #[.string s, .string p] w fun e w' => e = .returned (.bool (p.data.toList.isPrefixOf s.data.toList)) ∧ w = w' :=
  (Tryz.strings_HasPrefix s p w).mono fun e w' ⟨h1, h2⟩ => ⟨h1, h2.symm⟩

theorem qI_qS : ∀ (n : Nat) (l : List UInt8) (p : List UInt8 × List UInt8), l.length ≤ n → qI l = some p → qS l = p
  | n, [], p, _, h => by cases h
  | 0, _ :: _, _, hn, _ => absurd hn (by simp)
  | n + 1, c :: l, p, hn, h => by
    rw [List.length_cons] at hn
    by_cases hc : c = 34
    · subst hc
      cases l with
      | nil =>
        rw [qI_end [] (fun r e => by cases e)] at h
        rw [qS_end [] (fun r e => by cases e)]
        exact Option.some.inj h
      | cons d r =>
        by_cases hd : d = 34
        · subst hd
          rw [List.length_cons] at hn
          rw [qI_two] at h
          rw [qS_two]
          cases hq : qI r with
          | none => rw [hq] at h; cases h
          | some q =>
            rw [hq] at h
            rw [qI_qS n r q (by omega) hq]
            exact Option.some.inj h
        · rw [qI_end _ (fun z e => hd (by injection e))] at h
          rw [qS_end _ (fun z e => hd (by injection e))]
          exact Option.some.inj h
    · rw [qI_plain c l hc] at h
      rw [qS_plain c l hc]
      cases hq : qI l with
      | none => rw [hq] at h; cases h
      | some q =>
        rw [hq] at h
        rw [qI_qS n l q (by omega) hq]
        exact Option.some.inj h
theorem qI_sum (l : List UInt8) (p : List UInt8 × List UInt8) (h : qI l = some p) : p.1.length + p.2.length ≤ l.length := by
  have := qS_sum _ l (Nat.le_refl _)
  rw [qI_qS _ l p (Nat.le_refl _) h] at this
  exact this
theorem qI_drop (l : List UInt8) (p : List UInt8 × List UInt8) (h : qI l = some p) : ∃ m, m ≤ l.length ∧ l.drop m = p.2 := by
  have := qS_place ⟨l.toArray⟩ 0 (Nat.zero_le _)
  obtain ⟨q, _, h2, h3⟩ := this
  have h3' : l.drop q = (qS l).2 := h3
  have h2' : q ≤ l.length := by have : (⟨l.toArray⟩ : ByteArray).size = l.length := List.size_toArray; omega
  rw [qI_qS _ l p (Nat.le_refl _) h] at h3'
  exact ⟨q, h2', h3'⟩
theorem bI_sum (l : List UInt8) : (bI l).1.length + (bI l).2.length ≤ l.length + 1 := by
  have hw : (wordsB ⟨(Lib.cut l [41]).1.toArray⟩).length ≤ (Lib.cut l [41]).1.length + 1 := by
    have h1 : (wordsB ⟨(Lib.cut l [41]).1.toArray⟩).length = _ := Lib.splitB_all _ (by decide) 0 _ _ rfl
    have h2 := Lib.countB_le ⟨#[44]⟩ (by decide) _ (⟨(Lib.cut l [41]).1.toArray⟩ : ByteArray) (Nat.le_refl _)
    have h3 : (⟨(Lib.cut l [41]).1.toArray⟩ : ByteArray).size = (Lib.cut l [41]).1.length := List.size_toArray
    omega
  have hc : (Lib.cut l [41]).1.length + (Lib.cut l [41]).2.1.length ≤ l.length := by
    unfold Lib.cut
    split
    · show (l.take _).length + (l.drop _).length ≤ _
      rw [List.length_take, List.length_drop]
      omega
    · show l.length + 0 ≤ _
      omega
  unfold bI
  dsimp only
  rw [List.length_map]
  omega

set_option maxHeartbeats 8000000 in
set_option maxRecDepth 100000 in
theorem scanPlain_any (s : ByteArray) (hs : s.size ≤ 1048576) (w : World) (hE : EnvR w) :
    Calls Tryz.prog 46 #[.string s] w fun e w' => e = .returned (.tuple #[.string ⟨(sI s.data.toList).1.toArray⟩, .string ⟨(sI s.data.toList).2.toArray⟩]) ∧ Below w.heap.size w w' ∧ (sI s.data.toList).1.length ≤ s.size := by
  have HT := Lib.hid (trimLeft_any s ⟨#[45, 46, 48, 49, 50, 51, 52, 53, 54, 55, 56, 57]⟩ (by decide) (by decide) w)
  have htl := trimLeft_num s.data.toList
  have htd : Lib.trimLeftS s.data.toList (⟨#[45, 46, 48, 49, 50, 51, 52, 53, 54, 55, 56, 57]⟩ : ByteArray).data.toList = s.data.toList.dropWhile numCh := htl
  rw [htd] at HT
  have hdl : (s.data.toList.takeWhile numCh).length + (s.data.toList.dropWhile numCh).length = s.size := by
    rw [← List.length_append, List.takeWhile_append_dropWhile, len_list]
  have HDL := Lib.hid hdl
  have HE := Lib.hid hE
  have hds : (⟨(s.data.toList.dropWhile numCh).toArray⟩ : ByteArray).size = (s.data.toList.dropWhile numCh).length := List.size_toArray
  clear htl htd hE hdl
  by_cases hn : 0 < (s.data.toList.takeWhile numCh).length
  · have HR := Lib.hid (show sI s.data.toList = (s.data.toList.takeWhile numCh, s.data.toList.dropWhile numCh) by unfold sI; rw [if_pos hn])
    have hA : s.data.toList.takeWhile numCh ++ s.data.toList.dropWhile numCh = s.data.toList := List.takeWhile_append_dropWhile
    generalize s.data.toList.takeWhile numCh = A at *
    generalize s.data.toList.dropWhile numCh = D at *
    have hsum := HDL.out
    have hnn : (s.size : Int) - (D.length : Int) = (A.length : Int) := by omega
    have a0 : (0 : Int) ≤ (A.length : Int) := by omega
    have a1 : (A.length : Int) ≤ (s.size : Int) := by omega
    have ap : (0 : Int) < (A.length : Int) := by omega
    have HE1 := Lib.hid (show s.extract 0 A.length = ⟨A.toArray⟩ from ByteArray.ext (Array.toList_inj.1 (by rw [bytes_pop, ← hA, List.take_left])))
    have HE2 := Lib.hid (show s.extract A.length s.size = ⟨D.toArray⟩ from ByteArray.ext (Array.toList_inj.1 (by rw [drop_ext, ← hA, List.drop_left])))
    clear hA hsum hn
    go_enter Tryz.func46, Tryz.ntmps46
    go_wp2_with fail
    refine HT.out.mono ?_; rintro e1 w1 ⟨rfl, hb1⟩
    go_wp2_with fail
    go_quiet (fail)
    have HBq := Lib.hid (hb1.trans ((below_drewN' w1 nq).mono hb1.size))
    go_wp2_with fail
    go_ret2
    exact ⟨by rw [HR.out, ← HE1.out, ← HE2.out]; rfl, HBq.out, by rw [HR.out]; show A.length ≤ _; omega⟩
  · have HR := Lib.hid (show sI s.data.toList = pI (s.size + 1) s.data.toList by unfold sI; rw [if_neg hn, len_list])
    have hsum := HDL.out
    have hnn : (s.size : Int) - ((s.data.toList.dropWhile numCh).length : Int) = 0 := by omega
    generalize (s.data.toList.dropWhile numCh) = D at *
    generalize hQ : sI s.data.toList = Q at *
    have HQ := Lib.hid (HR.out)
    clear hQ hn hsum HR
    go_enter Tryz.func46, Tryz.ntmps46
    go_wp2_with fail
    refine HT.out.mono ?_; rintro e1 w1 ⟨rfl, hb1⟩
    have HBL := Lib.hid hb1
    have hE1 := Lib.hid (HE.out.below hb1)
    have HB0 := Lib.hid ((Below.refl w1.heap.size w1).alloc (Nat.le_refl _) (.cells #[.pointer none, .slice none 0 0] 109))
    have hbn := Lib.hid (bld_new w1)
    clear hb1
    go_wp2_with fail
    go_loopw [0] (fun t wr => ∃ (l : List UInt8) (g : Nat) (o : List UInt8), t = .string ⟨l.toArray⟩ ∧ l.length < g ∧ Bld wr w1.heap.size o ∧ o.length + l.length ≤ s.size ∧ o ++ (pI g l).1 = Q.1 ∧ (pI g l).2 = Q.2 ∧ Below w1.heap.size w1 wr) (fun t _ => strLen t)
    case atStart => exact ⟨s.data.toList, s.size + 1, [], by rw [Array.toArray_toList], by rw [len_list]; omega, hbn.out, by rw [len_list]; simp, by rw [HQ.out]; rfl, by rw [HQ.out], HB0.out⟩
    case round =>
      obtain ⟨l, g, o, rfl, hlg, hbl, hol, h1, h2, hbr⟩ := hrel
      obtain ⟨g, rfl⟩ : ∃ h, g = h + 1 := ⟨g - 1, by omega⟩
      have H1 := Lib.hid h1; have H2 := Lib.hid h2; have HBR := Lib.hid hbr
      have hszr := hbr.size
      have hls : (⟨l.toArray⟩ : ByteArray).size = l.length := List.size_toArray
      have HP34 := Lib.hid (prefix_any ⟨l.toArray⟩ ⟨#[34]⟩ wr)
      have HEr := Lib.hid (hE1.out.below hbr)
      have HBLr := Lib.hid hbl
      clear h1 h2 hbr hbl
      cases hm : [34].isPrefixOf l
      · have HP34' := Lib.hid (show Calls Tryz.prog 45 #[.string ⟨l.toArray⟩, .string ⟨#[34]⟩] wr fun e w' => e = .returned (.bool false) ∧ wr = w' from hm ▸ HP34.out)
        have HP36 := Lib.hid (prefix_any ⟨l.toArray⟩ ⟨#[36, 67, 40]⟩ wr)
        have HM := Lib.hid hm
        clear HP34 hm
        cases hm2 : [36, 67, 40].isPrefixOf l
        · have HP36' := Lib.hid (show Calls Tryz.prog 45 #[.string ⟨l.toArray⟩, .string ⟨#[36, 67, 40]⟩] wr fun e w' => e = .returned (.bool false) ∧ wr = w' from hm2 ▸ HP36.out)
          have HX := Lib.hid (pI_n g l HM.out hm2)
          have HF1 := Lib.hid (show o = Q.1 by rw [← H1.out, HX.out]; exact (List.append_nil o).symm)
          have HF2 := Lib.hid (show l = Q.2 by rw [← H2.out, HX.out])
          have HBT := Lib.hid (bldText w1.heap.size o wr HBLr.out hszr)
          clear hm2 HP36
          go_wp2_with fail
          refine HP34'.out.mono ?_; rintro e2 w2 ⟨rfl, rfl⟩
          go_wp2_with fail
          refine HP36'.out.mono ?_; rintro e3 w3 ⟨rfl, rfl⟩
          go_wp2_with fail
          refine HBT.out.mono ?_; rintro e4 w4 ⟨rfl, hb4⟩
          go_wp2_with fail
          go_ret2
          exact ⟨by rw [← HF1.out, ← HF2.out]; rfl, HBL.out.trans ((HBR.out.trans hb4).mono HBL.out.size), by rw [← HF1.out]; omega⟩
        · have HP36' := Lib.hid (show Calls Tryz.prog 45 #[.string ⟨l.toArray⟩, .string ⟨#[36, 67, 40]⟩] wr fun e w' => e = .returned (.bool true) ∧ wr = w' from hm2 ▸ HP36.out)
          have h3 : 3 ≤ l.length := (List.isPrefixOf_iff_prefix.1 hm2).length_le
          have h3i : (3 : Int) ≤ (l.length : Int) := by omega
          have HX := Lib.hid (pI_c g l HM.out hm2)
          have hbs := bI_sum (l.drop 3)
          rw [List.length_drop] at hbs
          have HEX3 := Lib.hid (show (⟨l.toArray⟩ : ByteArray).extract 3 l.length = ⟨(l.drop 3).toArray⟩ from ByteArray.ext (Array.toList_inj.1 (bytes_drop1' l 3)))
          have hds3 : (⟨(l.drop 3).toArray⟩ : ByteArray).size = l.length - 3 := by rw [← List.length_drop]; exact List.size_toArray
          have HSB := Lib.hid (scanBytes_any ⟨(l.drop 3).toArray⟩ (by omega) wr HEr.out)
          have HSB' := Lib.hid (show Calls Tryz.prog 108 #[.string ((⟨l.toArray⟩ : ByteArray).extract 3 l.length)] wr fun e w' => e = .returned (.tuple #[.string ⟨(bI (l.drop 3)).1.toArray⟩, .string ⟨(bI (l.drop 3)).2.toArray⟩]) ∧ Below wr.heap.size wr w' by rw [HEX3.out]; exact HSB.out)
          clear hm2 HP36 HSB hds3
          rw [show bI (l.drop 3) = ((bI (l.drop 3)).1, (bI (l.drop 3)).2) from rfl] at HX
          generalize (bI (l.drop 3)).1 = x at *
          generalize (bI (l.drop 3)).2 = z at *
          go_wp2_with fail
          refine HP34'.out.mono ?_; rintro e2 w2 ⟨rfl, rfl⟩
          go_wp2_with fail
          refine HP36'.out.mono ?_; rintro e3 w3 ⟨rfl, rfl⟩
          go_wp2_with fail
          refine HSB'.out.mono ?_; rintro e4 w4 ⟨rfl, hb4⟩
          have HBLn := Lib.hid (show Bld w4 w1.heap.size o from bld_below HBLr.out hb4)
          have HBn := Lib.hid (HBR.out.trans (hb4.mono hszr))
          have hxz : x.length + z.length ≤ l.length := by omega
          clear hb4
          have hxs : (⟨x.toArray⟩ : ByteArray).size = x.length := List.size_toArray
          have HWS := Lib.hid (fun W (h : Bld W w1.heap.size o) (h2 : w1.heap.size ≤ W.heap.size) => bldString w1.heap.size o ⟨x.toArray⟩ W h (by omega) h2)
          have HP95 := Lib.hid (fun W => prefix_any ⟨z.toArray⟩ ⟨#[95]⟩ W)
          have hzz : (⟨z.toArray⟩ : ByteArray).size = z.length := List.size_toArray
          cases hm3 : [95].isPrefixOf z
          · have HP95' := Lib.hid (fun W => show Calls Tryz.prog 45 #[.string ⟨z.toArray⟩, .string ⟨#[95]⟩] W fun e w' => e = .returned (.bool false) ∧ W = w' from hm3 ▸ HP95.out W)
            have HTS := Lib.hid (pT_stop g x z (fun r e => by rw [e] at hm3; revert hm3; simp))
            clear hm3 HP95
            have HF1 := Lib.hid (show o ++ x = Q.1 by rw [← H1.out, HX.out, HTS.out])
            have HF2 := Lib.hid (show z = Q.2 by rw [← H2.out, HX.out, HTS.out])
            go_wp2_with fail
            refine (HWS.out _ HBLn.out (HBn.out.size)).mono ?_; rintro e5 w5 ⟨rfl, hb5, hbb5⟩
            have HB5 := Lib.hid (HBn.out.trans hbb5)
            have HBT := Lib.hid (bldText w1.heap.size (o ++ x) w5 hb5 HB5.out.size)
            clear hb5 hbb5
            go_wp2_with fail
            refine (HP95'.out _).mono ?_; rintro e6 w6 ⟨rfl, rfl⟩
            go_wp2_with fail
            refine HBT.out.mono ?_; rintro e7 w7 ⟨rfl, hb7⟩
            go_wp2_with fail
            go_ret2
            exact ⟨by rw [← HF1.out, ← HF2.out]; rfl, HBL.out.trans ((HB5.out.trans hb7).mono HBL.out.size), by rw [← HF1.out, List.length_append]; omega⟩
          · have HP95' := Lib.hid (fun W => show Calls Tryz.prog 45 #[.string ⟨z.toArray⟩, .string ⟨#[95]⟩] W fun e w' => e = .returned (.bool true) ∧ W = w' from hm3 ▸ HP95.out W)
            obtain ⟨y, hy⟩ := (one_pre 95 z).1 hm3
            have HTS := Lib.hid (show pT g (x, z) = (x ++ (pI g y).1, (pI g y).2) by rw [hy, pT_more])
            have hyl : z.length = y.length + 1 := by rw [hy]; rfl
            have HEX := Lib.hid (show ((⟨z.toArray⟩ : ByteArray).extract 1 (y.length + 1)) = ⟨y.toArray⟩ from ByteArray.ext (Array.toList_inj.1 (by rw [← hyl, bytes_drop1, hy]; rfl)))
            have hz1 : (1 : Int) ≤ (z.length : Int) := by omega
            clear hm3 HP95 hy
            go_wp2_with fail
            refine (HWS.out _ HBLn.out (HBn.out.size)).mono ?_; rintro e5 w5 ⟨rfl, hb5, hbb5⟩
            have HB5 := Lib.hid (HBn.out.trans hbb5)
            clear hbb5
            go_wp2_with fail
            refine (HP95'.out _).mono ?_; rintro e6 w6 ⟨rfl, rfl⟩
            go_wp2_with fail
            go_roundw
            case rel => exact ⟨y, g, o ++ x, by rw [HEX.out], by omega, hb5, by rw [List.length_append]; omega, by rw [← H1.out, HX.out, HTS.out, List.append_assoc], by rw [← H2.out, HX.out, HTS.out], HB5.out⟩
            case measure =>
              rw [HEX.out]
              show (⟨y.toArray⟩ : ByteArray).size < (⟨l.toArray⟩ : ByteArray).size
              have hys : (⟨y.toArray⟩ : ByteArray).size = y.length := List.size_toArray
              omega
      · have HP34' := Lib.hid (show Calls Tryz.prog 45 #[.string ⟨l.toArray⟩, .string ⟨#[34]⟩] wr fun e w' => e = .returned (.bool true) ∧ wr = w' from hm ▸ HP34.out)
        have hl1 : 1 ≤ l.length := (List.isPrefixOf_iff_prefix.1 hm).length_le
        have HQI := Lib.hid (quotedI_any ⟨l.toArray⟩ (by omega) (by omega) wr)
        have HM := Lib.hid hm
        clear hm HP34
        cases hqi : qI (l.drop 1) with
        | none =>
          have HQI' := Lib.hid (show Calls Tryz.prog 107 #[.string ⟨l.toArray⟩] wr fun e w' => e = .returned (.tuple #[.string ⟨#[]⟩, .int .i64 0]) ∧ Below wr.heap.size wr w' by
            have := HQI.out
            rw [show (⟨l.toArray⟩ : ByteArray).data.toList = l from rfl, hqi] at this
            exact this)
          have HX := Lib.hid (pI_x g l HM.out hqi)
          have HF1 := Lib.hid (show o = Q.1 by rw [← H1.out, HX.out]; exact (List.append_nil o).symm)
          have HF2 := Lib.hid (show l = Q.2 by rw [← H2.out, HX.out])
          clear hqi HQI
          go_wp2_with fail
          refine HP34'.out.mono ?_; rintro e2 w2 ⟨rfl, rfl⟩
          go_wp2_with fail
          refine HQI'.out.mono ?_; rintro e3 w3 ⟨rfl, hb3⟩
          have HB3 := Lib.hid (HBR.out.trans (hb3.mono hszr))
          have HBT := Lib.hid (bldText w1.heap.size o w3 (bld_below HBLr.out hb3) HB3.out.size)
          clear hb3
          go_wp2_with fail
          refine HBT.out.mono ?_; rintro e4 w4 ⟨rfl, hb4⟩
          go_wp2_with fail
          go_ret2
          exact ⟨by rw [← HF1.out, ← HF2.out]; rfl, HBL.out.trans ((HB3.out.trans hb4).mono HBL.out.size), by rw [← HF1.out]; omega⟩
        | some p =>
          obtain ⟨x, z⟩ := p
          have hqs := qI_sum _ _ hqi
          obtain ⟨m, hm1, hm2⟩ := qI_drop _ _ hqi
          have hm2 : (l.drop 1).drop m = z := hm2
          rw [List.length_drop] at hqs hm1
          have hzl : z.length = l.length - 1 - m := by
            have := congrArg List.length hm2
            rw [List.length_drop, List.length_drop] at this
            exact this.symm
          have hnn2 : l.length - z.length = m + 1 := by omega
          have HQI' := Lib.hid (show Calls Tryz.prog 107 #[.string ⟨l.toArray⟩] wr fun e w' => e = .returned (.tuple #[.string ⟨x.toArray⟩, .int .i64 ((m + 1 : Nat) : Int)]) ∧ Below wr.heap.size wr w' by
            have := HQI.out
            rw [show (⟨l.toArray⟩ : ByteArray).data.toList = l from rfl, hqi] at this
            rw [← hnn2, ← hls]
            exact this)
          have HX := Lib.hid (pI_q g l (x, z) HM.out hqi)
          have HEXm := Lib.hid (show (⟨l.toArray⟩ : ByteArray).extract (m + 1) l.length = ⟨z.toArray⟩ from ByteArray.ext (Array.toList_inj.1 (by rw [bytes_drop1' l (m + 1)]; show l.drop (m + 1) = z; rw [← hm2, List.drop_drop, Nat.add_comm])))
          have hxz : x.length + z.length ≤ l.length := by have h : x.length + z.length ≤ l.length - 1 := hqs; omega
          have hml : m + 1 ≤ l.length := by omega
          clear hqi HQI hm2 hnn2 hqs
          generalize hM : m + 1 = M at *
          have hM0 : ((M : Int) == 0) = false := by rw [beq_eq_false_iff_ne]; omega
          have hM1 : (0 : Int) ≤ (M : Int) := by omega
          have hM2 : (M : Int) ≤ (l.length : Int) := by omega
          clear hM hzl hm1
          go_wp2_with fail
          refine HP34'.out.mono ?_; rintro e2 w2 ⟨rfl, rfl⟩
          go_wp2_with fail
          refine HQI'.out.mono ?_; rintro e3 w3 ⟨rfl, hb3⟩
          go_wp2_with fail
          go_quiet (fail)
          rw [HEXm.out]
          have HBLn := Lib.hid (show Bld (w3.drewN nq) w1.heap.size o from bld_below HBLr.out (hb3.trans ((below_drewN' w3 nq).mono hb3.size)))
          have HBn := Lib.hid ((HBR.out.trans (hb3.mono hszr)).trans ((below_drewN' w3 nq).mono ((HBR.out.trans (hb3.mono hszr)).size)))
          generalize w3.drewN nq = w4 at *
          clear hb3
          have hxs : (⟨x.toArray⟩ : ByteArray).size = x.length := List.size_toArray
          have HWS := Lib.hid (fun W (h : Bld W w1.heap.size o) (h2 : w1.heap.size ≤ W.heap.size) => bldString w1.heap.size o ⟨x.toArray⟩ W h (by omega) h2)
          have HP95 := Lib.hid (fun W => prefix_any ⟨z.toArray⟩ ⟨#[95]⟩ W)
          have hzz : (⟨z.toArray⟩ : ByteArray).size = z.length := List.size_toArray
          cases hm3 : [95].isPrefixOf z
          · have HP95' := Lib.hid (fun W => show Calls Tryz.prog 45 #[.string ⟨z.toArray⟩, .string ⟨#[95]⟩] W fun e w' => e = .returned (.bool false) ∧ W = w' from hm3 ▸ HP95.out W)
            have HTS := Lib.hid (pT_stop g x z (fun r e => by rw [e] at hm3; revert hm3; simp))
            clear hm3 HP95
            have HF1 := Lib.hid (show o ++ x = Q.1 by rw [← H1.out, HX.out, HTS.out])
            have HF2 := Lib.hid (show z = Q.2 by rw [← H2.out, HX.out, HTS.out])
            go_wp2_with fail
            refine (HWS.out _ HBLn.out (HBn.out.size)).mono ?_; rintro e5 w5 ⟨rfl, hb5, hbb5⟩
            have HB5 := Lib.hid (HBn.out.trans hbb5)
            have HBT := Lib.hid (bldText w1.heap.size (o ++ x) w5 hb5 HB5.out.size)
            clear hb5 hbb5
            go_wp2_with fail
            refine (HP95'.out _).mono ?_; rintro e6 w6 ⟨rfl, rfl⟩
            go_wp2_with fail
            refine HBT.out.mono ?_; rintro e7 w7 ⟨rfl, hb7⟩
            go_wp2_with fail
            go_ret2
            exact ⟨by rw [← HF1.out, ← HF2.out]; rfl, HBL.out.trans ((HB5.out.trans hb7).mono HBL.out.size), by rw [← HF1.out, List.length_append]; omega⟩
          · have HP95' := Lib.hid (fun W => show Calls Tryz.prog 45 #[.string ⟨z.toArray⟩, .string ⟨#[95]⟩] W fun e w' => e = .returned (.bool true) ∧ W = w' from hm3 ▸ HP95.out W)
            obtain ⟨y, hy⟩ := (one_pre 95 z).1 hm3
            have HTS := Lib.hid (show pT g (x, z) = (x ++ (pI g y).1, (pI g y).2) by rw [hy, pT_more])
            have hyl : z.length = y.length + 1 := by rw [hy]; rfl
            have HEX := Lib.hid (show ((⟨z.toArray⟩ : ByteArray).extract 1 (y.length + 1)) = ⟨y.toArray⟩ from ByteArray.ext (Array.toList_inj.1 (by rw [← hyl, bytes_drop1, hy]; rfl)))
            have hz1 : (1 : Int) ≤ (z.length : Int) := by omega
            clear hm3 HP95 hy
            go_wp2_with fail
            refine (HWS.out _ HBLn.out (HBn.out.size)).mono ?_; rintro e5 w5 ⟨rfl, hb5, hbb5⟩
            have HB5 := Lib.hid (HBn.out.trans hbb5)
            clear hbb5
            go_wp2_with fail
            refine (HP95'.out _).mono ?_; rintro e6 w6 ⟨rfl, rfl⟩
            go_wp2_with fail
            go_roundw
            case rel => exact ⟨y, g, o ++ x, by rw [HEX.out], by omega, hb5, by rw [List.length_append]; omega, by rw [← H1.out, HX.out, HTS.out, List.append_assoc], by rw [← H2.out, HX.out, HTS.out], HB5.out⟩
            case measure =>
              rw [HEX.out]
              show (⟨y.toArray⟩ : ByteArray).size < (⟨l.toArray⟩ : ByteArray).size
              have hys : (⟨y.toArray⟩ : ByteArray).size = y.length := List.size_toArray
              omega
end Go.Proofs.YtcjaaknnfohllaaGreatDoor
