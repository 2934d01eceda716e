/- The program's reader walked: quoted, scanBytes. -/
import Derived.Test.YtcjaaknnfohllaaGreatDoorScnQ
import Derived.Test.YtcjaaknnfohllaaGreatDoorScnU
import Derived.Test.YtcjaaknnfohllaaGreatDoorBldB
import Derived.Test.YtcjaaknnfohllaaGreatDoorShelfA
import Derived.Test.YtcjaaknnfohllaaGreatDoorNumW
namespace Go.Proofs.YtcjaaknnfohllaaGreatDoor
open Go.RowKit

/-- What the library reads of the world, the error variables too. -/
def ErrIn (w : World) (g : Nat) : Prop := ∃ ev, w.cell? ⟨g, 0, none⟩ = some ev ∧ (ev = .nilIface ∨ ∃ te pe, ev = .iface te pe)
theorem ErrIn.below {w w' : World} {g : Nat} (h : ErrIn w g) (hb : Below w.heap.size w w') : ErrIn w' g := by
  obtain ⟨ev, h1, h2⟩ := h
  have hlt : g < w.heap.size := by
    rcases Nat.lt_or_ge g w.heap.size with h' | h'
    · exact h'
    · unfold World.cell? at h1
      rw [Array.getElem?_eq_none h'] at h1; cases h1
  exact ⟨ev, (hb.cell (p := ⟨g, 0, none⟩) hlt).trans h1, h2⟩
def EnvR (w : World) : Prop := EnvIn w ∧ ErrIn w 2 ∧ ErrIn w 3
theorem EnvR.below {w w' : World} (h : EnvR w) (hb : Below w.heap.size w w') : EnvR w' := ⟨h.1.below hb, h.2.1.below hb, h.2.2.below hb⟩

theorem atoi_any (s : ByteArray) (hs : s.size ≤ 1048576) (w : World) (hE : EnvR w) : Calls Tryz.prog 125 #[.string s] w fun e w' => (∃ ev, e = .returned (.tuple #[.int .i64 (atoiV s.data.toList), ev])) ∧ Below w.heap.size w w' := by
  cases h : Lib.atoiAll s.data.toList with
  | ok v =>
    refine (Tryz.strconv_Atoi_ok s (by omega) v h w).mono ?_
    rintro e w' ⟨rfl, hw⟩
    refine ⟨⟨.nilIface, by unfold atoiV; rw [h]⟩, ?_⟩
    rcases hw with rfl | ⟨t, rfl⟩
    · exact Below.refl _ _
    · exact ⟨rfl, rfl, rfl, by rw [Lib.bytesWorld_size]; omega, fun k hk => Lib.bytesWorld_at_old w _ t k hk⟩
  | range =>
    obtain ⟨ev, h1, h2⟩ := hE.2.2
    refine (Tryz.strconv_Atoi_range s (by omega) h ev w h1 h2).mono ?_
    rintro e w' ⟨N, rfl, _, _, hb⟩
    exact ⟨⟨_, by unfold atoiV; rw [h]⟩, hb⟩
  | _ =>
    obtain ⟨ev, h1, h2⟩ := hE.2.1
    refine (Tryz.strconv_Atoi_syntax s (by omega) h ev w h1 h2).mono ?_
    rintro e w' ⟨N, rfl, _, _, hb⟩
    exact ⟨⟨_, by unfold atoiV; rw [h]⟩, hb⟩

def addQ (b : List UInt8) (o : Option (List UInt8 × List UInt8)) : Option (List UInt8 × List UInt8) := o.map fun p => (b ++ p.1, p.2)
theorem addQ_cons (b : List UInt8) (c : UInt8) (o : Option (List UInt8 × List UInt8)) : addQ b (o.map (fun p => (c :: p.1, p.2))) = addQ (b ++ [c]) o := by
  cases o with
  | none => rfl
  | some p => unfold addQ; simp
def qIV (n : Nat) : Option (List UInt8 × List UInt8) → Value
  | some p => .tuple #[.string ⟨p.1.toArray⟩, .int .i64 ((n - p.2.length : Nat) : Int)]
  | none => .tuple #[.string ⟨#[]⟩, .int .i64 0]

set_option maxHeartbeats 8000000 in
set_option maxRecDepth 100000 in
theorem quotedI_any (s : ByteArray) (h0 : 1 ≤ s.size) (hs : s.size ≤ 1048576) (w : World) :
    Calls Tryz.prog 107 #[.string s] w fun e w' => e = .returned (qIV s.size (qI (s.data.toList.drop 1))) ∧ Below w.heap.size w w' := by
  generalize hQ : qI (s.data.toList.drop 1) = Q at *
  have HQ := Lib.hid hQ; clear hQ
  have hbn := Lib.hid (bld_new w)
  have HB0 := Lib.hid ((Below.refl w.heap.size w).alloc (Nat.le_refl _) (.cells #[.pointer none, .slice none 0 0] 109))
  go_enter Tryz.func107, Tryz.ntmps107
  go_wp2_with fail
  go_loopw [5] (fun i wr => ∃ (k : Nat) (b : List UInt8), k ≤ s.size ∧ i = .int .i64 k ∧ Bld wr w.heap.size b ∧ b.length ≤ k ∧ addQ b (qI (s.data.toList.drop k)) = Q ∧ Below w.heap.size w wr) (fun i _ => s.size - (intOf i).toNat)
  case atStart => exact ⟨1, [], h0, rfl, hbn.out, by simp, by rw [HQ.out]; cases Q <;> rfl, HB0.out⟩
  case round =>
    obtain ⟨k, b, hk, rfl, hbl, hln, hq, hb⟩ := hrel
    have HBL := Lib.hid hbl; have HB := Lib.hid hb
    have hsz := hb.size
    clear hb hbl
    by_cases hlt : k < s.size
    · have i1 : (k : Int) < (s.size : Int) := by omega
      have i0 : (0 : Int) ≤ (k : Int) := by omega
      have hdk := drop_at s k hlt
      rw [hdk] at hq
      by_cases h34 : s[k] = 34
      · have q34 : ((s[k].toNat : Int) == 34) = true := by rw [h34]; rfl
        rw [h34] at hq
        have i2 : (0 : Int) ≤ (k : Int) + 1 := by omega
        have j1 : ((k : Int) + 1).toNat = k + 1 := by omega
        by_cases hl2 : k + 1 < s.size
        · have i3 : (k : Int) + 1 < (s.size : Int) := by omega
          have hdk2 := drop_at s (k + 1) hl2
          rw [hdk2] at hq
          by_cases h342 : s[k + 1] = 34
          · have q342 : ((s[k + 1].toNat : Int) == 34) = true := by rw [h342]; rfl
            rw [h342, qI_two, addQ_cons] at hq
            have HQ2 := Lib.hid hq
            have HW := Lib.hid (bldByte w.heap.size b 34 wr HBL.out (by omega) hsz)
            clear hq hdk hdk2 h34 h342
            go_wp2_with fail
            refine HW.out.mono ?_; rintro e1 w1 ⟨rfl, hb1, hbb⟩
            go_wp2_with fail
            go_roundw
            case rel => exact ⟨k + 2, b ++ [34], by omega, by go_num, hb1, by rw [List.length_append]; simp only [List.length_cons, List.length_nil]; omega, HQ2.out, HB.out.trans hbb⟩
            case measure => simp [intOf]; omega
          · have q342 : ((s[k + 1].toNat : Int) == 34) = false := by rw [beq_eq_false_iff_ne]; exact fun e => h342 (u8_eq (by have : s[k + 1].toNat = 34 := (by omega); rw [this]; rfl))
            rw [← hdk2, qI_end _ (fun r e => by rw [hdk2] at e; injection e with e1 _; exact h342 e1)] at hq
            have HR := Lib.hid (show qIV s.size Q = .tuple #[.string ⟨b.toArray⟩, .int .i64 ((k : Int) + 1)] by
              rw [← hq]
              unfold addQ qIV
              simp only [Option.map_some, List.append_nil]
              rw [len_at s (k + 1) (by omega)]; rfl)
            have HT := Lib.hid (bldText w.heap.size b wr HBL.out hsz)
            clear hq hdk hdk2 h34 h342
            go_wp2_with fail
            refine HT.out.mono ?_; rintro e1 w1 ⟨rfl, hbb⟩
            go_wp2_with fail
            go_ret2
            exact ⟨by rw [HR.out]; rfl, HB.out.trans hbb⟩
        · have i3 : ¬ (k : Int) + 1 < (s.size : Int) := by omega
          have hk1 : k + 1 = s.size := by omega
          rw [List.drop_of_length_le (show s.data.toList.length ≤ k + 1 by rw [Array.length_toList]; show s.size ≤ k + 1; omega), qI_end [] (fun r e => by cases e)] at hq
          have HR := Lib.hid (show qIV s.size Q = .tuple #[.string ⟨b.toArray⟩, .int .i64 ((k : Int) + 1)] by
            rw [← hq]
            unfold addQ qIV
            simp only [Option.map_some, List.append_nil, List.length_nil, Nat.sub_zero]
            rw [← hk1]; rfl)
          have HT := Lib.hid (bldText w.heap.size b wr HBL.out hsz)
          have HK := Lib.hid hk1
          clear hq hdk h34 hk1
          go_wp2_with fail
          refine HT.out.mono ?_; rintro e1 w1 ⟨rfl, hbb⟩
          go_wp2_with fail
          go_ret2
          exact ⟨by rw [HR.out]; rfl, HB.out.trans hbb⟩
      · have q34 : ((s[k].toNat : Int) == 34) = false := by rw [beq_eq_false_iff_ne]; exact fun e => h34 (u8_eq (by have : s[k].toNat = 34 := (by omega); rw [this]; rfl))
        rw [qI_plain _ _ h34, addQ_cons] at hq
        have HQ2 := Lib.hid hq
        have HW := Lib.hid (bldByte w.heap.size b s[k] wr HBL.out (by omega) hsz)
        clear hq hdk h34
        go_wp2_with fail
        refine HW.out.mono ?_; rintro e1 w1 ⟨rfl, hb1, hbb⟩
        go_wp2_with fail
        go_roundw
        case rel => exact ⟨k + 1, b ++ [s[k]], by omega, by go_num, hb1, by rw [List.length_append]; simp only [List.length_cons, List.length_nil]; omega, HQ2.out, HB.out.trans hbb⟩
        case measure => simp [intOf]; omega
    · have i1 : ¬ (k : Int) < (s.size : Int) := by omega
      rw [List.drop_of_length_le (show s.data.toList.length ≤ k by rw [Array.length_toList]; show s.size ≤ k; omega)] at hq
      have HR := Lib.hid (show qIV s.size Q = .tuple #[.string ⟨#[]⟩, .int .i64 0] by rw [← hq]; rfl)
      clear hq
      go_wp2_with fail
      go_ret2
      exact ⟨by rw [HR.out]; rfl, HB.out⟩

theorem splitB_size (sep : ByteArray) (save : Nat) : ∀ (k : Nat) (s : ByteArray), ∀ x ∈ Lib.splitB sep save k s, x.size ≤ s.size
  | 0, s, x, hx => by rw [Lib.splitB_zero, List.mem_singleton] at hx; rw [hx]; exact Nat.le_refl _
  | k + 1, s, x, hx => by
    unfold Lib.splitB at hx
    split at hx
    · rw [List.mem_singleton] at hx; rw [hx]; exact Nat.le_refl _
    · rcases List.mem_cons.1 hx with h | h
      · rw [h, ByteArray.size_extract]; omega
      · have := splitB_size sep save k _ x h
        rw [ByteArray.size_extract] at this; omega
theorem byteI_mod (v : Int) : ∃ y : UInt8, y = byteI v ∧ v % 256 = (y.toNat : Int) := ⟨_, rfl, by unfold byteI; rw [UInt8.toNat_ofNat']; omega⟩

set_option maxHeartbeats 8000000 in
set_option maxRecDepth 100000 in
theorem scanBytes_any (s : ByteArray) (hs : s.size ≤ 1048576) (w : World) (hE : EnvR w) :
    Calls Tryz.prog 108 #[.string s] w fun e w' => e = .returned (.tuple #[.string ⟨(bI s.data.toList).1.toArray⟩, .string ⟨(bI s.data.toList).2.toArray⟩]) ∧ Below w.heap.size w w' := by
  obtain ⟨m, hm⟩ := hE.1.2
  have HC := Lib.hid (Tryz.strings_Cut s ⟨#[41]⟩ m w (by omega) hm)
  have HE := Lib.hid hE
  have hil : (Lib.cut s.data.toList [41]).1.length ≤ s.size := by
    unfold Lib.cut
    split
    · rw [List.length_take, len_list']; exact Nat.min_le_right _ _
    · rw [len_list']; exact Nat.le_refl _
  have HQ1 := Lib.hid (show (bI s.data.toList).1 = (wordsB ⟨(Lib.cut s.data.toList [41]).1.toArray⟩).map (fun w => byteI (atoiV w.data.toList)) from rfl)
  have HQ2 := Lib.hid (show (bI s.data.toList).2 = (Lib.cut s.data.toList [41]).2.1 from rfl)
  generalize (bI s.data.toList).1 = Q1 at *
  generalize (bI s.data.toList).2 = Q2 at *
  clear hE hm
  go_enter Tryz.func108, Tryz.ntmps108
  go_wp2_with fail
  refine HC.out.mono ?_; rintro e1 w1 ⟨rfl, nq, rfl⟩
  have hEd := Lib.hid (HE.out.below (below_drewN' w nq))
  have HBd := Lib.hid (below_drewN' w nq)
  generalize w.drewN nq = wa at *
  have HI : (⟨(Lib.cut s.data.toList [41]).1.toArray⟩ : ByteArray).size ≤ s.size := by
    show (Lib.cut s.data.toList [41]).1.toArray.size ≤ _
    rw [List.size_toArray]; exact hil
  have HCV := Lib.hid (show (Lib.cut s.data.toList (⟨#[41]⟩ : ByteArray).data.toList) = Lib.cut s.data.toList [41] from rfl)
  rw [HCV.out]
  generalize (⟨(Lib.cut s.data.toList [41]).1.toArray⟩ : ByteArray) = N at *
  have HQ2' := Lib.hid (show (⟨(Lib.cut s.data.toList [41]).2.1.toArray⟩ : ByteArray) = ⟨Q2.toArray⟩ by rw [HQ2.out])
  rw [HQ2'.out]
  generalize (Lib.cut s.data.toList [41]).2.2 = fnd at *
  obtain ⟨m2, hm2⟩ := hEd.out.1.2
  go_upto_region 3 with fail
  have hown0 : OwnR encB (wa.alloc (.cells #[] 5)) wa.heap.size 5 (.slice (some ⟨wa.heap.size, 0, none⟩) 0 0) [] := OwnR.none_ _ _ _ (Nat.le_refl _)
  have HO0 := Lib.hid hown0
  have HB0 := Lib.hid ((Below.refl wa.heap.size wa).alloc (Nat.le_refl _) (.cells #[] 5))
  have hEa := Lib.hid (hEd.out.below HB0.out)
  obtain ⟨m3, hm3⟩ := hEa.out.1.2
  have HSP := Lib.hid (Tryz.strings_Split N ⟨#[44]⟩ m3 _ (by omega) hm3 (by decide))
  have hwl : (wordsB N).length = Lib.countB N ⟨#[44]⟩ + 1 := Lib.splitB_all _ (by decide) 0 _ N rfl
  have hcn : Lib.countB N ⟨#[44]⟩ ≤ N.size := Lib.countB_le _ (by decide) _ N (Nat.le_refl _)
  have hsz0 : wa.heap.size < (wa.alloc (.cells #[] 5)).heap.size := by simp
  generalize hwb : wa.alloc (.cells #[] 5) = wb at *
  have HWB := Lib.hid hwb
  clear hwb hown0 hm2 hm3
  go_wp2_with fail
  refine HSP.out.mono ?_; rintro e2 w2 ⟨rfl, hw2⟩
  rw [← hwl]
  have HLZ := Lib.hid (fun x (hx : x ∈ wordsB N) => splitB_size _ _ _ N x hx)
  have HCE := Lib.hid (show ∀ k (x : ByteArray), (wordsB N)[k]? = some x → w2.cell? ⟨wb.heap.size, k, none⟩ = some (.string x) from fun k x hx => by
    rw [hw2]
    have := (Blk.new wb 9 ((wordsB N).map Value.string).toArray).cell k
    refine this.trans ?_
    rw [List.getElem?_toArray, List.getElem?_map, hx]; rfl)
  have HB2 := Lib.hid (show Below wb.heap.size wb w2 by rw [hw2]; exact (Below.refl _ _).alloc (Nat.le_refl _) _)
  have hsz2 : wb.heap.size < w2.heap.size := by rw [hw2]; simp
  have hll : (wordsB N).length ≤ 1048577 := by omega
  have hE2 := Lib.hid (hEa.out.below HB2.out)
  clear hw2 HSP hcn hwl HWB
  generalize wordsB N = L at *
  go_wp2_with fail
  go_loopw [7, 22] (fun v i wr => ∃ (k : Nat) (bs : List UInt8), k ≤ L.length ∧ i = .int .i64 k ∧ Grows encB wr w2.heap.size 5 (.slice (some ⟨wa.heap.size, 0, none⟩) 0 0) v bs ∧ bs.length = k ∧ bs = (L.take k).map (fun x => byteI (atoiV x.data.toList)) ∧ Below w2.heap.size w2 wr) (fun _ i _ => L.length - (intOf i).toNat)
  case atStart => exact ⟨0, [], Nat.zero_le _, rfl, Grows.start _ _ _ _, rfl, rfl, Below.refl _ _⟩
  case round =>
    obtain ⟨k, bs, hk, rfl, hg, hbl, hbs, hbr⟩ := hrel
    have HBR := Lib.hid hbr; have HBS := Lib.hid hbs
    have hszr := hbr.size
    clear hbs
    by_cases hlt : k < L.length
    · have i1 : (k : Int) < (L.length : Int) := by omega
      have i0 : (0 : Int) ≤ (k : Int) := by omega
      have hgk : L[k]? = some (L.getD k ByteArray.empty) := by rw [List.getD_eq_getElem?_getD, List.getElem?_eq_getElem hlt]; rfl
      have hcell : wr.cell? ⟨wb.heap.size, k, none⟩ = some (.string (L.getD k ByteArray.empty)) := (hbr.cell (p := ⟨wb.heap.size, k, none⟩) hsz2).trans (HCE.out k _ hgk)
      have hxs := HLZ.out _ (List.mem_of_getElem? hgk)
      have HAT := Lib.hid (atoi_any (L.getD k ByteArray.empty) (by omega) wr (hE2.out.below hbr))
      obtain ⟨y, hy, hmod⟩ := byteI_mod (atoiV (L.getD k ByteArray.empty).data.toList)
      have HNX := Lib.hid (show bs ++ [y] = (L.take (k + 1)).map (fun x => byteI (atoiV x.data.toList)) by
        rw [List.take_succ_eq_append_getElem hlt, List.map_append, ← HBS.out, hy, List.getD_eq_getElem?_getD, List.getElem?_eq_getElem hlt]; rfl)
      clear hbr hy hgk
      generalize atoiV (L.getD k ByteArray.empty).data.toList = V at *
      generalize L.getD k ByteArray.empty = X at *
      have hb2 : bs.length ≤ 2000000 := by omega
      go_wp2_with fail
      refine HAT.out.mono ?_; rintro e3 w3 ⟨⟨ev, rfl⟩, hb3⟩
      have hg3 : Grows encB w3 w2.heap.size 5 (.slice (some ⟨wa.heap.size, 0, none⟩) 0 0) u7 bs := by
        rcases hg with hg | hg
        · exact .inl (hg.below hb3)
        · exact .inr hg
      have hs3 := Nat.le_trans hszr hb3.size
      go_wp2_with (first
        | fail
        | (at_builtin; refine wpList_app1G (enc := encB) rfl (.tmp 31) (.tmp 34) 102 5 rfl Tryz.underlying102 rfl (by omega) (fun _ => rfl) infoByte w3 w2.heap.size _ _ bs y rfl hg3 rfl (by omega) hs3 ?_; intro v4 w4 hown4 hb4))
      go_roundw
      case rel => exact ⟨k + 1, _, by omega, by go_num, hown4, by rw [List.length_append, hbl]; rfl, HNX.out, HBR.out.trans ((hb3.mono hszr).trans hb4)⟩
      case measure => simp [intOf]; omega
    · have i1 : ¬ (k : Int) < (L.length : Int) := by omega
      have hown := Grows.done hg HO0.out (HB2.out.trans (HBR.out.mono HB2.out.size)) (Nat.le_trans (Nat.le_of_lt hsz0) HB2.out.size)
      have hcv := convert_own hown
      have HR1 := Lib.hid (show bs = Q1 by rw [HBS.out, HQ1.out, List.take_of_length_le (by omega)])
      go_wp2_with fail
      go_ret2
      exact ⟨by rw [← HR1.out]; rfl, HBd.out.trans ((HB0.out.trans ((HB2.out.trans (HBR.out.mono HB2.out.size)).mono HB0.out.size)).mono HBd.out.size)⟩
end Go.Proofs.YtcjaaknnfohllaaGreatDoor
