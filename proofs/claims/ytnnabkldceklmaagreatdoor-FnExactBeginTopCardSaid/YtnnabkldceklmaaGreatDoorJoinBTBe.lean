/- The reference's GetSubs and KeyPlace walked. -/
import Derived.Test.YtnnabkldceklmaaGreatDoorJoinBTBc
import Derived.Test.YtnnabkldceklmaaGreatDoorJoinBTBd
set_option maxHeartbeats 16000000
set_option maxRecDepth 100000
namespace Go.Proofs.YtnnabkldceklmaaGreatDoor
open Go.RowKit
theorem takeS_len {l : List UInt8} {p : List UInt8 × List UInt8} (h : takeS l = some p) : p.2.length ≤ l.length := by
 unfold takeS at h
 split at h
 ·cases h
 ·split at h
  ·split at h
   ·injection h with h
    subst h
    simp only [List.length_drop, List.length_cons]; omega
   ·cases h
  ·split at h
   ·have := getStr_len' h
    simp only [List.length_cons]; omega
   ·cases h
theorem getS_none {l : List UInt8} {G : Option (List (List UInt8) × List UInt8)} (hG : G = allS 5 [] l) (h : G = none) : getS l = none := by
 unfold getS
 rw [← hG, h]
theorem getS_of {l r : List UInt8} {G : Option (List (List UInt8) × List UInt8)} {acc : List ByteArray} (hG : G = allS 5 [] l) (h : G = some (acc.map (fun x => x.data.toList), r)) : getS l = if r = [] ∧ subsB acc ∧ putAll acc = l then some acc else none := by
 have e : (acc.map fun x => x.data.toList).map mkB = acc := by
  rw [List.map_map]
  conv => rhs; rw [← List.map_id acc]
  exact List.map_congr_left fun x _ => mkB_self x
 unfold getS
 rw [← hG, h]
 show (if r = [] ∧ subsB (List.map mkB _) ∧ putAll (List.map mkB _) = _ then some (List.map mkB _) else none) = _
 rw [e]
theorem allS_one (k : Nat) (acc : List (List UInt8)) (l : List UInt8) (hl : l ≠ []) : allS (k + 1) acc l = match takeS l with
  | none => none
  | some (x, r) => allS k (acc ++ [x]) r := by
 rw [allS, if_neg hl]
 cases takeS l <;> rfl
theorem allS_end (n : Nat) (acc : List (List UInt8)) : allS n acc [] = some (acc, []) := by
 cases n with
 | zero => rfl
 | succ n => rw [allS, if_pos rfl]
theorem nil_bytes (RB : ByteArray) : (RB.toList == []) = decide (RB.data.toList = []) := by
 rw [ByteArray.toList_eq, Bool.eq_iff_iff]; simp
theorem ne_bytes (a b : ByteArray) (h : a.data.toList ≠ b.data.toList) : (a.toList == b.toList) = false := by
 rw [beq_eq_false_iff_ne, ByteArray.toList_eq, ByteArray.toList_eq]; exact h
theorem specGetSubs_any (s : ByteArray) (hs : s.size ≤ 1048576) (w : World) :
  Calls Tryz.prog 211 #[.string s] w fun e w' => ∃ v, e = .returned (.tuple #[v, .bool (getS s.data.toList).isSome]) ∧ (∃ A n c, v = .slice A n c ∧ n ≤ 5) ∧ (∀ xs, getS s.data.toList = some xs → OwnStrs w' w.heap.size 9 v xs) ∧ Below w.heap.size w w' := by
 obtain ⟨G, hG⟩ : ∃ G, G = allS 5 [] s.data.toList := ⟨_, rfl⟩
 have HG := hd_ hG
 have hown0 : OwnStrs (w.alloc (.cells #[] 9)) w.heap.size 9 (.slice (some ⟨w.heap.size, 0, none⟩) 0 0) [] := OwnR.none_ (enc := Value.string) w w.heap.size 9 (Nat.le_refl _)
 have HO0 := hd_ hown0
 have HB0 := hd_ ((Below.refl w.heap.size w).alloc (Nat.le_refl _) (.cells #[] 9))
 clear hG hown0
 go_enter Tryz.func211, Tryz.ntmps211
 go_wp2_with fail
 go_loopw [4, 5] (fun v t wr => ∃ (acc : List ByteArray) (RB : ByteArray), acc.length ≤ 5 ∧ t = .string RB ∧ OwnStrs wr w.heap.size 9 v acc ∧ RB.size ≤ s.size ∧ Hid (allS (5 - acc.length) (acc.map fun x => x.data.toList) RB.data.toList = G) ∧ Below w.heap.size w wr) (fun v _ _ => 5 - lenV v)
 case atStart => exact ⟨[], s, Nat.zero_le _, rfl, HO0.out, Nat.le_refl _, hd_ HG.out.symm, HB0.out⟩
 case round =>
  obtain ⟨acc, RB, ha5, rfl, hown, hrs, hG1, hb⟩ := hrel
  have hsz := hb.size
  have HB := hd_ hb
  have hlv : Hid (lenV u4 = acc.length) := by obtain ⟨⟨A4, c4, rfl⟩, _⟩ := hown; exact hd_ rfl
  clear hb
  obtain ⟨⟨AL, cL, rfl⟩, _⟩ := id hown
  by_cases hmore : RB.data.toList ≠ [] ∧ acc.length < 5
  ·obtain ⟨hne, h5⟩ := hmore
   have hRl : RB.data.toList.length = RB.size := by simp
   have hR0 : 0 < RB.size := by
    rw [← hRl]; exact List.length_pos_iff.2 hne
   have hq := hG1.out
   rw [show 5 - acc.length = (4 - acc.length) + 1 by omega, allS_one _ _ _ hne] at hq
   have i5 : (acc.length : Int) ≤ 4 := by omega
   have q0 : (RB.toList == []) = false := by rw [nil_bytes]; exact decide_eq_false hne
   have HW := hd_ (l02Take_any RB (by omega) hR0 wr)
   clear hne hRl hG1
   cases hg : takeS RB.data.toList with
   | none =>
    rw [hg] at HW hq
    have HQ := hd_ (getS_none HG.out (show G = none from hq.symm))
    change Hid (Calls _ _ _ _ fun e w' => e = .returned (.tuple #[.string ⟨#[]⟩, .string ⟨#[]⟩, .bool false]) ∧ _) at HW
    clear hq hg
    go_wp2_with fail
    refine HW.out.mono ?_; rintro e1 w1 ⟨rfl, hb1⟩
    have HB1 := hd_ (HB.out.trans (hb1.mono hsz))
    have hs1 : w.heap.size ≤ w1.heap.size := HB1.out.size
    clear hb1 HW hown
    go_wp2_with fail
    go_ret2
    rw [HQ.out]
    exact ⟨_, rfl, ⟨_, _, _, rfl, by omega⟩, fun xs h => (by cases h), HB1.out.alloc (by omega) _⟩
   | some p =>
    rw [hg] at HW hq
    have hpl : p.2.length ≤ RB.data.toList.length := takeS_len hg
    have HQ := hd_ (show allS (5 - (acc ++ [mkB p.1]).length) ((acc ++ [mkB p.1]).map fun x => x.data.toList) (mkB p.2).data.toList = G by
     rw [← hq, List.length_append, List.map_append, show 5 - (acc.length + [mkB p.1].length) = 4 - acc.length by simp only [List.length_cons, List.length_nil]; omega]; rfl)
    have hps : (mkB p.2).size ≤ s.size := by
     have h1 : RB.data.toList.length = RB.size := by simp
     show p.2.toArray.size ≤ _; rw [List.size_toArray]; omega
    clear hq hg hpl
    change Hid (Calls _ _ _ _ fun e w' => e = .returned (.tuple #[.string (mkB p.1), .string (mkB p.2), .bool true]) ∧ _) at HW
    generalize mkB p.1 = X at *
    generalize mkB p.2 = R2 at *
    go_wp2_with fail
    refine HW.out.mono ?_; rintro e1 w1 ⟨rfl, hb1⟩
    have hs1 := Nat.le_trans hsz hb1.size
    have hown1 := hown.below hb1
    have HB1 := hd_ (HB.out.trans (hb1.mono hsz))
    clear hb1 HW hown
    go_wp2_with (first
     | fail
     | (at_builtin; refine wpList_app1 (enc := Value.string) rfl (.tmp 27) (.tmp 29) 22 9 rfl Tryz.underlying22 rfl (by omega) (fun _ => rfl) infoTxt w1 w.heap.size _ acc X rfl hown1 rfl (by omega) hs1 ?_; intro v4 w4 hown4 hb4))
    go_roundw
    case rel => exact ⟨acc ++ [X], R2, by rw [List.length_append]; simp only [List.length_cons, List.length_nil]; omega, rfl, hown4, hps, HQ, HB1.out.trans hb4⟩
    case measure => (obtain ⟨⟨A4, c4, rfl⟩, _⟩ := hown4; have h9 := hlv.out; simp only [lenV, List.length_append, List.length_cons, List.length_nil] at h9 ⊢; try omega)
  ·have hsome : G = some (acc.map (fun x => x.data.toList), RB.data.toList) := by
    rw [← hG1.out]
    by_cases hne : RB.data.toList = []
    ·rw [hne, allS_end]
    ·have h5 : ¬ acc.length < 5 := fun h => hmore ⟨hne, h⟩
     rw [show 5 - acc.length = 0 by omega, allS]
   have HP := hd_ (getS_of HG.out hsome)
   have hstr : StrR wr w.heap.size wr.heap.size AL acc.length acc := StrR.of_own hown.2
   have HSR := hd_ hstr
   have HOW := hd_ hown
   have HC := hd_ (fun (W : World) (h : StrR W w.heap.size wr.heap.size AL acc.length acc) => l02Subs_any AL acc.length cL w.heap.size wr.heap.size acc W h (by omega))
   have HX := hd_ (exit_test RB acc hmore ha5)
   have HNB := hd_ (nil_bytes RB)
   clear hG1 hstr hsome hmore hlv HO0 HB0 hown
   rcases HX.out with q0 | ⟨q0, h5⟩
   ·have HE := hd_ (of_decide_eq_true (HNB.out.symm.trans q0))
    cases hsb : subsB acc with
    | false =>
     have HPN := hd_ (show getS s.data.toList = none from by rw [HP.out, if_neg (by rw [hsb]; simp)])
     rw [hsb] at HC
     clear hsb
     go_wp2_with fail
     refine (HC.out _ HSR.out).mono ?_; rintro e1 w1 ⟨rfl, rfl⟩
     go_wp2_with fail
     go_ret2
     rw [HPN.out]
     exact ⟨_, rfl, ⟨_, _, _, rfl, by omega⟩, fun xs h => (by cases h), HB.out.alloc hsz _⟩
    | true =>
     have hx24 : ∀ x ∈ acc, x.size ≤ 24 := fun x hx => ((subsB_all hsb).2 x hx).2
     have HPT := hd_ (fun W (h : StrR W w.heap.size wr.heap.size AL acc.length acc) (hh : wr.heap.size ≤ W.heap.size) => l02Put_any AL acc.length cL w.heap.size wr.heap.size acc W h hh (by omega) hx24)
     rw [hsb] at HC
     by_cases heq : putAll acc = s.data.toList
     ·have HPS := hd_ (show getS s.data.toList = some acc from by rw [HP.out, if_pos ⟨HE.out, hsb, heq⟩])
      have hms : mkB (putAll acc) = s := by rw [heq]; exact mkB_self s
      rw [hms] at HPT
      have p0 : (s.toList == s.toList) = true := by simp
      clear hsb heq hms hx24
      go_wp2_with fail
      refine (HC.out _ HSR.out).mono ?_; rintro e1 w1 ⟨rfl, rfl⟩
      go_wp2_with fail
      refine (HPT.out _ HSR.out (Nat.le_refl _)).mono ?_; rintro e2 w2 ⟨rfl, hb2⟩
      have HB2 := hd_ (HB.out.trans (hb2.mono hsz))
      have HO2 := hd_ (HOW.out.below hb2)
      clear hb2 HPT HC
      go_wp2_with fail
      go_ret2
      rw [HPS.out]
      refine ⟨_, rfl, ⟨_, _, _, rfl, by omega⟩, fun xs h => ?_, HB2.out⟩
      injection h with h
      subst h
      exact HO2.out
     ·have HPS := hd_ (show getS s.data.toList = none from by rw [HP.out, if_neg (fun h => heq h.2.2)])
      have p0 : ((mkB (putAll acc)).toList == s.toList) = false := ne_bytes _ _ heq
      generalize mkB (putAll acc) = PB at *
      clear hsb heq hx24
      go_wp2_with fail
      refine (HC.out _ HSR.out).mono ?_; rintro e1 w1 ⟨rfl, rfl⟩
      go_wp2_with fail
      refine (HPT.out _ HSR.out (Nat.le_refl _)).mono ?_; rintro e2 w2 ⟨rfl, hb2⟩
      have HB2 := hd_ (HB.out.trans (hb2.mono hsz))
      have hs2 := HB2.out.size
      clear hb2 HPT HC
      go_wp2_with fail
      go_ret2
      rw [HPS.out]
      exact ⟨_, rfl, ⟨_, _, _, rfl, by omega⟩, fun xs h => (by cases h), HB2.out.alloc hs2 _⟩
   ·have HE := hd_ (of_decide_eq_false (HNB.out.symm.trans q0))
    have HPN := hd_ (show getS s.data.toList = none from by rw [HP.out, if_neg (fun h => HE.out h.1)])
    have i5 : ¬ (acc.length : Int) ≤ 4 := by omega
    go_wp2_with fail
    go_ret2
    rw [HPN.out]
    refine ⟨_, rfl, ?_, fun xs h => (by cases h), HB.out.alloc hsz _⟩
    first | exact ⟨_, _, _, rfl, by decide⟩ | exact ⟨_, _, ⟨_, rfl⟩, by decide⟩
end Go.Proofs.YtnnabkldceklmaaGreatDoor
/- The reference's KeyPlace and l15Keys walked. -/
namespace Go.Proofs.YtnnabkldceklmaaGreatDoor
open Go.RowKit
theorem place_hitS {l : List UInt8} {i : Nat} (h1 : 1 ≤ i) (hi : l[i]? = some 1) (hn : ∀ j, 1 ≤ j → j < i → l[j]? ≠ some 1) : (placeP l).isSome = match getS (l.drop (i + 1)) with
  | none => false
  | some _ => nameB (mkB (l.take i)) := by
 rw [placeS_hit h1 hi hn, getS_eq]
 cases getP (l.drop (i + 1)) with
 | none => rfl
 | some xs =>
  show (if nameB (mkB (l.take i)) then some (mkB (l.take i), xs) else none).isSome = _
  cases nameB (mkB (l.take i)) <;> rfl
theorem flatStr : FlatSh shS := fun h _ => ⟨rfl, h⟩
theorem lit0_ownB {t : TypeId} {k : Nat} (W : World) (base : Nat) (hb : base ≤ W.heap.size) : (W.alloc (.cells #[] t)).ownsRow base t k (.slice (some ⟨W.heap.size, 0, none⟩) 0 0) 0 [] := by
 have := World.ownsRow_lit (base := base) (e := t) (size := k) W #[] 0 hb (by simp) (by simp)
 simpa using this
theorem l03SubsB_any (A : Option Addr) (c lo hi : Nat) (ys : List ByteArray) (w : World) (h : StrR w lo hi A ys.length ys) (hhi : hi ≤ w.heap.size) (hn : ys.length ≤ 1048576) :
  Calls Tryz.prog 213 #[.slice A ys.length c] w fun e w' => (∃ B d, e = .returned (.slice B ys.length d) ∧ Own (Sh.row 9 shS) w' w.heap.size w'.heap.size [.slice B ys.length d] ys) ∧ Below w.heap.size w w' := by
 have hb := (Below.refl w.heap.size w).alloc (Nat.le_refl _) (.cells #[] 9)
 have HL := hd_ (lit0_ownB (t := 9) (k := shS.k) w w.heap.size (Nat.le_refl _))
 have HR := hd_ (rowG_of_R (m := markT) (co := ByteArray.size) (h1 := fun _ => rfl) (h.below hb hhi))
 have HB := hd_ hb
 clear h hb
 go_enter Tryz.func213, Tryz.ntmps213
 go_wp2_with (at_builtin; refine wpList_growR (s := shS) rfl (.tmp 3) (.tmp 4) 22 rfl Tryz.underlying22 rfl (by decide) (by decide) infoString flatStr _ w.heap.size lo hi _ A c ys rfl HL.out rfl HR.out (by omega) (by simp) ?_)
 intro B d w1 ho hb1
 have HO := hd_ ho
 have HB1 := hd_ (HB.out.trans hb1)
 clear ho hb1
 go_wp2_with fail
 go_ret
 exact ⟨⟨B, d, rfl, HO.out⟩, HB1.out⟩
theorem extn_data (s : ByteArray) (k : Nat) : (s.extract k s.size).data.toList = s.data.toList.drop k := by
 rw [extn_drop]; rfl
theorem specKeyPlace_any (s : ByteArray) (hs : s.size ≤ 1048576) (w : World) :
  Calls Tryz.prog 196 #[.string s] w fun e w' => ∃ nm v, e = .returned (.tuple #[nm, v, .bool (placeP s.data.toList).isSome]) ∧ Below w.heap.size w w' := by
 obtain ⟨R, hR⟩ : ∃ R, R = (placeP s.data.toList).isSome := ⟨_, rfl⟩
 rw [← hR]
 have HR := hd_ hR
 clear hR
 go_enter Tryz.func196, Tryz.ntmps196
 go_wp2_with fail
 go_loopw [5] (fun i wr => ∃ k : Nat, 1 ≤ k ∧ k ≤ 9 ∧ i = .int .i64 k ∧ Hid (∀ j, 1 ≤ j → j < k → s.data.toList[j]? ≠ some 1) ∧ Below w.heap.size w wr) (fun i _ => 9 - (intOf i).toNat)
 case atStart => exact ⟨1, Nat.le_refl _, by omega, rfl, hd_ (fun j h1 h2 => by omega), Below.refl _ _⟩
 case round =>
  obtain ⟨k, hk1, hk, rfl, hno, hb⟩ := hrel
  have hsz := hb.size
  have HB := hd_ hb
  clear hb
  by_cases hmore : k < s.size ∧ k ≤ 8
  ·obtain ⟨hlt, h8⟩ := hmore
   have i1 : (k : Int) < (s.size : Int) := by omega
   have i8 : (k : Int) ≤ 8 := by omega
   have hgl := get_list s k hlt
   by_cases hc : s[k] = 1
   ·have q0 : ((s[k].toNat : Int) != 1) = false := by rw [hc]; rfl
    rw [hc] at hgl
    have hP := place_hitS hk1 hgl hno.out
    have hx := extn_data s (k + 1)
    have hxs : (s.extract (k + 1) s.size).size ≤ 1048576 := by
     have h1 : (s.extract (k + 1) s.size).data.toList.length = (s.extract (k + 1) s.size).size := by simp
     rw [hx, List.length_drop] at h1
     have h2 : s.data.toList.length = s.size := by simp
     omega
    have HG := hd_ (fun W => specGetSubs_any (s.extract (k + 1) s.size) hxs W)
    rw [hx] at HG
    have hnt : nameB (mkB (s.data.toList.take k)) = nameB (s.extract 0 k) := by rw [extn_take]
    rw [hnt] at hP
    have hks : (s.extract 0 k).size ≤ 9223372036854775807 := by
     have h1 : (s.extract 0 k).data.toList.length = (s.extract 0 k).size := by simp
     rw [ByteArray.data_extract, Array.toList_extract, List.extract_eq_take_drop, List.length_take] at h1
     omega
    have j0 : (0 : Int) ≤ (k : Int) + 1 := by omega
    have j1 : ((k : Int) + 1).toNat = k + 1 := by omega
    have j2 : ¬ (s.size : Int) < (k : Int) + 1 := by omega
    have j3 : ¬ (s.size : Int) < (k : Int) := by omega
    clear hx hgl hnt hxs
    go_upto_region 4 with fail
    refine AnyT.region (fun _ => false) (fun _ => True) (by kernel_rfl) trivial (fun hHeld => ?_)
    have HBD := hd_ (show Below w.heap.size w wr.drew from HB.out.drew)
    have hszd : w.heap.size ≤ wr.drew.heap.size := hsz
    generalize wr.drew = wD at *
    (refine tA 0 18 ?_; simp only [pz])
    (refine tA 1 19 ?_; simp only [pz])
    refine AnyT.takeAny 2 20 (.int .u8 (s[k].toNat : Int)) rfl (by kernel_rfl) (by kernel_rfl) (by kernel_rfl) rfl rfl (fun _ _ _ _ h => h) rfl (fun W => by go_simp) (by assumption) ?_
    simp only [pz]
    refine AnyT.takeAny 3 21 (.int .u8 1) rfl (by kernel_rfl) (by kernel_rfl) (by kernel_rfl) rfl rfl (fun _ _ _ _ h => h) rfl (fun W => by go_simp; try rfl) (by assumption) ?_
    simp only [pz]
    (refine tA 4 22 ?_; simp only [pz])
    (try rw [q0])
    refine AnyT.done (by kernel_rfl) ?_ _
    clear hHeld HB hsz
    go_wp2_with fail
    refine (HG.out _).mono ?_; rintro e1 w1 ⟨v, rfl, ⟨A, n, c, rfl, hn5⟩, hxs, hb1⟩
    have HB1 := hd_ (HBD.out.trans (hb1.mono hszd))
    have HXS := hd_ hxs
    clear hxs HG
    cases hg : getS (s.data.toList.drop (k + 1)) with
    | none =>
     rw [hg] at hP
     have HP := hd_ (show R = false from HR.out.trans hP)
     clear hP hg hc hno hb1
     go_wp2_with fail
     go_ret3
     exact ⟨_, _, by rw [HP.out]; rfl, HB1.out⟩
    | some xs =>
     rw [hg] at hP
     have HP := hd_ (show R = nameB (s.extract 0 k) from HR.out.trans hP)
     have hxo := HXS.out xs hg
     have hsb : subsB xs = true := (getS_some hg).1
     have hnl : n = xs.length := by obtain ⟨⟨A', c', e⟩, _⟩ := hxo; injection e
     subst hnl
     have hstr : StrR w1 wD.heap.size w1.heap.size A xs.length xs := StrR.of_own hxo.2
     have HSR := hd_ hstr
     have HPL := hd_ (specPlace_any (s.extract 0 k) A xs.length c wD.heap.size w1.heap.size xs w1 hks hstr (by omega))
     rw [hsb, Bool.and_true] at HPL
     have hs1 := hb1.size
     have HSU := hd_ (l03SubsB_any A c wD.heap.size w1.heap.size xs w1.drew (hstr.below (below_drewN' w1 1) (Nat.le_refl _)) (Nat.le_refl _) (by omega))
     clear hP hg hc hno hb1 hxo hsb hstr
     cases hnb : nameB (s.extract 0 k) with
     | false =>
      rw [hnb] at HPL HP
      clear hnb
      go_wp2_with fail
      refine HPL.out.mono ?_; rintro e2 w2 ⟨rfl, rfl⟩
      go_wp2_with fail
      go_ret3
      exact ⟨_, _, by rw [HP.out]; rfl, HB1.out⟩
     | true =>
      rw [hnb] at HPL HP
      clear hnb
      go_wp2_with fail
      refine HPL.out.mono ?_; rintro e2 w2 ⟨rfl, rfl⟩
      go_upto_region 8 with fail
      refine AnyT.region (fun _ => false) (fun _ => True) (by kernel_rfl) trivial (fun hHeld => ?_)
      (refine tA 0 41 ?_; simp only [pz])
      (refine tA 1 42 ?_; simp only [pz])
      refine AnyT.takeAny 2 43 (.string (s.extract 0 k)) rfl (by kernel_rfl) (by kernel_rfl) (by kernel_rfl) rfl rfl (fun _ _ _ _ h => h) rfl (fun W => by go_simp) (by assumption) ?_
      simp only [pz]
      (refine tA 3 44 ?_; simp only [pz])
      refine oNe 4 fun K hK => ?_
      go_simp
      refine HSU.out.mono ?_
      rintro e3 w3 ⟨⟨B3, d3, rfl, _⟩, hb3⟩
      go_simp
      have HB3 := hd_ (show Below w.heap.size w w3 from HB1.out.trans ((show Below w1.heap.size w1 w3 from (below_drewN' w1 1).trans hb3).mono HB1.out.size))
      refine hK.out _ _ trivial (fun hHeld => ?_)
      clear hK K hb3 HSU
      (try simp only [pz])
      (refine tA 5 2 ?_; simp only [pz])
      (refine tA 6 3 ?_; simp only [pz])
      (refine tA 7 4 ?_; simp only [pz])
      refine AnyT.done (by kernel_rfl) ?_ _
      clear hHeld
      go_wp2_with fail
      go_ret3
      exact ⟨_, _, by rw [HP.out]; rfl, HB3.out⟩
   ·have q0 : ((s[k].toNat : Int) != 1) = true := by
     rw [bne_iff_ne]; exact fun e => hc (u8_eq (by have : s[k].toNat = 1 := (by omega); rw [this]; rfl))
    have HN := hd_ (show ∀ j, 1 ≤ j → j < k + 1 → s.data.toList[j]? ≠ some 1 from fun j h1 h2 => by
     rcases Nat.lt_or_ge j k with h | h
     ·exact hno.out j h1 h
     ·obtain rfl : j = k := by omega
      rw [hgl]; exact fun e => hc (by injection e))
    clear hgl hc hno
    go_upto_region 4 with fail
    refine AnyT.region (fun _ => false) (fun _ => True) (by kernel_rfl) trivial (fun hHeld => ?_)
    have HBD := hd_ (show Below w.heap.size w wr.drew from HB.out.drew)
    generalize wr.drew = wD at *
    (refine tA 0 18 ?_; simp only [pz])
    (refine tA 1 19 ?_; simp only [pz])
    refine AnyT.takeAny 2 20 (.int .u8 (s[k].toNat : Int)) rfl (by kernel_rfl) (by kernel_rfl) (by kernel_rfl) rfl rfl (fun _ _ _ _ h => h) rfl (fun W => by go_simp) (by assumption) ?_
    simp only [pz]
    refine AnyT.takeAny 3 21 (.int .u8 1) rfl (by kernel_rfl) (by kernel_rfl) (by kernel_rfl) rfl rfl (fun _ _ _ _ h => h) rfl (fun W => by go_simp; try rfl) (by assumption) ?_
    simp only [pz]
    (refine tA 4 22 ?_; simp only [pz])
    (try rw [q0])
    refine AnyT.done (by kernel_rfl) ?_ _
    clear hHeld
    go_wp2_with fail
    go_roundw
    case rel => exact ⟨k + 1, by omega, by omega, by go_num, hd_ HN.out, HBD.out⟩
    case measure => simp [intOf]; omega
  ·have HP := hd_ (show R = false by
    rw [HR.out, placeS_none (fun j h1 h2 => by
     rcases Nat.lt_or_ge j k with h | h
     ·exact hno.out j h1 h
     ·have : s.size ≤ j := by
       rcases Nat.lt_or_ge j s.size with h3 | h3
       ·exact absurd ⟨by omega, by omega⟩ hmore
       ·exact h3
      rw [List.getElem?_eq_none (by simp; omega)]; simp)]
    rfl)
   have hex : ¬ (k : Int) < (s.size : Int) ∨ ((k : Int) < (s.size : Int) ∧ ¬ (k : Int) ≤ 8) := by omega
   clear hno hmore
   rcases hex with i1 | ⟨i1, i8⟩
   ·go_wp2_with fail
    go_ret3
    first | exact ⟨_, _, by rw [HP.out]; rfl, HB.out⟩ | exact ⟨HP.out, HB.out⟩ | exact ⟨HP.out.symm, HB.out⟩ | (refine ⟨?_, HB.out⟩; rw [HP.out]; first | rfl | exact ⟨_, _, rfl⟩ | exact ⟨_, _, _, rfl⟩ | simp)
   ·go_wp2_with fail
    go_ret3
    first | exact ⟨_, _, by rw [HP.out]; rfl, HB.out⟩ | exact ⟨HP.out, HB.out⟩ | exact ⟨HP.out.symm, HB.out⟩ | (refine ⟨?_, HB.out⟩; rw [HP.out]; first | rfl | exact ⟨_, _, rfl⟩ | exact ⟨_, _, _, rfl⟩ | simp)
end Go.Proofs.YtnnabkldceklmaaGreatDoor
