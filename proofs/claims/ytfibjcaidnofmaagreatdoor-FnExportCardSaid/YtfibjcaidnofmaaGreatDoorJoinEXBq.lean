/- A drawn tree: PutNode, l22Tree, DrawExportTree of the reference walked. -/
import Derived.Test.YtfibjcaidnofmaaGreatDoorJoinEXBp
import Derived.Test.YtfibjcaidnofmaaGreatDoorJoinEXAu
import Derived.Test.YtfibjcaidnofmaaGreatDoorJoinEXBd
import Derived.Test.YtfibjcaidnofmaaGreatDoorJoinEXBm
import Derived.Test.YtfibjcaidnofmaaGreatDoorJoinEXAy
namespace Go.Proofs.YtfibjcaidnofmaaGreatDoor
open Go.RowKit

theorem TSm.nods {m : Nat} {ts : List TyNode} (h : TSm m ts) (hm : m ≤ 1000) : NodsSmall (ts.map nodOf) :=
  ⟨by rw [List.length_map]; have := h.1; omega, fun x hx => by
    obtain ⟨y, hy, rfl⟩ := List.mem_map.1 hx
    have h1 := h.2 y hy
    exact ⟨by have := h1.1; show y.1.size ≤ _; omega, by have := h1.2.2.2; show y.2.2.size ≤ _; omega, by have := h1.2.1; show y.2.1.length ≤ _; omega, fun z hz => by have := h1.2.2.1 z hz; omega⟩⟩
theorem treR_own {w : World} {lo hi : Nat} {A : Option Addr} {c : Nat} {ts : List TyNode} (h : shTree.R w lo hi [.slice A ts.length c] ts) : TreR w lo hi (.agg #[.slice A ts.length c]) (ts.map nodOf) :=
  ⟨A, c, by rw [List.length_map], by rw [List.length_map]; exact nodesR_of h⟩

set_option maxHeartbeats 4000000 in
set_option maxRecDepth 100000 in
theorem putNode_any (A : Option Addr) (c lo hi m : Nat) (ts : List TyNode) (nm vl : ByteArray) (B : Option Addr) (d lo' hi' : Nat) (ys : List ByteArray) (w : World) (h : Own shTree w lo hi [.slice A ts.length c] ts) (hy : StrR w lo' hi' B ys.length ys) (hhi : hi ≤ w.heap.size) (hhi' : hi' ≤ w.heap.size) (hs : TSm m ts) (hm : m < 120) (hx : NSm (nm, ys, vl)) :
    Calls Tryz.prog 80 #[.agg #[.slice A ts.length c], .string nm, .slice B ys.length d, .string vl] w fun e w' => ∃ A' c' ts' k, e = .returned (.tuple #[.agg #[.slice A' (ts' : List TyNode).length c'], .int .i64 k]) ∧ Own shTree w' w.heap.size w'.heap.size [.slice A' ts'.length c'] ts' ∧ TSm (m + 1) ts' ∧ Below w.heap.size w w' := by
  have hsT := hs.smT (by omega)
  have hb1 := (Below.refl w.heap.size w).alloc (Nat.le_refl _) (.cells #[.slice A ts.length c] 26)
  have hb2 := hb1.alloc (by simp) (.cells #[.slice none 0 0] 26)
  obtain ⟨W2, hW2⟩ : ∃ W2, W2 = (w.alloc (.cells #[.slice A ts.length c] 26)).alloc (.cells #[.slice none 0 0] 26) := ⟨_, rfl⟩
  have hz2 : W2.heap.size = w.heap.size + 2 := by rw [hW2]; simp
  have B0 := Lib.hid (show Blk W2 w.heap.size 26 #[.slice A ts.length c] from by rw [hW2]; exact (Blk.new w 26 #[.slice A ts.length c]).alloc _)
  have B1 := Lib.hid (show Blk W2 (w.heap.size + 1) 26 #[.slice none 0 0] from by
    rw [hW2]
    have := Blk.new (w.alloc (.cells #[.slice A ts.length c] 26)) 26 #[.slice none 0 0]
    rw [heap_alloc_size1] at this
    exact this)
  rw [← hW2] at hb2
  have h2 := h.below hb2 hhi
  have hy2 := hy.below hb2 hhi'
  have HB2 := Lib.hid hb2
  have HS := Lib.hid hs; have HX := Lib.hid hx
  have HT := Lib.hid (specTreeOk_any (ts.map nodOf) _ lo hi W2 (treR_own h2.reads) (by omega) (hs.nods (by omega)))
  have H2 := Lib.hid h2; have HY2 := Lib.hid hy2
  have f0 := B0.out.cell
  have hx1 : nm.size ≤ 24 := hx.1
  have hx2 : ys.length ≤ 5 := hx.2.1
  have hx4 : vl.size ≤ 65 := hx.2.2.2
  clear h hy h2 hy2 hs hx hb1 hb2
  go_enter Tryz.func80, Tryz.ntmps80
  go_upto_region 1 with fail
  rw [← hW2]
  clear hW2
  go_wp2_with fail
  refine HT.out.mono ?_
  rintro e3 w3 ⟨rfl, hb3⟩
  have HB3 := Lib.hid (HB2.out.trans (hb3.mono (by omega)))
  have H3 := Lib.hid (H2.out.below hb3 (by omega)); have HY3 := Lib.hid (HY2.out.below hb3 (by omega))
  have B03 := Lib.hid (B0.out.below hb3 B0.out.lt); have B13 := Lib.hid (B1.out.below hb3 B1.out.lt)
  have s3 := hb3.size
  clear hb3 HB2 HT H2 HY2 B0 B1 f0
  have HP := Lib.hid (specPlace_any nm B ys.length d lo' hi' ys w3 (by omega) HY3.out (by omega))
  generalize treB (ts.map nodOf) = tb at *
  generalize (nameB nm && subsB ys) = pb at *
  cases tb with
  | false =>
    have f1 := B13.out.cell; have z1 := B13.out.frozen 0
    go_wp2_with fail
    refine bodyPost_ret (v := .tuple #[.agg #[.slice none 0 0], .int .i64 1]) (by simp [results, Tryz.results80, go_sem, f1]) rfl ⟨none, 0, [], 1, rfl, Own.nil_row _ _ _, ⟨Nat.zero_le _, fun x hx => by cases hx⟩, ?_⟩
    exact HB3.out.setCell (by dsimp only; omega) _
  | true =>
    cases pb with
    | false =>
      have f1 := B13.out.cell; have z1 := B13.out.frozen 0
      go_wp2_with fail
      refine HP.out.mono ?_
      rintro e4 w4 ⟨rfl, rfl⟩
      go_wp2_with fail
      refine bodyPost_ret (v := .tuple #[.agg #[.slice none 0 0], .int .i64 1]) (by simp [results, Tryz.results80, go_sem, f1]) rfl ⟨none, 0, [], 1, rfl, Own.nil_row _ _ _, ⟨Nat.zero_le _, fun x hx => by cases hx⟩, ?_⟩
      exact HB3.out.setCell (by dsimp only; omega) _
    | true =>
      by_cases hl : 64 < vl.size
      · have i1 : (64 : Int) < (vl.size : Int) := by omega
        have f1 := B13.out.cell; have z1 := B13.out.frozen 0
        go_wp2_with fail
        refine HP.out.mono ?_
        rintro e4 w4 ⟨rfl, rfl⟩
        go_wp2_with fail
        refine bodyPost_ret (v := .tuple #[.agg #[.slice none 0 0], .int .i64 1]) (by simp [results, Tryz.results80, go_sem, f1]) rfl ⟨none, 0, [], 1, rfl, Own.nil_row _ _ _, ⟨Nat.zero_le _, fun x hx => by cases hx⟩, ?_⟩
        exact HB3.out.setCell (by dsimp only; omega) _
      · have i1 : ¬ (64 : Int) < (vl.size : Int) := by omega
        have h3 := H3.out
        obtain ⟨hlen, hc, hA⟩ := own_addr h3
        have HQ := Lib.hid (l03Put_any A c lo hi ts nm vl B d lo' hi' ys w3 (own_row h3) hc HY3.out (by omega) (by omega) hsT ⟨by omega, fun y hy' => by have := HX.out.2.2.1 y hy'; omega⟩ (by have := HS.out.1; omega) hA)
        have HI := Lib.hid (HS.out.ins HX.out)
        generalize insOne befP keyT ts (nm, ys, vl) = RES at *
        have f0 := B03.out.cell
        clear h3 hlen hc hA
        go_wp2_with fail
        refine HP.out.mono ?_
        rintro e4 w4 ⟨rfl, rfl⟩
        go_wp2_with fail
        refine HQ.out.mono ?_
        rintro e5 w5 ⟨⟨A5, c5, rfl, ho5⟩, hb5⟩
        have HO5 := Lib.hid ho5
        have HB5 := Lib.hid (HB3.out.trans (hb5.mono (by omega)))
        have hB15 := B13.out.below hb5 B13.out.lt
        have f1 := hB15.cell; have z1 := hB15.frozen 0
        have s5 := hb5.size
        clear ho5 hb5 hB15 f0
        go_wp2_with fail
        refine bodyPost_ret (v := .tuple #[.agg #[.slice A5 RES.length c5], .int .i64 0]) (by simp [results, Tryz.results80, go_sem, f1]) rfl ⟨A5, c5, RES, 0, rfl, ?_, HI.out, ?_⟩
        · exact (HO5.out.setCell (by dsimp only; omega) _).more (by omega) (by simp [World.setCell])
        · exact HB5.out.setCell (by dsimp only; omega) _

end Go.Proofs.YtfibjcaidnofmaaGreatDoor

/- The program's KeyPlace walked. -/
namespace Go.Proofs.YtfibjcaidnofmaaGreatDoor
open Go.RowKit

theorem cut1_any (s : ByteArray) (hs : s.size ≤ 1048576) (W : World) (hm : ∃ m', W.cell? ⟨0, 0, none⟩ = some (.int .i64 m')) :
    Calls Tryz.prog 39 #[.string s, .string ⟨#[1]⟩] W fun e w' => (∃ F R b, e = .returned (.tuple #[.string F, .string R, .bool b]) ∧ F.size ≤ 1048576 ∧ R.size ≤ s.size ∧
      ((b = true ∧ s.data.toList = F.data.toList ++ 1 :: R.data.toList ∧ ∀ c ∈ F.data.toList, c ≠ 1) ∨ (b = false ∧ ∀ c ∈ s.data.toList, c ≠ 1))) ∧ Below W.heap.size W w' := by
  obtain ⟨m0, hm0⟩ := hm
  have hlen : s.data.toList.length = s.size := by simp
  refine (Tryz.strings_Cut s ⟨#[1]⟩ m0 W (by omega) hm0).mono ?_
  rintro e w' ⟨he, k, rfl⟩
  have he' : e = .returned (.tuple #[.string ⟨(Lib.cut s.data.toList [1]).1.toArray⟩, .string ⟨(Lib.cut s.data.toList [1]).2.1.toArray⟩, .bool (Lib.cut s.data.toList [1]).2.2]) := he
  refine ⟨?_, below_drewN' W k⟩
  by_cases h1 : (1 : UInt8) ∈ s.data.toList
  · have el := cut_at1 _ h1
    have ha : ∀ c ∈ s.data.toList.takeWhile fun c => c != 1, c ≠ 1 := fun c hc => by
      have := mem_takeWhile_dig _ _ c hc
      simpa using this
    have hc := cut_app (s.data.toList.takeWhile fun c => c != 1) (s.data.toList.drop ((s.data.toList.takeWhile fun c => c != 1).length + 1)) 1 ha
    rw [show s.data.toList.takeWhile (fun c => c != 1) ++ 1 :: s.data.toList.drop ((s.data.toList.takeWhile fun c => c != 1).length + 1) = s.data.toList from el.symm] at hc
    rw [hc] at he'
    have := congrArg List.length el
    rw [hlen, List.length_append, List.length_cons] at this
    exact ⟨_, _, _, he', by show (List.takeWhile _ _).length ≤ _; change _ = (List.takeWhile _ _).length + _ at this; omega, by show (List.drop _ _).length ≤ _; omega, .inl ⟨rfl, el, ha⟩⟩
  · have hn : ∀ c ∈ s.data.toList, c ≠ 1 := fun c hc e => h1 (e ▸ hc)
    have hc : Lib.cut s.data.toList [1] = (s.data.toList, [], false) := by
      unfold Lib.cut
      rw [index_none s.data.toList 1 hn]
      rfl
    rw [hc] at he'
    exact ⟨_, _, _, he', by show s.data.toList.length ≤ _; omega, by show 0 ≤ _; omega, .inr ⟨rfl, hn⟩⟩
theorem placeP_cut {l : List UInt8} {F R : ByteArray} (h : l = F.data.toList ++ 1 :: R.data.toList) (hF : ∀ c ∈ F.data.toList, c ≠ 1) : placeP l = match getP R.data.toList with
    | none => none
    | some xs => if nameB F then some (F, xs) else none := by
  have ht : l.takeWhile (fun c => c != 1) = F.data.toList := by
    rw [h]
    exact takeWhile_stop _ _ _ (fun x hx => by have := hF x hx; simpa using this) (by rfl)
  have hd : l.drop (F.data.toList.length + 1) = R.data.toList := by
    rw [h, ← List.drop_drop, List.drop_left]; rfl
  unfold placeP
  rw [if_pos (by rw [h]; simp), ht, hd, mkB_self]
  cases getP R.data.toList <;> rfl
theorem placeP_not {l : List UInt8} (h : ∀ c ∈ l, c ≠ 1) : placeP l = none := by
  unfold placeP
  rw [if_neg fun h1 => h 1 h1 rfl]

set_option maxHeartbeats 8000000 in
set_option maxRecDepth 100000 in
theorem keyPlace_any (s : ByteArray) (hs : s.size ≤ 1000000) (w : World) (hE : EnvIn w) :
    Calls Tryz.prog 63 #[.string s] w fun e w' => ∃ nm v, e = .returned (.tuple #[.string nm, v, .bool (placeP s.data.toList).isSome]) ∧ (placeP s.data.toList = none → nm = ⟨#[]⟩ ∧ v = .slice none 0 0) ∧
      (∀ name xs, placeP s.data.toList = some (name, xs) → nm = name ∧ OwnStrs w' w.heap.size 9 v xs) ∧ Below w.heap.size w w' := by
  have HC := Lib.hid (cut1_any s (by omega) w hE.2)
  have HE := Lib.hid hE
  clear hE
  go_enter Tryz.func63, Tryz.ntmps63
  go_wp2_with fail
  refine HC.out.mono ?_; rintro e1 w1 ⟨⟨F, R, b, rfl, hF, hR, hcut⟩, hb1⟩
  have HB1 := Lib.hid hb1
  have hs1 := hb1.size
  have HG := Lib.hid (getSubs_any R (by omega) w1 (HE.out.below hb1))
  clear hb1 HC
  go_wp2_with fail
  refine HG.out.mono ?_; rintro e2 w2 ⟨v, rfl, hv0, hv1, hb2⟩
  have HV0 := Lib.hid hv0; have HV1 := Lib.hid hv1
  have HB2 := Lib.hid (HB1.out.trans (hb2.mono hs1))
  clear hv0 hv1 hb2 HG HB1
  rcases hcut with ⟨rfl, hl, hn⟩ | ⟨rfl, hn⟩
  · have hP := placeP_cut hl hn
    cases hg : getP R.data.toList with
    | none =>
      rw [hg] at hP
      have HP := Lib.hid (show placeP s.data.toList = none from hP)
      clear hP hl hn hg
      go_wp2_with fail
      go_ret3
      rw [HP.out]
      exact ⟨_, _, rfl, fun _ => ⟨rfl, rfl⟩, fun _ _ h => (by cases h), HB2.out⟩
    | some xs =>
      rw [hg] at hP
      have HN := Lib.hid (implNameOk_any F w2 (by omega))
      cases hnb : nameB F with
      | false =>
        have HP := Lib.hid (show placeP s.data.toList = none from by rw [hP]; exact if_neg (by rw [hnb]; exact Bool.false_ne_true))
        rw [hnb] at HN
        clear hP hl hn hg hnb
        go_wp2_with fail
        refine HN.out.mono ?_; rintro e3 w3 ⟨rfl, rfl⟩
        go_wp2_with fail
        go_ret3
        rw [HP.out]
        exact ⟨_, _, rfl, fun _ => ⟨rfl, rfl⟩, fun _ _ h => (by cases h), HB2.out⟩
      | true =>
        have HP := Lib.hid (show placeP s.data.toList = some (F, xs) from by rw [hP]; exact if_pos hnb)
        have HO := Lib.hid (HV1.out xs hg)
        rw [hnb] at HN
        clear hP hl hn hg hnb
        go_wp2_with fail
        refine HN.out.mono ?_; rintro e3 w3 ⟨rfl, rfl⟩
        go_wp2_with fail
        go_ret3
        rw [HP.out]
        refine ⟨_, _, rfl, fun h => (by cases h), fun name ys h => ?_, HB2.out⟩
        injection h with h
        obtain ⟨h2, h3⟩ := Prod.mk.inj h
        subst h2 h3
        exact ⟨rfl, HO.out.1, own_mono HO.out.2 hs1⟩
  · have HP := Lib.hid (placeP_not hn)
    clear hn
    go_wp2_with fail
    go_ret3
    rw [HP.out]
    exact ⟨_, _, rfl, fun _ => ⟨rfl, rfl⟩, fun _ _ h => (by cases h), HB2.out⟩
end Go.Proofs.YtfibjcaidnofmaaGreatDoor

/- The program's PackTree walked. -/
namespace Go.Proofs.YtfibjcaidnofmaaGreatDoor
open Go.RowKit

theorem countNode_any (A : Option Addr) (n c : Nat) (w : World) (_ : n ≤ 1048576) :
    Calls Tryz.prog 65 #[.slice A n c] w fun e w' => e = .returned (.int .i64 n) ∧ w = w' := by
  go_enter Tryz.func65, Tryz.ntmps65
  go_wp2_with fail
  go_ret
  exact ⟨rfl, rfl⟩
theorem packFrom_len (ns : List Nod) (h : ∀ k, k < ns.length → nodB (ns.getD k nodD) = true) : ∀ k, k ≤ ns.length → (packFrom [] (ns.take k)).length ≤ 304 * k
  | 0, _ => by rw [List.take_zero]; exact Nat.zero_le _
  | k + 1, hk => by
    rw [packFrom_next ns (by omega), List.length_append]
    have h1 := packFrom_len ns h k (by omega)
    have h2 := packOne_len (lastOf [] (ns.take k)) _ (h k (by omega))
    omega

set_option maxHeartbeats 16000000 in
set_option maxRecDepth 100000 in
theorem packTree_any (ns : List Nod) (v : Value) (lo hi : Nat) (w : World) (hx : TreR w lo hi v ns) (hhi : hi ≤ w.heap.size) (hs : NodsSmall ns) (hE : EnvIn w) :
    Calls Tryz.prog 22 #[v] w fun e w' => e = .returned (.string (mkB (packP ns))) ∧ Below w.heap.size w w' := by
  obtain ⟨A, c, rfl, hA⟩ := hx
  have hbo := (Below.refl w.heap.size w).alloc (Nat.le_refl _) (.cells #[.slice A ns.length c] 26)
  have HBK := Lib.hid (Blk.new w 26 #[.slice A ns.length c])
  have hsz0 : (w.alloc (.cells #[.slice A ns.length c] 26)).heap.size = w.heap.size + 1 := by simp
  have HA := Lib.hid (hA.below hbo hhi)
  have HD := Lib.hid hbo
  have HE := Lib.hid (hE.below hbo)
  have HC := Lib.hid (implTreeOk_any ns (.agg #[.slice A ns.length c]) lo hi _ ⟨A, c, rfl, hA.below hbo hhi⟩ (by omega) hs (hE.below hbo).1)
  have HS := Lib.hid hs.2
  clear hA hbo hs hE
  cases hB : treB ns
  · rw [hB] at HC
    have HR := Lib.hid (show packP ns = [] by unfold packP; rw [hB]; rfl)
    rw [HR.out]
    clear hB
    go_enter Tryz.func22, Tryz.ntmps22
    go_wp2_with fail
    refine HC.out.mono ?_; rintro e1 w1 ⟨rfl, hb1⟩
    go_wp2_with fail
    go_ret
    exact ⟨rfl, HD.out.trans (hb1.mono HD.out.size)⟩
  · rw [hB] at HC
    have HR := Lib.hid (show packP ns = UInt8.ofNat ns.length :: packFrom [] (ns.take ns.length) by unfold packP; rw [hB, List.take_length]; rfl)
    have h120 := treB_len hB
    have HNB := Lib.hid (fun k hk => treB_nod hB k hk)
    have HPL := Lib.hid (packFrom_len ns HNB.out)
    have HCT := Lib.hid (fun W => countNode_any A ns.length c W (by omega))
    have HLT := Lib.hid (fun W => little_any ns.length 1 (by omega) (by omega) W)
    rw [littleP_one] at HLT
    clear hB
    go_enter Tryz.func22, Tryz.ntmps22
    go_wp2_with fail
    refine HC.out.mono ?_; rintro e1 w1 ⟨rfl, hb1⟩
    have hsz1 := hb1.size
    have B1 := HBK.out.below hb1 (by omega)
    have HB1 := Lib.hid B1
    have HBL := Lib.hid (HD.out.trans (hb1.mono HD.out.size))
    have HA1 := Lib.hid (HA.out.below hb1 (by omega))
    have HE1 := Lib.hid (HE.out.below hb1)
    have hgt : w.heap.size < w1.heap.size := by omega
    clear hb1 B1 HC HBK HA HE
    generalize w.alloc (.cells #[.slice A ns.length c] 26) = w0 at *
    have HSZ0 := Lib.hid hsz0; clear hsz0
    have hba := (Below.refl w1.heap.size w1).alloc (Nat.le_refl _) (.cells #[.pointer none, .slice none 0 0] 82)
    have HIB := Lib.hid (bld_new w1)
    have c1 := (HB1.out.below hba hgt).cell
    have HBA := Lib.hid hba
    clear hba
    go_wp2_with fail
    refine (HCT.out _).mono ?_; rintro e2 w2 ⟨rfl, rfl⟩
    go_wp2_with fail
    refine (HLT.out _).mono ?_; rintro e3 w3 ⟨rfl, hb3⟩
    have HIB3 := Lib.hid (bld_below HIB.out hb3)
    have HB3 := Lib.hid (HBA.out.trans (hb3.mono HBA.out.size))
    clear hb3 HIB c1 HLT HCT
    have c3 := (HB1.out.below HB3.out hgt).cell
    go_wp2_with fail
    refine (bldString w1.heap.size [] (mkB [UInt8.ofNat ns.length]) w3 HIB3.out (by show 0 + 1 ≤ _; omega) HB3.out.size).mono ?_
    rintro e4 w4 ⟨rfl, hib4, hb4⟩
    rw [List.nil_append] at hib4
    have HIB4 := Lib.hid (show Bld w4 w1.heap.size [UInt8.ofNat ns.length] from hib4)
    have HB4 := Lib.hid (HB3.out.trans hb4)
    clear hib4 hb4 HIB3 c3
    have c4 := (HB1.out.below HB4.out hgt).cell
    generalize UInt8.ofNat ns.length = N0 at *
    go_wp2_with fail
    go_loopw [4, 20] (fun t i wr => ∃ k : Nat, k ≤ ns.length ∧ i = .int .i64 k ∧ t = .string (mkB (lastOf [] (ns.take k))) ∧ Bld wr w1.heap.size (N0 :: packFrom [] (ns.take k)) ∧ Below w1.heap.size w1 wr) (fun _ i _ => ns.length - (intOf i).toNat)
    case atStart => exact ⟨0, Nat.zero_le _, rfl, rfl, HIB4.out, HB4.out⟩
    case round =>
      clear c4
      obtain ⟨k, hk, rfl, rfl, hib, hbr⟩ := hrel
      have hszr := hbr.size
      have HBR := Lib.hid hbr
      have hAr := HA1.out.below hbr (by omega)
      by_cases hlt : k < ns.length
      · obtain ⟨b, off, rfl, hbl, hbh, L1, d1, e0, e1, e2, hL⟩ := hAr.at_ hlt
        have i1 : (k : Int) < (ns.length : Int) := by omega
        have i0 : (0 : Int) ≤ (k : Int) := by omega
        have HN := Lib.hid (packFrom_next ns hlt)
        have HLN := Lib.hid (lastOf_next ns hlt)
        have hpl := HPL.out k hk
        have hnb := HNB.out k hlt
        have hlast := lastOf_len (ns.take k) [] (Nat.zero_le _)
        have hsm := HS.out _ (getD_in (d := nodD) hlt)
        generalize ns.getD k nodD = X at *
        generalize lastOf [] (ns.take k) = LA at *
        have hkl : (nodKey X).length ≤ 237 := keyP_len _ _
        have hKS : (mkB (nodKey X)).size = (nodKey X).length := List.size_toArray
        have hshl := sharedP_le LA (nodKey X)
        have hvl : X.value.size ≤ 64 := by unfold nodB at hnb; simp only [Bool.and_eq_true, decide_eq_true_eq] at hnb; exact hnb.2
        have HL := Lib.hid hL
        clear hL hnb hbr
        have HKO := Lib.hid (fun W (hb : Below wr.heap.size wr W) => keyOf_any X.name L1 X.subs.length d1 lo hi X.subs W (HL.out.below hb (by omega)) (by have := hb.size; omega) (by have := hsm.2.2.1; omega) (by have := hsm.1; omega) (HE1.out.below (HBR.out.trans (hb.mono hszr))))
        rw [show keyP X.name X.subs = nodKey X from rfl] at HKO
        have HSH := Lib.hid (fun W => shared_any (mkB LA) (mkB (nodKey X)) (by show LA.toArray.size ≤ _; rw [List.size_toArray]; omega) W)
        rw [show (mkB LA).data.toList = LA from rfl, show (mkB (nodKey X)).data.toList = nodKey X from rfl] at HSH
        obtain ⟨sh, hsh⟩ : ∃ sh, sh = sharedP LA (nodKey X) := ⟨_, rfl⟩
        have HPO := Lib.hid (show packOne LA X = UInt8.ofNat sh :: (shortP ((nodKey X).drop sh) ++ shortP X.value.data.toList) by unfold packOne; rw [hsh])
        rw [← hsh] at HSH hshl
        have HLI := Lib.hid (fun W => little_any sh 1 (by omega) (by omega) W)
        rw [littleP_one] at HLI
        have HX1 := Lib.hid (show ((mkB (nodKey X)).extract sh (mkB (nodKey X)).size).data.toList = (nodKey X).drop sh by rw [extn_drop]; rfl)
        have hxs : ((mkB (nodKey X)).extract sh (mkB (nodKey X)).size).size ≤ 237 := by
          have h1 : ((mkB (nodKey X)).extract sh (mkB (nodKey X)).size).data.toList.length = ((mkB (nodKey X)).extract sh (mkB (nodKey X)).size).size := by simp
          rw [HX1.out, List.length_drop] at h1; omega
        have HS1 := Lib.hid (fun W => short_any ((mkB (nodKey X)).extract sh (mkB (nodKey X)).size) (by omega) W)
        rw [HX1.out] at HS1
        have HS2 := Lib.hid (fun W => short_any X.value (by omega) W)
        have hdl : (shortP ((nodKey X).drop sh)).length ≤ 238 := by unfold shortP; rw [List.length_cons, List.length_drop]; omega
        have hvl2 : (shortP X.value.data.toList).length ≤ 65 := by
          have h3 : X.value.data.toList.length = X.value.size := by simp
          unfold shortP; rw [List.length_cons]; omega
        have hshk : sh ≤ (mkB (nodKey X)).size := by rw [hKS]; exact hshl.2
        have hkb : (mkB (nodKey X)).size ≤ 237 := by rw [hKS]; exact hkl
        clear hsh hKS
        generalize nodKey X = KY at *
        generalize hKB : mkB KY = KB at *
        have HKB := Lib.hid hKB
        clear hKB
        generalize shortP (KY.drop sh) = T1 at *
        generalize shortP X.value.data.toList = T2 at *
        go_upto_region 9 with fail
        have BX := Blk.new wr 32 #[.string X.name, .slice L1 X.subs.length d1, .string X.value]
        have hba := (Below.refl wr.heap.size wr).alloc (Nat.le_refl _) (.cells #[.string X.name, .slice L1 X.subs.length d1, .string X.value] 32)
        have hza : (wr.alloc (.cells #[.string X.name, .slice L1 X.subs.length d1, .string X.value] 32)).heap.size = wr.heap.size + 1 := by simp
        have HG := Lib.hid BX
        have HBA := Lib.hid hba
        have HIA := Lib.hid (bld_below hib hba)
        have HKO2 := Lib.hid (HKO.out _ hba)
        clear HKO hba e0 e1 e2 hib
        generalize wr.alloc (.cells #[.string X.name, .slice L1 X.subs.length d1, .string X.value] 32) = wa at *
        generalize wr.heap.size = g6 at *
        have c0 := HG.out.cell
        go_wp2_with fail
        refine HKO2.out.mono ?_; rintro e5 w5 ⟨rfl, hb5⟩
        have HG5 := Lib.hid (HG.out.below hb5 (by omega))
        have HI5 := Lib.hid (bld_below HIA.out hb5)
        have HB5 := Lib.hid (HBR.out.trans (HBA.out.mono hszr |>.trans (hb5.mono (by omega))))
        have hs5 := hb5.size
        clear hb5 HG HIA HKO2 HBA HBR c0 BX
        go_wp2_with fail
        refine (HSH.out _).mono ?_; rintro e6 w6 ⟨rfl, hb6⟩
        have HG6 := Lib.hid (HG5.out.below hb6 (by omega))
        have HI6 := Lib.hid (bld_below HI5.out hb6)
        have HB6 := Lib.hid (HB5.out.trans (hb6.mono HB5.out.size))
        have hs6 := hb6.size
        clear hb6 HG5 HI5 HB5 HSH
        go_upto_region 11 with fail
        have hS : w6.drew.cell? ⟨g6, 2, none⟩ = some (.string X.value) := HG6.out.cell 2
        have HI7 := Lib.hid (show Bld w6.drew w1.heap.size (N0 :: packFrom [] (ns.take k)) from HI6.out)
        have HB7 := Lib.hid (show Below w1.heap.size w1 w6.drew from HB6.out.trans ((below_drewN' w6 1).mono HB6.out.size))
        have hs7 : g6 < w6.drew.heap.size := by show g6 < w6.heap.size; omega
        have hlen : (N0 :: packFrom [] (ns.take k)).length ≤ 100000 := by rw [List.length_cons]; omega
        have hT3 : ¬ 9223372036854775807 < (mkB [UInt8.ofNat sh]).size + (mkB T1).size := by
          show ¬ 9223372036854775807 < 1 + T1.toArray.size
          rw [List.size_toArray]; omega
        have hT4 : ¬ 9223372036854775807 < (mkB [UInt8.ofNat sh]).size + (mkB T1).size + (mkB T2).size := by
          show ¬ 9223372036854775807 < 1 + T1.toArray.size + T2.toArray.size
          rw [List.size_toArray, List.size_toArray]; omega
        have HTX := Lib.hid (show (mkB [UInt8.ofNat sh] ++ mkB T1 ++ mkB T2).data.toList = packOne LA X by
          rw [HPO.out, ByteArray.data_append, Array.toList_append, ByteArray.data_append, Array.toList_append]; rfl)
        have HTZ := Lib.hid (show (mkB [UInt8.ofNat sh] ++ mkB T1 ++ mkB T2).size ≤ 304 by
          rw [ByteArray.size_append, ByteArray.size_append]
          show 1 + T1.toArray.size + T2.toArray.size ≤ _
          rw [List.size_toArray, List.size_toArray]; omega)
        clear HI6 HB6 HG6
        refine AnyT.region (fun i => i == 9) (fun W => W.cell? ⟨g6, 2, none⟩ = some (.string X.value)) (by kernel_rfl) hS (fun hHeld => ?_)
        generalize w6.drew = w7 at *
        generalize mkB [UInt8.ofNat sh] = U0 at *
        generalize mkB T1 = U1 at *
        generalize mkB T2 = U2 at *
        clear hS
        ((refine AnyT.takeAny 0 32 ?_ rfl (by kernel_rfl) (by kernel_rfl) (by kernel_rfl) rfl rfl (fun _ _ _ _ h => h) rfl ?_ (by assumption) ?_); rotate_left; (intro w; go_simp; (try (with_reducible rfl))); simp only [Act.put, List.setIfInBounds_toArray, List.set_cons_zero, List.set_cons_succ])
        ((refine AnyT.takeAny 2 34 ?_ rfl (by kernel_rfl) (by kernel_rfl) (by kernel_rfl) rfl rfl (fun _ _ _ _ h => h) rfl ?_ (by assumption) ?_); rotate_left; (intro w; go_simp; (try (with_reducible rfl))); simp only [Act.put, List.setIfInBounds_toArray, List.set_cons_zero, List.set_cons_succ])
        ((refine AnyT.takeAny 3 35 ?_ rfl (by kernel_rfl) (by kernel_rfl) (by kernel_rfl) rfl rfl (fun _ _ _ _ h => h) rfl ?_ (by assumption) ?_); rotate_left; (intro w; go_simp; (try (with_reducible rfl))); simp only [Act.put, List.setIfInBounds_toArray, List.set_cons_zero, List.set_cons_succ])
        refine AnyT.takeAny 4 36 (.string (KB.extract sh KB.size)) rfl (by kernel_rfl) (by kernel_rfl) (by kernel_rfl) rfl rfl (fun _ _ _ _ h => h) rfl (fun W => by go_simp) (by assumption) ?_
        simp only [Act.put, List.setIfInBounds_toArray, List.set_cons_zero, List.set_cons_succ]
        ((refine AnyT.takeAny 7 39 ?_ rfl (by kernel_rfl) (by kernel_rfl) (by kernel_rfl) rfl rfl (fun _ _ _ _ h => h) rfl ?_ (by assumption) ?_); rotate_left; (intro w; go_simp; (try (with_reducible rfl))); simp only [Act.put, List.setIfInBounds_toArray, List.set_cons_zero, List.set_cons_succ])
        ((refine AnyT.take 8 40 ?_ rfl (by kernel_rfl) (by kernel_rfl) (by kernel_rfl) (by kernel_rfl) rfl (by kernel_rfl) rfl (fun _ _ _ _ h => h) rfl ?_ (by assumption) ?_); rotate_left; (intro w hSw; (try dsimp only at hSw); go_simp; (try (with_reducible rfl))); simp only [Act.put, List.setIfInBounds_toArray, List.set_cons_zero, List.set_cons_succ])
        ((refine AnyT.one (i := 1) (by kernel_rfl) rfl (fun K hK => ?_)))
        go_simp
        refine (HLI.out _).mono ?_
        rintro e8 w8 ⟨rfl, hb8⟩
        go_simp
        have HI8 := Lib.hid (bld_below HI7.out hb8)
        have HB8 := Lib.hid (HB7.out.trans (hb8.mono HB7.out.size))
        have hz8 := hb8.size
        refine hK.out _ _ ((hb8.cell (p := ⟨g6, 2, none⟩) hs7).trans hHeld) (fun hHeld => ?_)
        clear hK K hb8 HLI HI7 HB7
        (try simp only [Act.put, List.setIfInBounds_toArray, List.set_cons_zero, List.set_cons_succ])
        ((refine AnyT.one (i := 5) (by kernel_rfl) rfl (fun K hK => ?_)))
        go_simp
        refine (HS1.out _).mono ?_
        rintro e9 w9 ⟨rfl, hb9⟩
        go_simp
        have HI9 := Lib.hid (bld_below HI8.out hb9)
        have HB9 := Lib.hid (HB8.out.trans (hb9.mono HB8.out.size))
        have hz9 := hb9.size
        refine hK.out _ _ ((hb9.cell (p := ⟨g6, 2, none⟩) (show g6 < w8.heap.size by omega)).trans hHeld) (fun hHeld => ?_)
        clear hK K hb9 HS1 HI8 HB8
        (try simp only [Act.put, List.setIfInBounds_toArray, List.set_cons_zero, List.set_cons_succ])
        ((refine AnyT.takeAny 6 38 ?_ rfl (by kernel_rfl) (by kernel_rfl) (by kernel_rfl) rfl rfl (fun _ _ _ _ h => h) rfl ?_ (by assumption) ?_); rotate_left; (intro w; go_simp; (try (with_reducible rfl))); simp only [Act.put, List.setIfInBounds_toArray, List.set_cons_zero, List.set_cons_succ])
        ((refine AnyT.last (i := 9) (by kernel_rfl) rfl (by kernel_rfl) (fun K hK => ?_)))
        go_simp
        refine (HS2.out _).mono ?_
        rintro e10 w10 ⟨rfl, hb10⟩
        go_simp
        have HI10 := Lib.hid (bld_below HI9.out hb10)
        have HB10 := Lib.hid (HB9.out.trans (hb10.mono HB9.out.size))
        have hz10 := hb10.size
        refine hK.out _ _ ?_
        clear hK K hb10 HS2 HI9 HB9 hHeld
        (try simp only [Act.put, List.setIfInBounds_toArray, List.set_cons_zero, List.set_cons_succ])
        ((refine AnyT.last (i := 10) (by kernel_rfl) rfl (by kernel_rfl) (fun K hK => ?_)))
        go_simp
        refine hK.out _ _ ?_
        clear hK K
        (try simp only [Act.put, List.setIfInBounds_toArray, List.set_cons_zero, List.set_cons_succ])
        ((refine AnyT.last (i := 11) (by kernel_rfl) rfl (by kernel_rfl) (fun K hK => ?_)))
        go_simp
        refine (bldString w1.heap.size (N0 :: packFrom [] (ns.take k)) (U0 ++ U1 ++ U2) w10 HI10.out (by have := HTZ.out; omega) HB10.out.size).mono ?_
        rintro e11 w11 ⟨rfl, hib11, hb11⟩
        rw [HTX.out, List.cons_append, ← HN.out] at hib11
        have HI11 := Lib.hid hib11
        have HB11 := Lib.hid (HB10.out.trans hb11)
        go_simp
        refine hK.out _ _ ?_
        clear hK K hib11 hb11 HI10 HB10
        (try simp only [Act.put, List.setIfInBounds_toArray, List.set_cons_zero, List.set_cons_succ])
        refine AnyT.done (by kernel_rfl) ?_ _
        go_wp2_with fail
        go_roundw
        case rel => exact ⟨k + 1, by omega, by go_num, by rw [HLN.out, HKB.out], HI11.out, HB11.out⟩
        case measure => simp [intOf]; omega
      · have i1 : ¬ (k : Int) < (ns.length : Int) := by omega
        obtain rfl : k = ns.length := by omega
        have HST := Lib.hid (bldText w1.heap.size (N0 :: packFrom [] (ns.take ns.length)) wr hib hszr)
        go_wp2_with fail
        refine HST.out.mono ?_; rintro e6 w6 ⟨rfl, hb6⟩
        go_wp2_with fail
        go_ret
        exact ⟨by rw [HR.out, List.take_length]; rfl, HBL.out.trans ((HBR.out.trans hb6).mono HBL.out.size)⟩
end Go.Proofs.YtfibjcaidnofmaaGreatDoor
