/- Node, Tree, Bind, Cell, Level, Given, Locals, Ref, Loop, Frame: shapes and the laws' walks (markS, mark). Printed by gen_fam.py. -/
import Derived.Test.YtlodlplfmpikjaaGreatGro
import Derived.Test.YtlodlplfmpikjaaGreatFamSh
namespace Go.Proofs.YtlodlplfmpikjaaGreat
open Go.RowKit

theorem shNode_markO {w : World} (kn : Nat) (x0 : ByteArray) (x1 : List ByteArray) (x2 : ByteArray) (A1 : Option Addr) (c1 : Nat) {F1 : List Nat} (h1 : (Sh.row 9 shS).O w F1 [.slice A1 x1.length c1] ((Sh.row 9 shS).mark ((kn) + 1) x1)) : shNode.O w ([] ++ (F1 ++ [])) [.string (markT (kn)), .slice A1 x1.length c1, .string (markT (((kn) + 1) + (Sh.row 9 shS).cnt x1))] (shNode.mark kn (x0, x1, x2)) := by
  have e1 : ((Sh.row 9 shS).mark ((kn) + 1) x1).length = x1.length := mkAll_len _ _ _
  rw [← e1] at h1
  have key : shNode.O w ([] ++ (F1 ++ [])) [.string (markT (kn)), .slice A1 x1.length c1, .string (markT (((kn) + 1) + (Sh.row 9 shS).cnt x1))] (markT (kn), ((Sh.row 9 shS).mark ((kn) + 1) x1), markT (((kn) + 1) + (Sh.row 9 shS).cnt x1)) := shNode_O.2 ⟨A1, c1, F1, by simp only [e1], rfl, h1⟩
  exact key

set_option maxHeartbeats 4000000 in
set_option maxRecDepth 100000 in
theorem markNodeS_f (A : Option Addr) (c k : Nat) (a : Int) (xs : List TyNode) (F : List Nat) (w : World) (h : (Sh.row 150 shNode).O w F [.slice A xs.length c] xs) (hF : F.Nodup) (ha : a = (k : Int)) (h1 : 1 ≤ k) (h2 : k + (Sh.row 150 shNode).cnt xs ≤ 4294967000) :
    Calls Tryz.prog 102 #[.slice A xs.length c, .int .i64 a] w fun e w' => ∃ r : Int, e = .returned (.int .i64 r) ∧ r = ((k + (Sh.row 150 shNode).cnt xs : Nat) : Int) ∧ (Sh.row 150 shNode).O w' F [.slice A xs.length c] ((Sh.row 150 shNode).mark k xs) ∧ Out F w w' := by
  subst ha
  have H2 := Lib.hid (show k + cntAll shNode xs ≤ 4294967000 from h2)
  have hn := (O_len h).2
  unfold maxLen at hn
  have HO := Lib.hid h; have HF := Lib.hid hF
  have hk : k ≤ 4294967000 := by omega
  have HE := Lib.hid (markTo_all shNode k xs); have HZ := Lib.hid (markTo_zero shNode k xs)
  clear h hF h2
  go_enter Tryz.func102, Tryz.ntmps102
  go_wp2_with fail
  go_loopw [1, 5] (fun s i wr => ∃ (j kn : Nat), j ≤ xs.length ∧ i = .int .i64 j ∧ s = .int .i64 (kn : Int) ∧ 1 ≤ kn ∧ kn ≤ 4294967000 ∧ Hid (kn = k + cntTo shNode j xs) ∧ (Sh.row 150 shNode).O wr F [.slice A xs.length c] (markTo shNode k j xs) ∧ Out F w wr) (fun _ i _ => xs.length - (intOf i).toNat)
  case atStart => exact ⟨0, k, Nat.zero_le _, rfl, rfl, h1, hk, by rw [cntTo_zero]; exact rfl, by rw [HZ.out]; exact HO.out, Out.refl _ _⟩
  case round =>
    obtain ⟨j, kn, hj, rfl, rfl, hk1, hk2, HKN, ho, hout⟩ := hrel
    by_cases hlt : j < xs.length
    · have HNX := Lib.hid (cntTo_succ shNode hlt)
      have hroom := cnt_room (s := shNode) hlt H2.out
      obtain ⟨g, cur, FF, uu, rfl, hg, hN, ho, hm, hcl⟩ := mark_at ho rfl HF.out hlt
      simp only [shNode_k] at hm hcl
      rw [← HKN.out] at hroom hcl
      generalize xs.getD j shNode.d = X at *
      obtain ⟨x0, x1, x2⟩ := X
      rw [shNode_cnt] at hroom
      obtain ⟨A1, c1, F1, rfl, eFF, ho1⟩ := shNode_O.1 ho
      subst FF
      have HCL := Lib.hid hcl; have HM0 := Lib.hid hm; have HOUT := Lib.hid hout

      have hg1 : g ∉ F1 := fun hh => hg (by simp [hh])
      have HG1 := Lib.hid hg1
      have HN1 : Hid F1.Nodup := Lib.hid (by have := hN; (try simp only [List.nil_append, List.append_nil, List.nodup_append] at this); grind)
      have HO1 := Lib.hid ho1
      clear hcl hm hout ho hN hg ho1 hg1
      have f0 : _ = some (Value.string x0) := HM0.out.cell0 (by decide)
      have f1 : _ = some (Value.slice A1 x1.length c1) := HM0.out.cell (i := 1) (by decide)
      have f2 : _ = some (Value.string x2) := HM0.out.cell (i := 2) (by decide)
      have z := HM0.out.frozen
      go_wp2_with fail
      refine (markText_f _ (kn) _ (by omega) (by omega) (by omega)).mono ?_
      rintro e1 w1 ⟨rfl, hb1⟩
      have HM1 := Lib.hid (HM0.out.below hb1)
      have HO1 := Lib.hid (O_below HO1.out hb1)
      clear hb1 HM0 z f0 f1 f2
      have f0 : _ = some (Value.string x0) := HM1.out.cell0 (by decide)
      have f1 : _ = some (Value.slice A1 x1.length c1) := HM1.out.cell (i := 1) (by decide)
      have f2 : _ = some (Value.string x2) := HM1.out.cell (i := 2) (by decide)
      have z := HM1.out.frozen
      go_wp2_with fail
      refine (markStringS_f A1 c1 (kn + 1) _ x1 F1 _ (O_set HO1.out HG1.out _) HN1.out (by omega) (by omega) (by omega)).mono ?_
      rintro e2 w2 ⟨r1, rfl, hr1, hq1, hb2⟩
      obtain ⟨kn1, rfl, HK1⟩ : ∃ kq : Nat, r1 = (kq : Int) ∧ Hid (kq = kn + 1 + (Sh.row 9 shS).cnt x1) := ⟨_, hr1, rfl⟩
      have HM2 := Lib.hid ((HM1.out.set0 (List.mem_cons_self ..) (by decide) _).call hb2 (fun b hb => List.mem_cons_of_mem _ (by simp [hb])) HG1.out)
      have HO1 := Lib.hid hq1
      have hroom : kn1 + (0 + 1) ≤ 4294967000 := by have := HK1.out; omega
      have hk1 : 1 ≤ kn1 := by have := HK1.out; omega
      clear hr1 hb2 hq1 HM1 z f0 f1 f2
      have f0 : _ = some (Value.string (markT (kn))) := HM2.out.cell0 (by decide)
      have f1 : _ = some (Value.slice A1 x1.length c1) := HM2.out.cell (i := 1) (by decide)
      have f2 : _ = some (Value.string x2) := HM2.out.cell (i := 2) (by decide)
      have z := HM2.out.frozen
      go_wp2_with fail
      refine (markText_f _ (kn1) _ (by omega) (by omega) (by omega)).mono ?_
      rintro e3 w3 ⟨rfl, hb3⟩
      have HM3 := Lib.hid (HM2.out.below hb3)
      have HO1 := Lib.hid (O_below HO1.out hb3)
      clear hb3 HM2 z f0 f1 f2
      have f0 : _ = some (Value.string (markT (kn))) := HM3.out.cell0 (by decide)
      have f1 : _ = some (Value.slice A1 x1.length c1) := HM3.out.cell (i := 1) (by decide)
      have f2 : _ = some (Value.string x2) := HM3.out.cell (i := 2) (by decide)
      have z := HM3.out.frozen
      have HFIN := Lib.hid (show kn1 + 1 = k + cntTo shNode (j + 1) xs by have h1 := HNX.out; have h2 := HKN.out; rw [shNode_cnt] at h1; skip; have h101 := HK1.out; omega)
      go_wp2_with fail
      go_roundw
      case rel =>
        have e201 := HK1.out; subst e201
        have hL := HCL.out _ _ (HM3.out.set_ (List.mem_cons_self ..) (i := 2) (by decide) _) (by
          exact shNode_markO kn x0 x1 x2 A1 c1 (O_set HO1.out HG1.out _))
        exact ⟨j + 1, _, by omega, by go_num, by go_num, by omega, by omega, HFIN.out, hL.1, HOUT.out.trans hL.2 fun _ h => h⟩
      case measure => simp [intOf]; omega
    · obtain rfl : j = xs.length := by omega
      rw [HE.out] at ho
      have HOF := Lib.hid ho; have HOUT := Lib.hid hout; have hkn := HKN.out; rw [cntTo_all] at hkn; have HKF := Lib.hid hkn
      clear ho hout hkn
      go_wp2_with fail
      go_ret
      exact ⟨_, rfl, by rw [HKF.out]; rfl, HOF.out, HOUT.out⟩

theorem shTree_markO {w : World} (kn : Nat) (x0 : List TyNode) (A0 : Option Addr) (c0 : Nat) {F0 : List Nat} (h0 : (Sh.row 150 shNode).O w F0 [.slice A0 x0.length c0] ((Sh.row 150 shNode).mark (kn) x0)) : shTree.O w F0 [.slice A0 x0.length c0] (shTree.mark kn x0) := by
  have e0 : ((Sh.row 150 shNode).mark (kn) x0).length = x0.length := mkAll_len _ _ _
  rw [← e0] at h0
  have key : shTree.O w F0 [.slice A0 x0.length c0] ((Sh.row 150 shNode).mark (kn) x0) := shTree_O.2 ⟨A0, c0, F0, by simp only [e0], rfl, h0⟩
  exact key

theorem shBind_markO {w : World} (kn : Nat) (x0 : ByteArray) (x1 : Int)   : shBind.O w ([] ++ []) [.string (markT (kn)), .int .i64 (((kn) + 1 : Nat) : Int)] (shBind.mark kn (x0, x1)) := by
  have key : shBind.O w ([] ++ []) [.string (markT (kn)), .int .i64 (((kn) + 1 : Nat) : Int)] (markT (kn), (((kn) + 1 : Nat) : Int)) := shBind_O.2 ⟨rfl, rfl⟩
  exact key

set_option maxHeartbeats 4000000 in
set_option maxRecDepth 100000 in
theorem markBindS_f (A : Option Addr) (c k : Nat) (a : Int) (xs : List TyBind) (F : List Nat) (w : World) (h : (Sh.row 151 shBind).O w F [.slice A xs.length c] xs) (hF : F.Nodup) (ha : a = (k : Int)) (h1 : 1 ≤ k) (h2 : k + (Sh.row 151 shBind).cnt xs ≤ 4294967000) :
    Calls Tryz.prog 82 #[.slice A xs.length c, .int .i64 a] w fun e w' => ∃ r : Int, e = .returned (.int .i64 r) ∧ r = ((k + (Sh.row 151 shBind).cnt xs : Nat) : Int) ∧ (Sh.row 151 shBind).O w' F [.slice A xs.length c] ((Sh.row 151 shBind).mark k xs) ∧ Out F w w' := by
  subst ha
  have H2 := Lib.hid (show k + cntAll shBind xs ≤ 4294967000 from h2)
  have hn := (O_len h).2
  unfold maxLen at hn
  have HO := Lib.hid h; have HF := Lib.hid hF
  have hk : k ≤ 4294967000 := by omega
  have HE := Lib.hid (markTo_all shBind k xs); have HZ := Lib.hid (markTo_zero shBind k xs)
  clear h hF h2
  go_enter Tryz.func82, Tryz.ntmps82
  go_wp2_with fail
  go_loopw [1, 5] (fun s i wr => ∃ (j kn : Nat), j ≤ xs.length ∧ i = .int .i64 j ∧ s = .int .i64 (kn : Int) ∧ 1 ≤ kn ∧ kn ≤ 4294967000 ∧ Hid (kn = k + cntTo shBind j xs) ∧ (Sh.row 151 shBind).O wr F [.slice A xs.length c] (markTo shBind k j xs) ∧ Out F w wr) (fun _ i _ => xs.length - (intOf i).toNat)
  case atStart => exact ⟨0, k, Nat.zero_le _, rfl, rfl, h1, hk, by rw [cntTo_zero]; exact rfl, by rw [HZ.out]; exact HO.out, Out.refl _ _⟩
  case round =>
    obtain ⟨j, kn, hj, rfl, rfl, hk1, hk2, HKN, ho, hout⟩ := hrel
    by_cases hlt : j < xs.length
    · have HNX := Lib.hid (cntTo_succ shBind hlt)
      have hroom := cnt_room (s := shBind) hlt H2.out
      obtain ⟨g, cur, FF, uu, rfl, hg, hN, ho, hm, hcl⟩ := mark_at ho rfl HF.out hlt
      simp only [shBind_k] at hm hcl
      rw [← HKN.out] at hroom hcl
      generalize xs.getD j shBind.d = X at *
      obtain ⟨x0, x1⟩ := X
      rw [shBind_cnt] at hroom
      obtain ⟨rfl, eFF⟩ := shBind_O.1 ho
      subst FF
      have HCL := Lib.hid hcl; have HM0 := Lib.hid hm; have HOUT := Lib.hid hout

      clear hcl hm hout ho hN hg
      have f0 : _ = some (Value.string x0) := HM0.out.cell0 (by decide)
      have f1 : _ = some (Value.int .i64 x1) := HM0.out.cell (i := 1) (by decide)
      have z := HM0.out.frozen
      go_wp2_with fail
      refine (markText_f _ (kn) _ (by omega) (by omega) (by omega)).mono ?_
      rintro e1 w1 ⟨rfl, hb1⟩
      have HM1 := Lib.hid (HM0.out.below hb1)
      clear hb1 HM0 z f0 f1
      have f0 : _ = some (Value.string x0) := HM1.out.cell0 (by decide)
      have f1 : _ = some (Value.int .i64 x1) := HM1.out.cell (i := 1) (by decide)
      have z := HM1.out.frozen
      have HFIN := Lib.hid (show kn + 1 + 1 = k + cntTo shBind (j + 1) xs by have h1 := HNX.out; have h2 := HKN.out; rw [shBind_cnt] at h1; skip; omega)
      go_wp2_with fail
      go_roundw
      case rel =>
        have hL := HCL.out _ _ ((HM1.out.set0 (List.mem_cons_self ..) (by decide) _).set_ (List.mem_cons_self ..) (i := 1) (by decide) _) (by
          exact shBind_markO kn x0 x1)
        exact ⟨j + 1, kn + 1 + 1, by omega, by go_num, by go_num, by omega, by omega, HFIN.out, hL.1, HOUT.out.trans hL.2 fun _ h => h⟩
      case measure => simp [intOf]; omega
    · obtain rfl : j = xs.length := by omega
      rw [HE.out] at ho
      have HOF := Lib.hid ho; have HOUT := Lib.hid hout; have hkn := HKN.out; rw [cntTo_all] at hkn; have HKF := Lib.hid hkn
      clear ho hout hkn
      go_wp2_with fail
      go_ret
      exact ⟨_, rfl, by rw [HKF.out]; rfl, HOF.out, HOUT.out⟩

theorem shCell_markO {w : World} (kn : Nat) (x0 : Int) (x1 : List TyNode) (A1 : Option Addr) (c1 : Nat) {F1 : List Nat} (h1 : (Sh.row 150 shNode).O w F1 [.slice A1 x1.length c1] ((Sh.row 150 shNode).mark ((kn) + 1) x1)) : shCell.O w ([] ++ F1) [.int .i64 ((kn : Nat) : Int), .slice A1 x1.length c1] (shCell.mark kn (x0, x1)) := by
  have e1 : ((Sh.row 150 shNode).mark ((kn) + 1) x1).length = x1.length := mkAll_len _ _ _
  rw [← e1] at h1
  have key : shCell.O w ([] ++ F1) [.int .i64 ((kn : Nat) : Int), .slice A1 x1.length c1] (((kn : Nat) : Int), ((Sh.row 150 shNode).mark ((kn) + 1) x1)) := shCell_O.2 ⟨A1, c1, F1, by simp only [e1], rfl, h1⟩
  exact key

set_option maxHeartbeats 4000000 in
set_option maxRecDepth 100000 in
theorem markCellS_f (A : Option Addr) (c k : Nat) (a : Int) (xs : List TyCell) (F : List Nat) (w : World) (h : (Sh.row 105 shCell).O w F [.slice A xs.length c] xs) (hF : F.Nodup) (ha : a = (k : Int)) (h1 : 1 ≤ k) (h2 : k + (Sh.row 105 shCell).cnt xs ≤ 4294967000) :
    Calls Tryz.prog 83 #[.slice A xs.length c, .int .i64 a] w fun e w' => ∃ r : Int, e = .returned (.int .i64 r) ∧ r = ((k + (Sh.row 105 shCell).cnt xs : Nat) : Int) ∧ (Sh.row 105 shCell).O w' F [.slice A xs.length c] ((Sh.row 105 shCell).mark k xs) ∧ Out F w w' := by
  subst ha
  have H2 := Lib.hid (show k + cntAll shCell xs ≤ 4294967000 from h2)
  have hn := (O_len h).2
  unfold maxLen at hn
  have HO := Lib.hid h; have HF := Lib.hid hF
  have hk : k ≤ 4294967000 := by omega
  have HE := Lib.hid (markTo_all shCell k xs); have HZ := Lib.hid (markTo_zero shCell k xs)
  clear h hF h2
  go_enter Tryz.func83, Tryz.ntmps83
  go_wp2_with fail
  go_loopw [1, 5] (fun s i wr => ∃ (j kn : Nat), j ≤ xs.length ∧ i = .int .i64 j ∧ s = .int .i64 (kn : Int) ∧ 1 ≤ kn ∧ kn ≤ 4294967000 ∧ Hid (kn = k + cntTo shCell j xs) ∧ (Sh.row 105 shCell).O wr F [.slice A xs.length c] (markTo shCell k j xs) ∧ Out F w wr) (fun _ i _ => xs.length - (intOf i).toNat)
  case atStart => exact ⟨0, k, Nat.zero_le _, rfl, rfl, h1, hk, by rw [cntTo_zero]; exact rfl, by rw [HZ.out]; exact HO.out, Out.refl _ _⟩
  case round =>
    obtain ⟨j, kn, hj, rfl, rfl, hk1, hk2, HKN, ho, hout⟩ := hrel
    by_cases hlt : j < xs.length
    · have HNX := Lib.hid (cntTo_succ shCell hlt)
      have hroom := cnt_room (s := shCell) hlt H2.out
      obtain ⟨g, cur, FF, uu, rfl, hg, hN, ho, hm, hcl⟩ := mark_at ho rfl HF.out hlt
      simp only [shCell_k] at hm hcl
      rw [← HKN.out] at hroom hcl
      generalize xs.getD j shCell.d = X at *
      obtain ⟨x0, x1⟩ := X
      rw [shCell_cnt] at hroom
      obtain ⟨A1, c1, F1, rfl, eFF, ho1⟩ := shCell_O.1 ho
      subst FF
      have HCL := Lib.hid hcl; have HM0 := Lib.hid hm; have HOUT := Lib.hid hout

      have hg1 : g ∉ F1 := fun hh => hg (by simp [hh])
      have HG1 := Lib.hid hg1
      have HN1 : Hid F1.Nodup := Lib.hid (by have := hN; (try simp only [List.nil_append, List.append_nil, List.nodup_append] at this); grind)
      have HO1 := Lib.hid ho1
      clear hcl hm hout ho hN hg ho1 hg1
      have f0 : _ = some (Value.int .i64 x0) := HM0.out.cell0 (by decide)
      have f1 : _ = some (Value.slice A1 x1.length c1) := HM0.out.cell (i := 1) (by decide)
      have z := HM0.out.frozen
      go_wp2_with fail
      refine (markNodeS_f A1 c1 (kn + 1) _ x1 F1 _ (O_set HO1.out HG1.out _) HN1.out (by omega) (by omega) (by omega)).mono ?_
      rintro e1 w1 ⟨r1, rfl, hr1, hq1, hb1⟩
      obtain ⟨kn1, rfl, HK1⟩ : ∃ kq : Nat, r1 = (kq : Int) ∧ Hid (kq = kn + 1 + (Sh.row 150 shNode).cnt x1) := ⟨_, hr1, rfl⟩
      have HM1 := Lib.hid ((HM0.out.set0 (List.mem_cons_self ..) (by decide) _).call hb1 (fun b hb => List.mem_cons_of_mem _ (by simp [hb])) HG1.out)
      have HO1 := Lib.hid hq1
      have hroom : kn1 + (0) ≤ 4294967000 := by have := HK1.out; omega
      have hk1 : 1 ≤ kn1 := by have := HK1.out; omega
      clear hr1 hb1 hq1 HM0 z f0 f1
      have f0 : _ = some (Value.int .i64 ((kn : Nat) : Int)) := HM1.out.cell0 (by decide)
      have f1 : _ = some (Value.slice A1 x1.length c1) := HM1.out.cell (i := 1) (by decide)
      have z := HM1.out.frozen
      have HFIN := Lib.hid (show kn1 = k + cntTo shCell (j + 1) xs by have h1 := HNX.out; have h2 := HKN.out; rw [shCell_cnt] at h1; skip; have h101 := HK1.out; omega)
      go_wp2_with fail
      go_roundw
      case rel =>
        have e201 := HK1.out; subst e201
        have hL := HCL.out _ _ HM1.out (by
          exact shCell_markO kn x0 x1 A1 c1 HO1.out)
        exact ⟨j + 1, _, by omega, by go_num, by go_num, by omega, by omega, HFIN.out, hL.1, HOUT.out.trans hL.2 fun _ h => h⟩
      case measure => simp [intOf]; omega
    · obtain rfl : j = xs.length := by omega
      rw [HE.out] at ho
      have HOF := Lib.hid ho; have HOUT := Lib.hid hout; have hkn := HKN.out; rw [cntTo_all] at hkn; have HKF := Lib.hid hkn
      clear ho hout hkn
      go_wp2_with fail
      go_ret
      exact ⟨_, rfl, by rw [HKF.out]; rfl, HOF.out, HOUT.out⟩

theorem shLevel_markO {w : World} (kn : Nat) (x0 : List TyBind) (A0 : Option Addr) (c0 : Nat) {F0 : List Nat} (h0 : (Sh.row 151 shBind).O w F0 [.slice A0 x0.length c0] ((Sh.row 151 shBind).mark (kn) x0)) : shLevel.O w F0 [.slice A0 x0.length c0] (shLevel.mark kn x0) := by
  have e0 : ((Sh.row 151 shBind).mark (kn) x0).length = x0.length := mkAll_len _ _ _
  rw [← e0] at h0
  have key : shLevel.O w F0 [.slice A0 x0.length c0] ((Sh.row 151 shBind).mark (kn) x0) := shLevel_O.2 ⟨A0, c0, F0, by simp only [e0], rfl, h0⟩
  exact key

set_option maxHeartbeats 4000000 in
set_option maxRecDepth 100000 in
theorem markLevelS_f (A : Option Addr) (c k : Nat) (a : Int) (xs : List TyLevel) (F : List Nat) (w : World) (h : (Sh.row 108 shLevel).O w F [.slice A xs.length c] xs) (hF : F.Nodup) (ha : a = (k : Int)) (h1 : 1 ≤ k) (h2 : k + (Sh.row 108 shLevel).cnt xs ≤ 4294967000) :
    Calls Tryz.prog 84 #[.slice A xs.length c, .int .i64 a] w fun e w' => ∃ r : Int, e = .returned (.int .i64 r) ∧ r = ((k + (Sh.row 108 shLevel).cnt xs : Nat) : Int) ∧ (Sh.row 108 shLevel).O w' F [.slice A xs.length c] ((Sh.row 108 shLevel).mark k xs) ∧ Out F w w' := by
  subst ha
  have H2 := Lib.hid (show k + cntAll shLevel xs ≤ 4294967000 from h2)
  have hn := (O_len h).2
  unfold maxLen at hn
  have HO := Lib.hid h; have HF := Lib.hid hF
  have hk : k ≤ 4294967000 := by omega
  have HE := Lib.hid (markTo_all shLevel k xs); have HZ := Lib.hid (markTo_zero shLevel k xs)
  clear h hF h2
  go_enter Tryz.func84, Tryz.ntmps84
  go_wp2_with fail
  go_loopw [1, 5] (fun s i wr => ∃ (j kn : Nat), j ≤ xs.length ∧ i = .int .i64 j ∧ s = .int .i64 (kn : Int) ∧ 1 ≤ kn ∧ kn ≤ 4294967000 ∧ Hid (kn = k + cntTo shLevel j xs) ∧ (Sh.row 108 shLevel).O wr F [.slice A xs.length c] (markTo shLevel k j xs) ∧ Out F w wr) (fun _ i _ => xs.length - (intOf i).toNat)
  case atStart => exact ⟨0, k, Nat.zero_le _, rfl, rfl, h1, hk, by rw [cntTo_zero]; exact rfl, by rw [HZ.out]; exact HO.out, Out.refl _ _⟩
  case round =>
    obtain ⟨j, kn, hj, rfl, rfl, hk1, hk2, HKN, ho, hout⟩ := hrel
    by_cases hlt : j < xs.length
    · have HNX := Lib.hid (cntTo_succ shLevel hlt)
      have hroom := cnt_room (s := shLevel) hlt H2.out
      obtain ⟨g, cur, FF, uu, rfl, hg, hN, ho, hm, hcl⟩ := mark_at ho rfl HF.out hlt
      simp only [shLevel_k, Nat.mul_one] at hm hcl
      rw [← HKN.out] at hroom hcl
      generalize xs.getD j shLevel.d = x0 at *
      rw [shLevel_cnt] at hroom
      obtain ⟨A0, c0, F0, rfl, eFF, ho0⟩ := shLevel_O.1 ho
      subst FF
      have HCL := Lib.hid hcl; have HM0 := Lib.hid hm; have HOUT := Lib.hid hout

      have hg0 : g ∉ F0 := fun hh => hg (by simp [hh])
      have HG0 := Lib.hid hg0
      have HN0 : Hid F0.Nodup := Lib.hid (by have := hN; (try simp only [List.nil_append, List.append_nil, List.nodup_append] at this); grind)
      have HO0 := Lib.hid ho0
      clear hcl hm hout ho hN hg ho0 hg0
      have f0 : _ = some (Value.slice A0 x0.length c0) := HM0.out.cell0 (by decide)
      have z := HM0.out.frozen
      go_wp2_with fail
      refine (markBindS_f A0 c0 (kn) _ x0 F0 _ HO0.out HN0.out (by omega) (by omega) (by omega)).mono ?_
      rintro e1 w1 ⟨r0, rfl, hr0, hq0, hb1⟩
      obtain ⟨kn0, rfl, HK0⟩ : ∃ kq : Nat, r0 = (kq : Int) ∧ Hid (kq = kn + (Sh.row 151 shBind).cnt x0) := ⟨_, hr0, rfl⟩
      have HM1 := Lib.hid (HM0.out.call hb1 (fun b hb => List.mem_cons_of_mem _ (by simp [hb])) HG0.out)
      have HO0 := Lib.hid hq0
      have hroom : kn0 + (0) ≤ 4294967000 := by have := HK0.out; omega
      have hk0 : 1 ≤ kn0 := by have := HK0.out; omega
      clear hr0 hb1 hq0 HM0 z f0
      have f0 : _ = some (Value.slice A0 x0.length c0) := HM1.out.cell0 (by decide)
      have z := HM1.out.frozen
      have HFIN := Lib.hid (show kn0 = k + cntTo shLevel (j + 1) xs by have h1 := HNX.out; have h2 := HKN.out; rw [shLevel_cnt] at h1; skip; have h100 := HK0.out; omega)
      go_wp2_with fail
      go_roundw
      case rel =>
        have e200 := HK0.out; subst e200
        have hL := HCL.out _ _ HM1.out (by
          exact shLevel_markO kn x0 A0 c0 HO0.out)
        exact ⟨j + 1, _, by omega, by go_num, by go_num, by omega, by omega, HFIN.out, hL.1, HOUT.out.trans hL.2 fun _ h => h⟩
      case measure => simp [intOf]; omega
    · obtain rfl : j = xs.length := by omega
      rw [HE.out] at ho
      have HOF := Lib.hid ho; have HOUT := Lib.hid hout; have hkn := HKN.out; rw [cntTo_all] at hkn; have HKF := Lib.hid hkn
      clear ho hout hkn
      go_wp2_with fail
      go_ret
      exact ⟨_, rfl, by rw [HKF.out]; rfl, HOF.out, HOUT.out⟩

theorem shGiven_markO {w : World} (kn : Nat) (x0 : Bool) (x1 : ByteArray)   : shGiven.O w ([] ++ []) [.bool (((kn : Nat) : Int) % 3 == 0), .string (markT ((kn) + 1))] (shGiven.mark kn (x0, x1)) := by
  have key : shGiven.O w ([] ++ []) [.bool (((kn : Nat) : Int) % 3 == 0), .string (markT ((kn) + 1))] ((((kn : Nat) : Int) % 3 == 0), markT ((kn) + 1)) := shGiven_O.2 ⟨rfl, rfl⟩
  exact key

set_option maxHeartbeats 4000000 in
set_option maxRecDepth 100000 in
theorem markGivenS_f (A : Option Addr) (c k : Nat) (a : Int) (xs : List TyGiven) (F : List Nat) (w : World) (h : (Sh.row 109 shGiven).O w F [.slice A xs.length c] xs) (hF : F.Nodup) (ha : a = (k : Int)) (h1 : 1 ≤ k) (h2 : k + (Sh.row 109 shGiven).cnt xs ≤ 4294967000) :
    Calls Tryz.prog 41 #[.slice A xs.length c, .int .i64 a] w fun e w' => ∃ r : Int, e = .returned (.int .i64 r) ∧ r = ((k + (Sh.row 109 shGiven).cnt xs : Nat) : Int) ∧ (Sh.row 109 shGiven).O w' F [.slice A xs.length c] ((Sh.row 109 shGiven).mark k xs) ∧ Out F w w' := by
  subst ha
  have H2 := Lib.hid (show k + cntAll shGiven xs ≤ 4294967000 from h2)
  have hn := (O_len h).2
  unfold maxLen at hn
  have HO := Lib.hid h; have HF := Lib.hid hF
  have hk : k ≤ 4294967000 := by omega
  have HE := Lib.hid (markTo_all shGiven k xs); have HZ := Lib.hid (markTo_zero shGiven k xs)
  clear h hF h2
  go_enter Tryz.func41, Tryz.ntmps41
  go_wp2_with fail
  go_loopw [1, 5] (fun s i wr => ∃ (j kn : Nat), j ≤ xs.length ∧ i = .int .i64 j ∧ s = .int .i64 (kn : Int) ∧ 1 ≤ kn ∧ kn ≤ 4294967000 ∧ Hid (kn = k + cntTo shGiven j xs) ∧ (Sh.row 109 shGiven).O wr F [.slice A xs.length c] (markTo shGiven k j xs) ∧ Out F w wr) (fun _ i _ => xs.length - (intOf i).toNat)
  case atStart => exact ⟨0, k, Nat.zero_le _, rfl, rfl, h1, hk, by rw [cntTo_zero]; exact rfl, by rw [HZ.out]; exact HO.out, Out.refl _ _⟩
  case round =>
    obtain ⟨j, kn, hj, rfl, rfl, hk1, hk2, HKN, ho, hout⟩ := hrel
    by_cases hlt : j < xs.length
    · have HNX := Lib.hid (cntTo_succ shGiven hlt)
      have hroom := cnt_room (s := shGiven) hlt H2.out
      obtain ⟨g, cur, FF, uu, rfl, hg, hN, ho, hm, hcl⟩ := mark_at ho rfl HF.out hlt
      simp only [shGiven_k] at hm hcl
      rw [← HKN.out] at hroom hcl
      generalize xs.getD j shGiven.d = X at *
      obtain ⟨x0, x1⟩ := X
      rw [shGiven_cnt] at hroom
      obtain ⟨rfl, eFF⟩ := shGiven_O.1 ho
      subst FF
      have HCL := Lib.hid hcl; have HM0 := Lib.hid hm; have HOUT := Lib.hid hout

      clear hcl hm hout ho hN hg
      have f0 : _ = some (Value.bool x0) := HM0.out.cell0 (by decide)
      have f1 : _ = some (Value.string x1) := HM0.out.cell (i := 1) (by decide)
      have z := HM0.out.frozen
      go_wp2_with fail
      refine (markText_f _ (kn + 1) _ (by omega) (by omega) (by omega)).mono ?_
      rintro e1 w1 ⟨rfl, hb1⟩
      have HM1 := Lib.hid ((HM0.out.set0 (List.mem_cons_self ..) (by decide) _).below hb1)
      clear hb1 HM0 z f0 f1
      have f0 : _ = some (Value.bool (((kn : Nat) : Int) % 3 == 0)) := HM1.out.cell0 (by decide)
      have f1 : _ = some (Value.string x1) := HM1.out.cell (i := 1) (by decide)
      have z := HM1.out.frozen
      have HFIN := Lib.hid (show kn + 1 + 1 = k + cntTo shGiven (j + 1) xs by have h1 := HNX.out; have h2 := HKN.out; rw [shGiven_cnt] at h1; skip; omega)
      go_wp2_with fail
      go_roundw
      case rel =>
        have hL := HCL.out _ _ (HM1.out.set_ (List.mem_cons_self ..) (i := 1) (by decide) _) (by
          exact shGiven_markO kn x0 x1)
        exact ⟨j + 1, kn + 1 + 1, by omega, by go_num, by go_num, by omega, by omega, HFIN.out, hL.1, HOUT.out.trans hL.2 fun _ h => h⟩
      case measure => simp [intOf]; omega
    · obtain rfl : j = xs.length := by omega
      rw [HE.out] at ho
      have HOF := Lib.hid ho; have HOUT := Lib.hid hout; have hkn := HKN.out; rw [cntTo_all] at hkn; have HKF := Lib.hid hkn
      clear ho hout hkn
      go_wp2_with fail
      go_ret
      exact ⟨_, rfl, by rw [HKF.out]; rfl, HOF.out, HOUT.out⟩

theorem shLocals_markO {w : World} (kn : Nat) (x0 : Int) (x1 : List TyBind) (x2 : List TyCell) (x3 : List TyLevel) (A1 : Option Addr) (c1 : Nat) (A2 : Option Addr) (c2 : Nat) (A3 : Option Addr) (c3 : Nat) {F1 F2 F3 : List Nat} (h1 : (Sh.row 151 shBind).O w F1 [.slice A1 x1.length c1] ((Sh.row 151 shBind).mark ((kn) + 1) x1)) (h2 : (Sh.row 105 shCell).O w F2 [.slice A2 x2.length c2] ((Sh.row 105 shCell).mark (((kn) + 1) + (Sh.row 151 shBind).cnt x1) x2)) (h3 : (Sh.row 108 shLevel).O w F3 [.slice A3 x3.length c3] ((Sh.row 108 shLevel).mark ((((kn) + 1) + (Sh.row 151 shBind).cnt x1) + (Sh.row 105 shCell).cnt x2) x3)) : shLocals.O w ([] ++ (F1 ++ (F2 ++ F3))) [.int .i64 ((kn : Nat) : Int), .slice A1 x1.length c1, .slice A2 x2.length c2, .slice A3 x3.length c3] (shLocals.mark kn (x0, x1, x2, x3)) := by
  have e1 : ((Sh.row 151 shBind).mark ((kn) + 1) x1).length = x1.length := mkAll_len _ _ _
  have e2 : ((Sh.row 105 shCell).mark (((kn) + 1) + (Sh.row 151 shBind).cnt x1) x2).length = x2.length := mkAll_len _ _ _
  have e3 : ((Sh.row 108 shLevel).mark ((((kn) + 1) + (Sh.row 151 shBind).cnt x1) + (Sh.row 105 shCell).cnt x2) x3).length = x3.length := mkAll_len _ _ _
  rw [← e1] at h1
  rw [← e2] at h2
  rw [← e3] at h3
  have key : shLocals.O w ([] ++ (F1 ++ (F2 ++ F3))) [.int .i64 ((kn : Nat) : Int), .slice A1 x1.length c1, .slice A2 x2.length c2, .slice A3 x3.length c3] (((kn : Nat) : Int), ((Sh.row 151 shBind).mark ((kn) + 1) x1), ((Sh.row 105 shCell).mark (((kn) + 1) + (Sh.row 151 shBind).cnt x1) x2), ((Sh.row 108 shLevel).mark ((((kn) + 1) + (Sh.row 151 shBind).cnt x1) + (Sh.row 105 shCell).cnt x2) x3)) := shLocals_O.2 ⟨A1, c1, F1, A2, c2, F2, A3, c3, F3, by simp only [e1, e2, e3], rfl, h1, h2, h3⟩
  exact key

set_option maxHeartbeats 4000000 in
set_option maxRecDepth 100000 in
theorem markLocals_f (x0 : Int) (x1 : List TyBind) (x2 : List TyCell) (x3 : List TyLevel) (A1 : Option Addr) (c1 : Nat) (A2 : Option Addr) (c2 : Nat) (A3 : Option Addr) (c3 : Nat) (k : Nat) (a : Int) (F : List Nat) (w : World) (h : shLocals.O w F [.int .i64 x0, .slice A1 x1.length c1, .slice A2 x2.length c2, .slice A3 x3.length c3] (x0, x1, x2, x3)) (hF : F.Nodup) (ha : a = (k : Int)) (h1 : 1 ≤ k) (h2 : k + shLocals.cntTop (x0, x1, x2, x3) ≤ 4294967000) :
    Calls Tryz.prog 44 #[.agg #[.int .i64 x0, .slice A1 x1.length c1, .slice A2 x2.length c2, .slice A3 x3.length c3], .int .i64 a] w fun e w' => ∃ r : Int, e = .returned (.int .i64 r) ∧ r = ((k + shLocals.cntTop (x0, x1, x2, x3) : Nat) : Int) ∧ shLocals.O w' F [.int .i64 x0, .slice A1 x1.length c1, .slice A2 x2.length c2, .slice A3 x3.length c3] (shLocals.top k (x0, x1, x2, x3)) ∧ Out F w w' := by
  subst ha
  rw [shLocals_top] at h2 ⊢
  obtain ⟨A1', c1', F1, A2', c2', F2, A3', c3', F3, e, eF, q1, q2, q3⟩ := shLocals_O.1 h
  subst F
  simp only [List.cons.injEq, Value.slice.injEq] at e
  simp only [true_and, and_true] at e
  obtain ⟨⟨rfl, rfl⟩, ⟨rfl, rfl⟩, ⟨rfl, rfl⟩⟩ := e
  have ho1 := q1
  have ho2 := q2
  have ho3 := q3
  have hS0 := hF
  have hS1 := (List.nodup_append.1 hS0).2.1
  have hS2 := (List.nodup_append.1 hS1).2.1
  have hS3 := (List.nodup_append.1 hS2).2.1
  have HN1 : Hid (F1).Nodup := Lib.hid (List.nodup_append.1 hS1).1
  have HG1 : Hid (w.heap.size ∉ F1) := Lib.hid (fun hh => by have := (Sh.row 151 shBind).O_lt ho1 _ hh; omega)
  have HD1_2 : Hid (∀ b ∈ F1, b ∉ F2) := Lib.hid (fun b hb hb' => (List.nodup_append.1 hS1).2.2 b hb b (List.mem_append_left _ hb') rfl)
  have HD1_3 : Hid (∀ b ∈ F1, b ∉ F3) := Lib.hid (fun b hb hb' => (List.nodup_append.1 hS1).2.2 b hb b (List.mem_append_right _ hb') rfl)
  have HN2 : Hid (F2).Nodup := Lib.hid (List.nodup_append.1 hS2).1
  have HG2 : Hid (w.heap.size ∉ F2) := Lib.hid (fun hh => by have := (Sh.row 105 shCell).O_lt ho2 _ hh; omega)
  have HD2_1 : Hid (∀ b ∈ F2, b ∉ F1) := Lib.hid (fun b hb hb' => (List.nodup_append.1 hS1).2.2 b hb' b (List.mem_append_left _ hb) rfl)
  have HD2_3 : Hid (∀ b ∈ F2, b ∉ F3) := Lib.hid (fun b hb hb' => (List.nodup_append.1 hS2).2.2 b hb b hb' rfl)
  have HN3 : Hid (F3).Nodup := Lib.hid hS3
  have HG3 : Hid (w.heap.size ∉ F3) := Lib.hid (fun hh => by have := (Sh.row 108 shLevel).O_lt ho3 _ hh; omega)
  have HD3_1 : Hid (∀ b ∈ F3, b ∉ F1) := Lib.hid (fun b hb hb' => (List.nodup_append.1 hS1).2.2 b hb' b (List.mem_append_right _ hb) rfl)
  have HD3_2 : Hid (∀ b ∈ F3, b ∉ F2) := Lib.hid (fun b hb hb' => (List.nodup_append.1 hS2).2.2 b hb' b hb rfl)
  clear hS0 hS1 hS2 hS3
  have BL0 := Lib.hid (Blk.new w 45 #[.int .i64 x0, .slice A1 x1.length c1, .slice A2 x2.length c2, .slice A3 x3.length c3])
  have HOUT0 := Lib.hid (Out.alloc_ (([] ++ (F1 ++ (F2 ++ F3)))) w (.cells #[.int .i64 x0, .slice A1 x1.length c1, .slice A2 x2.length c2, .slice A3 x3.length c3] 45))
  have HO1 := Lib.hid (O_below ho1 ((Below.refl w.heap.size w).alloc (Nat.le_refl _) (.cells #[.int .i64 x0, .slice A1 x1.length c1, .slice A2 x2.length c2, .slice A3 x3.length c3] 45)))
  have HO2 := Lib.hid (O_below ho2 ((Below.refl w.heap.size w).alloc (Nat.le_refl _) (.cells #[.int .i64 x0, .slice A1 x1.length c1, .slice A2 x2.length c2, .slice A3 x3.length c3] 45)))
  have HO3 := Lib.hid (O_below ho3 ((Below.refl w.heap.size w).alloc (Nat.le_refl _) (.cells #[.int .i64 x0, .slice A1 x1.length c1, .slice A2 x2.length c2, .slice A3 x3.length c3] 45)))
  clear h hF q1 q2 q3 ho1 ho2 ho3
  go_enter Tryz.func44, Tryz.ntmps44
  go_wp2_with fail
  refine (markBindS_f A1 c1 (k) _ x1 (F1) _ HO1.out HN1.out (by omega) (by omega) (by omega)).mono ?_
  rintro e1 w1 ⟨r1, rfl, hr1, hq1, hb1⟩
  obtain ⟨kn1, rfl, HK1⟩ : ∃ kq : Nat, r1 = (kq : Int) ∧ Hid (kq = k + (Sh.row 151 shBind).cnt x1) := ⟨_, hr1, rfl⟩
  have BL1 := Lib.hid (BL0.out.out_ hb1 HG1.out)
  have HOUT1 := Lib.hid (HOUT0.out.trans hb1 (fun b hb => (List.mem_append_right _ (List.mem_append_left _ hb))))
  have HO2 := Lib.hid (O_out HO2.out hb1 HD2_1.out)
  have HO3 := Lib.hid (O_out HO3.out hb1 HD3_1.out)
  have HO1 := Lib.hid hq1
  have f1 := BL1.out.cell
  have hk1 : 1 ≤ kn1 := by have := HK1.out; omega
  have hm1 : kn1 + (0 + (Sh.row 105 shCell).cnt x2 + (Sh.row 108 shLevel).cnt x3) ≤ 4294967000 := by have := HK1.out; omega
  clear hr1 hq1 hb1 BL0 HOUT0
  go_wp2_with fail
  refine (markCellS_f A2 c2 (kn1) _ x2 (F2) _ HO2.out HN2.out (by omega) (by omega) (by omega)).mono ?_
  rintro e2 w2 ⟨r2, rfl, hr2, hq2, hb2⟩
  obtain ⟨kn2, rfl, HK2⟩ : ∃ kq : Nat, r2 = (kq : Int) ∧ Hid (kq = kn1 + (Sh.row 105 shCell).cnt x2) := ⟨_, hr2, rfl⟩
  have BL2 := Lib.hid (BL1.out.out_ hb2 HG2.out)
  have HOUT2 := Lib.hid (HOUT1.out.trans hb2 (fun b hb => (List.mem_append_right _ (List.mem_append_right _ (List.mem_append_left _ hb)))))
  have HO1 := Lib.hid (O_out HO1.out hb2 HD1_2.out)
  have HO3 := Lib.hid (O_out HO3.out hb2 HD3_2.out)
  have HO2 := Lib.hid hq2
  have f2 := BL2.out.cell
  have hk2 : 1 ≤ kn2 := by have := HK2.out; omega
  have hm2 : kn2 + (0 + (Sh.row 108 shLevel).cnt x3) ≤ 4294967000 := by have := HK2.out; omega
  clear hr2 hq2 hb2 BL1 HOUT1 f1
  go_wp2_with fail
  refine (markLevelS_f A3 c3 (kn2) _ x3 (F3) _ HO3.out HN3.out (by omega) (by omega) (by omega)).mono ?_
  rintro e3 w3 ⟨r3, rfl, hr3, hq3, hb3⟩
  obtain ⟨kn3, rfl, HK3⟩ : ∃ kq : Nat, r3 = (kq : Int) ∧ Hid (kq = kn2 + (Sh.row 108 shLevel).cnt x3) := ⟨_, hr3, rfl⟩
  have BL3 := Lib.hid (BL2.out.out_ hb3 HG3.out)
  have HOUT3 := Lib.hid (HOUT2.out.trans hb3 (fun b hb => (List.mem_append_right _ (List.mem_append_right _ (List.mem_append_right _ hb)))))
  have HO1 := Lib.hid (O_out HO1.out hb3 HD1_3.out)
  have HO2 := Lib.hid (O_out HO2.out hb3 HD2_3.out)
  have HO3 := Lib.hid hq3
  have f3 := BL3.out.cell
  have hk3 : 1 ≤ kn3 := by have := HK3.out; omega
  have hm3 : kn3 + (0) ≤ 4294967000 := by have := HK3.out; omega
  clear hr3 hq3 hb3 BL2 HOUT2 f2
  go_wp2_with fail
  go_ret
  have E1 := HK1.out; subst E1
  have E2 := HK2.out; subst E2
  have E3 := HK3.out; subst E3
  refine ⟨_, rfl, ?_, ?_, HOUT3.out⟩
  · congr 1; omega
  · exact ⟨[.int .i64 x0], [.slice A1 x1.length c1, .slice A2 x2.length c2, .slice A3 x3.length c3], [], (F1 ++ (F2 ++ F3)), rfl, rfl, ⟨rfl, rfl⟩, ⟨[.slice A1 x1.length c1], [.slice A2 x2.length c2, .slice A3 x3.length c3], F1, (F2 ++ F3), rfl, rfl, HO1.out, ⟨[.slice A2 x2.length c2], [.slice A3 x3.length c3], F2, F3, rfl, rfl, HO2.out, HO3.out⟩⟩⟩

theorem shRef_markO {w : World} (kn : Nat) (x0 : Bool) (x1 : ByteArray) (x2 : List ByteArray) (A2 : Option Addr) (c2 : Nat) {F2 : List Nat} (h2 : (Sh.row 9 shS).O w F2 [.slice A2 x2.length c2] ((Sh.row 9 shS).mark (((kn) + 1) + 1) x2)) : shRef.O w ([] ++ ([] ++ F2)) [.bool (((kn : Nat) : Int) % 3 == 0), .string (markT ((kn) + 1)), .slice A2 x2.length c2] (shRef.mark kn (x0, x1, x2)) := by
  have e2 : ((Sh.row 9 shS).mark (((kn) + 1) + 1) x2).length = x2.length := mkAll_len _ _ _
  rw [← e2] at h2
  have key : shRef.O w ([] ++ ([] ++ F2)) [.bool (((kn : Nat) : Int) % 3 == 0), .string (markT ((kn) + 1)), .slice A2 x2.length c2] ((((kn : Nat) : Int) % 3 == 0), markT ((kn) + 1), ((Sh.row 9 shS).mark (((kn) + 1) + 1) x2)) := shRef_O.2 ⟨A2, c2, F2, by simp only [e2], rfl, h2⟩
  exact key

set_option maxHeartbeats 4000000 in
set_option maxRecDepth 100000 in
theorem markRefS_f (A : Option Addr) (c k : Nat) (a : Int) (xs : List TyRef) (F : List Nat) (w : World) (h : (Sh.row 46 shRef).O w F [.slice A xs.length c] xs) (hF : F.Nodup) (ha : a = (k : Int)) (h1 : 1 ≤ k) (h2 : k + (Sh.row 46 shRef).cnt xs ≤ 4294967000) :
    Calls Tryz.prog 40 #[.slice A xs.length c, .int .i64 a] w fun e w' => ∃ r : Int, e = .returned (.int .i64 r) ∧ r = ((k + (Sh.row 46 shRef).cnt xs : Nat) : Int) ∧ (Sh.row 46 shRef).O w' F [.slice A xs.length c] ((Sh.row 46 shRef).mark k xs) ∧ Out F w w' := by
  subst ha
  have H2 := Lib.hid (show k + cntAll shRef xs ≤ 4294967000 from h2)
  have hn := (O_len h).2
  unfold maxLen at hn
  have HO := Lib.hid h; have HF := Lib.hid hF
  have hk : k ≤ 4294967000 := by omega
  have HE := Lib.hid (markTo_all shRef k xs); have HZ := Lib.hid (markTo_zero shRef k xs)
  clear h hF h2
  go_enter Tryz.func40, Tryz.ntmps40
  go_wp2_with fail
  go_loopw [1, 5] (fun s i wr => ∃ (j kn : Nat), j ≤ xs.length ∧ i = .int .i64 j ∧ s = .int .i64 (kn : Int) ∧ 1 ≤ kn ∧ kn ≤ 4294967000 ∧ Hid (kn = k + cntTo shRef j xs) ∧ (Sh.row 46 shRef).O wr F [.slice A xs.length c] (markTo shRef k j xs) ∧ Out F w wr) (fun _ i _ => xs.length - (intOf i).toNat)
  case atStart => exact ⟨0, k, Nat.zero_le _, rfl, rfl, h1, hk, by rw [cntTo_zero]; exact rfl, by rw [HZ.out]; exact HO.out, Out.refl _ _⟩
  case round =>
    obtain ⟨j, kn, hj, rfl, rfl, hk1, hk2, HKN, ho, hout⟩ := hrel
    by_cases hlt : j < xs.length
    · have HNX := Lib.hid (cntTo_succ shRef hlt)
      have hroom := cnt_room (s := shRef) hlt H2.out
      obtain ⟨g, cur, FF, uu, rfl, hg, hN, ho, hm, hcl⟩ := mark_at ho rfl HF.out hlt
      simp only [shRef_k] at hm hcl
      rw [← HKN.out] at hroom hcl
      generalize xs.getD j shRef.d = X at *
      obtain ⟨x0, x1, x2⟩ := X
      rw [shRef_cnt] at hroom
      obtain ⟨A2, c2, F2, rfl, eFF, ho2⟩ := shRef_O.1 ho
      subst FF
      have HCL := Lib.hid hcl; have HM0 := Lib.hid hm; have HOUT := Lib.hid hout

      have hg2 : g ∉ F2 := fun hh => hg (by simp [hh])
      have HG2 := Lib.hid hg2
      have HN2 : Hid F2.Nodup := Lib.hid (by have := hN; (try simp only [List.nil_append, List.append_nil, List.nodup_append] at this); grind)
      have HO2 := Lib.hid ho2
      clear hcl hm hout ho hN hg ho2 hg2
      have f0 : _ = some (Value.bool x0) := HM0.out.cell0 (by decide)
      have f1 : _ = some (Value.string x1) := HM0.out.cell (i := 1) (by decide)
      have f2 : _ = some (Value.slice A2 x2.length c2) := HM0.out.cell (i := 2) (by decide)
      have z := HM0.out.frozen
      go_wp2_with fail
      refine (markText_f _ (kn + 1) _ (by omega) (by omega) (by omega)).mono ?_
      rintro e1 w1 ⟨rfl, hb1⟩
      have HM1 := Lib.hid ((HM0.out.set0 (List.mem_cons_self ..) (by decide) _).below hb1)
      have HO2 := Lib.hid (O_below (O_set HO2.out HG2.out _) hb1)
      clear hb1 HM0 z f0 f1 f2
      have f0 : _ = some (Value.bool (((kn : Nat) : Int) % 3 == 0)) := HM1.out.cell0 (by decide)
      have f1 : _ = some (Value.string x1) := HM1.out.cell (i := 1) (by decide)
      have f2 : _ = some (Value.slice A2 x2.length c2) := HM1.out.cell (i := 2) (by decide)
      have z := HM1.out.frozen
      go_wp2_with fail
      refine (markStringS_f A2 c2 (kn + 1 + 1) _ x2 F2 _ (O_set HO2.out HG2.out _) HN2.out (by omega) (by omega) (by omega)).mono ?_
      rintro e2 w2 ⟨r2, rfl, hr2, hq2, hb2⟩
      obtain ⟨kn2, rfl, HK2⟩ : ∃ kq : Nat, r2 = (kq : Int) ∧ Hid (kq = kn + 1 + 1 + (Sh.row 9 shS).cnt x2) := ⟨_, hr2, rfl⟩
      have HM2 := Lib.hid ((HM1.out.set_ (List.mem_cons_self ..) (i := 1) (by decide) _).call hb2 (fun b hb => List.mem_cons_of_mem _ (by simp [hb])) HG2.out)
      have HO2 := Lib.hid hq2
      have hroom : kn2 + (0) ≤ 4294967000 := by have := HK2.out; omega
      have hk2 : 1 ≤ kn2 := by have := HK2.out; omega
      clear hr2 hb2 hq2 HM1 z f0 f1 f2
      have f0 : _ = some (Value.bool (((kn : Nat) : Int) % 3 == 0)) := HM2.out.cell0 (by decide)
      have f1 : _ = some (Value.string (markT (kn + 1))) := HM2.out.cell (i := 1) (by decide)
      have f2 : _ = some (Value.slice A2 x2.length c2) := HM2.out.cell (i := 2) (by decide)
      have z := HM2.out.frozen
      have HFIN := Lib.hid (show kn2 = k + cntTo shRef (j + 1) xs by have h1 := HNX.out; have h2 := HKN.out; rw [shRef_cnt] at h1; skip; have h102 := HK2.out; omega)
      go_wp2_with fail
      go_roundw
      case rel =>
        have e202 := HK2.out; subst e202
        have hL := HCL.out _ _ HM2.out (by
          exact shRef_markO kn x0 x1 x2 A2 c2 HO2.out)
        exact ⟨j + 1, _, by omega, by go_num, by go_num, by omega, by omega, HFIN.out, hL.1, HOUT.out.trans hL.2 fun _ h => h⟩
      case measure => simp [intOf]; omega
    · obtain rfl : j = xs.length := by omega
      rw [HE.out] at ho
      have HOF := Lib.hid ho; have HOUT := Lib.hid hout; have hkn := HKN.out; rw [cntTo_all] at hkn; have HKF := Lib.hid hkn
      clear ho hout hkn
      go_wp2_with fail
      go_ret
      exact ⟨_, rfl, by rw [HKF.out]; rfl, HOF.out, HOUT.out⟩

set_option maxHeartbeats 4000000 in
set_option maxRecDepth 100000 in
theorem markRef_f (x0 : Bool) (x1 : ByteArray) (x2 : List ByteArray) (A2 : Option Addr) (c2 : Nat) (k : Nat) (a : Int) (F : List Nat) (w : World) (h : shRef.O w F [.bool x0, .string x1, .slice A2 x2.length c2] (x0, x1, x2)) (hF : F.Nodup) (ha : a = (k : Int)) (h1 : 1 ≤ k) (h2 : k + shRef.cntTop (x0, x1, x2) ≤ 4294967000) :
    Calls Tryz.prog 45 #[.agg #[.bool x0, .string x1, .slice A2 x2.length c2], .int .i64 a] w fun e w' => ∃ r : Int, e = .returned (.int .i64 r) ∧ r = ((k + shRef.cntTop (x0, x1, x2) : Nat) : Int) ∧ shRef.O w' F [.bool x0, .string x1, .slice A2 x2.length c2] (shRef.top k (x0, x1, x2)) ∧ Out F w w' := by
  subst ha
  rw [shRef_top] at h2 ⊢
  obtain ⟨A2', c2', F2, e, eF, q2⟩ := shRef_O.1 h
  subst F
  simp only [List.cons.injEq, Value.slice.injEq] at e
  simp only [true_and, and_true] at e
  obtain ⟨rfl, rfl⟩ := e
  have ho2 := q2
  have hS0 := hF
  have hS1 := (List.nodup_append.1 hS0).2.1
  have hS2 := (List.nodup_append.1 hS1).2.1
  have HN2 : Hid (F2).Nodup := Lib.hid hS2
  have HG2 : Hid (w.heap.size ∉ F2) := Lib.hid (fun hh => by have := (Sh.row 9 shS).O_lt ho2 _ hh; omega)
  clear hS0 hS1 hS2
  have BL0 := Lib.hid (Blk.new w 46 #[.bool x0, .string x1, .slice A2 x2.length c2])
  have HOUT0 := Lib.hid (Out.alloc_ (([] ++ ([] ++ F2))) w (.cells #[.bool x0, .string x1, .slice A2 x2.length c2] 46))
  have HO2 := Lib.hid (O_below ho2 ((Below.refl w.heap.size w).alloc (Nat.le_refl _) (.cells #[.bool x0, .string x1, .slice A2 x2.length c2] 46)))
  clear h hF q2 ho2
  go_enter Tryz.func45, Tryz.ntmps45
  go_wp2_with fail
  refine (markStringS_f A2 c2 (k) _ x2 (F2) _ HO2.out HN2.out (by omega) (by omega) (by omega)).mono ?_
  rintro e1 w1 ⟨r2, rfl, hr2, hq2, hb1⟩
  obtain ⟨kn2, rfl, HK2⟩ : ∃ kq : Nat, r2 = (kq : Int) ∧ Hid (kq = k + (Sh.row 9 shS).cnt x2) := ⟨_, hr2, rfl⟩
  have BL1 := Lib.hid (BL0.out.out_ hb1 HG2.out)
  have HOUT1 := Lib.hid (HOUT0.out.trans hb1 (fun b hb => (List.mem_append_right _ (List.mem_append_right _ hb))))
  have HO2 := Lib.hid hq2
  have f1 := BL1.out.cell
  have hk2 : 1 ≤ kn2 := by have := HK2.out; omega
  have hm2 : kn2 + (0) ≤ 4294967000 := by have := HK2.out; omega
  clear hr2 hq2 hb1 BL0 HOUT0
  go_wp2_with fail
  go_ret
  have E2 := HK2.out; subst E2
  refine ⟨_, rfl, ?_, ?_, HOUT1.out⟩
  · congr 1; omega
  · exact ⟨[.bool x0], [.string x1, .slice A2 x2.length c2], [], ([] ++ F2), rfl, rfl, ⟨rfl, rfl⟩, ⟨[.string x1], [.slice A2 x2.length c2], [], F2, rfl, rfl, ⟨rfl, rfl⟩, HO2.out⟩⟩

theorem shLoop_markO {w : World} (kn : Nat) (x0 : ByteArray) (x1 : Int) (x2 : Int) (x3 : Bool) (x4 : Int) (x5 : Int)   : shLoop.O w ([] ++ ([] ++ ([] ++ ([] ++ ([] ++ []))))) [.string (markT (kn)), .int .i64 (((kn) + 1 : Nat) : Int), .int .i64 ((((kn) + 1) + 1 : Nat) : Int), .bool ((((((kn) + 1) + 1) + 1 : Nat) : Int) % 3 == 0), .int .i64 ((((((kn) + 1) + 1) + 1) + 1 : Nat) : Int), .int .i64 (((((((kn) + 1) + 1) + 1) + 1) + 1 : Nat) : Int)] (shLoop.mark kn (x0, x1, x2, x3, x4, x5)) := by
  have key : shLoop.O w ([] ++ ([] ++ ([] ++ ([] ++ ([] ++ []))))) [.string (markT (kn)), .int .i64 (((kn) + 1 : Nat) : Int), .int .i64 ((((kn) + 1) + 1 : Nat) : Int), .bool ((((((kn) + 1) + 1) + 1 : Nat) : Int) % 3 == 0), .int .i64 ((((((kn) + 1) + 1) + 1) + 1 : Nat) : Int), .int .i64 (((((((kn) + 1) + 1) + 1) + 1) + 1 : Nat) : Int)] (markT (kn), (((kn) + 1 : Nat) : Int), ((((kn) + 1) + 1 : Nat) : Int), ((((((kn) + 1) + 1) + 1 : Nat) : Int) % 3 == 0), ((((((kn) + 1) + 1) + 1) + 1 : Nat) : Int), (((((((kn) + 1) + 1) + 1) + 1) + 1 : Nat) : Int)) := shLoop_O.2 ⟨rfl, rfl⟩
  exact key

set_option maxHeartbeats 4000000 in
set_option maxRecDepth 100000 in
theorem markLoopS_f (A : Option Addr) (c k : Nat) (a : Int) (xs : List TyLoop) (F : List Nat) (w : World) (h : (Sh.row 111 shLoop).O w F [.slice A xs.length c] xs) (hF : F.Nodup) (ha : a = (k : Int)) (h1 : 1 ≤ k) (h2 : k + (Sh.row 111 shLoop).cnt xs ≤ 4294967000) :
    Calls Tryz.prog 42 #[.slice A xs.length c, .int .i64 a] w fun e w' => ∃ r : Int, e = .returned (.int .i64 r) ∧ r = ((k + (Sh.row 111 shLoop).cnt xs : Nat) : Int) ∧ (Sh.row 111 shLoop).O w' F [.slice A xs.length c] ((Sh.row 111 shLoop).mark k xs) ∧ Out F w w' := by
  subst ha
  have H2 := Lib.hid (show k + cntAll shLoop xs ≤ 4294967000 from h2)
  have hn := (O_len h).2
  unfold maxLen at hn
  have HO := Lib.hid h; have HF := Lib.hid hF
  have hk : k ≤ 4294967000 := by omega
  have HE := Lib.hid (markTo_all shLoop k xs); have HZ := Lib.hid (markTo_zero shLoop k xs)
  clear h hF h2
  go_enter Tryz.func42, Tryz.ntmps42
  go_wp2_with fail
  go_loopw [1, 5] (fun s i wr => ∃ (j kn : Nat), j ≤ xs.length ∧ i = .int .i64 j ∧ s = .int .i64 (kn : Int) ∧ 1 ≤ kn ∧ kn ≤ 4294967000 ∧ Hid (kn = k + cntTo shLoop j xs) ∧ (Sh.row 111 shLoop).O wr F [.slice A xs.length c] (markTo shLoop k j xs) ∧ Out F w wr) (fun _ i _ => xs.length - (intOf i).toNat)
  case atStart => exact ⟨0, k, Nat.zero_le _, rfl, rfl, h1, hk, by rw [cntTo_zero]; exact rfl, by rw [HZ.out]; exact HO.out, Out.refl _ _⟩
  case round =>
    obtain ⟨j, kn, hj, rfl, rfl, hk1, hk2, HKN, ho, hout⟩ := hrel
    by_cases hlt : j < xs.length
    · have HNX := Lib.hid (cntTo_succ shLoop hlt)
      have hroom := cnt_room (s := shLoop) hlt H2.out
      obtain ⟨g, cur, FF, uu, rfl, hg, hN, ho, hm, hcl⟩ := mark_at ho rfl HF.out hlt
      simp only [shLoop_k] at hm hcl
      rw [← HKN.out] at hroom hcl
      generalize xs.getD j shLoop.d = X at *
      obtain ⟨x0, x1, x2, x3, x4, x5⟩ := X
      rw [shLoop_cnt] at hroom
      obtain ⟨rfl, eFF⟩ := shLoop_O.1 ho
      subst FF
      have HCL := Lib.hid hcl; have HM0 := Lib.hid hm; have HOUT := Lib.hid hout

      clear hcl hm hout ho hN hg
      have f0 : _ = some (Value.string x0) := HM0.out.cell0 (by decide)
      have f1 : _ = some (Value.int .i64 x1) := HM0.out.cell (i := 1) (by decide)
      have f2 : _ = some (Value.int .i64 x2) := HM0.out.cell (i := 2) (by decide)
      have f3 : _ = some (Value.bool x3) := HM0.out.cell (i := 3) (by decide)
      have f4 : _ = some (Value.int .i64 x4) := HM0.out.cell (i := 4) (by decide)
      have f5 : _ = some (Value.int .i64 x5) := HM0.out.cell (i := 5) (by decide)
      have z := HM0.out.frozen
      go_wp2_with fail
      refine (markText_f _ (kn) _ (by omega) (by omega) (by omega)).mono ?_
      rintro e1 w1 ⟨rfl, hb1⟩
      have HM1 := Lib.hid (HM0.out.below hb1)
      clear hb1 HM0 z f0 f1 f2 f3 f4 f5
      have f0 : _ = some (Value.string x0) := HM1.out.cell0 (by decide)
      have f1 : _ = some (Value.int .i64 x1) := HM1.out.cell (i := 1) (by decide)
      have f2 : _ = some (Value.int .i64 x2) := HM1.out.cell (i := 2) (by decide)
      have f3 : _ = some (Value.bool x3) := HM1.out.cell (i := 3) (by decide)
      have f4 : _ = some (Value.int .i64 x4) := HM1.out.cell (i := 4) (by decide)
      have f5 : _ = some (Value.int .i64 x5) := HM1.out.cell (i := 5) (by decide)
      have z := HM1.out.frozen
      have HFIN := Lib.hid (show kn + 1 + 1 + 1 + 1 + 1 + 1 = k + cntTo shLoop (j + 1) xs by have h1 := HNX.out; have h2 := HKN.out; rw [shLoop_cnt] at h1; skip; omega)
      go_wp2_with fail
      go_roundw
      case rel =>
        have hL := HCL.out _ _ ((((((HM1.out.set0 (List.mem_cons_self ..) (by decide) _).set_ (List.mem_cons_self ..) (i := 1) (by decide) _).set_ (List.mem_cons_self ..) (i := 2) (by decide) _).set_ (List.mem_cons_self ..) (i := 3) (by decide) _).set_ (List.mem_cons_self ..) (i := 4) (by decide) _).set_ (List.mem_cons_self ..) (i := 5) (by decide) _) (by
          exact shLoop_markO kn x0 x1 x2 x3 x4 x5)
        exact ⟨j + 1, kn + 1 + 1 + 1 + 1 + 1 + 1, by omega, by go_num, by go_num, by omega, by omega, HFIN.out, hL.1, HOUT.out.trans hL.2 fun _ h => h⟩
      case measure => simp [intOf]; omega
    · obtain rfl : j = xs.length := by omega
      rw [HE.out] at ho
      have HOF := Lib.hid ho; have HOUT := Lib.hid hout; have hkn := HKN.out; rw [cntTo_all] at hkn; have HKF := Lib.hid hkn
      clear ho hout hkn
      go_wp2_with fail
      go_ret
      exact ⟨_, rfl, by rw [HKF.out]; rfl, HOF.out, HOUT.out⟩

theorem shFrame_markO {w : World} (kn : Nat) (x0 : Int) (x1 : Bool) (x2 : Bool) (x3 : Int) (x4 : Int) (x5 : Int) (x6 : Int) (x7 : ByteArray) (x8 : ByteArray)   : shFrame.O w ([] ++ ([] ++ ([] ++ ([] ++ ([] ++ ([] ++ ([] ++ ([] ++ [])))))))) [.int .i64 ((kn : Nat) : Int), .bool ((((kn) + 1 : Nat) : Int) % 3 == 0), .bool (((((kn) + 1) + 1 : Nat) : Int) % 3 == 0), .int .i64 (((((kn) + 1) + 1) + 1 : Nat) : Int), .int .i64 ((((((kn) + 1) + 1) + 1) + 1 : Nat) : Int), .int .i64 (((((((kn) + 1) + 1) + 1) + 1) + 1 : Nat) : Int), .int .i64 ((((((((kn) + 1) + 1) + 1) + 1) + 1) + 1 : Nat) : Int), .string (markT ((((((((kn) + 1) + 1) + 1) + 1) + 1) + 1) + 1)), .string (markT (((((((((kn) + 1) + 1) + 1) + 1) + 1) + 1) + 1) + 1))] (shFrame.mark kn (x0, x1, x2, x3, x4, x5, x6, x7, x8)) := by
  have key : shFrame.O w ([] ++ ([] ++ ([] ++ ([] ++ ([] ++ ([] ++ ([] ++ ([] ++ [])))))))) [.int .i64 ((kn : Nat) : Int), .bool ((((kn) + 1 : Nat) : Int) % 3 == 0), .bool (((((kn) + 1) + 1 : Nat) : Int) % 3 == 0), .int .i64 (((((kn) + 1) + 1) + 1 : Nat) : Int), .int .i64 ((((((kn) + 1) + 1) + 1) + 1 : Nat) : Int), .int .i64 (((((((kn) + 1) + 1) + 1) + 1) + 1 : Nat) : Int), .int .i64 ((((((((kn) + 1) + 1) + 1) + 1) + 1) + 1 : Nat) : Int), .string (markT ((((((((kn) + 1) + 1) + 1) + 1) + 1) + 1) + 1)), .string (markT (((((((((kn) + 1) + 1) + 1) + 1) + 1) + 1) + 1) + 1))] (((kn : Nat) : Int), ((((kn) + 1 : Nat) : Int) % 3 == 0), (((((kn) + 1) + 1 : Nat) : Int) % 3 == 0), (((((kn) + 1) + 1) + 1 : Nat) : Int), ((((((kn) + 1) + 1) + 1) + 1 : Nat) : Int), (((((((kn) + 1) + 1) + 1) + 1) + 1 : Nat) : Int), ((((((((kn) + 1) + 1) + 1) + 1) + 1) + 1 : Nat) : Int), markT ((((((((kn) + 1) + 1) + 1) + 1) + 1) + 1) + 1), markT (((((((((kn) + 1) + 1) + 1) + 1) + 1) + 1) + 1) + 1)) := shFrame_O.2 ⟨rfl, rfl⟩
  exact key

set_option maxHeartbeats 4000000 in
set_option maxRecDepth 100000 in
theorem markFrameS_f (A : Option Addr) (c k : Nat) (a : Int) (xs : List TyFrame) (F : List Nat) (w : World) (h : (Sh.row 113 shFrame).O w F [.slice A xs.length c] xs) (hF : F.Nodup) (ha : a = (k : Int)) (h1 : 1 ≤ k) (h2 : k + (Sh.row 113 shFrame).cnt xs ≤ 4294967000) :
    Calls Tryz.prog 43 #[.slice A xs.length c, .int .i64 a] w fun e w' => ∃ r : Int, e = .returned (.int .i64 r) ∧ r = ((k + (Sh.row 113 shFrame).cnt xs : Nat) : Int) ∧ (Sh.row 113 shFrame).O w' F [.slice A xs.length c] ((Sh.row 113 shFrame).mark k xs) ∧ Out F w w' := by
  subst ha
  have H2 := Lib.hid (show k + cntAll shFrame xs ≤ 4294967000 from h2)
  have hn := (O_len h).2
  unfold maxLen at hn
  have HO := Lib.hid h; have HF := Lib.hid hF
  have hk : k ≤ 4294967000 := by omega
  have HE := Lib.hid (markTo_all shFrame k xs); have HZ := Lib.hid (markTo_zero shFrame k xs)
  clear h hF h2
  go_enter Tryz.func43, Tryz.ntmps43
  go_wp2_with fail
  go_loopw [1, 5] (fun s i wr => ∃ (j kn : Nat), j ≤ xs.length ∧ i = .int .i64 j ∧ s = .int .i64 (kn : Int) ∧ 1 ≤ kn ∧ kn ≤ 4294967000 ∧ Hid (kn = k + cntTo shFrame j xs) ∧ (Sh.row 113 shFrame).O wr F [.slice A xs.length c] (markTo shFrame k j xs) ∧ Out F w wr) (fun _ i _ => xs.length - (intOf i).toNat)
  case atStart => exact ⟨0, k, Nat.zero_le _, rfl, rfl, h1, hk, by rw [cntTo_zero]; exact rfl, by rw [HZ.out]; exact HO.out, Out.refl _ _⟩
  case round =>
    obtain ⟨j, kn, hj, rfl, rfl, hk1, hk2, HKN, ho, hout⟩ := hrel
    by_cases hlt : j < xs.length
    · have HNX := Lib.hid (cntTo_succ shFrame hlt)
      have hroom := cnt_room (s := shFrame) hlt H2.out
      obtain ⟨g, cur, FF, uu, rfl, hg, hN, ho, hm, hcl⟩ := mark_at ho rfl HF.out hlt
      simp only [shFrame_k] at hm hcl
      rw [← HKN.out] at hroom hcl
      generalize xs.getD j shFrame.d = X at *
      obtain ⟨x0, x1, x2, x3, x4, x5, x6, x7, x8⟩ := X
      rw [shFrame_cnt] at hroom
      obtain ⟨rfl, eFF⟩ := shFrame_O.1 ho
      subst FF
      have HCL := Lib.hid hcl; have HM0 := Lib.hid hm; have HOUT := Lib.hid hout

      clear hcl hm hout ho hN hg
      have f0 : _ = some (Value.int .i64 x0) := HM0.out.cell0 (by decide)
      have f1 : _ = some (Value.bool x1) := HM0.out.cell (i := 1) (by decide)
      have f2 : _ = some (Value.bool x2) := HM0.out.cell (i := 2) (by decide)
      have f3 : _ = some (Value.int .i64 x3) := HM0.out.cell (i := 3) (by decide)
      have f4 : _ = some (Value.int .i64 x4) := HM0.out.cell (i := 4) (by decide)
      have f5 : _ = some (Value.int .i64 x5) := HM0.out.cell (i := 5) (by decide)
      have f6 : _ = some (Value.int .i64 x6) := HM0.out.cell (i := 6) (by decide)
      have f7 : _ = some (Value.string x7) := HM0.out.cell (i := 7) (by decide)
      have f8 : _ = some (Value.string x8) := HM0.out.cell (i := 8) (by decide)
      have z := HM0.out.frozen
      go_wp2_with fail
      refine (markText_f _ (kn + 1 + 1 + 1 + 1 + 1 + 1 + 1) _ (by omega) (by omega) (by omega)).mono ?_
      rintro e1 w1 ⟨rfl, hb1⟩
      have HM1 := Lib.hid ((((((((HM0.out.set0 (List.mem_cons_self ..) (by decide) _).set_ (List.mem_cons_self ..) (i := 1) (by decide) _).set_ (List.mem_cons_self ..) (i := 2) (by decide) _).set_ (List.mem_cons_self ..) (i := 3) (by decide) _).set_ (List.mem_cons_self ..) (i := 4) (by decide) _).set_ (List.mem_cons_self ..) (i := 5) (by decide) _).set_ (List.mem_cons_self ..) (i := 6) (by decide) _).below hb1)
      clear hb1 HM0 z f0 f1 f2 f3 f4 f5 f6 f7 f8
      have f0 : _ = some (Value.int .i64 ((kn : Nat) : Int)) := HM1.out.cell0 (by decide)
      have f1 : _ = some (Value.bool (((kn + 1 : Nat) : Int) % 3 == 0)) := HM1.out.cell (i := 1) (by decide)
      have f2 : _ = some (Value.bool (((kn + 1 + 1 : Nat) : Int) % 3 == 0)) := HM1.out.cell (i := 2) (by decide)
      have f3 : _ = some (Value.int .i64 ((kn + 1 + 1 + 1 : Nat) : Int)) := HM1.out.cell (i := 3) (by decide)
      have f4 : _ = some (Value.int .i64 ((kn + 1 + 1 + 1 + 1 : Nat) : Int)) := HM1.out.cell (i := 4) (by decide)
      have f5 : _ = some (Value.int .i64 ((kn + 1 + 1 + 1 + 1 + 1 : Nat) : Int)) := HM1.out.cell (i := 5) (by decide)
      have f6 : _ = some (Value.int .i64 ((kn + 1 + 1 + 1 + 1 + 1 + 1 : Nat) : Int)) := HM1.out.cell (i := 6) (by decide)
      have f7 : _ = some (Value.string x7) := HM1.out.cell (i := 7) (by decide)
      have f8 : _ = some (Value.string x8) := HM1.out.cell (i := 8) (by decide)
      have z := HM1.out.frozen
      go_wp2_with fail
      refine (markText_f _ (kn + 1 + 1 + 1 + 1 + 1 + 1 + 1 + 1) _ (by omega) (by omega) (by omega)).mono ?_
      rintro e2 w2 ⟨rfl, hb2⟩
      have HM2 := Lib.hid ((HM1.out.set_ (List.mem_cons_self ..) (i := 7) (by decide) _).below hb2)
      clear hb2 HM1 z f0 f1 f2 f3 f4 f5 f6 f7 f8
      have f0 : _ = some (Value.int .i64 ((kn : Nat) : Int)) := HM2.out.cell0 (by decide)
      have f1 : _ = some (Value.bool (((kn + 1 : Nat) : Int) % 3 == 0)) := HM2.out.cell (i := 1) (by decide)
      have f2 : _ = some (Value.bool (((kn + 1 + 1 : Nat) : Int) % 3 == 0)) := HM2.out.cell (i := 2) (by decide)
      have f3 : _ = some (Value.int .i64 ((kn + 1 + 1 + 1 : Nat) : Int)) := HM2.out.cell (i := 3) (by decide)
      have f4 : _ = some (Value.int .i64 ((kn + 1 + 1 + 1 + 1 : Nat) : Int)) := HM2.out.cell (i := 4) (by decide)
      have f5 : _ = some (Value.int .i64 ((kn + 1 + 1 + 1 + 1 + 1 : Nat) : Int)) := HM2.out.cell (i := 5) (by decide)
      have f6 : _ = some (Value.int .i64 ((kn + 1 + 1 + 1 + 1 + 1 + 1 : Nat) : Int)) := HM2.out.cell (i := 6) (by decide)
      have f7 : _ = some (Value.string (markT (kn + 1 + 1 + 1 + 1 + 1 + 1 + 1))) := HM2.out.cell (i := 7) (by decide)
      have f8 : _ = some (Value.string x8) := HM2.out.cell (i := 8) (by decide)
      have z := HM2.out.frozen
      have HFIN := Lib.hid (show kn + 1 + 1 + 1 + 1 + 1 + 1 + 1 + 1 + 1 = k + cntTo shFrame (j + 1) xs by have h1 := HNX.out; have h2 := HKN.out; rw [shFrame_cnt] at h1; skip; omega)
      go_wp2_with fail
      go_roundw
      case rel =>
        have hL := HCL.out _ _ (HM2.out.set_ (List.mem_cons_self ..) (i := 8) (by decide) _) (by
          exact shFrame_markO kn x0 x1 x2 x3 x4 x5 x6 x7 x8)
        exact ⟨j + 1, kn + 1 + 1 + 1 + 1 + 1 + 1 + 1 + 1 + 1, by omega, by go_num, by go_num, by omega, by omega, HFIN.out, hL.1, HOUT.out.trans hL.2 fun _ h => h⟩
      case measure => simp [intOf]; omega
    · obtain rfl : j = xs.length := by omega
      rw [HE.out] at ho
      have HOF := Lib.hid ho; have HOUT := Lib.hid hout; have hkn := HKN.out; rw [cntTo_all] at hkn; have HKF := Lib.hid hkn
      clear ho hout hkn
      go_wp2_with fail
      go_ret
      exact ⟨_, rfl, by rw [HKF.out]; rfl, HOF.out, HOUT.out⟩

end Go.Proofs.YtlodlplfmpikjaaGreat
