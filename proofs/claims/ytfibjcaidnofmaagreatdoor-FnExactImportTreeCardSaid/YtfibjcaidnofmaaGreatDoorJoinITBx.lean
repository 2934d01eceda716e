/- Node, Tree, Bind, Cell, Level, Given, Locals, Ref, Loop, Frame: shapes and the laws' walks (heldS, held). Printed by gen_fam.py. -/
import Derived.Test.YtfibjcaidnofmaaGreatDoorJoinITAj
import Derived.Test.YtfibjcaidnofmaaGreatDoorJoinITAl
import Derived.Test.YtfibjcaidnofmaaGreatDoorJoinITBw
import Derived.Test.YtfibjcaidnofmaaGreatDoorJoinITBu
import Derived.Test.YtfibjcaidnofmaaGreatDoorJoinITAs
import Derived.Test.YtfibjcaidnofmaaGreatDoorJoinITAf
namespace Go.Proofs.YtfibjcaidnofmaaGreatDoor
open Go.RowKit
theorem shNode_mark (kn : Nat) (x0 : ByteArray) (x1 : List ByteArray) (x2 : ByteArray) : shNode.mark kn (x0, x1, x2) = (markT (kn), ((Sh.row 9 shS).mark ((kn) + 1) x1), markT (((kn) + 1) + (Sh.row 9 shS).cnt x1)) := rfl
set_option maxHeartbeats 4000000 in
set_option maxRecDepth 100000 in
theorem heldNodeS_f (A : Option Addr) (n c k : Nat) (a : Int) (xs : List TyNode) (lo hi : Nat) (w : World) (h : (Sh.row 32 shNode).R w lo hi [.slice A n c] ((Sh.row 32 shNode).mark k xs)) (hn : n = xs.length) (hhi : hi ≤ w.heap.size) (hf : (Sh.row 32 shNode).fit 4294967296 xs) (ha : a = (k : Int)) (h1 : 1 ≤ k) (h2 : k + (Sh.row 32 shNode).cnt xs ≤ 4294967000) :
    Calls Tryz.prog 57 #[.slice A n c, .int .i64 a] w fun e w' => ∃ r : Int, e = .returned (.int .i64 r) ∧ r = ((k + (Sh.row 32 shNode).cnt xs : Nat) : Int) ∧ Below w.heap.size w w' := by
  subst ha hn
  have H2 := Lib.hid (show k + cntAll shNode xs ≤ 4294967000 from h2)
  have HA := Lib.hid h; have hm := hf.1; have HF := Lib.hid hf.2
  have hk : k ≤ 4294967000 := by omega
  clear h h2 hf
  go_enter Tryz.func57, Tryz.ntmps57
  go_wp2_with fail
  go_loopw [1, 5] (fun s i wr => ∃ (j kn : Nat), j ≤ xs.length ∧ i = .int .i64 j ∧ s = .int .i64 (kn : Int) ∧ 1 ≤ kn ∧ kn ≤ 4294967000 ∧ Hid (kn = k + cntTo shNode j xs) ∧ Below w.heap.size w wr) (fun _ i _ => xs.length - (intOf i).toNat)
  case atStart => exact ⟨0, k, Nat.zero_le _, rfl, rfl, h1, hk, by rw [cntTo_zero]; exact rfl, Below.refl _ _⟩
  case round =>
    obtain ⟨j, kn, hj, rfl, rfl, hk1, hk2, HKN, hb⟩ := hrel
    by_cases hlt : j < xs.length
    · have HNX := Lib.hid (cntTo_succ shNode hlt)
      have hroom := cnt_room (s := shNode) hlt H2.out
      obtain ⟨-, b, off, rfl, hb1, hb2, A1, c1, e100, e101, e102, hX⟩ := shNode_at ((Sh.row 32 shNode).R_below HA.out hb hhi) hlt
      rw [show ((Sh.row 32 shNode).mark k xs).getD j shNode.d = shNode.mark (k + cntTo shNode j xs) (xs.getD j shNode.d) from mkAll_getD shNode k hlt, ← HKN.out] at e100 e101 e102 hX
      rw [← HKN.out] at hroom
      have hx := HF.out _ (getD_in (d := shNode.d) hlt)
      generalize xs.getD j shNode.d = X at *
      obtain ⟨x0, x1, x2⟩ := X
      rw [shNode_cnt] at hroom
      obtain ⟨ft0, ft1, ft2⟩ := hx
      rw [shNode_mark] at e100 e101 e102 hX
      try dsimp only at e100 e101 e102 hX

      have l1 : ((Sh.row 9 shS).mark ((kn) + 1) x1).length = x1.length := mkAll_len _ _ _
      rw [l1] at e101
      have hX1 := shNode_g1 hX
      rw [l1] at hX1
      have R0 := ((Stand.nil wr).add lo hi (fun W => (Sh.row 9 shS).R W lo hi [.slice A1 x1.length c1] ((Sh.row 9 shS).mark ((kn) + 1) x1)) (fun _ _ hk h => (Sh.row 9 shS).R_keep h hk) (Nat.le_trans hhi hb.size) hX1)
      have HR0 := Lib.hid R0; have HBb := Lib.hid hb; have hsz := hb.size; have hbw0 : b < wr.heap.size := by omega
      have hi0 : (0 : Int) ≤ (j : Int) := by omega
      have hi1 : (j : Int) < (xs.length : Int) := by omega
      clear R0 hb hX hX1 l1
      go_wp2_with fail
      have hd0 : b < wr.drew.heap.size := (show b < wr.heap.size from hbw0)
      go_region_held3 (fun w' => w'.cell? ⟨b, off + j * 3, none⟩ = some (.string (markT (kn))))
        (first | exact e100 | exact (hbe1.cell hd0).trans e100)
        (first | (go_at_call 114; (refine (markText_f _ (kn) wr.drew (by omega) (by omega) (by omega)).mono ?_); rintro y1 w1 ⟨rfl, hbe1⟩))
      have HR1 := Lib.hid (HR0.out.drew.below hbe1)
      have hbw1 : b < w1.heap.size := Nat.lt_of_lt_of_le hd0 hbe1.size
      have e101 := (hbe1.cell (p := ⟨b, off + j * 3 + 1, none⟩) hd0).trans e101
      have e102 := (hbe1.cell (p := ⟨b, off + j * 3 + 2, none⟩) hd0).trans e102
      clear hbe1 HR0 hd0
      go_wp2_with fail
      refine (heldStringS_f A1 x1.length c1 (kn + 1) _ x1 lo hi _ (HR1.out.get 0 rfl) rfl (HR1.out.le 0 rfl) ft1 (by omega) (by omega) (by omega)).mono ?_
      rintro y2 w2 ⟨r1, rfl, hr1, hbe2⟩
      obtain ⟨kn1, rfl, HK1⟩ : ∃ kq : Nat, r1 = (kq : Int) ∧ Hid (kq = kn + 1 + (Sh.row 9 shS).cnt x1) := ⟨_, hr1, rfl⟩
      have HR2 := Lib.hid (HR1.out.below hbe2)
      have hbw2 : b < w2.heap.size := Nat.lt_of_lt_of_le hbw1 hbe2.size
      have e102 := (hbe2.cell (p := ⟨b, off + j * 3 + 2, none⟩) hbw1).trans e102
      rw [show kn + 1 + (Sh.row 9 shS).cnt x1 = kn1 from HK1.out.symm] at e102
      have hroom : kn1 + (0 + 1) ≤ 4294967000 := by have := HK1.out; omega
      have hk1 : 1 ≤ kn1 := by have := HK1.out; omega
      have hl1 : ¬ ((kn1 : Int) < 0) := by omega
      clear hr1 hbe2 HR1
      go_wp2_with fail
      have hd2 : b < w2.drew.heap.size := (show b < w2.heap.size from hbw2)
      go_region_held3 (fun w' => w'.cell? ⟨b, off + j * 3 + 2, none⟩ = some (.string (markT (kn1))))
        (first | exact e102 | exact (hbe3.cell hd2).trans e102)
        (first | (go_at_call 114; (refine (markText_f _ (kn1) w2.drew (by omega) (by omega) (by omega)).mono ?_); rintro y3 w3 ⟨rfl, hbe3⟩))
      have HR3 := Lib.hid (HR2.out.drew.below hbe3)
      have hbw3 : b < w3.heap.size := Nat.lt_of_lt_of_le hd2 hbe3.size
      clear hbe3 HR2 hd2
      have HFIN := Lib.hid (show kn1 + 1 = k + cntTo shNode (j + 1) xs by have h1 := HNX.out; have h2 := HKN.out; rw [shNode_cnt] at h1; skip; have h101 := HK1.out; omega)
      go_wp2_with fail
      go_roundw
      case rel => exact ⟨j + 1, kn1 + 1, by omega, by go_num, by go_num, by omega, by omega, HFIN.out, HBb.out.trans (HR3.out.1.mono hsz)⟩
      case measure => simp [intOf]; omega
    · obtain rfl : j = xs.length := by omega
      have HBb := Lib.hid hb; have hkn := HKN.out; rw [cntTo_all] at hkn; have HKF := Lib.hid hkn
      clear hb hkn
      go_wp2_with fail
      go_ret
      exact ⟨_, rfl, by rw [HKF.out]; rfl, HBb.out⟩

set_option maxHeartbeats 4000000 in
set_option maxRecDepth 100000 in
theorem heldTree_f (x0 : List TyNode) (A0 : Option Addr) (c0 : Nat) (n0 k : Nat) (a : Int) (lo hi : Nat) (w : World) (h : shTree.R w lo hi [.slice A0 n0 c0] (shTree.top k x0)) (hn0 : n0 = x0.length) (hhi : hi ≤ w.heap.size) (hf : shTree.fit 4294967296 x0) (ha : a = (k : Int)) (h1 : 1 ≤ k) (h2 : k + shTree.cntTop x0 ≤ 4294967000) :
    Calls Tryz.prog 19 #[.agg #[.slice A0 n0 c0], .int .i64 a] w fun e w' => ∃ r : Int, e = .returned (.int .i64 r) ∧ r = ((k + shTree.cntTop x0 : Nat) : Int) ∧ Below w.heap.size w w' := by
  subst ha hn0
  rw [shTree_fit] at hf
  have ft0 := hf
  rw [shTree_top] at h2 ⊢
  have e0 : ((Sh.row 32 shNode).mark (k) x0).length = x0.length := mkAll_len _ _ _
  have key : shTree.R w lo hi [.slice A0 ((Sh.row 32 shNode).mark (k) x0).length c0] ((Sh.row 32 shNode).mark (k) x0) := by simp only [e0]; exact h
  have g0 := shTree_f0 key
  simp only [e0] at g0
  have g0' : (Sh.row 32 shNode).R w lo hi [.slice A0 x0.length c0] ((Sh.row 32 shNode).mark (k) x0) := by
    exact g0
  obtain ⟨kn0, HQ0⟩ : ∃ kq : Nat, kq = k + (Sh.row 32 shNode).cnt x0 := ⟨_, rfl⟩
  have R0 := ((Stand.nil w).add lo hi (fun W => (Sh.row 32 shNode).R W lo hi [.slice A0 x0.length c0] ((Sh.row 32 shNode).mark (k) x0)) (fun _ _ hk h => (Sh.row 32 shNode).R_keep h hk) hhi g0').box 26 #[.slice A0 x0.length c0]
  have HR0 := Lib.hid R0
  have HEND := Lib.hid (show kn0 = k + ((Sh.row 32 shNode).cnt x0) by omega)
  have hk0 : 1 ≤ kn0 := by omega
  have hl0 : ¬ ((kn0 : Int) < 0) := by omega
  have hm0 : kn0 + (0) ≤ 4294967000 := by omega
  have HK0 := Lib.hid HQ0
  clear R0 h key g0 g0' HQ0
  go_enter Tryz.func19, Tryz.ntmps19
  go_wp2_with fail
  refine (heldNodeS_f A0 x0.length c0 (k) _ x0 lo hi _ (HR0.out.get 1 rfl) rfl (HR0.out.le 1 rfl) ft0 (by omega) (by omega) (by omega)).mono ?_
  rintro e1 w1 ⟨r0, rfl, hr0, hb1⟩
  obtain rfl : r0 = (kn0 : Int) := by rw [hr0, HK0.out]
  have HR1 := Lib.hid (HR0.out.below hb1)
  have f1 := (HR1.out.get 0 rfl).cell
  clear hr0 hb1 HR0
  go_wp2_with fail
  go_ret
  exact ⟨_, rfl, by rw [HEND.out], HR1.out.1⟩

end Go.Proofs.YtfibjcaidnofmaaGreatDoor

/- FnExactImportTree returns true for every text: the walk of the law. -/
namespace Go.Proofs.YtfibjcaidnofmaaGreatDoor
open Go.RowKit

theorem importP_few (l : List UInt8) : (importP l).2.length ≤ 120 ∧ ∀ x ∈ (importP l).2, nodB x = true := by
  have h0 : (([] : List Nod)).length ≤ 120 ∧ ∀ x ∈ ([] : List Nod), nodB x = true := ⟨Nat.zero_le _, fun x hx => by cases hx⟩
  unfold importP
  split
  · exact h0
  · split
    · exact h0
    · rename_i a L _
      split
      · exact h0
      · rename_i h120
        split
        · exact h0
        · rename_i hM
          cases hr : readAll L with
          | none => exact h0
          | some ns =>
            dsimp only
            split
            · exact h0
            · have hl := readAll_len hr
              have hok := readAll_ok hr
              refine ⟨by have := insN_len ns; show (insN ns).1.length ≤ 120; omega, fun x hx => ?_⟩
              rcases insN_mem ns ([], false) x hx with h | h
              · cases h
              · exact hok x h
theorem cntAll_le {α : Type} (s : Sh α) {m : Nat} : ∀ {xs : List α}, (∀ x ∈ xs, s.cnt x ≤ m) → cntAll s xs ≤ xs.length * m
  | [], _ => by simp [cntAll]
  | x :: xs, h => by
    have h1 := h x (List.mem_cons_self ..)
    have h2 := cntAll_le s (xs := xs) fun y hy => h y (List.mem_cons_of_mem _ hy)
    have h3 : cntAll s (x :: xs) = s.cnt x + cntAll s xs := by simp [cntAll]
    rw [h3, List.length_cons, Nat.add_mul]
    omega
theorem tree_few {ns : List Nod} (hl : ns.length ≤ 120) (hn : ∀ x ∈ ns, nodB x = true) : shTree.fit 4294967296 (ns.map tyOf) ∧ shTree.cntTop (ns.map tyOf) ≤ 1000 := by
  refine ⟨(shTree_fit _).2 ⟨by rw [List.length_map]; omega, fun x hx => ?_⟩, ?_⟩
  · obtain ⟨y, hy, rfl⟩ := List.mem_map.1 hx
    have h := nodB_facts (hn y hy)
    refine (shNode_fit _ _ _).2 ⟨by show y.name.size ≤ _; have := h.1; omega, ⟨by show y.subs.length ≤ _; have := h.2.1; omega, fun z hz => ?_⟩, by show y.value.size ≤ _; have := h.2.2.2; omega⟩
    have := h.2.2.1 z hz
    show z.size ≤ _; omega
  · rw [shTree_top]
    have h1 := cntAll_le shNode (m := 6) (xs := ns.map tyOf) fun x hx => by
      obtain ⟨y, hy, rfl⟩ := List.mem_map.1 hx
      have h := nodB_facts (hn y hy)
      show shNode.cnt (y.name, y.subs, y.value) ≤ 6
      rw [shNode_cnt]
      have h2 : (Sh.row 9 shS).cnt y.subs = y.subs.length := cntAll_one _
      have := h.2.1
      omega
    rw [List.length_map] at h1
    have h2 : (Sh.row 32 shNode).cnt (ns.map tyOf) ≤ ns.length * 6 := h1
    omega

set_option maxHeartbeats 8000000 in
set_option maxRecDepth 100000 in
theorem law_ImportTree (s : ByteArray) (w : World) (hE : EnvR w) : Calls Tryz.prog 4 #[.string s] w fun e w' => e = .returned (.bool true) ∧ Below w.heap.size w w' := by
  by_cases hbig : 1048576 < s.size
  · have i1 : (1048576 : Int) < (s.size : Int) := by omega
    go_enter Tryz.func4, Tryz.ntmps4
    go_wp2_with fail
    go_ret
    exact ⟨rfl, Below.refl _ _⟩
  · have i1 : ¬ (1048576 : Int) < (s.size : Int) := by omega
    have hs : s.size ≤ 1048576 := by omega
    obtain ⟨hn1, hn2⟩ := importP_few s.data.toList
    have hsp := fun W => specImportTree_any s hs W
    have him := fun W h => implImportTree_any s hs W h
    obtain ⟨hfit, htop⟩ := tree_few hn1 hn2
    have hL : (importP s.data.toList).2.length = ((importP s.data.toList).2.map tyOf).length := by rw [List.length_map]
    unfold ImpR at hsp
    unfold ImpO at him
    rw [hL] at hsp him
    generalize (importP s.data.toList).2.map tyOf = ts at *
    generalize (importP s.data.toList).1 = k at *
    have HSP := Lib.hid hsp; have HIM := Lib.hid him; have HE := Lib.hid hE
    have HFIT := Lib.hid hfit
    clear hsp him hE hbig hn1 hn2 hL hfit
    go_enter Tryz.func4, Tryz.ntmps4
    go_wp2_with fail
    refine (HSP.out _).mono ?_; rintro e1 w1 ⟨⟨A1, c1, rfl, hr1⟩, hb1⟩
    have hs1 := hb1.size
    have hBA := (Below.refl w1.heap.size w1).alloc (Nat.le_refl _) (.cells #[.slice A1 ts.length c1] 26)
    have HNa := Lib.hid (shTree.R_keep hr1 (fun b _ h2 => hBA.block b h2))
    have HBKa := Lib.hid (Blk.new w1 26 #[.slice A1 ts.length c1])
    have HBa := Lib.hid (hb1.trans (hBA.mono hs1))
    have hsa := hBA.size
    have hsa' := alloc_sz w1 (.cells #[.slice A1 ts.length c1] 26)
    clear hb1 hr1 hBA
    go_upto_region 4 with fail
    generalize w1.alloc (.cells #[.slice A1 ts.length c1] 26) = wa at *
    generalize w1.heap.size = BA at *
    go_wp2_with fail
    refine (HIM.out _ (HE.out.below HBa.out)).mono ?_; rintro e2 w2 ⟨⟨A2, c2, rfl, ho2⟩, hb2⟩
    obtain ⟨F, hoF, hND, hFr⟩ := ho2
    have hs2 := hb2.size
    have hBB := (Below.refl w2.heap.size w2).alloc (Nat.le_refl _) (.cells #[.slice A2 ts.length c2] 26)
    have hbB := hb2.trans (hBB.mono hs2)
    have HNb := Lib.hid (shTree.R_keep HNa.out (fun b _ h2 => hbB.block b (by omega)))
    have HBKb := Lib.hid (HBKa.out.below hbB (by omega))
    have HGb := Lib.hid (Blk.new w2 26 #[.slice A2 ts.length c2])
    have hOb := shTree.O_keep hoF (fun b hb => hBB.block b (hFr b hb).2)
    have HOb := Lib.hid hOb
    have HRb := Lib.hid (shTree.O_R hOb hFr)
    have HFR := Lib.hid hFr; have HND := Lib.hid hND
    have HBb := Lib.hid (HBa.out.trans (hbB.mono HBa.out.size))
    have hsb' := alloc_sz w2 (.cells #[.slice A2 ts.length c2] 26)
    clear hb2 hoF hBB hbB hOb hFr hND HBKa HNa
    go_upto_region 5 with fail
    generalize w2.alloc (.cells #[.slice A2 ts.length c2] 26) = wb at *
    generalize w2.heap.size = BB at *
    have fa := HBKb.out.cell
    have fb := HGb.out.cell
    go_wp2_with fail
    refine (eqTree_f ts A2 c2 A1 c1 wa.heap.size BB w.heap.size BA _ HRb.out HNb.out (by omega) (by omega) HFIT.out).mono ?_; rintro e3 w3 ⟨rfl, hb3⟩
    have hs3 := hb3.size
    have HBK3 := Lib.hid (HBKb.out.below hb3 (by omega))
    have HG3 := Lib.hid (HGb.out.below hb3 (by omega))
    have HN3 := Lib.hid (shTree.R_keep HNb.out (fun b _ h2 => hb3.block b (by omega)))
    have HO3 := Lib.hid (shTree.O_keep HOb.out (fun b hb => hb3.block b (by have := (HFR.out b hb).2; omega)))
    have HB3 := Lib.hid (HBb.out.trans (hb3.mono HBb.out.size))
    clear hb3 fa fb HBKb HGb HNb HOb HBb HRb
    have fb := HG3.out.cell
    go_wp2_with fail
    refine (markTree_f ts A2 c2 1 1 F w3 HO3.out HND.out rfl (Nat.le_refl _) (by omega)).mono ?_; rintro e4 w4 ⟨r4, rfl, hr4, ho4, hout⟩
    have hW4 : Within wa.heap.size BB w3 w4 := hout.within HFR.out
    have hs4 := hW4.size
    have HBK4 := Lib.hid (HBK3.out.within hW4 (.inl (by omega)))
    have HG4 := Lib.hid (HG3.out.within hW4 (.inr (Nat.le_refl _)))
    have HN4 := Lib.hid (shTree.R_keep HN3.out fun b _ hb => hW4.block b (by omega) (.inl (by omega)))
    have HB4 := Lib.hid (HB3.out.trans ((hW4.below (by omega)).mono (by have := HB3.out.size; omega)))
    have HR4 := Lib.hid (shTree.O_R ho4 HFR.out)
    have hq1 : ¬ (r4 < 0) := by omega
    have HR44 := Lib.hid hr4
    clear ho4 hout hW4 fb HBK3 HG3 HN3 HB3 HO3 hr4
    have fb := HG4.out.cell
    go_wp2_with fail
    refine (heldTree_f ts A2 c2 ts.length 1 1 _ _ w4 HR4.out rfl (by omega) HFIT.out rfl (Nat.le_refl _) (by omega)).mono ?_; rintro e5 w5 ⟨r5, rfl, hr5, hb5⟩
    obtain rfl : r5 = r4 := hr5.trans HR44.out.symm
    have hs5 := hb5.size
    have HBK5 := Lib.hid (HBK4.out.below hb5 (by omega))
    have HG5 := Lib.hid (HG4.out.below hb5 (by omega))
    have HN5 := Lib.hid (shTree.R_keep HN4.out fun b _ hb => hb5.block b (by omega))
    have HR5 := Lib.hid (shTree.R_keep HR4.out fun b _ hb => hb5.block b (by omega))
    have HB5 := Lib.hid (HB4.out.trans (hb5.mono HB4.out.size))
    clear hb5 fb HBK4 HG4 HN4 HR4 HB4 hr5
    go_wp2_with fail
    refine (HIM.out _ (HE.out.below HB5.out)).mono ?_; rintro e6 w6 ⟨⟨A6, c6, rfl, ho6⟩, hb6⟩
    have hs6 := hb6.size
    have hBC := (Below.refl w6.heap.size w6).alloc (Nat.le_refl _) (.cells #[.slice A6 ts.length c6] 26)
    have hb7 := hb6.trans (hBC.mono hs6)
    have HBK7 := Lib.hid (HBK5.out.below hb7 (by omega))
    have HG7 := Lib.hid (HG5.out.below hb7 (by omega))
    have HN7 := Lib.hid (shTree.R_keep HN5.out fun b _ hb => hb7.block b (by omega))
    have HR7 := Lib.hid (shTree.R_keep HR5.out fun b _ hb => hb7.block b (by omega))
    have HC7 := Lib.hid (Blk.new w6 26 #[.slice A6 ts.length c6])
    have HRC := Lib.hid (shTree.R_keep ho6.reads fun b _ h2 => hBC.block b h2)
    have HB7 := Lib.hid (HB5.out.trans (hb7.mono HB5.out.size))
    have hsc' := alloc_sz w6 (.cells #[.slice A6 ts.length c6] 26)
    clear hb6 ho6 hBC hb7 HBK5 HG5 HN5 HR5 HB5
    go_upto_region 16 with fail
    generalize w6.alloc (.cells #[.slice A6 ts.length c6] 26) = w7 at *
    generalize w6.heap.size = BC at *
    have fa := HBK7.out.cell
    have fc := HC7.out.cell
    go_wp2_with fail
    refine (eqTree_f ts A6 c6 A1 c1 _ _ w.heap.size BA _ HRC.out HN7.out (by omega) (by omega) HFIT.out).mono ?_; rintro e8 w8 ⟨rfl, hb8⟩
    have hs8 := hb8.size
    have HG8 := Lib.hid (HG7.out.below hb8 (by omega))
    have HR8 := Lib.hid (shTree.R_keep HR7.out fun b _ hb => hb8.block b (by omega))
    have HB8 := Lib.hid (HB7.out.trans (hb8.mono HB7.out.size))
    clear hb8 fa fc HBK7 HG7 HN7 HR7 HC7 HRC HB7
    have fb := HG8.out.cell
    go_wp2_with fail
    refine (heldTree_f ts A2 c2 ts.length 1 1 _ _ w8 HR8.out rfl (by omega) HFIT.out rfl (Nat.le_refl _) (by omega)).mono ?_; rintro e9 w9 ⟨r9, rfl, hr9, hb9⟩
    obtain rfl : r9 = r5 := hr9.trans HR44.out.symm
    have HB9 := Lib.hid (HB8.out.trans (hb9.mono HB8.out.size))
    clear hb9 hr9
    go_wp2_with fail
    go_ret
    exact ⟨rfl, HB9.out⟩

end Go.Proofs.YtfibjcaidnofmaaGreatDoor
