/- Node, Tree, Bind, Cell, Level, Given, Locals, Ref, Loop, Frame: shapes and the laws' walks (heldS, held). Printed by gen_fam.py. -/
import Derived.Test.YtlodlplfmpikjaaGreatGro
import Derived.Test.YtlodlplfmpikjaaGreatFamSh
namespace Go.Proofs.YtlodlplfmpikjaaGreat
open Go.RowKit
theorem shNode_mark (kn : Nat) (x0 : ByteArray) (x1 : List ByteArray) (x2 : ByteArray) : shNode.mark kn (x0, x1, x2) = (markT (kn), ((Sh.row 9 shS).mark ((kn) + 1) x1), markT (((kn) + 1) + (Sh.row 9 shS).cnt x1)) := rfl
set_option maxHeartbeats 4000000 in
set_option maxRecDepth 100000 in
theorem heldNodeS_f (A : Option Addr) (n c k : Nat) (a : Int) (xs : List TyNode) (lo hi : Nat) (w : World) (h : (Sh.row 150 shNode).R w lo hi [.slice A n c] ((Sh.row 150 shNode).mark k xs)) (hn : n = xs.length) (hhi : hi ≤ w.heap.size) (hf : (Sh.row 150 shNode).fit 4294967296 xs) (ha : a = (k : Int)) (h1 : 1 ≤ k) (h2 : k + (Sh.row 150 shNode).cnt xs ≤ 4294967000) :
    Calls Tryz.prog 103 #[.slice A n c, .int .i64 a] w fun e w' => ∃ r : Int, e = .returned (.int .i64 r) ∧ r = ((k + (Sh.row 150 shNode).cnt xs : Nat) : Int) ∧ Below w.heap.size w w' := by
  subst ha hn
  have H2 := Lib.hid (show k + cntAll shNode xs ≤ 4294967000 from h2)
  have HA := Lib.hid h; have hm := hf.1; have HF := Lib.hid hf.2
  have hk : k ≤ 4294967000 := by omega
  clear h h2 hf
  go_enter Tryz.func103, Tryz.ntmps103
  go_wp2_with fail
  go_loopw [1, 5] (fun s i wr => ∃ (j kn : Nat), j ≤ xs.length ∧ i = .int .i64 j ∧ s = .int .i64 (kn : Int) ∧ 1 ≤ kn ∧ kn ≤ 4294967000 ∧ Hid (kn = k + cntTo shNode j xs) ∧ Below w.heap.size w wr) (fun _ i _ => xs.length - (intOf i).toNat)
  case atStart => exact ⟨0, k, Nat.zero_le _, rfl, rfl, h1, hk, by rw [cntTo_zero]; exact rfl, Below.refl _ _⟩
  case round =>
    obtain ⟨j, kn, hj, rfl, rfl, hk1, hk2, HKN, hb⟩ := hrel
    by_cases hlt : j < xs.length
    · have HNX := Lib.hid (cntTo_succ shNode hlt)
      have hroom := cnt_room (s := shNode) hlt H2.out
      obtain ⟨-, b, off, rfl, hb1, hb2, A1, c1, e100, e101, e102, hX⟩ := shNode_at ((Sh.row 150 shNode).R_below HA.out hb hhi) hlt
      rw [show ((Sh.row 150 shNode).mark k xs).getD j shNode.d = shNode.mark (k + cntTo shNode j xs) (xs.getD j shNode.d) from mkAll_getD shNode k hlt, ← HKN.out] at e100 e101 e102 hX
      rw [← HKN.out] at hroom
      have hx := HF.out _ (getD_in (d := shNode.d) hlt)
      generalize xs.getD j shNode.d = X at *
      obtain ⟨x0, x1, x2⟩ := X
      rw [shNode_cnt] at hroom
      obtain ⟨ft0, ft1, ft2⟩ := hx
      rw [shNode_mark] at e100 e101 e102 hX
      try dsimp only at e100 e101 e102 hX

      have l1 : ((Sh.row 9 shS).mark ((kn) + 1) x1).length = x1.length := mkAll_len _ _ _
      rw [l1] at e101
      have hX1 := shNode_g1 hX
      rw [l1] at hX1
      have R0 := ((Stand.nil wr).add lo hi (fun W => (Sh.row 9 shS).R W lo hi [.slice A1 x1.length c1] ((Sh.row 9 shS).mark ((kn) + 1) x1)) (fun _ _ hk h => (Sh.row 9 shS).R_keep h hk) (Nat.le_trans hhi hb.size) hX1)
      have HR0 := Lib.hid R0; have HBb := Lib.hid hb; have hsz := hb.size; have hbw0 : b < wr.heap.size := by omega
      have hi0 : (0 : Int) ≤ (j : Int) := by omega
      have hi1 : (j : Int) < (xs.length : Int) := by omega
      clear R0 hb hX hX1 l1
      go_wp2_with fail
      have hd0 : b < wr.drew.heap.size := (show b < wr.heap.size from hbw0)
      go_region_held3 (fun w' => w'.cell? ⟨b, off + j * 3, none⟩ = some (.string (markT (kn))))
        (first | exact e100 | exact (hbe1.cell hd0).trans e100)
        (first | (go_at_call 81; (refine (markText_f _ (kn) wr.drew (by omega) (by omega) (by omega)).mono ?_); rintro y1 w1 ⟨rfl, hbe1⟩))
      have HR1 := Lib.hid (HR0.out.drew.below hbe1)
      have hbw1 : b < w1.heap.size := Nat.lt_of_lt_of_le hd0 hbe1.size
      have e101 := (hbe1.cell (p := ⟨b, off + j * 3 + 1, none⟩) hd0).trans e101
      have e102 := (hbe1.cell (p := ⟨b, off + j * 3 + 2, none⟩) hd0).trans e102
      clear hbe1 HR0 hd0
      go_wp2_with fail
      refine (heldStringS_f A1 x1.length c1 (kn + 1) _ x1 lo hi _ (HR1.out.get 0 rfl) rfl (HR1.out.le 0 rfl) ft1 (by omega) (by omega) (by omega)).mono ?_
      rintro y2 w2 ⟨r1, rfl, hr1, hbe2⟩
      obtain ⟨kn1, rfl, HK1⟩ : ∃ kq : Nat, r1 = (kq : Int) ∧ Hid (kq = kn + 1 + (Sh.row 9 shS).cnt x1) := ⟨_, hr1, rfl⟩
      have HR2 := Lib.hid (HR1.out.below hbe2)
      have hbw2 : b < w2.heap.size := Nat.lt_of_lt_of_le hbw1 hbe2.size
      have e102 := (hbe2.cell (p := ⟨b, off + j * 3 + 2, none⟩) hbw1).trans e102
      rw [show kn + 1 + (Sh.row 9 shS).cnt x1 = kn1 from HK1.out.symm] at e102
      have hroom : kn1 + (0 + 1) ≤ 4294967000 := by have := HK1.out; omega
      have hk1 : 1 ≤ kn1 := by have := HK1.out; omega
      have hl1 : ¬ ((kn1 : Int) < 0) := by omega
      clear hr1 hbe2 HR1
      go_wp2_with fail
      have hd2 : b < w2.drew.heap.size := (show b < w2.heap.size from hbw2)
      go_region_held3 (fun w' => w'.cell? ⟨b, off + j * 3 + 2, none⟩ = some (.string (markT (kn1))))
        (first | exact e102 | exact (hbe3.cell hd2).trans e102)
        (first | (go_at_call 81; (refine (markText_f _ (kn1) w2.drew (by omega) (by omega) (by omega)).mono ?_); rintro y3 w3 ⟨rfl, hbe3⟩))
      have HR3 := Lib.hid (HR2.out.drew.below hbe3)
      have hbw3 : b < w3.heap.size := Nat.lt_of_lt_of_le hd2 hbe3.size
      clear hbe3 HR2 hd2
      have HFIN := Lib.hid (show kn1 + 1 = k + cntTo shNode (j + 1) xs by have h1 := HNX.out; have h2 := HKN.out; rw [shNode_cnt] at h1; skip; have h101 := HK1.out; omega)
      go_wp2_with fail
      go_roundw
      case rel => exact ⟨j + 1, kn1 + 1, by omega, by go_num, by go_num, by omega, by omega, HFIN.out, HBb.out.trans (HR3.out.1.mono hsz)⟩
      case measure => simp [intOf]; omega
    · obtain rfl : j = xs.length := by omega
      have HBb := Lib.hid hb; have hkn := HKN.out; rw [cntTo_all] at hkn; have HKF := Lib.hid hkn
      clear hb hkn
      go_wp2_with fail
      go_ret
      exact ⟨_, rfl, by rw [HKF.out]; rfl, HBb.out⟩

theorem shTree_mark (kn : Nat) (x0 : List TyNode) : shTree.mark kn x0 = ((Sh.row 150 shNode).mark (kn) x0) := rfl
theorem shBind_mark (kn : Nat) (x0 : ByteArray) (x1 : Int) : shBind.mark kn (x0, x1) = (markT (kn), (((kn) + 1 : Nat) : Int)) := rfl
set_option maxHeartbeats 4000000 in
set_option maxRecDepth 100000 in
theorem heldBindS_f (A : Option Addr) (n c k : Nat) (a : Int) (xs : List TyBind) (lo hi : Nat) (w : World) (h : (Sh.row 151 shBind).R w lo hi [.slice A n c] ((Sh.row 151 shBind).mark k xs)) (hn : n = xs.length) (hhi : hi ≤ w.heap.size) (hf : (Sh.row 151 shBind).fit 4294967296 xs) (ha : a = (k : Int)) (h1 : 1 ≤ k) (h2 : k + (Sh.row 151 shBind).cnt xs ≤ 4294967000) :
    Calls Tryz.prog 85 #[.slice A n c, .int .i64 a] w fun e w' => ∃ r : Int, e = .returned (.int .i64 r) ∧ r = ((k + (Sh.row 151 shBind).cnt xs : Nat) : Int) ∧ Below w.heap.size w w' := by
  subst ha hn
  have H2 := Lib.hid (show k + cntAll shBind xs ≤ 4294967000 from h2)
  have HA := Lib.hid h; have hm := hf.1; have HF := Lib.hid hf.2
  have hk : k ≤ 4294967000 := by omega
  clear h h2 hf
  go_enter Tryz.func85, Tryz.ntmps85
  go_wp2_with fail
  go_loopw [1, 5] (fun s i wr => ∃ (j kn : Nat), j ≤ xs.length ∧ i = .int .i64 j ∧ s = .int .i64 (kn : Int) ∧ 1 ≤ kn ∧ kn ≤ 4294967000 ∧ Hid (kn = k + cntTo shBind j xs) ∧ Below w.heap.size w wr) (fun _ i _ => xs.length - (intOf i).toNat)
  case atStart => exact ⟨0, k, Nat.zero_le _, rfl, rfl, h1, hk, by rw [cntTo_zero]; exact rfl, Below.refl _ _⟩
  case round =>
    obtain ⟨j, kn, hj, rfl, rfl, hk1, hk2, HKN, hb⟩ := hrel
    by_cases hlt : j < xs.length
    · have HNX := Lib.hid (cntTo_succ shBind hlt)
      have hroom := cnt_room (s := shBind) hlt H2.out
      obtain ⟨-, b, off, rfl, hb1, hb2, e100, e101, hX⟩ := shBind_at ((Sh.row 151 shBind).R_below HA.out hb hhi) hlt
      rw [show ((Sh.row 151 shBind).mark k xs).getD j shBind.d = shBind.mark (k + cntTo shBind j xs) (xs.getD j shBind.d) from mkAll_getD shBind k hlt, ← HKN.out] at e100 e101 hX
      rw [← HKN.out] at hroom
      have hx := HF.out _ (getD_in (d := shBind.d) hlt)
      generalize xs.getD j shBind.d = X at *
      obtain ⟨x0, x1⟩ := X
      rw [shBind_cnt] at hroom
      obtain ⟨ft0, ft1⟩ := hx
      rw [shBind_mark] at e100 e101 hX
      try dsimp only at e100 e101 hX

      have R0 := (Stand.nil wr)
      have HR0 := Lib.hid R0; have HBb := Lib.hid hb; have hsz := hb.size; have hbw0 : b < wr.heap.size := by omega
      have hi0 : (0 : Int) ≤ (j : Int) := by omega
      have hi1 : (j : Int) < (xs.length : Int) := by omega
      clear R0 hb hX
      go_wp2_with fail
      have hd0 : b < wr.drew.heap.size := (show b < wr.heap.size from hbw0)
      go_region_held3 (fun w' => w'.cell? ⟨b, off + j * 2, none⟩ = some (.string (markT (kn))))
        (first | exact e100 | exact (hbe1.cell hd0).trans e100)
        (first | (go_at_call 81; (refine (markText_f _ (kn) wr.drew (by omega) (by omega) (by omega)).mono ?_); rintro y1 w1 ⟨rfl, hbe1⟩))
      have HR1 := Lib.hid (HR0.out.drew.below hbe1)
      have hbw1 : b < w1.heap.size := Nat.lt_of_lt_of_le hd0 hbe1.size
      have e101 := (hbe1.cell (p := ⟨b, off + j * 2 + 1, none⟩) hd0).trans e101
      clear hbe1 HR0 hd0
      have e101 : _ = some (Value.int .i64 ((kn : Int) + 1)) := e101
      have HFIN := Lib.hid (show kn + 1 + 1 = k + cntTo shBind (j + 1) xs by have h1 := HNX.out; have h2 := HKN.out; rw [shBind_cnt] at h1; skip; omega)
      go_wp2_with fail
      go_roundw
      case rel => exact ⟨j + 1, kn + 1 + 1, by omega, by go_num, by go_num, by omega, by omega, HFIN.out, HBb.out.trans (HR1.out.1.mono hsz)⟩
      case measure => simp [intOf]; omega
    · obtain rfl : j = xs.length := by omega
      have HBb := Lib.hid hb; have hkn := HKN.out; rw [cntTo_all] at hkn; have HKF := Lib.hid hkn
      clear hb hkn
      go_wp2_with fail
      go_ret
      exact ⟨_, rfl, by rw [HKF.out]; rfl, HBb.out⟩

theorem shCell_mark (kn : Nat) (x0 : Int) (x1 : List TyNode) : shCell.mark kn (x0, x1) = (((kn : Nat) : Int), ((Sh.row 150 shNode).mark ((kn) + 1) x1)) := rfl
set_option maxHeartbeats 4000000 in
set_option maxRecDepth 100000 in
theorem heldCellS_f (A : Option Addr) (n c k : Nat) (a : Int) (xs : List TyCell) (lo hi : Nat) (w : World) (h : (Sh.row 105 shCell).R w lo hi [.slice A n c] ((Sh.row 105 shCell).mark k xs)) (hn : n = xs.length) (hhi : hi ≤ w.heap.size) (hf : (Sh.row 105 shCell).fit 4294967296 xs) (ha : a = (k : Int)) (h1 : 1 ≤ k) (h2 : k + (Sh.row 105 shCell).cnt xs ≤ 4294967000) :
    Calls Tryz.prog 86 #[.slice A n c, .int .i64 a] w fun e w' => ∃ r : Int, e = .returned (.int .i64 r) ∧ r = ((k + (Sh.row 105 shCell).cnt xs : Nat) : Int) ∧ Below w.heap.size w w' := by
  subst ha hn
  have H2 := Lib.hid (show k + cntAll shCell xs ≤ 4294967000 from h2)
  have HA := Lib.hid h; have hm := hf.1; have HF := Lib.hid hf.2
  have hk : k ≤ 4294967000 := by omega
  clear h h2 hf
  go_enter Tryz.func86, Tryz.ntmps86
  go_wp2_with fail
  go_loopw [1, 5] (fun s i wr => ∃ (j kn : Nat), j ≤ xs.length ∧ i = .int .i64 j ∧ s = .int .i64 (kn : Int) ∧ 1 ≤ kn ∧ kn ≤ 4294967000 ∧ Hid (kn = k + cntTo shCell j xs) ∧ Below w.heap.size w wr) (fun _ i _ => xs.length - (intOf i).toNat)
  case atStart => exact ⟨0, k, Nat.zero_le _, rfl, rfl, h1, hk, by rw [cntTo_zero]; exact rfl, Below.refl _ _⟩
  case round =>
    obtain ⟨j, kn, hj, rfl, rfl, hk1, hk2, HKN, hb⟩ := hrel
    by_cases hlt : j < xs.length
    · have HNX := Lib.hid (cntTo_succ shCell hlt)
      have hroom := cnt_room (s := shCell) hlt H2.out
      obtain ⟨-, b, off, rfl, hb1, hb2, A1, c1, e100, e101, hX⟩ := shCell_at ((Sh.row 105 shCell).R_below HA.out hb hhi) hlt
      rw [show ((Sh.row 105 shCell).mark k xs).getD j shCell.d = shCell.mark (k + cntTo shCell j xs) (xs.getD j shCell.d) from mkAll_getD shCell k hlt, ← HKN.out] at e100 e101 hX
      rw [← HKN.out] at hroom
      have hx := HF.out _ (getD_in (d := shCell.d) hlt)
      generalize xs.getD j shCell.d = X at *
      obtain ⟨x0, x1⟩ := X
      rw [shCell_cnt] at hroom
      obtain ⟨ft0, ft1⟩ := hx
      rw [shCell_mark] at e100 e101 hX
      try dsimp only at e100 e101 hX

      have l1 : ((Sh.row 150 shNode).mark ((kn) + 1) x1).length = x1.length := mkAll_len _ _ _
      rw [l1] at e101
      have hX1 := shCell_g1 hX
      rw [l1] at hX1
      have R0 := ((Stand.nil wr).add lo hi (fun W => (Sh.row 150 shNode).R W lo hi [.slice A1 x1.length c1] ((Sh.row 150 shNode).mark ((kn) + 1) x1)) (fun _ _ hk h => (Sh.row 150 shNode).R_keep h hk) (Nat.le_trans hhi hb.size) hX1)
      have HR0 := Lib.hid R0; have HBb := Lib.hid hb; have hsz := hb.size; have hbw0 : b < wr.heap.size := by omega
      have hi0 : (0 : Int) ≤ (j : Int) := by omega
      have hi1 : (j : Int) < (xs.length : Int) := by omega
      clear R0 hb hX hX1 l1
      have e100 : _ = some (Value.int .i64 ((kn : Int))) := e100
      go_wp2_with fail
      refine (heldNodeS_f A1 x1.length c1 (kn + 1) _ x1 lo hi _ (HR0.out.get 0 rfl) rfl (HR0.out.le 0 rfl) ft1 (by omega) (by omega) (by omega)).mono ?_
      rintro y1 w1 ⟨r1, rfl, hr1, hbe1⟩
      obtain ⟨kn1, rfl, HK1⟩ : ∃ kq : Nat, r1 = (kq : Int) ∧ Hid (kq = kn + 1 + (Sh.row 150 shNode).cnt x1) := ⟨_, hr1, rfl⟩
      have HR1 := Lib.hid (HR0.out.below hbe1)
      have hbw1 : b < w1.heap.size := Nat.lt_of_lt_of_le hbw0 hbe1.size
      have hroom : kn1 + (0) ≤ 4294967000 := by have := HK1.out; omega
      have hk1 : 1 ≤ kn1 := by have := HK1.out; omega
      have hl1 : ¬ ((kn1 : Int) < 0) := by omega
      clear hr1 hbe1 HR0
      have HFIN := Lib.hid (show kn1 = k + cntTo shCell (j + 1) xs by have h1 := HNX.out; have h2 := HKN.out; rw [shCell_cnt] at h1; skip; have h101 := HK1.out; omega)
      go_wp2_with fail
      go_roundw
      case rel => exact ⟨j + 1, kn1, by omega, by go_num, by go_num, by omega, by omega, HFIN.out, HBb.out.trans (HR1.out.1.mono hsz)⟩
      case measure => simp [intOf]; omega
    · obtain rfl : j = xs.length := by omega
      have HBb := Lib.hid hb; have hkn := HKN.out; rw [cntTo_all] at hkn; have HKF := Lib.hid hkn
      clear hb hkn
      go_wp2_with fail
      go_ret
      exact ⟨_, rfl, by rw [HKF.out]; rfl, HBb.out⟩

theorem shLevel_mark (kn : Nat) (x0 : List TyBind) : shLevel.mark kn x0 = ((Sh.row 151 shBind).mark (kn) x0) := rfl
set_option maxHeartbeats 4000000 in
set_option maxRecDepth 100000 in
theorem heldLevelS_f (A : Option Addr) (n c k : Nat) (a : Int) (xs : List TyLevel) (lo hi : Nat) (w : World) (h : (Sh.row 108 shLevel).R w lo hi [.slice A n c] ((Sh.row 108 shLevel).mark k xs)) (hn : n = xs.length) (hhi : hi ≤ w.heap.size) (hf : (Sh.row 108 shLevel).fit 4294967296 xs) (ha : a = (k : Int)) (h1 : 1 ≤ k) (h2 : k + (Sh.row 108 shLevel).cnt xs ≤ 4294967000) :
    Calls Tryz.prog 87 #[.slice A n c, .int .i64 a] w fun e w' => ∃ r : Int, e = .returned (.int .i64 r) ∧ r = ((k + (Sh.row 108 shLevel).cnt xs : Nat) : Int) ∧ Below w.heap.size w w' := by
  subst ha hn
  have H2 := Lib.hid (show k + cntAll shLevel xs ≤ 4294967000 from h2)
  have HA := Lib.hid h; have hm := hf.1; have HF := Lib.hid hf.2
  have hk : k ≤ 4294967000 := by omega
  clear h h2 hf
  go_enter Tryz.func87, Tryz.ntmps87
  go_wp2_with fail
  go_loopw [1, 5] (fun s i wr => ∃ (j kn : Nat), j ≤ xs.length ∧ i = .int .i64 j ∧ s = .int .i64 (kn : Int) ∧ 1 ≤ kn ∧ kn ≤ 4294967000 ∧ Hid (kn = k + cntTo shLevel j xs) ∧ Below w.heap.size w wr) (fun _ i _ => xs.length - (intOf i).toNat)
  case atStart => exact ⟨0, k, Nat.zero_le _, rfl, rfl, h1, hk, by rw [cntTo_zero]; exact rfl, Below.refl _ _⟩
  case round =>
    obtain ⟨j, kn, hj, rfl, rfl, hk1, hk2, HKN, hb⟩ := hrel
    by_cases hlt : j < xs.length
    · have HNX := Lib.hid (cntTo_succ shLevel hlt)
      have hroom := cnt_room (s := shLevel) hlt H2.out
      obtain ⟨-, b, off, rfl, hb1, hb2, A0, c0, e100, hX⟩ := shLevel_at ((Sh.row 108 shLevel).R_below HA.out hb hhi) hlt
      rw [show ((Sh.row 108 shLevel).mark k xs).getD j shLevel.d = shLevel.mark (k + cntTo shLevel j xs) (xs.getD j shLevel.d) from mkAll_getD shLevel k hlt, ← HKN.out] at e100 hX
      rw [← HKN.out] at hroom
      have hx := HF.out _ (getD_in (d := shLevel.d) hlt)
      generalize xs.getD j shLevel.d = x0 at *
      rw [shLevel_cnt] at hroom
      have ft0 := hx
      rw [shLevel_mark] at e100 hX
      try dsimp only at e100 hX

      have l0 : ((Sh.row 151 shBind).mark (kn) x0).length = x0.length := mkAll_len _ _ _
      rw [l0] at e100
      have hX0 := shLevel_g0 hX
      rw [l0] at hX0
      have R0 := ((Stand.nil wr).add lo hi (fun W => (Sh.row 151 shBind).R W lo hi [.slice A0 x0.length c0] ((Sh.row 151 shBind).mark (kn) x0)) (fun _ _ hk h => (Sh.row 151 shBind).R_keep h hk) (Nat.le_trans hhi hb.size) hX0)
      have HR0 := Lib.hid R0; have HBb := Lib.hid hb; have hsz := hb.size; have hbw0 : b < wr.heap.size := by omega
      have hi0 : (0 : Int) ≤ (j : Int) := by omega
      have hi1 : (j : Int) < (xs.length : Int) := by omega
      clear R0 hb hX hX0 l0
      go_wp2_with fail
      refine (heldBindS_f A0 x0.length c0 (kn) _ x0 lo hi _ (HR0.out.get 0 rfl) rfl (HR0.out.le 0 rfl) ft0 (by omega) (by omega) (by omega)).mono ?_
      rintro y1 w1 ⟨r0, rfl, hr0, hbe1⟩
      obtain ⟨kn0, rfl, HK0⟩ : ∃ kq : Nat, r0 = (kq : Int) ∧ Hid (kq = kn + (Sh.row 151 shBind).cnt x0) := ⟨_, hr0, rfl⟩
      have HR1 := Lib.hid (HR0.out.below hbe1)
      have hbw1 : b < w1.heap.size := Nat.lt_of_lt_of_le hbw0 hbe1.size
      have hroom : kn0 + (0) ≤ 4294967000 := by have := HK0.out; omega
      have hk0 : 1 ≤ kn0 := by have := HK0.out; omega
      have hl0 : ¬ ((kn0 : Int) < 0) := by omega
      clear hr0 hbe1 HR0
      have HFIN := Lib.hid (show kn0 = k + cntTo shLevel (j + 1) xs by have h1 := HNX.out; have h2 := HKN.out; rw [shLevel_cnt] at h1; skip; have h100 := HK0.out; omega)
      go_wp2_with fail
      go_roundw
      case rel => exact ⟨j + 1, kn0, by omega, by go_num, by go_num, by omega, by omega, HFIN.out, HBb.out.trans (HR1.out.1.mono hsz)⟩
      case measure => simp [intOf]; omega
    · obtain rfl : j = xs.length := by omega
      have HBb := Lib.hid hb; have hkn := HKN.out; rw [cntTo_all] at hkn; have HKF := Lib.hid hkn
      clear hb hkn
      go_wp2_with fail
      go_ret
      exact ⟨_, rfl, by rw [HKF.out]; rfl, HBb.out⟩

theorem shGiven_mark (kn : Nat) (x0 : Bool) (x1 : ByteArray) : shGiven.mark kn (x0, x1) = ((((kn : Nat) : Int) % 3 == 0), markT ((kn) + 1)) := rfl
set_option maxHeartbeats 4000000 in
set_option maxRecDepth 100000 in
theorem heldGivenS_f (A : Option Addr) (n c k : Nat) (a : Int) (xs : List TyGiven) (lo hi : Nat) (w : World) (h : (Sh.row 109 shGiven).R w lo hi [.slice A n c] ((Sh.row 109 shGiven).mark k xs)) (hn : n = xs.length) (hhi : hi ≤ w.heap.size) (hf : (Sh.row 109 shGiven).fit 4294967296 xs) (ha : a = (k : Int)) (h1 : 1 ≤ k) (h2 : k + (Sh.row 109 shGiven).cnt xs ≤ 4294967000) :
    Calls Tryz.prog 48 #[.slice A n c, .int .i64 a] w fun e w' => ∃ r : Int, e = .returned (.int .i64 r) ∧ r = ((k + (Sh.row 109 shGiven).cnt xs : Nat) : Int) ∧ Below w.heap.size w w' := by
  subst ha hn
  have H2 := Lib.hid (show k + cntAll shGiven xs ≤ 4294967000 from h2)
  have HA := Lib.hid h; have hm := hf.1; have HF := Lib.hid hf.2
  have hk : k ≤ 4294967000 := by omega
  clear h h2 hf
  go_enter Tryz.func48, Tryz.ntmps48
  go_wp2_with fail
  go_loopw [1, 5] (fun s i wr => ∃ (j kn : Nat), j ≤ xs.length ∧ i = .int .i64 j ∧ s = .int .i64 (kn : Int) ∧ 1 ≤ kn ∧ kn ≤ 4294967000 ∧ Hid (kn = k + cntTo shGiven j xs) ∧ Below w.heap.size w wr) (fun _ i _ => xs.length - (intOf i).toNat)
  case atStart => exact ⟨0, k, Nat.zero_le _, rfl, rfl, h1, hk, by rw [cntTo_zero]; exact rfl, Below.refl _ _⟩
  case round =>
    obtain ⟨j, kn, hj, rfl, rfl, hk1, hk2, HKN, hb⟩ := hrel
    by_cases hlt : j < xs.length
    · have HNX := Lib.hid (cntTo_succ shGiven hlt)
      have hroom := cnt_room (s := shGiven) hlt H2.out
      obtain ⟨-, b, off, rfl, hb1, hb2, e100, e101, hX⟩ := shGiven_at ((Sh.row 109 shGiven).R_below HA.out hb hhi) hlt
      rw [show ((Sh.row 109 shGiven).mark k xs).getD j shGiven.d = shGiven.mark (k + cntTo shGiven j xs) (xs.getD j shGiven.d) from mkAll_getD shGiven k hlt, ← HKN.out] at e100 e101 hX
      rw [← HKN.out] at hroom
      have hx := HF.out _ (getD_in (d := shGiven.d) hlt)
      generalize xs.getD j shGiven.d = X at *
      obtain ⟨x0, x1⟩ := X
      rw [shGiven_cnt] at hroom
      obtain ⟨ft0, ft1⟩ := hx
      rw [shGiven_mark] at e100 e101 hX
      try dsimp only at e100 e101 hX

      have R0 := (Stand.nil wr)
      have HR0 := Lib.hid R0; have HBb := Lib.hid hb; have hsz := hb.size; have hbw0 : b < wr.heap.size := by omega
      have hi0 : (0 : Int) ≤ (j : Int) := by omega
      have hi1 : (j : Int) < (xs.length : Int) := by omega
      clear R0 hb hX
      have e100 : _ = some (Value.bool (((kn : Int)) % 3 == 0)) := e100
      go_wp2_with fail
      have hd0 : b < wr.drew.heap.size := (show b < wr.heap.size from hbw0)
      go_region_held3 (fun w' => w'.cell? ⟨b, off + j * 2 + 1, none⟩ = some (.string (markT (kn + 1))))
        (first | exact e101 | exact (hbe1.cell hd0).trans e101)
        (first | (go_at_call 81; (refine (markText_f _ (kn + 1) wr.drew (by omega) (by omega) (by omega)).mono ?_); rintro y1 w1 ⟨rfl, hbe1⟩))
      have HR1 := Lib.hid (HR0.out.drew.below hbe1)
      have hbw1 : b < w1.heap.size := Nat.lt_of_lt_of_le hd0 hbe1.size
      clear hbe1 HR0 hd0
      have HFIN := Lib.hid (show kn + 1 + 1 = k + cntTo shGiven (j + 1) xs by have h1 := HNX.out; have h2 := HKN.out; rw [shGiven_cnt] at h1; skip; omega)
      go_wp2_with fail
      go_roundw
      case rel => exact ⟨j + 1, kn + 1 + 1, by omega, by go_num, by go_num, by omega, by omega, HFIN.out, HBb.out.trans (HR1.out.1.mono hsz)⟩
      case measure => simp [intOf]; omega
    · obtain rfl : j = xs.length := by omega
      have HBb := Lib.hid hb; have hkn := HKN.out; rw [cntTo_all] at hkn; have HKF := Lib.hid hkn
      clear hb hkn
      go_wp2_with fail
      go_ret
      exact ⟨_, rfl, by rw [HKF.out]; rfl, HBb.out⟩

set_option maxHeartbeats 4000000 in
set_option maxRecDepth 100000 in
theorem heldLocals_f (x0 : Int) (x1 : List TyBind) (x2 : List TyCell) (x3 : List TyLevel) (A1 : Option Addr) (c1 : Nat) (A2 : Option Addr) (c2 : Nat) (A3 : Option Addr) (c3 : Nat) (n1 n2 n3 k : Nat) (a : Int) (lo hi : Nat) (w : World) (h : shLocals.R w lo hi [.int .i64 x0, .slice A1 n1 c1, .slice A2 n2 c2, .slice A3 n3 c3] (shLocals.top k (x0, x1, x2, x3))) (hn1 : n1 = x1.length) (hn2 : n2 = x2.length) (hn3 : n3 = x3.length) (hhi : hi ≤ w.heap.size) (hf : shLocals.fit 4294967296 (x0, x1, x2, x3)) (ha : a = (k : Int)) (h1 : 1 ≤ k) (h2 : k + shLocals.cntTop (x0, x1, x2, x3) ≤ 4294967000) :
    Calls Tryz.prog 51 #[.agg #[.int .i64 x0, .slice A1 n1 c1, .slice A2 n2 c2, .slice A3 n3 c3], .int .i64 a] w fun e w' => ∃ r : Int, e = .returned (.int .i64 r) ∧ r = ((k + shLocals.cntTop (x0, x1, x2, x3) : Nat) : Int) ∧ Below w.heap.size w w' := by
  subst ha hn1 hn2 hn3
  rw [shLocals_fit] at hf
  obtain ⟨ft0, ft1, ft2, ft3⟩ := hf
  rw [shLocals_top] at h2 ⊢
  have e1 : ((Sh.row 151 shBind).mark ((k) + 0) x1).length = x1.length := mkAll_len _ _ _
  have e2 : ((Sh.row 105 shCell).mark (((k) + 0) + (Sh.row 151 shBind).cnt x1) x2).length = x2.length := mkAll_len _ _ _
  have e3 : ((Sh.row 108 shLevel).mark ((((k) + 0) + (Sh.row 151 shBind).cnt x1) + (Sh.row 105 shCell).cnt x2) x3).length = x3.length := mkAll_len _ _ _
  have key : shLocals.R w lo hi [.int .i64 x0, .slice A1 ((Sh.row 151 shBind).mark ((k) + 0) x1).length c1, .slice A2 ((Sh.row 105 shCell).mark (((k) + 0) + (Sh.row 151 shBind).cnt x1) x2).length c2, .slice A3 ((Sh.row 108 shLevel).mark ((((k) + 0) + (Sh.row 151 shBind).cnt x1) + (Sh.row 105 shCell).cnt x2) x3).length c3] (x0, ((Sh.row 151 shBind).mark ((k) + 0) x1), ((Sh.row 105 shCell).mark (((k) + 0) + (Sh.row 151 shBind).cnt x1) x2), ((Sh.row 108 shLevel).mark ((((k) + 0) + (Sh.row 151 shBind).cnt x1) + (Sh.row 105 shCell).cnt x2) x3)) := by simp only [e1, e2, e3]; exact h
  have g1 := shLocals_f1 key
  simp only [e1] at g1
  have g2 := shLocals_f2 key
  simp only [e2] at g2
  have g3 := shLocals_f3 key
  simp only [e3] at g3
  have g1' : (Sh.row 151 shBind).R w lo hi [.slice A1 x1.length c1] ((Sh.row 151 shBind).mark (k) x1) := by
    exact g1
  obtain ⟨kn1, HQ1⟩ : ∃ kq : Nat, kq = k + (Sh.row 151 shBind).cnt x1 := ⟨_, rfl⟩
  have g2' : (Sh.row 105 shCell).R w lo hi [.slice A2 x2.length c2] ((Sh.row 105 shCell).mark (kn1) x2) := by
    rw [HQ1]
    exact g2
  obtain ⟨kn2, HQ2⟩ : ∃ kq : Nat, kq = kn1 + (Sh.row 105 shCell).cnt x2 := ⟨_, rfl⟩
  have g3' : (Sh.row 108 shLevel).R w lo hi [.slice A3 x3.length c3] ((Sh.row 108 shLevel).mark (kn2) x3) := by
    rw [HQ2, HQ1]
    exact g3
  obtain ⟨kn3, HQ3⟩ : ∃ kq : Nat, kq = kn2 + (Sh.row 108 shLevel).cnt x3 := ⟨_, rfl⟩
  have R0 := ((((Stand.nil w).add lo hi (fun W => (Sh.row 151 shBind).R W lo hi [.slice A1 x1.length c1] ((Sh.row 151 shBind).mark (k) x1)) (fun _ _ hk h => (Sh.row 151 shBind).R_keep h hk) hhi g1').add lo hi (fun W => (Sh.row 105 shCell).R W lo hi [.slice A2 x2.length c2] ((Sh.row 105 shCell).mark (kn1) x2)) (fun _ _ hk h => (Sh.row 105 shCell).R_keep h hk) hhi g2').add lo hi (fun W => (Sh.row 108 shLevel).R W lo hi [.slice A3 x3.length c3] ((Sh.row 108 shLevel).mark (kn2) x3)) (fun _ _ hk h => (Sh.row 108 shLevel).R_keep h hk) hhi g3').box 45 #[.int .i64 x0, .slice A1 x1.length c1, .slice A2 x2.length c2, .slice A3 x3.length c3]
  have HR0 := Lib.hid R0
  have HEND := Lib.hid (show kn3 = k + (0 + ((Sh.row 151 shBind).cnt x1 + ((Sh.row 105 shCell).cnt x2 + ((Sh.row 108 shLevel).cnt x3)))) by omega)
  have hk1 : 1 ≤ kn1 := by omega
  have hl1 : ¬ ((kn1 : Int) < 0) := by omega
  have hm1 : kn1 + (0 + (Sh.row 105 shCell).cnt x2 + (Sh.row 108 shLevel).cnt x3) ≤ 4294967000 := by omega
  have hk2 : 1 ≤ kn2 := by omega
  have hl2 : ¬ ((kn2 : Int) < 0) := by omega
  have hm2 : kn2 + (0 + (Sh.row 108 shLevel).cnt x3) ≤ 4294967000 := by omega
  have hk3 : 1 ≤ kn3 := by omega
  have hl3 : ¬ ((kn3 : Int) < 0) := by omega
  have hm3 : kn3 + (0) ≤ 4294967000 := by omega
  have HK1 := Lib.hid HQ1
  have HK2 := Lib.hid HQ2
  have HK3 := Lib.hid HQ3
  clear R0 h key g1 g1' HQ1 g2 g2' HQ2 g3 g3' HQ3
  go_enter Tryz.func51, Tryz.ntmps51
  go_wp2_with fail
  refine (heldBindS_f A1 x1.length c1 (k) _ x1 lo hi _ (HR0.out.get 3 rfl) rfl (HR0.out.le 3 rfl) ft1 (by omega) (by omega) (by omega)).mono ?_
  rintro e1 w1 ⟨r1, rfl, hr1, hb1⟩
  obtain rfl : r1 = (kn1 : Int) := by rw [hr1, HK1.out]
  have HR1 := Lib.hid (HR0.out.below hb1)
  have f1 := (HR1.out.get 0 rfl).cell
  clear hr1 hb1 HR0
  go_wp2_with fail
  refine (heldCellS_f A2 x2.length c2 (kn1) _ x2 lo hi _ (HR1.out.get 2 rfl) rfl (HR1.out.le 2 rfl) ft2 (by omega) (by omega) (by omega)).mono ?_
  rintro e2 w2 ⟨r2, rfl, hr2, hb2⟩
  obtain rfl : r2 = (kn2 : Int) := by rw [hr2, HK2.out]
  have HR2 := Lib.hid (HR1.out.below hb2)
  have f2 := (HR2.out.get 0 rfl).cell
  clear hr2 hb2 HR1 f1
  go_wp2_with fail
  refine (heldLevelS_f A3 x3.length c3 (kn2) _ x3 lo hi _ (HR2.out.get 1 rfl) rfl (HR2.out.le 1 rfl) ft3 (by omega) (by omega) (by omega)).mono ?_
  rintro e3 w3 ⟨r3, rfl, hr3, hb3⟩
  obtain rfl : r3 = (kn3 : Int) := by rw [hr3, HK3.out]
  have HR3 := Lib.hid (HR2.out.below hb3)
  have f3 := (HR3.out.get 0 rfl).cell
  clear hr3 hb3 HR2 f2
  go_wp2_with fail
  go_ret
  exact ⟨_, rfl, by rw [HEND.out], HR3.out.1⟩

theorem shLocals_mark (kn : Nat) (x0 : Int) (x1 : List TyBind) (x2 : List TyCell) (x3 : List TyLevel) : shLocals.mark kn (x0, x1, x2, x3) = (((kn : Nat) : Int), ((Sh.row 151 shBind).mark ((kn) + 1) x1), ((Sh.row 105 shCell).mark (((kn) + 1) + (Sh.row 151 shBind).cnt x1) x2), ((Sh.row 108 shLevel).mark ((((kn) + 1) + (Sh.row 151 shBind).cnt x1) + (Sh.row 105 shCell).cnt x2) x3)) := rfl
set_option maxHeartbeats 4000000 in
set_option maxRecDepth 100000 in
theorem heldRef_f (x0 : Bool) (x1 : ByteArray) (x2 : List ByteArray) (A2 : Option Addr) (c2 : Nat) (n2 k : Nat) (a : Int) (lo hi : Nat) (w : World) (h : shRef.R w lo hi [.bool x0, .string x1, .slice A2 n2 c2] (shRef.top k (x0, x1, x2))) (hn2 : n2 = x2.length) (hhi : hi ≤ w.heap.size) (hf : shRef.fit 4294967296 (x0, x1, x2)) (ha : a = (k : Int)) (h1 : 1 ≤ k) (h2 : k + shRef.cntTop (x0, x1, x2) ≤ 4294967000) :
    Calls Tryz.prog 52 #[.agg #[.bool x0, .string x1, .slice A2 n2 c2], .int .i64 a] w fun e w' => ∃ r : Int, e = .returned (.int .i64 r) ∧ r = ((k + shRef.cntTop (x0, x1, x2) : Nat) : Int) ∧ Below w.heap.size w w' := by
  subst ha hn2
  rw [shRef_fit] at hf
  obtain ⟨ft0, ft1, ft2⟩ := hf
  rw [shRef_top] at h2 ⊢
  have e2 : ((Sh.row 9 shS).mark (((k) + 0) + 0) x2).length = x2.length := mkAll_len _ _ _
  have key : shRef.R w lo hi [.bool x0, .string x1, .slice A2 ((Sh.row 9 shS).mark (((k) + 0) + 0) x2).length c2] (x0, x1, ((Sh.row 9 shS).mark (((k) + 0) + 0) x2)) := by simp only [e2]; exact h
  have g2 := shRef_f2 key
  simp only [e2] at g2
  have g2' : (Sh.row 9 shS).R w lo hi [.slice A2 x2.length c2] ((Sh.row 9 shS).mark (k) x2) := by
    exact g2
  obtain ⟨kn2, HQ2⟩ : ∃ kq : Nat, kq = k + (Sh.row 9 shS).cnt x2 := ⟨_, rfl⟩
  have R0 := ((Stand.nil w).add lo hi (fun W => (Sh.row 9 shS).R W lo hi [.slice A2 x2.length c2] ((Sh.row 9 shS).mark (k) x2)) (fun _ _ hk h => (Sh.row 9 shS).R_keep h hk) hhi g2').box 46 #[.bool x0, .string x1, .slice A2 x2.length c2]
  have HR0 := Lib.hid R0
  have HEND := Lib.hid (show kn2 = k + (0 + (0 + ((Sh.row 9 shS).cnt x2))) by omega)
  have hk2 : 1 ≤ kn2 := by omega
  have hl2 : ¬ ((kn2 : Int) < 0) := by omega
  have hm2 : kn2 + (0) ≤ 4294967000 := by omega
  have HK2 := Lib.hid HQ2
  clear R0 h key g2 g2' HQ2
  go_enter Tryz.func52, Tryz.ntmps52
  go_wp2_with fail
  refine (heldStringS_f A2 x2.length c2 (k) _ x2 lo hi _ (HR0.out.get 1 rfl) rfl (HR0.out.le 1 rfl) ft2 (by omega) (by omega) (by omega)).mono ?_
  rintro e1 w1 ⟨r2, rfl, hr2, hb1⟩
  obtain rfl : r2 = (kn2 : Int) := by rw [hr2, HK2.out]
  have HR1 := Lib.hid (HR0.out.below hb1)
  have f1 := (HR1.out.get 0 rfl).cell
  clear hr2 hb1 HR0
  go_wp2_with fail
  go_ret
  exact ⟨_, rfl, by rw [HEND.out], HR1.out.1⟩

theorem shRef_mark (kn : Nat) (x0 : Bool) (x1 : ByteArray) (x2 : List ByteArray) : shRef.mark kn (x0, x1, x2) = ((((kn : Nat) : Int) % 3 == 0), markT ((kn) + 1), ((Sh.row 9 shS).mark (((kn) + 1) + 1) x2)) := rfl
set_option maxHeartbeats 4000000 in
set_option maxRecDepth 100000 in
theorem heldRefS_f (A : Option Addr) (n c k : Nat) (a : Int) (xs : List TyRef) (lo hi : Nat) (w : World) (h : (Sh.row 46 shRef).R w lo hi [.slice A n c] ((Sh.row 46 shRef).mark k xs)) (hn : n = xs.length) (hhi : hi ≤ w.heap.size) (hf : (Sh.row 46 shRef).fit 4294967296 xs) (ha : a = (k : Int)) (h1 : 1 ≤ k) (h2 : k + (Sh.row 46 shRef).cnt xs ≤ 4294967000) :
    Calls Tryz.prog 47 #[.slice A n c, .int .i64 a] w fun e w' => ∃ r : Int, e = .returned (.int .i64 r) ∧ r = ((k + (Sh.row 46 shRef).cnt xs : Nat) : Int) ∧ Below w.heap.size w w' := by
  subst ha hn
  have H2 := Lib.hid (show k + cntAll shRef xs ≤ 4294967000 from h2)
  have HA := Lib.hid h; have hm := hf.1; have HF := Lib.hid hf.2
  have hk : k ≤ 4294967000 := by omega
  clear h h2 hf
  go_enter Tryz.func47, Tryz.ntmps47
  go_wp2_with fail
  go_loopw [1, 5] (fun s i wr => ∃ (j kn : Nat), j ≤ xs.length ∧ i = .int .i64 j ∧ s = .int .i64 (kn : Int) ∧ 1 ≤ kn ∧ kn ≤ 4294967000 ∧ Hid (kn = k + cntTo shRef j xs) ∧ Below w.heap.size w wr) (fun _ i _ => xs.length - (intOf i).toNat)
  case atStart => exact ⟨0, k, Nat.zero_le _, rfl, rfl, h1, hk, by rw [cntTo_zero]; exact rfl, Below.refl _ _⟩
  case round =>
    obtain ⟨j, kn, hj, rfl, rfl, hk1, hk2, HKN, hb⟩ := hrel
    by_cases hlt : j < xs.length
    · have HNX := Lib.hid (cntTo_succ shRef hlt)
      have hroom := cnt_room (s := shRef) hlt H2.out
      obtain ⟨-, b, off, rfl, hb1, hb2, A2, c2, e100, e101, e102, hX⟩ := shRef_at ((Sh.row 46 shRef).R_below HA.out hb hhi) hlt
      rw [show ((Sh.row 46 shRef).mark k xs).getD j shRef.d = shRef.mark (k + cntTo shRef j xs) (xs.getD j shRef.d) from mkAll_getD shRef k hlt, ← HKN.out] at e100 e101 e102 hX
      rw [← HKN.out] at hroom
      have hx := HF.out _ (getD_in (d := shRef.d) hlt)
      generalize xs.getD j shRef.d = X at *
      obtain ⟨x0, x1, x2⟩ := X
      rw [shRef_cnt] at hroom
      obtain ⟨ft0, ft1, ft2⟩ := hx
      rw [shRef_mark] at e100 e101 e102 hX
      try dsimp only at e100 e101 e102 hX

      have l2 : ((Sh.row 9 shS).mark (((kn) + 1) + 1) x2).length = x2.length := mkAll_len _ _ _
      rw [l2] at e102
      have hX2 := shRef_g2 hX
      rw [l2] at hX2
      have R0 := ((Stand.nil wr).add lo hi (fun W => (Sh.row 9 shS).R W lo hi [.slice A2 x2.length c2] ((Sh.row 9 shS).mark (((kn) + 1) + 1) x2)) (fun _ _ hk h => (Sh.row 9 shS).R_keep h hk) (Nat.le_trans hhi hb.size) hX2)
      have HR0 := Lib.hid R0; have HBb := Lib.hid hb; have hsz := hb.size; have hbw0 : b < wr.heap.size := by omega
      have hi0 : (0 : Int) ≤ (j : Int) := by omega
      have hi1 : (j : Int) < (xs.length : Int) := by omega
      clear R0 hb hX hX2 l2
      have e100 : _ = some (Value.bool (((kn : Int)) % 3 == 0)) := e100
      go_wp2_with fail
      have hd0 : b < wr.drew.heap.size := (show b < wr.heap.size from hbw0)
      go_region_held3 (fun w' => w'.cell? ⟨b, off + j * 3 + 1, none⟩ = some (.string (markT (kn + 1))))
        (first | exact e101 | exact (hbe1.cell hd0).trans e101)
        (first | (go_at_call 81; (refine (markText_f _ (kn + 1) wr.drew (by omega) (by omega) (by omega)).mono ?_); rintro y1 w1 ⟨rfl, hbe1⟩))
      have HR1 := Lib.hid (HR0.out.drew.below hbe1)
      have hbw1 : b < w1.heap.size := Nat.lt_of_lt_of_le hd0 hbe1.size
      have e102 := (hbe1.cell (p := ⟨b, off + j * 3 + 2, none⟩) hd0).trans e102
      clear hbe1 HR0 hd0
      go_wp2_with fail
      refine (heldStringS_f A2 x2.length c2 (kn + 1 + 1) _ x2 lo hi _ (HR1.out.get 0 rfl) rfl (HR1.out.le 0 rfl) ft2 (by omega) (by omega) (by omega)).mono ?_
      rintro y2 w2 ⟨r2, rfl, hr2, hbe2⟩
      obtain ⟨kn2, rfl, HK2⟩ : ∃ kq : Nat, r2 = (kq : Int) ∧ Hid (kq = kn + 1 + 1 + (Sh.row 9 shS).cnt x2) := ⟨_, hr2, rfl⟩
      have HR2 := Lib.hid (HR1.out.below hbe2)
      have hbw2 : b < w2.heap.size := Nat.lt_of_lt_of_le hbw1 hbe2.size
      have hroom : kn2 + (0) ≤ 4294967000 := by have := HK2.out; omega
      have hk2 : 1 ≤ kn2 := by have := HK2.out; omega
      have hl2 : ¬ ((kn2 : Int) < 0) := by omega
      clear hr2 hbe2 HR1
      have HFIN := Lib.hid (show kn2 = k + cntTo shRef (j + 1) xs by have h1 := HNX.out; have h2 := HKN.out; rw [shRef_cnt] at h1; skip; have h102 := HK2.out; omega)
      go_wp2_with fail
      go_roundw
      case rel => exact ⟨j + 1, kn2, by omega, by go_num, by go_num, by omega, by omega, HFIN.out, HBb.out.trans (HR2.out.1.mono hsz)⟩
      case measure => simp [intOf]; omega
    · obtain rfl : j = xs.length := by omega
      have HBb := Lib.hid hb; have hkn := HKN.out; rw [cntTo_all] at hkn; have HKF := Lib.hid hkn
      clear hb hkn
      go_wp2_with fail
      go_ret
      exact ⟨_, rfl, by rw [HKF.out]; rfl, HBb.out⟩

theorem shLoop_mark (kn : Nat) (x0 : ByteArray) (x1 : Int) (x2 : Int) (x3 : Bool) (x4 : Int) (x5 : Int) : shLoop.mark kn (x0, x1, x2, x3, x4, x5) = (markT (kn), (((kn) + 1 : Nat) : Int), ((((kn) + 1) + 1 : Nat) : Int), ((((((kn) + 1) + 1) + 1 : Nat) : Int) % 3 == 0), ((((((kn) + 1) + 1) + 1) + 1 : Nat) : Int), (((((((kn) + 1) + 1) + 1) + 1) + 1 : Nat) : Int)) := rfl
set_option maxHeartbeats 4000000 in
set_option maxRecDepth 100000 in
theorem heldLoopS_f (A : Option Addr) (n c k : Nat) (a : Int) (xs : List TyLoop) (lo hi : Nat) (w : World) (h : (Sh.row 111 shLoop).R w lo hi [.slice A n c] ((Sh.row 111 shLoop).mark k xs)) (hn : n = xs.length) (hhi : hi ≤ w.heap.size) (hf : (Sh.row 111 shLoop).fit 4294967296 xs) (ha : a = (k : Int)) (h1 : 1 ≤ k) (h2 : k + (Sh.row 111 shLoop).cnt xs ≤ 4294967000) :
    Calls Tryz.prog 49 #[.slice A n c, .int .i64 a] w fun e w' => ∃ r : Int, e = .returned (.int .i64 r) ∧ r = ((k + (Sh.row 111 shLoop).cnt xs : Nat) : Int) ∧ Below w.heap.size w w' := by
  subst ha hn
  have H2 := Lib.hid (show k + cntAll shLoop xs ≤ 4294967000 from h2)
  have HA := Lib.hid h; have hm := hf.1; have HF := Lib.hid hf.2
  have hk : k ≤ 4294967000 := by omega
  clear h h2 hf
  go_enter Tryz.func49, Tryz.ntmps49
  go_wp2_with fail
  go_loopw [1, 5] (fun s i wr => ∃ (j kn : Nat), j ≤ xs.length ∧ i = .int .i64 j ∧ s = .int .i64 (kn : Int) ∧ 1 ≤ kn ∧ kn ≤ 4294967000 ∧ Hid (kn = k + cntTo shLoop j xs) ∧ Below w.heap.size w wr) (fun _ i _ => xs.length - (intOf i).toNat)
  case atStart => exact ⟨0, k, Nat.zero_le _, rfl, rfl, h1, hk, by rw [cntTo_zero]; exact rfl, Below.refl _ _⟩
  case round =>
    obtain ⟨j, kn, hj, rfl, rfl, hk1, hk2, HKN, hb⟩ := hrel
    by_cases hlt : j < xs.length
    · have HNX := Lib.hid (cntTo_succ shLoop hlt)
      have hroom := cnt_room (s := shLoop) hlt H2.out
      obtain ⟨-, b, off, rfl, hb1, hb2, e100, e101, e102, e103, e104, e105, hX⟩ := shLoop_at ((Sh.row 111 shLoop).R_below HA.out hb hhi) hlt
      rw [show ((Sh.row 111 shLoop).mark k xs).getD j shLoop.d = shLoop.mark (k + cntTo shLoop j xs) (xs.getD j shLoop.d) from mkAll_getD shLoop k hlt, ← HKN.out] at e100 e101 e102 e103 e104 e105 hX
      rw [← HKN.out] at hroom
      have hx := HF.out _ (getD_in (d := shLoop.d) hlt)
      generalize xs.getD j shLoop.d = X at *
      obtain ⟨x0, x1, x2, x3, x4, x5⟩ := X
      rw [shLoop_cnt] at hroom
      obtain ⟨ft0, ft1, ft2, ft3, ft4, ft5⟩ := hx
      rw [shLoop_mark] at e100 e101 e102 e103 e104 e105 hX
      try dsimp only at e100 e101 e102 e103 e104 e105 hX

      have R0 := (Stand.nil wr)
      have HR0 := Lib.hid R0; have HBb := Lib.hid hb; have hsz := hb.size; have hbw0 : b < wr.heap.size := by omega
      have hi0 : (0 : Int) ≤ (j : Int) := by omega
      have hi1 : (j : Int) < (xs.length : Int) := by omega
      clear R0 hb hX
      go_wp2_with fail
      have hd0 : b < wr.drew.heap.size := (show b < wr.heap.size from hbw0)
      go_region_held3 (fun w' => w'.cell? ⟨b, off + j * 6, none⟩ = some (.string (markT (kn))))
        (first | exact e100 | exact (hbe1.cell hd0).trans e100)
        (first | (go_at_call 81; (refine (markText_f _ (kn) wr.drew (by omega) (by omega) (by omega)).mono ?_); rintro y1 w1 ⟨rfl, hbe1⟩))
      have HR1 := Lib.hid (HR0.out.drew.below hbe1)
      have hbw1 : b < w1.heap.size := Nat.lt_of_lt_of_le hd0 hbe1.size
      have e101 := (hbe1.cell (p := ⟨b, off + j * 6 + 1, none⟩) hd0).trans e101
      have e102 := (hbe1.cell (p := ⟨b, off + j * 6 + 2, none⟩) hd0).trans e102
      have e103 := (hbe1.cell (p := ⟨b, off + j * 6 + 3, none⟩) hd0).trans e103
      have e104 := (hbe1.cell (p := ⟨b, off + j * 6 + 4, none⟩) hd0).trans e104
      have e105 := (hbe1.cell (p := ⟨b, off + j * 6 + 5, none⟩) hd0).trans e105
      clear hbe1 HR0 hd0
      have e101 : _ = some (Value.int .i64 ((kn : Int) + 1)) := e101
      have e102 : _ = some (Value.int .i64 ((kn : Int) + 1 + 1)) := e102
      have e103 : _ = some (Value.bool (((kn : Int) + 1 + 1 + 1) % 3 == 0)) := e103
      have e104 : _ = some (Value.int .i64 ((kn : Int) + 1 + 1 + 1 + 1)) := e104
      have e105 : _ = some (Value.int .i64 ((kn : Int) + 1 + 1 + 1 + 1 + 1)) := e105
      have HFIN := Lib.hid (show kn + 1 + 1 + 1 + 1 + 1 + 1 = k + cntTo shLoop (j + 1) xs by have h1 := HNX.out; have h2 := HKN.out; rw [shLoop_cnt] at h1; skip; omega)
      go_wp2_with fail
      go_roundw
      case rel => exact ⟨j + 1, kn + 1 + 1 + 1 + 1 + 1 + 1, by omega, by go_num, by go_num, by omega, by omega, HFIN.out, HBb.out.trans (HR1.out.1.mono hsz)⟩
      case measure => simp [intOf]; omega
    · obtain rfl : j = xs.length := by omega
      have HBb := Lib.hid hb; have hkn := HKN.out; rw [cntTo_all] at hkn; have HKF := Lib.hid hkn
      clear hb hkn
      go_wp2_with fail
      go_ret
      exact ⟨_, rfl, by rw [HKF.out]; rfl, HBb.out⟩

theorem shFrame_mark (kn : Nat) (x0 : Int) (x1 : Bool) (x2 : Bool) (x3 : Int) (x4 : Int) (x5 : Int) (x6 : Int) (x7 : ByteArray) (x8 : ByteArray) : shFrame.mark kn (x0, x1, x2, x3, x4, x5, x6, x7, x8) = (((kn : Nat) : Int), ((((kn) + 1 : Nat) : Int) % 3 == 0), (((((kn) + 1) + 1 : Nat) : Int) % 3 == 0), (((((kn) + 1) + 1) + 1 : Nat) : Int), ((((((kn) + 1) + 1) + 1) + 1 : Nat) : Int), (((((((kn) + 1) + 1) + 1) + 1) + 1 : Nat) : Int), ((((((((kn) + 1) + 1) + 1) + 1) + 1) + 1 : Nat) : Int), markT ((((((((kn) + 1) + 1) + 1) + 1) + 1) + 1) + 1), markT (((((((((kn) + 1) + 1) + 1) + 1) + 1) + 1) + 1) + 1)) := rfl
set_option maxHeartbeats 4000000 in
set_option maxRecDepth 100000 in
theorem heldFrameS_f (A : Option Addr) (n c k : Nat) (a : Int) (xs : List TyFrame) (lo hi : Nat) (w : World) (h : (Sh.row 113 shFrame).R w lo hi [.slice A n c] ((Sh.row 113 shFrame).mark k xs)) (hn : n = xs.length) (hhi : hi ≤ w.heap.size) (hf : (Sh.row 113 shFrame).fit 4294967296 xs) (ha : a = (k : Int)) (h1 : 1 ≤ k) (h2 : k + (Sh.row 113 shFrame).cnt xs ≤ 4294967000) :
    Calls Tryz.prog 50 #[.slice A n c, .int .i64 a] w fun e w' => ∃ r : Int, e = .returned (.int .i64 r) ∧ r = ((k + (Sh.row 113 shFrame).cnt xs : Nat) : Int) ∧ Below w.heap.size w w' := by
  subst ha hn
  have H2 := Lib.hid (show k + cntAll shFrame xs ≤ 4294967000 from h2)
  have HA := Lib.hid h; have hm := hf.1; have HF := Lib.hid hf.2
  have hk : k ≤ 4294967000 := by omega
  clear h h2 hf
  go_enter Tryz.func50, Tryz.ntmps50
  go_wp2_with fail
  go_loopw [1, 5] (fun s i wr => ∃ (j kn : Nat), j ≤ xs.length ∧ i = .int .i64 j ∧ s = .int .i64 (kn : Int) ∧ 1 ≤ kn ∧ kn ≤ 4294967000 ∧ Hid (kn = k + cntTo shFrame j xs) ∧ Below w.heap.size w wr) (fun _ i _ => xs.length - (intOf i).toNat)
  case atStart => exact ⟨0, k, Nat.zero_le _, rfl, rfl, h1, hk, by rw [cntTo_zero]; exact rfl, Below.refl _ _⟩
  case round =>
    obtain ⟨j, kn, hj, rfl, rfl, hk1, hk2, HKN, hb⟩ := hrel
    by_cases hlt : j < xs.length
    · have HNX := Lib.hid (cntTo_succ shFrame hlt)
      have hroom := cnt_room (s := shFrame) hlt H2.out
      obtain ⟨-, b, off, rfl, hb1, hb2, e100, e101, e102, e103, e104, e105, e106, e107, e108, hX⟩ := shFrame_at ((Sh.row 113 shFrame).R_below HA.out hb hhi) hlt
      rw [show ((Sh.row 113 shFrame).mark k xs).getD j shFrame.d = shFrame.mark (k + cntTo shFrame j xs) (xs.getD j shFrame.d) from mkAll_getD shFrame k hlt, ← HKN.out] at e100 e101 e102 e103 e104 e105 e106 e107 e108 hX
      rw [← HKN.out] at hroom
      have hx := HF.out _ (getD_in (d := shFrame.d) hlt)
      generalize xs.getD j shFrame.d = X at *
      obtain ⟨x0, x1, x2, x3, x4, x5, x6, x7, x8⟩ := X
      rw [shFrame_cnt] at hroom
      obtain ⟨ft0, ft1, ft2, ft3, ft4, ft5, ft6, ft7, ft8⟩ := hx
      rw [shFrame_mark] at e100 e101 e102 e103 e104 e105 e106 e107 e108 hX
      try dsimp only at e100 e101 e102 e103 e104 e105 e106 e107 e108 hX

      have R0 := (Stand.nil wr)
      have HR0 := Lib.hid R0; have HBb := Lib.hid hb; have hsz := hb.size; have hbw0 : b < wr.heap.size := by omega
      have hi0 : (0 : Int) ≤ (j : Int) := by omega
      have hi1 : (j : Int) < (xs.length : Int) := by omega
      clear R0 hb hX
      have e100 : _ = some (Value.int .i64 ((kn : Int))) := e100
      have e101 : _ = some (Value.bool (((kn : Int) + 1) % 3 == 0)) := e101
      have e102 : _ = some (Value.bool (((kn : Int) + 1 + 1) % 3 == 0)) := e102
      have e103 : _ = some (Value.int .i64 ((kn : Int) + 1 + 1 + 1)) := e103
      have e104 : _ = some (Value.int .i64 ((kn : Int) + 1 + 1 + 1 + 1)) := e104
      have e105 : _ = some (Value.int .i64 ((kn : Int) + 1 + 1 + 1 + 1 + 1)) := e105
      have e106 : _ = some (Value.int .i64 ((kn : Int) + 1 + 1 + 1 + 1 + 1 + 1)) := e106
      go_wp2_with fail
      have hd0 : b < wr.drew.heap.size := (show b < wr.heap.size from hbw0)
      go_region_held3 (fun w' => w'.cell? ⟨b, off + j * 9 + 7, none⟩ = some (.string (markT (kn + 1 + 1 + 1 + 1 + 1 + 1 + 1))))
        (first | exact e107 | exact (hbe1.cell hd0).trans e107)
        (first | (go_at_call 81; (refine (markText_f _ (kn + 1 + 1 + 1 + 1 + 1 + 1 + 1) wr.drew (by omega) (by omega) (by omega)).mono ?_); rintro y1 w1 ⟨rfl, hbe1⟩))
      have HR1 := Lib.hid (HR0.out.drew.below hbe1)
      have hbw1 : b < w1.heap.size := Nat.lt_of_lt_of_le hd0 hbe1.size
      have e108 := (hbe1.cell (p := ⟨b, off + j * 9 + 8, none⟩) hd0).trans e108
      clear hbe1 HR0 hd0
      go_wp2_with fail
      have hd1 : b < w1.drew.heap.size := (show b < w1.heap.size from hbw1)
      go_region_held3 (fun w' => w'.cell? ⟨b, off + j * 9 + 8, none⟩ = some (.string (markT (kn + 1 + 1 + 1 + 1 + 1 + 1 + 1 + 1))))
        (first | exact e108 | exact (hbe2.cell hd1).trans e108)
        (first | (go_at_call 81; (refine (markText_f _ (kn + 1 + 1 + 1 + 1 + 1 + 1 + 1 + 1) w1.drew (by omega) (by omega) (by omega)).mono ?_); rintro y2 w2 ⟨rfl, hbe2⟩))
      have HR2 := Lib.hid (HR1.out.drew.below hbe2)
      have hbw2 : b < w2.heap.size := Nat.lt_of_lt_of_le hd1 hbe2.size
      clear hbe2 HR1 hd1
      have HFIN := Lib.hid (show kn + 1 + 1 + 1 + 1 + 1 + 1 + 1 + 1 + 1 = k + cntTo shFrame (j + 1) xs by have h1 := HNX.out; have h2 := HKN.out; rw [shFrame_cnt] at h1; skip; omega)
      go_wp2_with fail
      go_roundw
      case rel => exact ⟨j + 1, kn + 1 + 1 + 1 + 1 + 1 + 1 + 1 + 1 + 1, by omega, by go_num, by go_num, by omega, by omega, HFIN.out, HBb.out.trans (HR2.out.1.mono hsz)⟩
      case measure => simp [intOf]; omega
    · obtain rfl : j = xs.length := by omega
      have HBb := Lib.hid hb; have hkn := HKN.out; rw [cntTo_all] at hkn; have HKF := Lib.hid hkn
      clear hb hkn
      go_wp2_with fail
      go_ret
      exact ⟨_, rfl, by rw [HKF.out]; rfl, HBb.out⟩

end Go.Proofs.YtlodlplfmpikjaaGreat
