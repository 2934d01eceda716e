/- Putting a node to its place, by the reference: l03Put walked. -/
import Derived.Test.YtfibjcaidnofmaaGreatDoorJoinEOBj
namespace Go.Proofs.YtfibjcaidnofmaaGreatDoor
open Go.RowKit

theorem RowG.keep {α : Type} {s : Sh α} {w w' : World} {lo hi : Nat} {A : Option Addr} {xs : List α} (h : RowG s w lo hi A xs) (hk : ∀ b, lo ≤ b → b < hi → w'.heap[b]? = w.heap[b]?) : RowG s w' lo hi A xs :=
  rowG_of_shape ((Sh.row 0 s).R_keep (show (Sh.row 0 s).R w lo hi [.slice A xs.length 0] xs from ⟨A, 0, rfl, h⟩) hk)
theorem RowG.more {α : Type} {s : Sh α} {w : World} {lo hi lo' hi' : Nat} {A : Option Addr} {xs : List α} (h : RowG s w lo hi A xs) (h1 : lo' ≤ lo) (h2 : hi ≤ hi') : RowG s w lo' hi' A xs :=
  rowG_of_shape ((Sh.row 0 s).R_more (show (Sh.row 0 s).R w lo hi [.slice A xs.length 0] xs from ⟨A, 0, rfl, h⟩) h1 h2)
theorem SmT.put {ts : List TyNode} {x : TyNode} (h : SmT ts) (hx : x.2.1.length ≤ 1048576 ∧ ∀ y ∈ x.2.1, y.size ≤ 1048576) (k m : Nat) (hl : ts.length < 1048576) (hkm : k ≤ m) : SmT (ts.take k ++ x :: ts.drop m) := by
  refine ⟨by rw [List.length_append, List.length_cons, List.length_take, List.length_drop]; omega, fun y hy => ?_⟩
  rcases List.mem_append.1 hy with hy | hy
  · exact h.2 y (List.mem_of_mem_take hy)
  · rcases List.mem_cons.1 hy with rfl | hy
    · exact hx
    · exact h.2 y (List.mem_of_mem_drop hy)

set_option maxHeartbeats 8000000 in
set_option maxRecDepth 100000 in
theorem l03Put_any (A : Option Addr) (c lo hi : Nat) (ts : List TyNode) (nm vl : ByteArray) (B : Option Addr) (d lo' hi' : Nat) (ys : List ByteArray) (w : World) (h : RowG shNode w lo hi A ts) (hc : ts.length ≤ c) (hy : StrR w lo' hi' B ys.length ys) (hhi : hi ≤ w.heap.size) (hhi' : hi' ≤ w.heap.size) (hs : SmT ts)
    (hys : ys.length ≤ 1048576 ∧ ∀ y ∈ ys, y.size ≤ 1048576) (hts : ts.length < 120) (hA : (A = none ∧ ts.length = 0 ∧ c = 0) ∨ ∃ b off, A = some ⟨b, off, none⟩) :
    Calls Tryz.prog 54 #[.agg #[.slice A ts.length c], .string nm, .slice B ys.length d, .string vl] w fun e w' => (∃ A' c', e = .returned (.tuple #[.agg #[.slice A' (insOne befP keyT ts (nm, ys, vl)).length c'], .int .i64 0]) ∧ Own shTree w' w.heap.size w'.heap.size [.slice A' (insOne befP keyT ts (nm, ys, vl)).length c'] (insOne befP keyT ts (nm, ys, vl))) ∧ Below w.heap.size w w' := by
  obtain ⟨hp1, hp2⟩ := put_is ts (nm, ys, vl)
  obtain ⟨hk1, hk2⟩ := atK_le ts (nm, ys)
  have hb1 := (Below.refl w.heap.size w).alloc (Nat.le_refl _) (.cells #[.slice A ts.length c] 26)
  have hb2 := hb1.alloc (by simp) (.cells #[.slice none 0 0] 26)
  have B1 := Lib.hid ((Blk.new w 26 #[.slice A ts.length c]).alloc (.cells #[.slice none 0 0] 26))
  have B2 := Lib.hid (show Blk ((w.alloc (.cells #[.slice A ts.length c] 26)).alloc (.cells #[.slice none 0 0] 26)) (w.heap.size + 1) 26 #[.slice none 0 0] from by
    have := Blk.new (w.alloc (.cells #[.slice A ts.length c] 26)) 26 #[.slice none 0 0]
    simpa using this)
  have HAT := Lib.hid (fun W (hb : Below w.heap.size w W) => l03At_any A c lo hi ts nm B d lo' hi' ys W (RowG.keep h (fun b _ q => hb.block b (by omega))) (hy.below hb hhi') (Nat.le_trans hhi hb.size) (Nat.le_trans hhi' hb.size) hs hys)
  have HR := Lib.hid (h.more (Nat.zero_le _) hhi)
  have HY := Lib.hid (hy.more (Nat.zero_le _) hhi')
  have HSM := Lib.hid (fun k m hkm => hs.put (x := (nm, ys, vl)) hys k m (by omega) hkm)
  have HB := Lib.hid hb2
  have HP := Lib.hid (show insOne befP keyT ts (nm, ys, vl) = ts.take (atK ts (nm, ys)) ++ (nm, ys, vl) :: ts.drop (if hasK ts (nm, ys) then atK ts (nm, ys) + 1 else atK ts (nm, ys)) from hp1)
  generalize insOne befP keyT ts (nm, ys, vl) = RES at *
  generalize atK ts (nm, ys) = AT at *
  generalize hasK ts (nm, ys) = HAS at *
  clear h hy hs hys hb1 hb2 hp1 hp2
  go_enter Tryz.func54, Tryz.ntmps54
  go_wp2_with fail
  
  
  
  
  /-BRANCH-/
  refine (HAT.out _ HB.out).mono ?_
  rintro e1 w1 ⟨rfl, hb1⟩
  have hw2 : w.heap.size + 2 ≤ w1.heap.size := by have := hb1.size; simp at this; omega
  have hw1 : w.heap.size ≤ w1.heap.size := by omega
  have B11 := Lib.hid (B1.out.below hb1 (by simp; omega))
  have B21 := Lib.hid (B2.out.below hb1 (by simp))
  have HB1 := Lib.hid (HB.out.trans (hb1.mono HB.out.size))
  have hl1 : w.heap.size < w1.heap.size := by omega
  have HR1 := Lib.hid (RowG.keep HR.out fun b _ q => HB1.out.block b q)
  have HR1A := Lib.hid (RowG.keep HR1.out fun b _ q => ((Below.refl w1.heap.size w1).alloc (Nat.le_refl _) (.cells #[] 32)).block b (by omega))
  have f1 := B11.out.cell
  clear hb1 HB HAT
  cases HAS with
  | false =>
    have i1 : ¬ (120 : Int) ≤ (ts.length : Int) := by omega
    have hkM : AT ≤ ts.length := by omega
    have HPM := Lib.hid (show RES = ts.take AT ++ (nm, ys, vl) :: ts.drop (AT) from HP.out)
    go_wp2_with (at_builtin; refine wpList_app_rdG (s := shNode) rfl (.tmp 29) (.tmp 33) 24 rfl Tryz.underlying24 rfl (by decide) (by decide) infoNode _ w1.heap.size 0 w.heap.size _ [] (ts.take AT) A AT c rfl (RdRow.nil_ (lit0_own w1 w1.heap.size (Nat.le_refl _))) rfl (by rw [List.length_take]; omega) (HR1A.out.take AT) (by rw [List.length_take, List.length_nil]; omega) hw1 (by simp) ?_)
    intro v2 w2 hr2 hb2
    have hr2 : RdRow shNode 32 w2 w1.heap.size 0 w.heap.size v2 (ts.take AT) := hr2
    have hs2 : w1.heap.size ≤ w2.heap.size := Nat.le_trans (by simp) hb2.size
    have HB2 := Lib.hid (((Below.refl w1.heap.size w1).alloc (Nat.le_refl _) (.cells #[] 32)).trans hb2)
    have HR2 := Lib.hid hr2
    have hba := (Below.refl w2.heap.size w2).alloc (Nat.le_refl _) (.cells #[.string nm, .slice B ys.length d, .string vl] 32)
    have HR2A := Lib.hid (hr2.below hba (by omega))
    have HN2 := Lib.hid (show ∀ (j : Nat) (u : Value), ([.string nm, .slice B ys.length d, .string vl] : List Value)[j]? = some u → (w2.alloc (.cells #[.string nm, .slice B ys.length d, .string vl] 32)).cell? ⟨w2.heap.size, 0 + j, none⟩ = some u from fun j u hj => by rw [Nat.zero_add]; exact ((Blk.new w2 32 #[.string nm, .slice B ys.length d, .string vl]).cell j).trans (by simpa using hj))
    have HE2 := Lib.hid (show ∀ j, j < [(nm, ys, vl)].length → shNode.R (w2.alloc (.cells #[.string nm, .slice B ys.length d, .string vl] 32)) 0 w.heap.size (elemAt shNode.k [.string nm, .slice B ys.length d, .string vl] j) ([(nm, ys, vl)].getD j shNode.d) from fun j hj => by
      obtain rfl : j = 0 := by simpa using hj
      exact shNode.R_below (strR_shNode (x := (nm, ys, vl)) (((HY.out.below HB1.out (Nat.le_refl _)).below HB2.out hw1))) hba (by omega))
    have HB2A := Lib.hid (HB2.out.trans (hba.mono hs2))
    have hz2 : (w2.alloc (.cells #[.string nm, .slice B ys.length d, .string vl] 32)).heap.size = w2.heap.size + 1 := by simp
    clear hr2 hb2 hba f1
    go_wp2_with (at_builtin; refine wpList_app_rd (s := shNode) rfl (.tmp 35) (.tmp 40) 24 rfl Tryz.underlying24 rfl (by decide) (by decide) infoNode _ w1.heap.size 0 w.heap.size _ (ts.take AT) [(nm, ys, vl)] w2.heap.size 0 1 [.string nm, .slice B ys.length d, .string vl] rfl HR2A.out rfl rfl HN2.out (by simp [Value.oneCell']) HE2.out (by rw [List.length_take]; simp; omega) hw1 (by rw [hz2]; omega) ?_)
    intro v3 w3 hr3 hb3
    have hs3 : w1.heap.size ≤ w3.heap.size := Nat.le_trans (by rw [hz2]; omega) hb3.size
    have HB3 := Lib.hid (HB2A.out.trans hb3)
    have HR3 := Lib.hid hr3
    have f1 := (B11.out.below HB3.out hl1).cell
    clear hr3 hb3 hz2
    go_upto_region 8 with fail
    have hLL : (ts.take AT ++ [(nm, ys, vl)] ++ ts.drop (AT)) = RES := by rw [HPM.out, List.append_assoc]; rfl
    have HLL := Lib.hid hLL
    have HSL := Lib.hid (show SmT RES by rw [HPM.out]; exact HSM.out AT (AT) (by omega))
    have hlq : (ts.take AT ++ [(nm, ys, vl)]).length + (ts.drop (AT)).length ≤ 1000000000 := by rw [List.length_append, List.length_take, List.length_drop]; simp; omega
    clear hLL
    rcases hA with ⟨rfl, hn0, hc0⟩ | ⟨b, off, rfl⟩
    · have hat0 : AT = 0 := by omega
      subst hc0
      have ja : (AT : Int) = 0 := by omega
      have jn : ts.length = 0 := hn0
      go_wp2_with (at_builtin; refine wpList_app_rdG (s := shNode) rfl (.tmp 45) (.tmp 49) 24 rfl Tryz.underlying24 rfl (by decide) (by decide) infoNode _ w1.heap.size 0 w.heap.size _ (ts.take AT ++ [(nm, ys, vl)]) (ts.drop (AT)) _ _ _ rfl HR3.out rfl (by rw [List.length_drop]; first | done | omega) (by first | exact HRD.out | exact fun hp => absurd hp (by rw [List.length_drop]; omega)) hlq hw1 hs3 ?_)
      intro v4 w4 hr4 hb4
      first | rw [show ts.take AT ++ (nm, ys, vl) :: ts.drop (AT) = RES from HPM.out.symm] at hr4 | rw [show (nm, ys, vl) :: ts = RES by rw [HPM.out, hat0]; rfl] at hr4
      have hs4 : w1.heap.size ≤ w4.heap.size := Nat.le_trans hs3 hb4.size
      have HB4 := Lib.hid (HB3.out.trans hb4)
      obtain ⟨A4, c4, rfl, hg4, -⟩ := hr4.row (Nat.zero_le _) (by omega)
      have HG4 := Lib.hid hg4
      clear hr4 hb4 hg4 f1
      go_wp2_with fail
      refine (l03Own_any A4 c4 0 w4.heap.size RES w4 HG4.out (Nat.le_refl _) HSL.out).mono ?_
      rintro e5 w5 ⟨⟨B5, d5, rfl, ho5⟩, hb5⟩
      have HB5 := Lib.hid (HB4.out.trans (hb5.mono hs4))
      have HO5 := Lib.hid ho5
      have B25 := Lib.hid (B21.out.below HB5.out (by omega))
      have f2 := B25.out.cell
      have z2 := B25.out.frozen
      have hs5 := hb5.size
      clear ho5 hb5
      go_wp2_with fail
      refine bodyPost_ret (v := .tuple #[.agg #[.slice B5 RES.length d5], .int .i64 0]) (by simp [results, Tryz.results54, go_sem, f2]) rfl ⟨⟨B5, d5, rfl, ?_⟩, ?_⟩
      · exact ((show Own shTree w5 w4.heap.size w5.heap.size [.slice B5 RES.length d5] RES from HO5.out).setCell (by dsimp only; omega) _).more (by omega) (by simp [World.setCell])
      · exact (HB1.out.trans (HB5.out.mono hw1)).setCell (by dsimp only; omega) _
    · have HRD := Lib.hid (show RowG shNode w3 0 w.heap.size (some ⟨b, off + (AT) * 3, none⟩) (ts.drop (AT)) from RowG.drop (RowG.keep HR1.out fun b _ q => HB3.out.block b (by omega)) (AT))
      by_cases hMc : AT < c
      · have j1 : (AT : Int) < (c : Int) := by omega
        go_wp2_with (at_builtin; refine wpList_app_rdG (s := shNode) rfl (.tmp 45) (.tmp 49) 24 rfl Tryz.underlying24 rfl (by decide) (by decide) infoNode _ w1.heap.size 0 w.heap.size _ (ts.take AT ++ [(nm, ys, vl)]) (ts.drop (AT)) _ _ _ rfl HR3.out rfl (by rw [List.length_drop]; first | done | omega) (by first | exact HRD.out | exact fun hp => absurd hp (by rw [List.length_drop]; omega)) hlq hw1 hs3 ?_)
        intro v4 w4 hr4 hb4
        first | rw [show ts.take AT ++ (nm, ys, vl) :: ts.drop (AT) = RES from HPM.out.symm] at hr4 | rw [show (nm, ys, vl) :: ts = RES by rw [HPM.out, hat0]; rfl] at hr4
        have hs4 : w1.heap.size ≤ w4.heap.size := Nat.le_trans hs3 hb4.size
        have HB4 := Lib.hid (HB3.out.trans hb4)
        obtain ⟨A4, c4, rfl, hg4, -⟩ := hr4.row (Nat.zero_le _) (by omega)
        have HG4 := Lib.hid hg4
        clear hr4 hb4 hg4 f1
        go_wp2_with fail
        refine (l03Own_any A4 c4 0 w4.heap.size RES w4 HG4.out (Nat.le_refl _) HSL.out).mono ?_
        rintro e5 w5 ⟨⟨B5, d5, rfl, ho5⟩, hb5⟩
        have HB5 := Lib.hid (HB4.out.trans (hb5.mono hs4))
        have HO5 := Lib.hid ho5
        have B25 := Lib.hid (B21.out.below HB5.out (by omega))
        have f2 := B25.out.cell
        have z2 := B25.out.frozen
        have hs5 := hb5.size
        clear ho5 hb5
        go_wp2_with fail
        refine bodyPost_ret (v := .tuple #[.agg #[.slice B5 RES.length d5], .int .i64 0]) (by simp [results, Tryz.results54, go_sem, f2]) rfl ⟨⟨B5, d5, rfl, ?_⟩, ?_⟩
        · exact ((show Own shTree w5 w4.heap.size w5.heap.size [.slice B5 RES.length d5] RES from HO5.out).setCell (by dsimp only; omega) _).more (by omega) (by simp [World.setCell])
        · exact (HB1.out.trans (HB5.out.mono hw1)).setCell (by dsimp only; omega) _
      · have j1 : ¬ (AT : Int) < (c : Int) := by omega
        go_wp2_with (at_builtin; refine wpList_app_rdG (s := shNode) rfl (.tmp 45) (.tmp 49) 24 rfl Tryz.underlying24 rfl (by decide) (by decide) infoNode _ w1.heap.size 0 w.heap.size _ (ts.take AT ++ [(nm, ys, vl)]) (ts.drop (AT)) _ _ _ rfl HR3.out rfl (by rw [List.length_drop]; first | done | omega) (by first | exact HRD.out | exact fun hp => absurd hp (by rw [List.length_drop]; omega)) hlq hw1 hs3 ?_)
        intro v4 w4 hr4 hb4
        first | rw [show ts.take AT ++ (nm, ys, vl) :: ts.drop (AT) = RES from HPM.out.symm] at hr4 | rw [show (nm, ys, vl) :: ts = RES by rw [HPM.out, hat0]; rfl] at hr4
        have hs4 : w1.heap.size ≤ w4.heap.size := Nat.le_trans hs3 hb4.size
        have HB4 := Lib.hid (HB3.out.trans hb4)
        obtain ⟨A4, c4, rfl, hg4, -⟩ := hr4.row (Nat.zero_le _) (by omega)
        have HG4 := Lib.hid hg4
        clear hr4 hb4 hg4 f1
        go_wp2_with fail
        refine (l03Own_any A4 c4 0 w4.heap.size RES w4 HG4.out (Nat.le_refl _) HSL.out).mono ?_
        rintro e5 w5 ⟨⟨B5, d5, rfl, ho5⟩, hb5⟩
        have HB5 := Lib.hid (HB4.out.trans (hb5.mono hs4))
        have HO5 := Lib.hid ho5
        have B25 := Lib.hid (B21.out.below HB5.out (by omega))
        have f2 := B25.out.cell
        have z2 := B25.out.frozen
        have hs5 := hb5.size
        clear ho5 hb5
        go_wp2_with fail
        refine bodyPost_ret (v := .tuple #[.agg #[.slice B5 RES.length d5], .int .i64 0]) (by simp [results, Tryz.results54, go_sem, f2]) rfl ⟨⟨B5, d5, rfl, ?_⟩, ?_⟩
        · exact ((show Own shTree w5 w4.heap.size w5.heap.size [.slice B5 RES.length d5] RES from HO5.out).setCell (by dsimp only; omega) _).more (by omega) (by simp [World.setCell])
        · exact (HB1.out.trans (HB5.out.mono hw1)).setCell (by dsimp only; omega) _
  | true =>
    have hkM : AT + 1 ≤ ts.length := by have := hk2 rfl; omega
    have HPM := Lib.hid (show RES = ts.take AT ++ (nm, ys, vl) :: ts.drop (AT + 1) from HP.out)
    go_wp2_with (at_builtin; refine wpList_app_rdG (s := shNode) rfl (.tmp 29) (.tmp 33) 24 rfl Tryz.underlying24 rfl (by decide) (by decide) infoNode _ w1.heap.size 0 w.heap.size _ [] (ts.take AT) A AT c rfl (RdRow.nil_ (lit0_own w1 w1.heap.size (Nat.le_refl _))) rfl (by rw [List.length_take]; omega) (HR1A.out.take AT) (by rw [List.length_take, List.length_nil]; omega) hw1 (by simp) ?_)
    intro v2 w2 hr2 hb2
    have hr2 : RdRow shNode 32 w2 w1.heap.size 0 w.heap.size v2 (ts.take AT) := hr2
    have hs2 : w1.heap.size ≤ w2.heap.size := Nat.le_trans (by simp) hb2.size
    have HB2 := Lib.hid (((Below.refl w1.heap.size w1).alloc (Nat.le_refl _) (.cells #[] 32)).trans hb2)
    have HR2 := Lib.hid hr2
    have hba := (Below.refl w2.heap.size w2).alloc (Nat.le_refl _) (.cells #[.string nm, .slice B ys.length d, .string vl] 32)
    have HR2A := Lib.hid (hr2.below hba (by omega))
    have HN2 := Lib.hid (show ∀ (j : Nat) (u : Value), ([.string nm, .slice B ys.length d, .string vl] : List Value)[j]? = some u → (w2.alloc (.cells #[.string nm, .slice B ys.length d, .string vl] 32)).cell? ⟨w2.heap.size, 0 + j, none⟩ = some u from fun j u hj => by rw [Nat.zero_add]; exact ((Blk.new w2 32 #[.string nm, .slice B ys.length d, .string vl]).cell j).trans (by simpa using hj))
    have HE2 := Lib.hid (show ∀ j, j < [(nm, ys, vl)].length → shNode.R (w2.alloc (.cells #[.string nm, .slice B ys.length d, .string vl] 32)) 0 w.heap.size (elemAt shNode.k [.string nm, .slice B ys.length d, .string vl] j) ([(nm, ys, vl)].getD j shNode.d) from fun j hj => by
      obtain rfl : j = 0 := by simpa using hj
      exact shNode.R_below (strR_shNode (x := (nm, ys, vl)) (((HY.out.below HB1.out (Nat.le_refl _)).below HB2.out hw1))) hba (by omega))
    have HB2A := Lib.hid (HB2.out.trans (hba.mono hs2))
    have hz2 : (w2.alloc (.cells #[.string nm, .slice B ys.length d, .string vl] 32)).heap.size = w2.heap.size + 1 := by simp
    clear hr2 hb2 hba f1
    go_wp2_with (at_builtin; refine wpList_app_rd (s := shNode) rfl (.tmp 35) (.tmp 40) 24 rfl Tryz.underlying24 rfl (by decide) (by decide) infoNode _ w1.heap.size 0 w.heap.size _ (ts.take AT) [(nm, ys, vl)] w2.heap.size 0 1 [.string nm, .slice B ys.length d, .string vl] rfl HR2A.out rfl rfl HN2.out (by simp [Value.oneCell']) HE2.out (by rw [List.length_take]; simp; omega) hw1 (by rw [hz2]; omega) ?_)
    intro v3 w3 hr3 hb3
    have hs3 : w1.heap.size ≤ w3.heap.size := Nat.le_trans (by rw [hz2]; omega) hb3.size
    have HB3 := Lib.hid (HB2A.out.trans hb3)
    have HR3 := Lib.hid hr3
    have f1 := (B11.out.below HB3.out hl1).cell
    clear hr3 hb3 hz2
    go_upto_region 8 with fail
    have hLL : (ts.take AT ++ [(nm, ys, vl)] ++ ts.drop (AT + 1)) = RES := by rw [HPM.out, List.append_assoc]; rfl
    have HLL := Lib.hid hLL
    have HSL := Lib.hid (show SmT RES by rw [HPM.out]; exact HSM.out AT (AT + 1) (by omega))
    have hlq : (ts.take AT ++ [(nm, ys, vl)]).length + (ts.drop (AT + 1)).length ≤ 1000000000 := by rw [List.length_append, List.length_take, List.length_drop]; simp; omega
    clear hLL
    rcases hA with ⟨rfl, hn0, hc0⟩ | ⟨b, off, rfl⟩
    · exact absurd hkM (by omega)
    · have HRD := Lib.hid (show RowG shNode w3 0 w.heap.size (some ⟨b, off + (AT + 1) * 3, none⟩) (ts.drop (AT + 1)) from RowG.drop (RowG.keep HR1.out fun b _ q => HB3.out.block b (by omega)) (AT + 1))
      by_cases hMc : AT + 1 < c
      · have j1 : ((AT : Int) + 1 : Int) < (c : Int) := by omega
        go_wp2_with (at_builtin; refine wpList_app_rdG (s := shNode) rfl (.tmp 45) (.tmp 49) 24 rfl Tryz.underlying24 rfl (by decide) (by decide) infoNode _ w1.heap.size 0 w.heap.size _ (ts.take AT ++ [(nm, ys, vl)]) (ts.drop (AT + 1)) _ _ _ rfl HR3.out rfl (by rw [List.length_drop]; first | done | omega) (by first | exact HRD.out | exact fun hp => absurd hp (by rw [List.length_drop]; omega)) hlq hw1 hs3 ?_)
        intro v4 w4 hr4 hb4
        first | rw [show ts.take AT ++ (nm, ys, vl) :: ts.drop (AT + 1) = RES from HPM.out.symm] at hr4
        have hs4 : w1.heap.size ≤ w4.heap.size := Nat.le_trans hs3 hb4.size
        have HB4 := Lib.hid (HB3.out.trans hb4)
        obtain ⟨A4, c4, rfl, hg4, -⟩ := hr4.row (Nat.zero_le _) (by omega)
        have HG4 := Lib.hid hg4
        clear hr4 hb4 hg4 f1
        go_wp2_with fail
        refine (l03Own_any A4 c4 0 w4.heap.size RES w4 HG4.out (Nat.le_refl _) HSL.out).mono ?_
        rintro e5 w5 ⟨⟨B5, d5, rfl, ho5⟩, hb5⟩
        have HB5 := Lib.hid (HB4.out.trans (hb5.mono hs4))
        have HO5 := Lib.hid ho5
        have B25 := Lib.hid (B21.out.below HB5.out (by omega))
        have f2 := B25.out.cell
        have z2 := B25.out.frozen
        have hs5 := hb5.size
        clear ho5 hb5
        go_wp2_with fail
        refine bodyPost_ret (v := .tuple #[.agg #[.slice B5 RES.length d5], .int .i64 0]) (by simp [results, Tryz.results54, go_sem, f2]) rfl ⟨⟨B5, d5, rfl, ?_⟩, ?_⟩
        · exact ((show Own shTree w5 w4.heap.size w5.heap.size [.slice B5 RES.length d5] RES from HO5.out).setCell (by dsimp only; omega) _).more (by omega) (by simp [World.setCell])
        · exact (HB1.out.trans (HB5.out.mono hw1)).setCell (by dsimp only; omega) _
      · have j1 : ¬ ((AT : Int) + 1 : Int) < (c : Int) := by omega
        go_wp2_with (at_builtin; refine wpList_app_rdG (s := shNode) rfl (.tmp 45) (.tmp 49) 24 rfl Tryz.underlying24 rfl (by decide) (by decide) infoNode _ w1.heap.size 0 w.heap.size _ (ts.take AT ++ [(nm, ys, vl)]) (ts.drop (AT + 1)) _ _ _ rfl HR3.out rfl (by rw [List.length_drop]; first | done | omega) (by first | exact HRD.out | exact fun hp => absurd hp (by rw [List.length_drop]; omega)) hlq hw1 hs3 ?_)
        intro v4 w4 hr4 hb4
        first | rw [show ts.take AT ++ (nm, ys, vl) :: ts.drop (AT + 1) = RES from HPM.out.symm] at hr4
        have hs4 : w1.heap.size ≤ w4.heap.size := Nat.le_trans hs3 hb4.size
        have HB4 := Lib.hid (HB3.out.trans hb4)
        obtain ⟨A4, c4, rfl, hg4, -⟩ := hr4.row (Nat.zero_le _) (by omega)
        have HG4 := Lib.hid hg4
        clear hr4 hb4 hg4 f1
        go_wp2_with fail
        refine (l03Own_any A4 c4 0 w4.heap.size RES w4 HG4.out (Nat.le_refl _) HSL.out).mono ?_
        rintro e5 w5 ⟨⟨B5, d5, rfl, ho5⟩, hb5⟩
        have HB5 := Lib.hid (HB4.out.trans (hb5.mono hs4))
        have HO5 := Lib.hid ho5
        have B25 := Lib.hid (B21.out.below HB5.out (by omega))
        have f2 := B25.out.cell
        have z2 := B25.out.frozen
        have hs5 := hb5.size
        clear ho5 hb5
        go_wp2_with fail
        refine bodyPost_ret (v := .tuple #[.agg #[.slice B5 RES.length d5], .int .i64 0]) (by simp [results, Tryz.results54, go_sem, f2]) rfl ⟨⟨B5, d5, rfl, ?_⟩, ?_⟩
        · exact ((show Own shTree w5 w4.heap.size w5.heap.size [.slice B5 RES.length d5] RES from HO5.out).setCell (by dsimp only; omega) _).more (by omega) (by simp [World.setCell])
        · exact (HB1.out.trans (HB5.out.mono hw1)).setCell (by dsimp only; omega) _

end Go.Proofs.YtfibjcaidnofmaaGreatDoor

