/- Walks: toSiteAct, szSiteAct, eqSiteAct. -/
import Derived.Test.YtcjaaknnfohllaaGreatDoorSlices
import Derived.Test.YtcjaaknnfohllaaGreatDoorActDef
namespace Go.Proofs.YtcjaaknnfohllaaGreatDoor
open Go.RowKit

set_option maxHeartbeats 1000000 in
set_option maxRecDepth 100000 in
theorem toSiteAct_any (x : Act) (v : Value) (lo hi : Nat) (w : World) (hx : ActR w lo hi v x) (hhi : hi ≤ w.heap.size) (hs : ActSmall x) :
    Calls Tryz.prog 30 #[v] w fun e w' => ∃ v', e = .returned v' ∧ ActR w' w.heap.size w'.heap.size v' x ∧ Below w.heap.size w w' := by
  obtain ⟨k, a, r, l, xargs, xin, xkeep⟩ := x
  obtain ⟨A, c, B, d, C, e, rfl, hA, hB, hC⟩ := hx
  obtain ⟨hs1, hs2, hs3, hs4, hs5, hs6, hs7⟩ := hs
  dsimp only at *
  clear hs6 hs7
  have HA := Lib.hid hA
  have HB := Lib.hid hB
  have HC := Lib.hid hC
  clear hA hB hC
  go_enter Tryz.func30, Tryz.ntmps30
  go_wp2_with fail
  have T0 := Three.start w 25 30 30 #[.int .i64 k, .int .i64 a, .string r, .string l, .slice A xargs.length c, .slice B xin.length d, .slice C xkeep.length e]
    #[.int .i64 0, .int .i64 0, .string ⟨#[]⟩, .string ⟨#[]⟩, .slice none 0 0, .slice none 0 0, .slice none 0 0] #[.int .i64 k, .int .i64 a, .string r, .string l, .slice none 0 0, .slice none 0 0, .slice none 0 0]
  refine (toStringS_any _ _ _ lo hi xargs _ (HA.out.below T0.2.2.2 hhi) (Nat.le_trans hhi T0.2.2.2.size) hs3).mono ?_
  rintro e1 w1 ⟨v1, rfl, ⟨⟨A1, c1, rfl⟩, ho1⟩, hb1⟩
  have T1 := T0.call hb1
  have ho1' := own_mono (base' := w.heap.size + 1 + 1 + 1) ho1 (by simp)
  clear T0 hb1 ho1
  have f0 := T1.1.cell
  have f2 := T1.2.2.1.cell
  have z2 := T1.2.2.1.frozen
  have TT := Lib.hid T1; clear T1
  have O1 := Lib.hid (ownsRow_setCell_below ho1' (a := ⟨w.heap.size + 1 + 1, 4, none⟩) (by simp) (.slice A1 xargs.length c1)); clear ho1'
  go_wp2_with fail
  clear f0 f2 z2
  have T1 := TT.out.store2 4 (.slice A1 xargs.length c1); clear TT
  refine (toStringS_any _ _ _ lo hi xin _ (HB.out.below T1.2.2.2 hhi) (Nat.le_trans hhi T1.2.2.2.size) hs4).mono ?_
  rintro e2 w2 ⟨v2, rfl, ⟨⟨A2, c2, rfl⟩, ho2⟩, hb2⟩
  have T2 := T1.call hb2
  have ho1 := own_below O1.out hb2
  have ho2' := own_mono (base' := w.heap.size + 1 + 1 + 1) ho2 (by have := T1.2.2.1.lt; omega)
  clear T1 hb2 O1 ho2
  have f0 := T2.1.cell
  have f2 := T2.2.2.1.cell
  have z2 := T2.2.2.1.frozen
  have TT := Lib.hid T2; clear T2
  have O1 := Lib.hid (ownsRow_setCell_below ho1 (a := ⟨w.heap.size + 1 + 1, 5, none⟩) (by simp) (.slice A2 xin.length c2)); clear ho1
  have O2 := Lib.hid (ownsRow_setCell_below ho2' (a := ⟨w.heap.size + 1 + 1, 5, none⟩) (by simp) (.slice A2 xin.length c2)); clear ho2'
  go_wp2_with fail
  clear f0 f2 z2
  have T1 := TT.out.store2 5 (.slice A2 xin.length c2); clear TT
  refine (toInt64S_any _ _ _ lo hi xkeep _ (HC.out.below T1.2.2.2 hhi) (Nat.le_trans hhi T1.2.2.2.size) hs5).mono ?_
  rintro e3 w3 ⟨v3, rfl, ⟨⟨A3, c3, rfl⟩, ho3⟩, hb3⟩
  have T3 := T1.call hb3
  have ho1 := own_below O1.out hb3
  have ho2 := own_below O2.out hb3
  have ho3' := own_mono (base' := w.heap.size + 1 + 1 + 1) ho3 (by have := T1.2.2.1.lt; omega)
  clear T1 hb3 O1 O2 ho3
  have f0 := T3.1.cell
  have f1 := T3.2.1.cell
  have z1 := T3.2.1.frozen
  have f2 := T3.2.2.1.cell
  have z2 := T3.2.2.1.frozen
  have TT := Lib.hid T3; clear T3
  have O1 := Lib.hid ho1; have O2 := Lib.hid ho2; have O3 := Lib.hid ho3'; clear ho1 ho2 ho3'
  go_wp2_with fail
  refine bodyPost_ret (v := .agg #[.int .i64 k, .int .i64 a, .string r, .string l, .slice A1 xargs.length c1, .slice A2 xin.length c2, .slice A3 xkeep.length c3]) (by simp [results, Tryz.results30, go_sem, f1]) rfl ⟨_, rfl, ⟨A1, c1, A2, c2, A3, c3, rfl, ?_, ?_, ?_⟩, ?_⟩
  · refine (RowR.of_own (e := 9) (c := c1) (?_ : World.ownsRow _ (w.heap.size + 1 + 1 + 1) _ _ _ _ _)).more (by omega) (Nat.le_refl _)
    iterate 8 (with_reducible refine ownsRow_setCell_below ?_ (by simp; try omega) _)
    exact O1.out
  · refine (RowR.of_own (e := 9) (c := c2) (?_ : World.ownsRow _ (w.heap.size + 1 + 1 + 1) _ _ _ _ _)).more (by omega) (Nat.le_refl _)
    iterate 8 (with_reducible refine ownsRow_setCell_below ?_ (by simp; try omega) _)
    exact O2.out
  · refine (RowR.of_own (e := 2) (c := c3) (?_ : World.ownsRow _ (w.heap.size + 1 + 1 + 1) _ _ _ _ _)).more (by omega) (Nat.le_refl _)
    iterate 8 (with_reducible refine ownsRow_setCell_below ?_ (by simp; try omega) _)
    exact O3.out
  · iterate 8 (with_reducible refine Below.setCell ?_ (by simp; try omega) _)
    exact TT.out.2.2.2

theorem szStringS_m (A : Option Addr) (n c lo hi : Nat) (left : Int) (xs : List ByteArray) (w : World) (ha : StrR w lo hi A n xs) (hn : n ≤ 9223372036854775807) (hl0 : 0 ≤ left) (hl : left ≤ 1048576) (hb : ∀ x ∈ xs, x.size ≤ 9223372036854775807) :
    Calls Tryz.prog 75 #[.slice A n c, .int .i64 left] w fun e w' => ∃ m, e = .returned (.int .i64 m) ∧ Left left (costStrs xs) m ∧ w = w' := by
  obtain ⟨k, rfl⟩ := Int.eq_ofNat_of_zero_le hl0
  refine (szStringS_any A n c lo hi k xs w ha hn (by omega) hb).mono fun e w' ⟨he, hw⟩ => ⟨_, he, ?_, hw.symm⟩
  unfold leftStrs Left costStrs
  split
  · right; omega
  · left; rfl

theorem szInt64S_m (A : Option Addr) (n c : Nat) (left : Int) (w : World) (hn : n ≤ 9223372036854775807) (hl0 : 0 ≤ left) (hl : left ≤ 1048576) :
    Calls Tryz.prog 76 #[.slice A n c, .int .i64 left] w fun e w' => ∃ m, e = .returned (.int .i64 m) ∧ Left left n m ∧ w = w' := by
  obtain ⟨k, rfl⟩ := Int.eq_ofNat_of_zero_le hl0
  refine (szInt64S_any A n c k w hn (by omega)).mono fun e w' ⟨he, hw⟩ => ⟨_, he, ?_, hw.symm⟩
  unfold leftInts Left
  split
  · right; omega
  · left; rfl

def costAct (x : Act) : Nat := x.r.size + x.l.size + costStrs x.args + costStrs x.input + x.keep.length

/-- Each list and each text of the argument is within the form's reach. -/
def ActReach (x : Act) : Prop := x.r.size ≤ 9223372036854775807 ∧ x.l.size ≤ 9223372036854775807 ∧ x.args.length ≤ 9223372036854775807 ∧ x.input.length ≤ 9223372036854775807 ∧ x.keep.length ≤ 9223372036854775807 ∧
  (∀ y ∈ x.args, y.size ≤ 9223372036854775807) ∧ (∀ y ∈ x.input, y.size ≤ 9223372036854775807)

theorem ActSmall.of_cost {x : Act} (h : costAct x ≤ 1048576) : ActSmall x := by
  unfold costAct costStrs at h
  exact ⟨by omega, by omega, by omega, by omega, by omega, fun y hy => by have := mem_le_sizeAll hy; omega, fun y hy => by have := mem_le_sizeAll hy; omega⟩

set_option maxHeartbeats 1000000 in
set_option maxRecDepth 100000 in
theorem szSiteAct_any (x : Act) (v : Value) (lo hi : Nat) (left : Int) (w : World) (hx : ActR w lo hi v x) (hhi : hi ≤ w.heap.size) (hr : ActReach x) (hl0 : 0 ≤ left) (hl : left ≤ 1048576) :
    Calls Tryz.prog 26 #[v, .int .i64 left] w fun e w' => ∃ m, e = .returned (.int .i64 m) ∧ Left left (costAct x) m ∧ Below w.heap.size w w' := by
  obtain ⟨k, a, r, l, xargs, xin, xkeep⟩ := x
  obtain ⟨A, c, B, d, C, e, rfl, hA, hB, hC⟩ := hx
  obtain ⟨h1, h2, h3, h4, h5, h6, h7⟩ := hr
  dsimp only at *
  have hbo := fun o => (Below.refl w.heap.size w).alloc (Nat.le_refl _) o
  have HA := Lib.hid (fun o => hA.below (hbo o) hhi)
  have HB := Lib.hid (fun o => hB.below (hbo o) hhi)
  have HD := Lib.hid hbo
  have H6 := Lib.hid h6
  have H7 := Lib.hid h7
  clear hA hB hC hbo h6 h7
  by_cases g1 : left - (r.size : Int) < 0
  · go_enter Tryz.func26, Tryz.ntmps26
    go_wp2_with fail
    go_ret
    exact ⟨_, rfl, .inl rfl, HD.out _⟩
  by_cases g2 : left - (r.size : Int) - (l.size : Int) < 0
  · go_enter Tryz.func26, Tryz.ntmps26
    go_wp2_with fail
    go_ret
    exact ⟨_, rfl, .inl rfl, HD.out _⟩
  go_enter Tryz.func26, Tryz.ntmps26
  go_wp2_with fail
  refine (szStringS_m _ _ _ lo hi _ xargs _ (HA.out _) (by omega) (by omega) (by omega) H6.out).mono ?_
  rintro e1 w1 ⟨m1, rfl, hm1, rfl⟩
  rcases hm1 with rfl | ⟨hm0, hm1⟩
  · go_wp2_with fail
    go_ret
    exact ⟨_, rfl, .inl rfl, HD.out _⟩
  have n1 : ¬ (m1 < 0) := by omega
  have HM1 := Lib.hid hm1
  have hm1' : m1 ≤ left := by omega
  clear hm1
  go_wp2_with fail
  refine (szStringS_m _ _ _ lo hi _ xin _ (HB.out _) (by omega) (by omega) (by omega) H7.out).mono ?_
  rintro e2 w2 ⟨m2, rfl, hm2, rfl⟩
  rcases hm2 with rfl | ⟨hm20, hm2⟩
  · go_wp2_with fail
    go_ret
    exact ⟨_, rfl, .inl rfl, HD.out _⟩
  have n2 : ¬ (m2 < 0) := by omega
  have HM2 := Lib.hid hm2
  have hm2' : m2 ≤ left := by omega
  clear hm2
  go_wp2_with fail
  refine (szInt64S_m _ _ _ _ _ (by omega) (by omega) (by omega)).mono ?_
  rintro e3 w3 ⟨m3, rfl, hm3, rfl⟩
  rcases hm3 with rfl | ⟨hm30, hm3⟩
  · go_wp2_with fail
    go_ret
    exact ⟨_, rfl, .inl rfl, HD.out _⟩
  have n3 : ¬ (m3 < 0) := by omega
  have HM3 := Lib.hid hm3
  clear hm3
  go_wp2_with fail
  go_ret
  refine ⟨_, rfl, .inr ⟨hm30, ?_⟩, HD.out _⟩
  have := HM1.out
  have := HM2.out
  have := HM3.out
  unfold costAct
  dsimp only
  omega

set_option maxHeartbeats 1000000 in
set_option maxRecDepth 100000 in
/-- Two values of one operation: eqSiteAct says yes. -/
theorem eqSiteAct_same (x : Act) (v v' : Value) (lo hi lo' hi' : Nat) (w : World) (hx : ActR w lo hi v x) (hx' : ActR w lo' hi' v' x) (hhi : hi ≤ w.heap.size) (hhi' : hi' ≤ w.heap.size) (hs : ActSmall x) :
    Calls Tryz.prog 39 #[v, v'] w fun e w' => e = .returned (.bool true) ∧ Below w.heap.size w w' := by
  obtain ⟨k, a, r, l, xargs, xin, xkeep⟩ := x
  obtain ⟨A, c, B, d, C, e, rfl, hA, hB, hC⟩ := hx
  obtain ⟨A', c', B', d', C', e', rfl, hA', hB', hC'⟩ := hx'
  obtain ⟨hs1, hs2, hs3, hs4, hs5, hs6, hs7⟩ := hs
  dsimp only at *
  clear hs6 hs7
  have hb2 := fun o o' => ((Below.refl w.heap.size w).alloc (Nat.le_refl _) o).alloc (by simp) o'
  have HD := Lib.hid hb2
  have HA := Lib.hid (fun o o' => And.intro (hA.below (hb2 o o') hhi) (hA'.below (hb2 o o') hhi'))
  have HB := Lib.hid (fun o o' q => And.intro ((hB.below (hb2 o o') hhi).drewN q) ((hB'.below (hb2 o o') hhi').drewN q))
  have HC := Lib.hid (fun o o' q => And.intro ((hC.below (hb2 o o') hhi).drewN q) ((hC'.below (hb2 o o') hhi').drewN q))
  clear hA hA' hB hB' hC hC' hb2
  go_enter Tryz.func39, Tryz.ntmps39
  go_wp2_with fail
  refine (eqStringS_any _ _ _ _ _ _ lo hi lo' hi' xargs xargs _ (HA.out _ _).1 (HA.out _ _).2 (by omega) (by omega)).mono ?_
  rintro e1 w1 ⟨rfl, q1, rfl⟩
  rw [decide_eq_true rfl]
  go_wp2_with fail
  refine (eqStringS_any _ _ _ _ _ _ lo hi lo' hi' xin xin _ (HB.out _ _ _).1 (HB.out _ _ _).2 (by omega) (by omega)).mono ?_
  rintro e2 w2 ⟨rfl, q2, rfl⟩
  rw [decide_eq_true rfl]
  go_wp2_with fail
  refine (eqInt64S_any _ _ _ _ _ _ lo hi lo' hi' xkeep xkeep _ (HC.out _ _ _).1 (HC.out _ _ _).2 (by omega) (by omega)).mono ?_
  rintro e3 w3 ⟨rfl, hb3⟩
  rw [decide_eq_true rfl]
  have HB3 := Lib.hid hb3; clear hb3
  go_wp2_with fail
  go_ret
  refine ⟨rfl, ?_⟩
  have h0 := HD.out (.cells #[.int .i64 k, .int .i64 a, .string r, .string l, .slice A xargs.length c, .slice B xin.length d, .slice C xkeep.length e] 30) (.cells #[.int .i64 k, .int .i64 a, .string r, .string l, .slice A' xargs.length c', .slice B' xin.length d', .slice C' xkeep.length e'] 30)
  exact (h0.trans ((below_drewN' _ _).mono h0.size)).trans (HB3.out.mono h0.size)

end Go.Proofs.YtcjaaknnfohllaaGreatDoor
