/- The laws' helpers on drawn bytes: b10At, b10Long, b10Texts. -/
import Derived.Test.YtmeholhmadeehaaGreatDoorJoinFLAs
import Derived.Test.YtmeholhmadeehaaGreatDoorJoinFLAo
import Derived.Test.YtmeholhmadeehaaGreatDoorJoinFLAl
import Derived.Shelf.Spec.SlicesInsertGrow
import Derived.Test.YtmeholhmadeehaaGreatDoorJoinFLAm
namespace Go.Proofs.YtmeholhmadeehaaGreatDoor
open Go.RowKit

set_option maxHeartbeats 4000000 in
set_option maxRecDepth 100000 in
theorem b10Long_any (A B : Option Addr) (n c m d : Nat) (w : World) :
    Calls Tryz.prog 12 #[.slice A n c, .slice B m d] w fun e w' => e = .returned (.bool (decide (1048576 < n) || decide (1048576 < m))) ∧ Below w.heap.size w w' := by
  by_cases h1 : 1048576 < n
  · have t1 : (1048576 : Int) < (n : Int) := by omega
    go_enter Tryz.func12, Tryz.ntmps12
    go_wp2_with fail
    go_ret
    exact ⟨by simp [h1], Below.refl _ _⟩
  · have t1 : ¬ (1048576 : Int) < (n : Int) := by omega
    by_cases h2 : 1048576 < m
    · have t2 : (1048576 : Int) < (m : Int) := by omega
      go_enter Tryz.func12, Tryz.ntmps12
      go_wp2_with fail
      go_ret
      exact ⟨by simp [h2], Below.refl _ _⟩
    · have t2 : ¬ (1048576 : Int) < (m : Int) := by omega
      go_enter Tryz.func12, Tryz.ntmps12
      go_wp2_with fail
      go_ret
      exact ⟨by simp [h1, h2], Below.refl _ _⟩

set_option maxHeartbeats 4000000 in
set_option maxRecDepth 100000 in
theorem b10At_any (lo hi : Nat) (A : Option Addr) (n c : Nat) (i : Nat) (m : Int) (w : World) (hb : BytesR w lo hi A n) (hi : i ≤ 1000000) (hm : m ≤ 4294967296) :
    Calls Tryz.prog 14 #[.slice A n c, .int .i64 i, .int .i64 m] w fun e w' => ∃ r : Int, e = .returned (.int .i64 r) ∧ 0 ≤ r ∧ (1 ≤ m → r < m) ∧ Below w.heap.size w w' := by
  by_cases h1 : m ≤ 1
  · go_enter Tryz.func14, Tryz.ntmps14
    go_wp2_with fail
    go_ret
    exact ⟨0, rfl, Int.le_refl _, fun h => by omega, Below.refl _ _⟩
  · have hm0 : ¬ m = 0 := by omega
    by_cases h2 : i < n
    · obtain ⟨b, off, rfl, hb1, hb2, hcell⟩ := hb (by omega)
      obtain ⟨z, hz, hc⟩ := hcell i h2
      have hr0 : (0 : Int) ≤ (z : Int) % m := Int.emod_nonneg _ (by omega)
      have hr1 : (z : Int) % m < m := Int.emod_lt_of_pos _ (by omega)
      have HR := Lib.hid (And.intro hr0 hr1)
      have t2 : (i : Int) < (n : Int) := by omega
      clear hcell hr0 hr1 hb
      go_enter Tryz.func14, Tryz.ntmps14
      go_wp2_with fail
      go_ret
      exact ⟨_, rfl, HR.out.1, fun _ => HR.out.2, Below.refl _ _⟩
    · have hr0 : (0 : Int) ≤ ((i : Int) * 37 + 11) % m := Int.emod_nonneg _ (by omega)
      have hr1 : ((i : Int) * 37 + 11) % m < m := Int.emod_lt_of_pos _ (by omega)
      have HR := Lib.hid (And.intro hr0 hr1)
      have t2 : ¬ (i : Int) < (n : Int) := by omega
      clear hr0 hr1
      go_enter Tryz.func14, Tryz.ntmps14
      go_wp2_with fail
      go_ret
      exact ⟨_, rfl, HR.out.1, fun _ => HR.out.2, Below.refl _ _⟩

end Go.Proofs.YtmeholhmadeehaaGreatDoor

/- slices.Insert at files, one file: walked. -/
namespace Go.Proofs.YtmeholhmadeehaaGreatDoor
open Go.RowKit

theorem run_copy_at {P : Program} (w : World) (dT sT ty elem : TypeId) (i : TypeInfo) (b o dLen dCap : Nat) (a : Addr) (sLen sCap m : Nat) (cs : List Value)
    (hu : P.underlying dT = some (.slice elem)) (hi : P.info? elem = some i) (hm : Nat.min sLen dLen = m) (hn : cs.length = m * i.size)
    (hsrc : ∀ j v, cs[j]? = some v → w.cell? (a.add j) = some v) (hc : ∀ j, j < cs.length → (w.cell? ⟨b, o + j, none⟩).isSome = true) (hf : ∀ j, j < cs.length → w.frozen? ⟨b, o + j, none⟩ = false) (h1 : ∀ v ∈ cs, v.oneCell' = true) :
    (Builtin.copy_ #[dT, sT] ty #[.slice (some ⟨b, o, none⟩) dLen dCap, .slice (some a) sLen sCap]).run P w = .ok (goInt m) (w.setCells b o cs) := by
  have hl := run_loadCells_list (P := P) w a cs hsrc
  have hst := run_storeCells_cells (P := P) b o cs 0 w (by simpa using hc) (by simpa using hf) h1
  rw [hn] at hl
  simp [Builtin.copy_, run_underlying hu, Builtin.lenOf, Builtin.firstCells, sizeOf, typeInfo, hi, hm, hl, hst]

theorem ins_get {α : Type} (l m : List α) (a q : Nat) (h : a ≤ l.length) : (l.take a ++ m ++ l.drop a)[q]? = if q < a then l[q]? else if q < a + m.length then m[q - a]? else l[q - m.length]? := by
  have ha : (l.take a).length = a := by rw [List.length_take]; omega
  by_cases h1 : q < a
  · rw [if_pos h1, List.append_assoc, List.getElem?_append_left (by omega), List.getElem?_take, if_pos h1]
  · rw [if_neg h1]
    by_cases h2 : q < a + m.length
    · rw [if_pos h2, List.getElem?_append_left (by rw [List.length_append]; omega), List.getElem?_append_right (by omega), ha]
    · rw [if_neg h2, List.getElem?_append_right (by rw [List.length_append]; omega), List.getElem?_drop, List.length_append, ha]
      congr 1; omega

abbrev FnIns : Nat := 52

/-- What slices.Insert gives. -/
def InsPost (w : World) (base n k : Nat) (v : Value) (fl vs : List Value) (e : Ending) (w' : World) : Prop :=
  ∃ g' cap', e = .returned (.slice (some ⟨g', 0, none⟩) (n + 1) cap') ∧ w'.ownsRow base 55 4 (.slice (some ⟨g', 0, none⟩) (n + 1) cap') (n + 1) (fl.take (k * 4) ++ vs ++ fl.drop (k * 4)) ∧ w.grownBy w' v.ownBlock ∧ (v.ownBlock = some g' ∨ w.heap.size ≤ g')

theorem ins_row {w' : World} {base n k g cap : Nat} {fl vs : List Value} {cs : Array Value} (hfl : fl.length = n * 4) (hk : k ≤ n) (hv : vs.length = 4) (hb : base ≤ g) (hB : Blk w' g 55 cs) (hs : cs.size = cap * 4) (hn : n + 1 ≤ cap) (hm : cap ≤ maxLen)
    (hc : ∀ q, q < (n + 1) * 4 → cs[q]? = if q < k * 4 then fl[q]? else if q < k * 4 + 4 then vs[q - k * 4]? else fl[q - 4]?) :
    w'.ownsRow base 55 4 (.slice (some ⟨g, 0, none⟩) (n + 1) cap) (n + 1) (fl.take (k * 4) ++ vs ++ fl.drop (k * 4)) := by
  refine ⟨?_, .inr ⟨g, cap, cs, rfl, hb, hB, hn, hm, hs, ?_⟩⟩
  · rw [List.length_append, List.length_append, List.length_take, List.length_drop, hv, hfl]; omega
  · apply List.ext_getElem?
    intro q
    rw [ins_get fl vs (k * 4) q (by omega), hv]
    by_cases hq : q < (n + 1) * 4
    · rw [List.getElem?_take, if_pos hq, Array.getElem?_toList, hc q hq]
    · rw [List.getElem?_take, if_neg hq, if_neg (by omega), if_neg (by omega), List.getElem?_eq_none (by omega)]

set_option maxHeartbeats 4000000 in
set_option maxRecDepth 100000 in
theorem insertFil_end (v : Value) (n vb vc base : Nat) (fl vs : List Value) (w : World) (hown : w.ownsRow base 55 4 v n fl) (hn : n ≤ 1000) (hbase : base ≤ w.heap.size)
    (hvs : Blk w vb 55 vs.toArray) (hvl : vs.length = 4) (h1v : ∀ u ∈ vs, u.oneCell' = true) :
    Calls Tryz.prog FnIns #[v, .int .i64 n, .slice (some ⟨vb, 0, none⟩) 1 vc] w (InsPost w base n n v fl vs) := by
  obtain ⟨i0, hi0, hz0, hz1, hz2⟩ := info_parts infoFile
  have hfl : fl.length = n * 4 := hown.1
  have HFL := Lib.hid (show fl.take (n * 4) ++ vs ++ fl.drop (n * 4) = fl ++ vs by rw [← hfl, List.take_length, List.drop_length, List.append_nil])
  have HO := Lib.hid hown
  have HNW := Lib.hid (show ∀ j u, vs[j]? = some u → w.cell? ((⟨vb, 0, none⟩ : Addr).add j) = some u from fun j u hj => by rw [Addr.add_lit, Nat.zero_add, hvs.cell]; simpa using hj)
  have HON := Lib.hid h1v; have HVL := Lib.hid (show vs.length = 1 * 4 from hvl); have HB := Lib.hid hbase
  have H63 := Lib.hid (show n + 1 ≤ maxLen by unfold maxLen; omega)
  have H64 := Lib.hid (show (n + 1) * 64 ≤ 140737488355328 by omega)
  have HFIN := Lib.hid (fun g cap w' (h1 : w'.ownsRow base 55 4 (.slice (some ⟨g, 0, none⟩) (n + 1) cap) (n + 1) (fl ++ vs)) (h2 : w.grownBy w' v.ownBlock) (h3 : v.ownBlock = some g ∨ g = w.heap.size) =>
    show InsPost w base n n v fl vs (.returned (.slice (some ⟨g, 0, none⟩) (n + 1) cap)) w' from ⟨g, cap, rfl, by rw [HFL.out]; exact h1, h2, h3.imp id (fun h => Nat.le_of_eq h.symm)⟩)
  rcases hown.2 with ⟨hv, hn0⟩ | ⟨g, cap, cur, hv, hg, hh, hnc, hm, hsz, htk⟩
  · subst hv hn0
    clear hfl hown hvs hvl h1v hbase hn
    go_enter Tryz.func52, Tryz.ntmps52
    go_wp2_with (at_builtin; refine wpList_append_lies _ (by rfl) (.tmp 23) (.tmp 24) 30 (by rfl) base 55 i0 _ 4 64 Tryz.underlying30 hi0 hz0 hz1 hz2 rfl (by decide) (.slice none 0 0) 0 fl (by rfl) HO.out ⟨vb, 0, none⟩ 1 vc vs (by rfl) HVL.out HNW.out HON.out (by omega) H63.out H64.out HB.out _ rfl ?_; intro g cap w6 hr6 hg6 hat6 hlt6; have HE := Lib.hid (HFIN.out g cap w6 hr6 hg6 hat6); clear hr6 hg6 hat6)
    go_ret
    exact HE.out
  · subst hv
    unfold maxLen at hm
    clear hfl hown hvs hvl h1v hbase hn hh hsz htk
    go_enter Tryz.func52, Tryz.ntmps52
    go_wp2_with (at_builtin; refine wpList_append_lies _ (by rfl) (.tmp 23) (.tmp 24) 30 (by rfl) base 55 i0 _ 4 64 Tryz.underlying30 hi0 hz0 hz1 hz2 rfl (by decide) (.slice (some ⟨g, 0, none⟩) n cap) n fl (by rfl) HO.out ⟨vb, 0, none⟩ 1 vc vs (by rfl) HVL.out HNW.out HON.out (by omega) H63.out H64.out HB.out _ rfl ?_; intro g cap w6 hr6 hg6 hat6 hlt6; have HE := Lib.hid (HFIN.out g cap w6 hr6 hg6 hat6); clear hr6 hg6 hat6)
    all_goals (go_ret; exact HE.out)

theorem shape_blk {w : World} {g : Nat} {t : TypeId} {cs : Array Value} (h : Blk w g t cs) : w.shape? g = some (t, cs.size) := by
  unfold Blk at h
  simp [World.shape?, h]

set_option maxHeartbeats 8000000 in
set_option maxRecDepth 100000 in
theorem insertFil_shift (g n cap k vb vc base : Nat) (fl vs : List Value) (cur : Array Value) (w : World) (hB : Blk w g 55 cur) (hsz : cur.size = cap * 4) (htk : cur.toList.take (n * 4) = fl) (hbg : base ≤ g) (hk : k < n) (hroom : n + 1 ≤ cap) (hcap : cap ≤ 9223372036854775807) (hn : n ≤ 1000)
    (hvs : Blk w vb 55 vs.toArray) (hne : vb ≠ g) (hvl : vs.length = 4) (h1v : ∀ u ∈ vs, u.oneCell' = true) (h1f : ∀ u ∈ fl, u.oneCell' = true) :
    Calls Tryz.prog FnIns #[.slice (some ⟨g, 0, none⟩) n cap, .int .i64 k, .slice (some ⟨vb, 0, none⟩) 1 vc] w (InsPost w base n k (.slice (some ⟨g, 0, none⟩) n cap) fl vs) := by
  obtain ⟨i0, hi0, hz0, hz1, hz2⟩ := info_parts infoFile
  have hfl : fl.length = n * 4 := by rw [← htk, List.length_take, Array.length_toList, hsz]; omega
  have hcur : ∀ q, q < n * 4 → cur[q]? = fl[q]? := fun q hq => by rw [← htk, List.getElem?_take, if_pos hq, Array.getElem?_toList]
  have hdl : (fl.drop (k * 4)).length = (n - k) * 4 := by rw [List.length_drop, hfl]; omega
  have hov : ∀ lb cb, (callFunc 89 #[.slice (some ⟨vb, 0, none⟩) 1 vc, .slice (some ⟨g, (k + 1) * 4, none⟩) lb cb]).run Tryz.prog w = .ok (.value (.bool false)) w := fun lb cb => by
    rw [run_callFunc_extern Tryz.func89 (by kernel_rfl) (by kernel_rfl) (by kernel_rfl) (e := Extern.SlicesOverlaps.overlaps #[30, 30] #[4]) (by kernel_rfl),
      Lib.run_overlaps_apart w 30 4 55 Tryz.underlying30 4 (fun W => by kernel_rfl) ⟨vb, 0, none⟩ ⟨g, (k + 1) * 4, none⟩ 1 vc lb cb hne 55 55 _ _ (shape_blk hvs) (shape_blk hB) (by omega) (hvs.frozen _) (hvs.frozen _)]
    rfl
  obtain ⟨W1, hW1⟩ : ∃ W1, W1 = w.drew.setCells g ((k + 1) * 4) (fl.drop (k * 4)) := ⟨_, rfl⟩
  obtain ⟨c1, hB1, hs1, hc1⟩ := Blk.setCells (fl.drop (k * 4)) ((k + 1) * 4) w.drew cur (hB.drewN 1)
  have o1 := setCells_same g (fl.drop (k * 4)) ((k + 1) * 4) w.drew
  rw [← hW1] at hB1 o1
  have hV1 : Blk W1 vb 55 vs.toArray := (o1.2.2.2.2 vb hne).trans hvs
  have hcp1 : ∀ ty dc sc, (Builtin.copy_ #[30, 30] ty #[.slice (some ⟨g, (k + 1) * 4, none⟩) (n - k) dc, .slice (some ⟨g, k * 4, none⟩) (n + 1 - k) sc]).run Tryz.prog w.drew = .ok (goInt ((n - k : Nat) : Int)) W1 := fun ty dc sc => by
    rw [hW1]
    exact run_copy_at w.drew _ _ ty 55 i0 g ((k + 1) * 4) (n - k) dc ⟨g, k * 4, none⟩ (n + 1 - k) sc (n - k) (fl.drop (k * 4)) Tryz.underlying30 hi0 (by simp only [Nat.min_def]; split <;> omega) (by rw [hdl, hz1])
      (fun j v hj => by
        rw [Addr.add_lit]
        rw [List.getElem?_drop] at hj
        have hq : k * 4 + j < n * 4 := by have := (List.getElem?_eq_some_iff.1 hj).1; omega
        exact ((hB.cell _).trans (hcur _ hq)).trans hj)
      (fun j hj => by
        show (w.cell? _).isSome = true
        rw [hB.cell, Array.getElem?_eq_getElem (by omega)]; rfl)
      (fun j _ => hB.frozen _) (fun v hv => h1f v (List.mem_of_mem_drop hv))
  have hcp2 : ∀ ty dc, (Builtin.copy_ #[30, 30] ty #[.slice (some ⟨g, k * 4, none⟩) (n + 1 - k) dc, .slice (some ⟨vb, 0, none⟩) 1 vc]).run Tryz.prog W1 = .ok (goInt ((1 : Nat) : Int)) (W1.setCells g (k * 4) vs) := fun ty dc =>
    run_copy_at W1 _ _ ty 55 i0 g (k * 4) (n + 1 - k) dc ⟨vb, 0, none⟩ 1 vc 1 vs Tryz.underlying30 hi0 (by simp only [Nat.min_def]; split <;> omega) (by rw [hvl, hz1])
      (fun j v hj => by rw [Addr.add_lit, Nat.zero_add, hV1.cell]; simpa using hj)
      (fun j hj => by rw [hB1.cell, Array.getElem?_eq_getElem (by omega)]; rfl) (fun j _ => hB1.frozen _) h1v
  obtain ⟨c2, hB2, hs2, hc2⟩ := Blk.setCells vs (k * 4) W1 c1 hB1
  have o2 := setCells_same g vs (k * 4) W1
  have HFIN := Lib.hid (show InsPost w base n k (.slice (some ⟨g, 0, none⟩) n cap) fl vs (.returned (.slice (some ⟨g, 0, none⟩) (n + 1) cap)) (W1.setCells g (k * 4) vs) by
    refine ⟨g, cap, rfl, ins_row hfl (by omega) hvl hbg hB2 (by omega) hroom (by unfold maxLen; omega) (fun q hq => ?_), ⟨o2.1.trans o1.1, o2.2.1.trans o1.2.1, o2.2.2.1.trans o1.2.2.1, Nat.le_of_eq (o2.2.2.2.1.trans o1.2.2.2.1).symm, fun b _ hb => (o2.2.2.2.2 b (fun e => hb (by rw [e]; rfl))).trans (o1.2.2.2.2 b (fun e => hb (by rw [e]; rfl)))⟩, .inl rfl⟩
    rw [hc2 q, hc1 q, hvl, hdl]
    by_cases h1 : q < k * 4
    · rw [if_neg (by omega), if_neg (by omega), if_pos h1]
      exact hcur q (by omega)
    · rw [if_neg h1]
      by_cases h2 : q < k * 4 + 4
      · rw [if_pos h2, if_pos ⟨by omega, h2, by omega⟩]
      · rw [if_neg h2, if_neg (by omega), if_pos ⟨by omega, by omega, by omega⟩, List.getElem?_drop]
        congr 1; omega)
  have HOV := Lib.hid hov; have HC1 := Lib.hid hcp1; have HC2 := Lib.hid hcp2
  have b0 : (0 : Int) ≤ (k : Int) := by omega
  have b1 : (k : Int) ≤ (n : Int) := by omega
  have b2 : (n : Int) ≤ (cap : Int) := by omega
  have b3 : (n : Int) + 1 ≤ (cap : Int) := by omega
  have b4 : (0 : Int) ≤ (n : Int) + 1 := by omega
  have b5 : (k : Int) + 1 ≤ (n : Int) + 1 := by omega
  have b6 : (0 : Int) ≤ (k : Int) + 1 := by omega
  have b7 : (k : Int) ≤ (n : Int) + 1 := by omega
  have b8 : ((k : Int) + 1).toNat = k + 1 := by omega
  have b9 : ((n : Int) + 1).toNat = n + 1 := by omega
  have d1 : ¬ (cap = k + 1) := by omega
  have d2 : ¬ (cap = k) := by omega
  have d3 : ((k : Int) == (n : Int)) = false := by rw [beq_eq_false_iff_ne]; omega
  have d4 : decide ((cap : Int) < (n : Int) + 1) = false := decide_eq_false (by omega)
  have d5 : k + 1 ≤ n + 1 := by omega
  have d6 : k ≤ n + 1 := by omega
  have d7 : n + 1 ≤ cap := by omega
  have wr1 : IntKind.i64.wrap ((k : Int) + 1) = (k : Int) + 1 := IntWalk.i64_in _ (by omega)
  clear hW1 hB hsz htk hfl hcur hdl hov hcp1 hcp2 hB1 hs1 hc1 o1 hV1 hB2 hs2 hc2 o2 hvs hvl h1v h1f hbg hne hroom
  go_enter Tryz.func52, Tryz.ntmps52
  go_wp2_with (simp only [HOV.out])
  go_region_law (refine step_copy_runI rfl _ _ 30 30 rfl (.slice (some ⟨g, (k + 1) * 4, none⟩) (n - k) (cap - (k + 1))) (.slice (some ⟨g, k * 4, none⟩) (n + 1 - k) (cap - k)) (by simp [Act.eval, Act.put]) (by simp [Act.eval, Act.put]) (HC1.out _ (cap - (k + 1)) (cap - k)) ?_)
  go_wp2_with (refine wpList_copy_runI _ rfl (.tmp 80) (.tmp 81) 30 30 rfl (.slice (some ⟨g, k * 4, none⟩) (n + 1 - k) (cap - k)) (.slice (some ⟨vb, 0, none⟩) 1 vc) rfl rfl (HC2.out _ _) ?_)
  go_ret
  exact HFIN.out

set_option maxHeartbeats 8000000 in
set_option maxRecDepth 100000 in
theorem insertFil_grow (g n cap k vb vc base : Nat) (fl vs : List Value) (cur : Array Value) (w : World) (hB : Blk w g 55 cur) (hsz : cur.size = cap * 4) (htk : cur.toList.take (n * 4) = fl) (hbase : base ≤ w.heap.size) (hk : k < n) (hnc : n ≤ cap) (hroom : cap < n + 1) (hn : n ≤ 1000)
    (hvs : Blk w vb 55 vs.toArray) (hvl : vs.length = 4) (h1v : ∀ u ∈ vs, u.oneCell' = true) (h1f : ∀ u ∈ fl, u.oneCell' = true) :
    Calls Tryz.prog FnIns #[.slice (some ⟨g, 0, none⟩) n cap, .int .i64 k, .slice (some ⟨vb, 0, none⟩) 1 vc] w (InsPost w base n k (.slice (some ⟨g, 0, none⟩) n cap) fl vs) := by
  obtain ⟨i0, hi0, hz0, hz1, hz2⟩ := info_parts infoFile
  have hfl : fl.length = n * 4 := by rw [← htk, List.length_take, Array.length_toList, hsz]; omega
  have hcur : ∀ q, q < n * 4 → cur[q]? = fl[q]? := fun q hq => by rw [← htk, List.getElem?_take, if_pos hq, Array.getElem?_toList]
  have hdl : (fl.drop (k * 4)).length = (n - k) * 4 := by rw [List.length_drop, hfl]; omega
  have hgw := hB.lt
  have hvw := hvs.lt
  obtain ⟨G, hG⟩ : ∃ G, G = grownCap w (n + 1) cap 55 := ⟨_, rfl⟩
  have hGn : n + 1 ≤ G := by rw [hG]; exact grownCap_ge w _ _ _
  have hG63 : G ≤ 9223372036854775807 := by
    have := grownCap_le_maxLen w (n + 1) cap 55 (by unfold maxLen; omega)
    rw [← hG] at this; unfold maxLen at this; omega
  obtain ⟨Z, hZ⟩ : ∃ Z, Z = (Value.agg #[.string ⟨#[]⟩, .slice none 0 0, .string ⟨#[]⟩, .int .i64 0]).cells := ⟨_, rfl⟩
  obtain ⟨ROW, hROW⟩ : ∃ ROW : Array Value, ROW = (fl.take (k * 4)).toArray ++ Builtin.zeroCells Z (n + 1 - k) ++ Builtin.zeroCells Z (G - (n + 1)) := ⟨_, rfl⟩
  have hZs : Z.size = 4 := by rw [hZ]; rfl
  have hzc : ∀ m, (Builtin.zeroCells Z m).size = m * 4 := fun m => by rw [size_zeroCells, hZs]
  have hRs : ROW.size = G * 4 := by
    rw [hROW]
    simp only [Array.size_append, List.size_toArray, List.length_take, hzc, hfl]
    rw [Nat.min_eq_left (by omega)]
    omega
  have hRc : ∀ q, q < k * 4 → ROW[q]? = fl[q]? := fun q hq => by
    rw [hROW, Array.append_assoc, Array.getElem?_append_left (by simp [hfl]; omega)]
    simp [hq]
  have hold : (Builtin.firstCells i0.size k (.slice (some ⟨g, 0, none⟩) k cap)).run Tryz.prog w.drew = .ok (fl.take (k * 4)).toArray w.drew := by
    rw [hz1]
    refine run_firstCells_some w.drew 4 k ⟨g, 0, none⟩ k cap (fl.take (k * 4)) (by rw [List.length_take, hfl]; omega) (fun j v hj => ?_)
    rw [List.getElem?_take] at hj
    split at hj
    · rw [Addr.add_lit, Nat.zero_add]
      exact ((hB.cell _).trans (hcur _ (by omega))).trans hj
    · cases hj
  obtain ⟨W1, hW1⟩ : ∃ W1, W1 = w.drew.alloc (.cells ROW 55) := ⟨_, rfl⟩
  have hkk : (n : Int) + 1 - (k : Int) = ((n + 1 - k : Nat) : Int) := by omega
  have hik : k + (n + 1 - k) = n + 1 := by omega
  have hrz : ∀ ty, (Builtin.append_ #[30, 3] ty #[.slice (some ⟨g, 0, none⟩) k cap, .int .i64 ((n : Int) + 1 - (k : Int))]).run Tryz.prog w = .ok (.slice (some ⟨w.heap.size, 0, none⟩) (n + 1) G) W1 := fun ty => by
    have h := Lib.run_append_grow_zeros w 30 3 ty 55 i0 _ .i64 .i64 Tryz.underlying30 Tryz.underlying3 hi0 hz0 (some ⟨g, 0, none⟩) k cap (fl.take (k * 4)) hold (n + 1 - k) (by omega) (by omega) (by omega) (by omega) (by rw [hz2]; omega) (by rw [hz2, hik]; exact growslice_fits hroom (by omega))
    rw [hik] at h
    rw [hkk, h, ← hG, ← hZ, ← hROW, ← hW1]
  have hB1 : Blk W1 w.heap.size 55 ROW := by rw [hW1]; exact Blk.new w.drew 55 ROW
  have ho1 : ∀ b, b < w.heap.size → W1.heap[b]? = w.heap[b]? := fun b hb => by rw [hW1]; exact Below.heap_alloc w.drew _ b hb
  have hz1' : W1.heap.size = w.heap.size + 1 := by rw [hW1]; simp
  obtain ⟨W2, hW2⟩ : ∃ W2, W2 = W1.setCells w.heap.size (k * 4) vs := ⟨_, rfl⟩
  obtain ⟨c2, hB2, hs2, hc2⟩ := Blk.setCells vs (k * 4) W1 ROW hB1
  have o2 := setCells_same w.heap.size vs (k * 4) W1
  have hV1 : Blk W1 vb 55 vs.toArray := (ho1 vb hvw).trans hvs
  have hcpA : ∀ ty dc, (Builtin.copy_ #[30, 30] ty #[.slice (some ⟨w.heap.size, k * 4, none⟩) (n + 1 - k) dc, .slice (some ⟨vb, 0, none⟩) 1 vc]).run Tryz.prog W1 = .ok (goInt ((1 : Nat) : Int)) W2 := fun ty dc => by
    rw [hW2]
    exact run_copy_at W1 _ _ ty 55 i0 w.heap.size (k * 4) (n + 1 - k) dc ⟨vb, 0, none⟩ 1 vc 1 vs Tryz.underlying30 hi0 (by simp only [Nat.min_def]; split <;> omega) (by rw [hvl, hz1])
      (fun j v hj => by rw [Addr.add_lit, Nat.zero_add, hV1.cell]; simpa using hj)
      (fun j hj => by rw [hB1.cell, Array.getElem?_eq_getElem (by omega)]; rfl) (fun j _ => hB1.frozen _) h1v
  rw [← hW2] at hB2 o2
  have hg2 : Blk W2 g 55 cur := ((o2.2.2.2.2 g (by omega)).trans (ho1 g hgw)).trans hB
  obtain ⟨W3, hW3⟩ : ∃ W3, W3 = W2.drew.setCells w.heap.size ((k + 1) * 4) (fl.drop (k * 4)) := ⟨_, rfl⟩
  obtain ⟨c3, hB3, hs3, hc3⟩ := Blk.setCells (fl.drop (k * 4)) ((k + 1) * 4) W2.drew c2 (hB2.drewN 1)
  have o3 := setCells_same w.heap.size (fl.drop (k * 4)) ((k + 1) * 4) W2.drew
  have hcpB : ∀ ty dc sc, (Builtin.copy_ #[30, 30] ty #[.slice (some ⟨w.heap.size, (k + 1) * 4, none⟩) (n - k) dc, .slice (some ⟨g, k * 4, none⟩) (n - k) sc]).run Tryz.prog W2.drew = .ok (goInt ((n - k : Nat) : Int)) W3 := fun ty dc sc => by
    rw [hW3]
    exact run_copy_at W2.drew _ _ ty 55 i0 w.heap.size ((k + 1) * 4) (n - k) dc ⟨g, k * 4, none⟩ (n - k) sc (n - k) (fl.drop (k * 4)) Tryz.underlying30 hi0 (by simp only [Nat.min_def]; split <;> omega) (by rw [hdl, hz1])
      (fun j v hj => by
        rw [Addr.add_lit]
        rw [List.getElem?_drop] at hj
        have hq : k * 4 + j < n * 4 := by have := (List.getElem?_eq_some_iff.1 hj).1; omega
        exact ((hg2.cell _).trans (hcur _ hq)).trans hj)
      (fun j hj => by
        show (W2.cell? _).isSome = true
        rw [hB2.cell, Array.getElem?_eq_getElem (by omega)]; rfl)
      (fun j _ => hB2.frozen _) (fun v hv => h1f v (List.mem_of_mem_drop hv))
  rw [← hW3] at hB3 o3
  have HFIN := Lib.hid (show InsPost w base n k (.slice (some ⟨g, 0, none⟩) n cap) fl vs (.returned (.slice (some ⟨w.heap.size, 0, none⟩) (n + 1) G)) W3 by
    have e1 : W1.os = w.os ∧ W1.tape = w.tape ∧ W1.output = w.output := by rw [hW1]; exact ⟨rfl, rfl, rfl⟩
    refine ⟨w.heap.size, G, rfl, ins_row hfl (by omega) hvl hbase hB3 (by omega) hGn (by unfold maxLen; omega) (fun q hq => ?_), ⟨o3.1.trans (o2.1.trans e1.1), o3.2.1.trans (o2.2.1.trans e1.2.1), o3.2.2.1.trans (o2.2.2.1.trans e1.2.2), ?_, fun b hb _ => (o3.2.2.2.2 b (by omega)).trans ((o2.2.2.2.2 b (by omega)).trans (ho1 b hb))⟩, .inr (Nat.le_refl _)⟩
    · rw [hc3 q, hc2 q, hvl, hdl]
      by_cases h1 : q < k * 4
      · rw [if_neg (by omega), if_neg (by omega), if_pos h1]
        exact hRc q h1
      · rw [if_neg h1]
        by_cases h2 : q < k * 4 + 4
        · rw [if_pos h2, if_neg (by omega), if_pos ⟨by omega, h2, by omega⟩]
        · rw [if_neg h2, if_pos ⟨by omega, by omega, by omega⟩, List.getElem?_drop]
          congr 1; omega
    · have h3 : W3.heap.size = W2.heap.size := o3.2.2.2.1
      have h2 : W2.heap.size = W1.heap.size := o2.2.2.2.1
      omega)
  have HRZ := Lib.hid hrz; have HCA := Lib.hid hcpA; have HCB := Lib.hid hcpB
  have b0 : (0 : Int) ≤ (k : Int) := by omega
  have b1 : (k : Int) ≤ (n : Int) := by omega
  have b2 : (n : Int) ≤ (cap : Int) := by omega
  have b3 : (k : Int) ≤ (n : Int) + 1 := by omega
  have b4 : (n : Int) + 1 ≤ (G : Int) := by omega
  have b5 : (k : Int) + 1 ≤ (n : Int) + 1 := by omega
  have b6 : (0 : Int) ≤ (k : Int) + 1 := by omega
  have b8 : ((k : Int) + 1).toNat = k + 1 := by omega
  have d1 : ¬ (G = k + 1) := by omega
  have d2 : ¬ (G = k) := by omega
  have d0 : ¬ (cap = k) := by omega
  have d3 : ((k : Int) == (n : Int)) = false := by rw [beq_eq_false_iff_ne]; omega
  have d4 : decide ((cap : Int) < (n : Int) + 1) = true := decide_eq_true (by omega)
  have d5 : k + 1 ≤ n + 1 := by omega
  have d6 : k ≤ n + 1 := by omega
  have d7 : k ≤ n := by omega
  have wr1 : IntKind.i64.wrap ((k : Int) + 1) = (k : Int) + 1 := IntWalk.i64_in _ (by omega)
  clear hW1 hW2 hW3 hB hsz htk hfl hcur hdl hG hZ hROW hZs hzc hRs hRc hold hkk hik hrz hB1 ho1 hz1' hB2 hs2 hc2 o2 hV1 hcpA hg2 hB3 hs3 hc3 o3 hcpB hvs hvl h1v h1f hbase
  go_enter Tryz.func52, Tryz.ntmps52
  go_wp2_with (first | (at_builtin; refine Lib.wpList_append_run _ rfl _ _ _ _ rfl _ _ rfl rfl _ _ (HRZ.out _) ?_) | (refine wpList_copy_runI _ rfl (.tmp 43) (.tmp 44) 30 30 rfl (.slice (some ⟨w.heap.size, k * 4, none⟩) (n + 1 - k) (G - k)) (.slice (some ⟨vb, 0, none⟩) 1 vc) rfl rfl (HCA.out _ _) ?_))
  go_region_law (refine step_copy_runI rfl _ _ 30 30 rfl (.slice (some ⟨w.heap.size, (k + 1) * 4, none⟩) (n - k) (G - (k + 1))) (.slice (some ⟨g, k * 4, none⟩) (n - k) (cap - k)) (by simp [Act.eval, Act.put]) (by simp [Act.eval, Act.put]) (HCB.out _ (G - (k + 1)) (cap - k)) ?_)
  go_wp2
  go_ret
  exact HFIN.out

theorem insertFil_any (v : Value) (n k vb vc base : Nat) (fl vs : List Value) (w : World) (hown : w.ownsRow base 55 4 v n fl) (hk : k ≤ n) (hn : n ≤ 1000) (hbase : base ≤ w.heap.size)
    (hvs : Blk w vb 55 vs.toArray) (hne : v.ownBlock ≠ some vb) (hvl : vs.length = 4) (h1v : ∀ u ∈ vs, u.oneCell' = true) (h1f : ∀ u ∈ fl, u.oneCell' = true) :
    Calls Tryz.prog FnIns #[v, .int .i64 k, .slice (some ⟨vb, 0, none⟩) 1 vc] w (InsPost w base n k v fl vs) := by
  by_cases he : k = n
  · subst he
    exact insertFil_end v k vb vc base fl vs w hown hn hbase hvs hvl h1v
  · rcases hown.2 with ⟨hv, hn0⟩ | ⟨g, cap, cur, hv, hg, hh, hnc, hm, hsz, htk⟩
    · omega
    · subst hv
      unfold maxLen at hm
      by_cases hr : n + 1 ≤ cap
      · exact insertFil_shift g n cap k vb vc base fl vs cur w hh hsz htk hg (by omega) hr (by omega) hn hvs (fun e => hne (by rw [e]; rfl)) hvl h1v h1f
      · exact insertFil_grow g n cap k vb vc base fl vs cur w hh hsz htk hbase (by omega) hnc (by omega) hn hvs hvl h1v h1f

end Go.Proofs.YtmeholhmadeehaaGreatDoor

/- The program's UseDevice walked (printed by wip/gen_use.py). -/
namespace Go.Proofs.YtmeholhmadeehaaGreatDoor
open Go.RowKit

/-- Devices of the call's own at the end: nothing but the blocks p and r has been written since W. -/
theorem ownDev_mk {W W' : World} {lo p r a1 b1 a3 b3 B : Nat} {d : Dev} {A : Option Addr} {c : Nat} {F : Option Addr} {cf : Nat} {K : Option Addr} {ck : Nat} {xs : List Fx}
    (hq : lo ≤ a1 ∧ b1 ≤ p ∧ lo ≤ a3 ∧ b3 ≤ p ∧ p < B ∧ B ≤ W.heap.size) (hr : r < a1 ∧ r < a3 ∧ r < B) (hlo : lo ≤ B) (x13 : apart2 a1 b1 a3 b3)
    (oA : W.ownsRow a1 9 1 (.slice A d.scr.rows.length c) d.scr.rows.length (d.scr.rows.map Value.string)) (oAb : ∀ g, rowOf A d.scr.rows.length c = some g → g < b1)
    (hxs : xs.map Fx.f = d.files) (hfx : OwnFx W B W.heap.size (.slice F d.files.length cf) xs)
    (oK : W.ownsRow a3 9 1 (.slice K d.keys.length ck) d.keys.length (d.keys.map Value.string)) (oKb : ∀ g, rowOf K d.keys.length ck = some g → g < b3)
    (hk : ∀ b, b ≠ p → b ≠ r → W'.heap[b]? = W.heap[b]?) (hz : W'.heap.size = W.heap.size) : OwnDev W' lo W'.heap.size (.agg (devCs d A c F cf K ck)) d := by
  obtain ⟨q1, q2, q3, q4, q5, q6⟩ := hq
  obtain ⟨r1, r2, r3⟩ := hr
  refine ⟨A, c, F, cf, K, ck, a1, b1, B, W'.heap.size, a3, b3, rfl, ⟨q1, by omega, hlo, Nat.le_refl _, q3, by omega⟩, ⟨.inl (by omega), x13, .inr (by omega)⟩, ⟨own_keep (hi := b1) oA oAb (fun b h1 h2 => hk b (by omega) (by omega)), oAb⟩, ?_, own_keep (hi := b3) oK oKb (fun b h1 h2 => hk b (by omega) (by omega)), oKb⟩
  rw [← hxs]
  have := loc_ownFx B W.heap.size _ xs W W' (fun b h1 h2 => hk b (by omega) (by omega)) hfx
  rw [hz]
  exact this.fils

set_option maxHeartbeats 8000000 in
set_option maxRecDepth 100000 in
theorem iUse_bad (d : Dev) (nm : ByteArray) (v : Value) (lo hi : Nat) (w : World) (hx : DevR w lo hi v d) (hhi : hi ≤ w.heap.size) (hs : DevSmall d) (hB : devB d = false) :
    Calls Tryz.prog 15 #[v, .string nm] w fun e w' => ∃ v', e = .returned (.tuple #[v', .int .i64 1]) ∧ OwnDev w' w.heap.size w'.heap.size v' noDev ∧ Below w.heap.size w w' := by
  have HX := Lib.hid hx; have HS := Lib.hid hs
  obtain ⟨A, c, F, cf, J, cj, rfl, h1, h2, h3⟩ := hx
  have R0 := (((Stand.nil w).add lo hi _ (loc_devR lo hi (.agg (devCs d A c F cf J cj)) d) hhi HX.out).box 32 (devCs d A c F cf J cj)).box 32 #[.int .i64 0, .int .i64 0, .int .i64 0, .slice none 0 0, .slice none 0 0, .slice none 0 0]
  rw [heap_size_alloc1] at R0
  have HR0 := Lib.hid R0
  have HOK := Lib.hid (fun W v h1 h2 => implDevicesOk_any d v lo hi W h1 h2 HS.out)
  clear h1 h2 h3 R0 hs
  rw [hB] at HOK
  go_enter Tryz.func15, Tryz.ntmps15
  go_wp2_with fail
  refine (HOK.out _ _ (HR0.out.get 2 rfl) (HR0.out.le 2 rfl)).mono ?_
  rintro e1 w1 ⟨rfl, hb1⟩
  have HR1 := Lib.hid (HR0.out.below hb1); clear hb1 HR0 HOK
  have fr := (HR1.out.get 0 rfl).cell
  have zr := (HR1.out.get 0 rfl).frozen
  have sr := HR1.out.le 0 rfl
  go_wp2_with fail
  refine bodyPost_ret (v := .tuple #[.agg #[.int .i64 0, .int .i64 0, .int .i64 0, .slice none 0 0, .slice none 0 0, .slice none 0 0], .int .i64 1]) (by simp [results, Tryz.results15, go_sem, fr]) rfl ⟨_, rfl, ?_, ?_⟩
  · exact (ownDev_none _ _ _ (by first | (simp [World.setCell]; done) | (simp [World.setCell]; omega)))
  · iterate 6 (with_reducible refine Below.setCell ?_ (by simp; try omega) _)
    exact HR1.out.1

set_option maxHeartbeats 8000000 in
set_option maxRecDepth 100000 in
theorem iUse_name (d : Dev) (nm : ByteArray) (v : Value) (lo hi : Nat) (w : World) (hx : DevR w lo hi v d) (hhi : hi ≤ w.heap.size) (hs : DevSmall d) (hB : devB d = true) (hz : ¬ nm.size = 0) (hN : nameB nm = false) (hl : nm.size ≤ 1048576) :
    Calls Tryz.prog 15 #[v, .string nm] w fun e w' => ∃ v', e = .returned (.tuple #[v', .int .i64 1]) ∧ OwnDev w' w.heap.size w'.heap.size v' noDev ∧ Below w.heap.size w w' := by
  have HX := Lib.hid hx; have HS := Lib.hid hs
  obtain ⟨A, c, F, cf, J, cj, rfl, h1, h2, h3⟩ := hx
  have R0 := (((Stand.nil w).add lo hi _ (loc_devR lo hi (.agg (devCs d A c F cf J cj)) d) hhi HX.out).box 32 (devCs d A c F cf J cj)).box 32 #[.int .i64 0, .int .i64 0, .int .i64 0, .slice none 0 0, .slice none 0 0, .slice none 0 0]
  rw [heap_size_alloc1] at R0
  have HR0 := Lib.hid R0
  have HOK := Lib.hid (fun W v h1 h2 => implDevicesOk_any d v lo hi W h1 h2 HS.out)
  clear h1 h2 h3 R0 hs
  rw [hB] at HOK
  have e1 : nm.toList.isEmpty = false := by rw [ByteArray.toList_eq]; cases h : nm.data.toList with | nil => exact absurd (by rw [ByteArray.size, ← Array.length_toList, h]; rfl) hz | cons a l => rfl
  have e2 : (!nm.toList.isEmpty) = true := by rw [e1]; rfl
  go_enter Tryz.func15, Tryz.ntmps15
  go_wp2_with fail
  refine (HOK.out _ _ (HR0.out.get 2 rfl) (HR0.out.le 2 rfl)).mono ?_
  rintro e1 w1 ⟨rfl, hb1⟩
  have HR1 := Lib.hid (HR0.out.below hb1); clear hb1 HR0 HOK
  have fr := (HR1.out.get 0 rfl).cell
  have zr := (HR1.out.get 0 rfl).frozen
  have sr := HR1.out.le 0 rfl
  go_wp2_with fail
  refine (implNameOk_any nm _ (by omega)).mono ?_
  rintro e9 w9 ⟨rfl, rfl⟩
  rw [hN]
  go_wp2_with fail
  refine bodyPost_ret (v := .tuple #[.agg #[.int .i64 0, .int .i64 0, .int .i64 0, .slice none 0 0, .slice none 0 0, .slice none 0 0], .int .i64 1]) (by simp [results, Tryz.results15, go_sem, fr]) rfl ⟨_, rfl, ?_, ?_⟩
  · exact (ownDev_none _ _ _ (by first | (simp [World.setCell]; done) | (simp [World.setCell]; omega)))
  · iterate 6 (with_reducible refine Below.setCell ?_ (by simp; try omega) _)
    exact HR1.out.1

set_option maxHeartbeats 8000000 in
set_option maxRecDepth 100000 in
theorem iUse_empty (d : Dev) (nm : ByteArray) (v : Value) (lo hi : Nat) (w : World) (hx : DevR w lo hi v d) (hhi : hi ≤ w.heap.size) (hs : DevSmall d) (hB : devB d = true) (hz : nm = ⟨#[]⟩) :
    Calls Tryz.prog 15 #[v, .string nm] w fun e w' => ∃ v', e = .returned (.tuple #[v', .int .i64 0]) ∧ OwnDev w' w.heap.size w'.heap.size v' ⟨0, d.scr, d.files, d.keys⟩ ∧ Below w.heap.size w w' := by
  subst hz
  have HX := Lib.hid hx; have HS := Lib.hid hs
  obtain ⟨A, c, F, cf, J, cj, rfl, h1, h2, h3⟩ := hx
  have R0 := (((Stand.nil w).add lo hi _ (loc_devR lo hi (.agg (devCs d A c F cf J cj)) d) hhi HX.out).box 32 (devCs d A c F cf J cj)).box 32 #[.int .i64 0, .int .i64 0, .int .i64 0, .slice none 0 0, .slice none 0 0, .slice none 0 0]
  rw [heap_size_alloc1] at R0
  have HR0 := Lib.hid R0
  have HOK := Lib.hid (fun W v h1 h2 => implDevicesOk_any d v lo hi W h1 h2 HS.out)
  clear h1 h2 h3 R0 hs
  rw [hB] at HOK
  have HGD := Lib.hid (DevGood.of hB)
  have hn3 := HGD.out.n3
  have hr0 : 0 < d.scr.rows.length := by have := HGD.out.fine.len; omega
  go_enter Tryz.func15, Tryz.ntmps15
  go_wp2_with fail
  refine (HOK.out _ _ (HR0.out.get 2 rfl) (HR0.out.le 2 rfl)).mono ?_
  rintro e1 w1 ⟨rfl, hb1⟩
  have HR1 := Lib.hid (HR0.out.below hb1); clear hb1 HR0 HOK
  have f1 := (HR1.out.get 1 rfl).cell
  go_wp2_with fail
  refine (copyDevices_own d _ lo hi _ (HR1.out.get 2 rfl) (HR1.out.le 2 rfl) hr0 HS.out).mono ?_
  rintro e2 w2 ⟨p, A2, c2, V, cv, K2, ck2, rfl, hp1, hp2, hBp, ⟨a1, b1, a3, b3, B, hq, x13, ⟨oA, oAb⟩, ⟨xs, hxs, hfx⟩, oK, oKb⟩, hb2⟩
  have s1 := HR1.out.le 0 rfl
  have s2 := hb2.size
  have HR2 := Lib.hid (HR1.out.below hb2); clear hb2 f1 HR1
  have HQ := Lib.hid hq; have HX13 := Lib.hid x13; have HOA := Lib.hid oA; have HOAB := Lib.hid oAb; have HXS := Lib.hid hxs; have HFX := Lib.hid hfx; have HOK := Lib.hid oK; have HOKB := Lib.hid oKb; have HBP := Lib.hid hBp
  have hpB := hq.2.2.2.2.1; have hBw := hq.2.2.2.2.2; have hwp := hp1
  clear hq x13 oA oAb hxs hfx oK oKb hBp
  have fp := HBP.out.cell; have zp := HBP.out.frozen; have fr := (HR2.out.get 0 rfl).cell; have zr := (HR2.out.get 0 rfl).frozen
  have HBEL := Lib.hid HR2.out.1; clear HR2
  go_wp2_with fail
  refine bodyPost_ret (v := .tuple #[.agg #[.int .i64 (0), .int .i64 d.scr.row, .int .i64 d.scr.col, .slice A2 d.scr.rows.length c2, .slice V d.files.length cv, .slice K2 d.keys.length ck2], .int .i64 0]) (by simp [results, Tryz.results15, go_sem, fr]) rfl ⟨_, rfl, ?_, ?_⟩
  · obtain ⟨q1, q2, q3, q4, q5, q6⟩ := HQ.out
    refine ownDev_mk (W := w2) (p := p) (r := w.heap.size + 1) (d := ⟨0, d.scr, d.files, d.keys⟩) (lo := w.heap.size) ⟨by omega, q2, by omega, q4, q5, by omega⟩ ⟨by omega, by omega, by omega⟩ (by omega) HX13.out HOA.out HOAB.out HXS.out HFX.out HOK.out HOKB.out (fun b h1 h2 => ?_) (by simp [World.setCell])
    iterate 7 (with_reducible rw [Below.heap_setCell _ _ _ b (by simp; omega)])
  · iterate 7 (with_reducible refine Below.setCell ?_ (by simp; try omega) _)
    exact HBEL.out

set_option maxHeartbeats 8000000 in
set_option maxRecDepth 100000 in
theorem iUse_there (d : Dev) (nm : ByteArray) (v : Value) (lo hi : Nat) (w : World) (hx : DevR w lo hi v d) (hhi : hi ≤ w.heap.size) (hs : DevSmall d) (hB : devB d = true) (hz : ¬ nm.size = 0) (hN : nameB nm = true) (hl : nm.size ≤ 1048576) (hT : thereB d.files nm = true) :
    Calls Tryz.prog 15 #[v, .string nm] w fun e w' => ∃ v', e = .returned (.tuple #[v', .int .i64 0]) ∧ OwnDev w' w.heap.size w'.heap.size v' ⟨(place d.files nm : Int) + 1, d.scr, d.files, d.keys⟩ ∧ Below w.heap.size w w' := by
  have HX := Lib.hid hx; have HS := Lib.hid hs
  obtain ⟨A, c, F, cf, J, cj, rfl, h1, h2, h3⟩ := hx
  have R0 := (((Stand.nil w).add lo hi _ (loc_devR lo hi (.agg (devCs d A c F cf J cj)) d) hhi HX.out).box 32 (devCs d A c F cf J cj)).box 32 #[.int .i64 0, .int .i64 0, .int .i64 0, .slice none 0 0, .slice none 0 0, .slice none 0 0]
  rw [heap_size_alloc1] at R0
  have HR0 := Lib.hid R0
  have HOK := Lib.hid (fun W v h1 h2 => implDevicesOk_any d v lo hi W h1 h2 HS.out)
  clear h1 h2 h3 R0 hs
  rw [hB] at HOK
  have HGD := Lib.hid (DevGood.of hB)
  have hn3 := HGD.out.n3
  have hr0 : 0 < d.scr.rows.length := by have := HGD.out.fine.len; omega
  have HFI := Lib.hid (fun p A2 c2 V cv K2 ck2 lo hi W hB h1 h2 => file_any p d A2 c2 V cv K2 ck2 lo hi nm W hB h1 h2 (by omega) HGD.out.sorted)
  rw [hT] at HFI
  have hPn := place_le d.files nm
  generalize hPL : place d.files nm = P at *
  clear hPL
  have e1 : nm.toList.isEmpty = false := by rw [ByteArray.toList_eq]; cases h : nm.data.toList with | nil => exact absurd (by rw [ByteArray.size, ← Array.length_toList, h]; rfl) hz | cons a l => rfl
  have e2 : (!nm.toList.isEmpty) = true := by rw [e1]; rfl
  go_enter Tryz.func15, Tryz.ntmps15
  go_wp2_with fail
  refine (HOK.out _ _ (HR0.out.get 2 rfl) (HR0.out.le 2 rfl)).mono ?_
  rintro e1 w1 ⟨rfl, hb1⟩
  have HR1 := Lib.hid (HR0.out.below hb1); clear hb1 HR0 HOK
  have f1 := (HR1.out.get 1 rfl).cell
  go_wp2_with fail
  refine (implNameOk_any nm _ (by omega)).mono ?_
  rintro e9 w9 ⟨rfl, rfl⟩
  rw [hN]
  go_wp2_with fail
  refine (copyDevices_own d _ lo hi _ (HR1.out.get 2 rfl) (HR1.out.le 2 rfl) hr0 HS.out).mono ?_
  rintro e2 w2 ⟨p, A2, c2, V, cv, K2, ck2, rfl, hp1, hp2, hBp, ⟨a1, b1, a3, b3, B, hq, x13, ⟨oA, oAb⟩, ⟨xs, hxs, hfx⟩, oK, oKb⟩, hb2⟩
  have s1 := HR1.out.le 0 rfl
  have s2 := hb2.size
  have HR2 := Lib.hid (HR1.out.below hb2); clear hb2 f1 HR1
  have HQ := Lib.hid hq; have HX13 := Lib.hid x13; have HOA := Lib.hid oA; have HOAB := Lib.hid oAb; have HXS := Lib.hid hxs; have HFX := Lib.hid hfx; have HOK := Lib.hid oK; have HOKB := Lib.hid oKb; have HBP := Lib.hid hBp
  have hpB := hq.2.2.2.2.1; have hBw := hq.2.2.2.2.2; have hwp := hp1
  clear hq x13 oA oAb hxs hfx oK oKb hBp
  have hfr := HFX.out.fils.reads
  rw [HXS.out] at hfr
  have HFR := Lib.hid hfr; clear hfr
  have fp := HBP.out.cell
  go_wp2_with fail
  refine (HFI.out _ _ _ _ _ _ _ _ _ _ HBP.out HFR.out (Nat.le_refl _)).mono ?_
  rintro e3 w3 ⟨rfl, hb3⟩
  have s3 := hb3.size
  have HR3 := Lib.hid (HR2.out.below hb3); have HBP3 := Lib.hid (HBP.out.below hb3 HBP.out.lt); have HOA3 := Lib.hid (own_below HOA.out hb3); have HOK3 := Lib.hid (own_below HOK.out hb3)
  have HFX3 := Lib.hid ((loc_ownFx _ _ _ xs w2 w3 (fun b h1 h2 => hb3.block b h2) HFX.out).more s3)
  clear hb3 HR2 HBP HOA HOK HFX HFR HFI fp
  have fp := HBP3.out.cell; have zp := HBP3.out.frozen; have fr := (HR3.out.get 0 rfl).cell; have zr := (HR3.out.get 0 rfl).frozen
  have HBEL := Lib.hid HR3.out.1; clear HR3
  have j0 : (P : Int) + 1 ≤ 4 := by omega
  go_wp2_with fail
  refine bodyPost_ret (v := .tuple #[.agg #[.int .i64 ((P : Int) + 1), .int .i64 d.scr.row, .int .i64 d.scr.col, .slice A2 d.scr.rows.length c2, .slice V d.files.length cv, .slice K2 d.keys.length ck2], .int .i64 0]) (by simp [results, Tryz.results15, go_sem, fr]) rfl ⟨_, rfl, ?_, ?_⟩
  · obtain ⟨q1, q2, q3, q4, q5, q6⟩ := HQ.out
    refine ownDev_mk (W := w3) (p := p) (r := w.heap.size + 1) (d := ⟨(P : Int) + 1, d.scr, d.files, d.keys⟩) (lo := w.heap.size) ⟨by omega, q2, by omega, q4, q5, by omega⟩ ⟨by omega, by omega, by omega⟩ (by omega) HX13.out HOA3.out HOAB.out HXS.out HFX3.out HOK3.out HOKB.out (fun b h1 h2 => ?_) (by simp [World.setCell])
    iterate 7 (with_reducible rw [Below.heap_setCell _ _ _ b (by simp; omega)])
  · iterate 7 (with_reducible refine Below.setCell ?_ (by simp; try omega) _)
    exact HBEL.out

set_option maxHeartbeats 8000000 in
set_option maxRecDepth 100000 in
theorem iUse_many (d : Dev) (nm : ByteArray) (v : Value) (lo hi : Nat) (w : World) (hx : DevR w lo hi v d) (hhi : hi ≤ w.heap.size) (hs : DevSmall d) (hB : devB d = true) (hz : ¬ nm.size = 0) (hN : nameB nm = true) (hl : nm.size ≤ 1048576) (hT : thereB d.files nm = false) (h3 : d.files.length = 3) :
    Calls Tryz.prog 15 #[v, .string nm] w fun e w' => ∃ v', e = .returned (.tuple #[v', .int .i64 4]) ∧ OwnDev w' w.heap.size w'.heap.size v' noDev ∧ Below w.heap.size w w' := by
  have H3 := Lib.hid h3; clear h3
  have HX := Lib.hid hx; have HS := Lib.hid hs
  obtain ⟨A, c, F, cf, J, cj, rfl, h1, h2, h3⟩ := hx
  have R0 := (((Stand.nil w).add lo hi _ (loc_devR lo hi (.agg (devCs d A c F cf J cj)) d) hhi HX.out).box 32 (devCs d A c F cf J cj)).box 32 #[.int .i64 0, .int .i64 0, .int .i64 0, .slice none 0 0, .slice none 0 0, .slice none 0 0]
  rw [heap_size_alloc1] at R0
  have HR0 := Lib.hid R0
  have HOK := Lib.hid (fun W v h1 h2 => implDevicesOk_any d v lo hi W h1 h2 HS.out)
  clear h1 h2 h3 R0 hs
  rw [hB] at HOK
  have HGD := Lib.hid (DevGood.of hB)
  have hn3 := HGD.out.n3
  have hr0 : 0 < d.scr.rows.length := by have := HGD.out.fine.len; omega
  have HFI := Lib.hid (fun p A2 c2 V cv K2 ck2 lo hi W hB h1 h2 => file_any p d A2 c2 V cv K2 ck2 lo hi nm W hB h1 h2 (by omega) HGD.out.sorted)
  rw [hT] at HFI
  have hPn := place_le d.files nm
  generalize hPL : place d.files nm = P at *
  clear hPL
  have e1 : nm.toList.isEmpty = false := by rw [ByteArray.toList_eq]; cases h : nm.data.toList with | nil => exact absurd (by rw [ByteArray.size, ← Array.length_toList, h]; rfl) hz | cons a l => rfl
  have e2 : (!nm.toList.isEmpty) = true := by rw [e1]; rfl
  go_enter Tryz.func15, Tryz.ntmps15
  go_wp2_with fail
  refine (HOK.out _ _ (HR0.out.get 2 rfl) (HR0.out.le 2 rfl)).mono ?_
  rintro e1 w1 ⟨rfl, hb1⟩
  have HR1 := Lib.hid (HR0.out.below hb1); clear hb1 HR0 HOK
  have f1 := (HR1.out.get 1 rfl).cell
  go_wp2_with fail
  refine (implNameOk_any nm _ (by omega)).mono ?_
  rintro e9 w9 ⟨rfl, rfl⟩
  rw [hN]
  go_wp2_with fail
  refine (copyDevices_own d _ lo hi _ (HR1.out.get 2 rfl) (HR1.out.le 2 rfl) hr0 HS.out).mono ?_
  rintro e2 w2 ⟨p, A2, c2, V, cv, K2, ck2, rfl, hp1, hp2, hBp, ⟨a1, b1, a3, b3, B, hq, x13, ⟨oA, oAb⟩, ⟨xs, hxs, hfx⟩, oK, oKb⟩, hb2⟩
  have s1 := HR1.out.le 0 rfl
  have s2 := hb2.size
  have HR2 := Lib.hid (HR1.out.below hb2); clear hb2 f1 HR1
  have HQ := Lib.hid hq; have HX13 := Lib.hid x13; have HOA := Lib.hid oA; have HOAB := Lib.hid oAb; have HXS := Lib.hid hxs; have HFX := Lib.hid hfx; have HOK := Lib.hid oK; have HOKB := Lib.hid oKb; have HBP := Lib.hid hBp
  have hpB := hq.2.2.2.2.1; have hBw := hq.2.2.2.2.2; have hwp := hp1
  clear hq x13 oA oAb hxs hfx oK oKb hBp
  have hfr := HFX.out.fils.reads
  rw [HXS.out] at hfr
  have HFR := Lib.hid hfr; clear hfr
  have fp := HBP.out.cell
  go_wp2_with fail
  refine (HFI.out _ _ _ _ _ _ _ _ _ _ HBP.out HFR.out (Nat.le_refl _)).mono ?_
  rintro e3 w3 ⟨rfl, hb3⟩
  have s3 := hb3.size
  have HR3 := Lib.hid (HR2.out.below hb3); have HBP3 := Lib.hid (HBP.out.below hb3 HBP.out.lt); have HOA3 := Lib.hid (own_below HOA.out hb3); have HOK3 := Lib.hid (own_below HOK.out hb3)
  have HFX3 := Lib.hid ((loc_ownFx _ _ _ xs w2 w3 (fun b h1 h2 => hb3.block b h2) HFX.out).more s3)
  clear hb3 HR2 HBP HOA HOK HFX HFR HFI fp
  have t3 : ((d.files.length : Int) == 3) = true := by rw [H3.out]; rfl
  have fp := HBP3.out.cell; have fr := (HR3.out.get 0 rfl).cell; have zr := (HR3.out.get 0 rfl).frozen; have sr := HR3.out.le 0 rfl
  go_wp2_with fail
  refine bodyPost_ret (v := .tuple #[.agg #[.int .i64 0, .int .i64 0, .int .i64 0, .slice none 0 0, .slice none 0 0, .slice none 0 0], .int .i64 4]) (by simp [results, Tryz.results15, go_sem, fr]) rfl ⟨_, rfl, ?_, ?_⟩
  · exact (ownDev_none _ _ _ (by first | (simp [World.setCell]; done) | (simp [World.setCell]; omega)))
  · iterate 6 (with_reducible refine Below.setCell ?_ (by simp; try omega) _)
    exact HR3.out.1

set_option maxHeartbeats 8000000 in
set_option maxRecDepth 100000 in
theorem iUse_new (d : Dev) (nm : ByteArray) (v : Value) (lo hi : Nat) (w : World) (hx : DevR w lo hi v d) (hhi : hi ≤ w.heap.size) (hs : DevSmall d) (hB : devB d = true) (hz : ¬ nm.size = 0) (hN : nameB nm = true) (hl : nm.size ≤ 1048576) (hT : thereB d.files nm = false) (h3 : ¬ d.files.length = 3) :
    Calls Tryz.prog 15 #[v, .string nm] w fun e w' => ∃ v', e = .returned (.tuple #[v', .int .i64 0]) ∧ OwnDev w' w.heap.size w'.heap.size v' ⟨(place d.files nm : Int) + 1, d.scr, ins (place d.files nm) (filNew nm) d.files, d.keys⟩ ∧ Below w.heap.size w w' := by
  have HX := Lib.hid hx; have HS := Lib.hid hs
  obtain ⟨A, c, F, cf, J, cj, rfl, h1, h2, h3⟩ := hx
  have R0 := (((Stand.nil w).add lo hi _ (loc_devR lo hi (.agg (devCs d A c F cf J cj)) d) hhi HX.out).box 32 (devCs d A c F cf J cj)).box 32 #[.int .i64 0, .int .i64 0, .int .i64 0, .slice none 0 0, .slice none 0 0, .slice none 0 0]
  rw [heap_size_alloc1] at R0
  have HR0 := Lib.hid R0
  have HOK := Lib.hid (fun W v h1 h2 => implDevicesOk_any d v lo hi W h1 h2 HS.out)
  clear h1 h2 h3 R0 hs
  rw [hB] at HOK
  have HGD := Lib.hid (DevGood.of hB)
  have hn3 := HGD.out.n3
  have hr0 : 0 < d.scr.rows.length := by have := HGD.out.fine.len; omega
  have HFI := Lib.hid (fun p A2 c2 V cv K2 ck2 lo hi W hB h1 h2 => file_any p d A2 c2 V cv K2 ck2 lo hi nm W hB h1 h2 (by omega) HGD.out.sorted)
  rw [hT] at HFI
  have hPn := place_le d.files nm
  generalize hPL : place d.files nm = P at *
  clear hPL
  have e1 : nm.toList.isEmpty = false := by rw [ByteArray.toList_eq]; cases h : nm.data.toList with | nil => exact absurd (by rw [ByteArray.size, ← Array.length_toList, h]; rfl) hz | cons a l => rfl
  have e2 : (!nm.toList.isEmpty) = true := by rw [e1]; rfl
  go_enter Tryz.func15, Tryz.ntmps15
  go_wp2_with fail
  refine (HOK.out _ _ (HR0.out.get 2 rfl) (HR0.out.le 2 rfl)).mono ?_
  rintro e1 w1 ⟨rfl, hb1⟩
  have HR1 := Lib.hid (HR0.out.below hb1); clear hb1 HR0 HOK
  have f1 := (HR1.out.get 1 rfl).cell
  go_wp2_with fail
  refine (implNameOk_any nm _ (by omega)).mono ?_
  rintro e9 w9 ⟨rfl, rfl⟩
  rw [hN]
  go_wp2_with fail
  refine (copyDevices_own d _ lo hi _ (HR1.out.get 2 rfl) (HR1.out.le 2 rfl) hr0 HS.out).mono ?_
  rintro e2 w2 ⟨p, A2, c2, V, cv, K2, ck2, rfl, hp1, hp2, hBp, ⟨a1, b1, a3, b3, B, hq, x13, ⟨oA, oAb⟩, ⟨xs, hxs, hfx⟩, oK, oKb⟩, hb2⟩
  have s1 := HR1.out.le 0 rfl
  have s2 := hb2.size
  have HR2 := Lib.hid (HR1.out.below hb2); clear hb2 f1 HR1
  have HQ := Lib.hid hq; have HX13 := Lib.hid x13; have HOA := Lib.hid oA; have HOAB := Lib.hid oAb; have HXS := Lib.hid hxs; have HFX := Lib.hid hfx; have HOK := Lib.hid oK; have HOKB := Lib.hid oKb; have HBP := Lib.hid hBp
  have hpB := hq.2.2.2.2.1; have hBw := hq.2.2.2.2.2; have hwp := hp1
  clear hq x13 oA oAb hxs hfx oK oKb hBp
  have hfr := HFX.out.fils.reads
  rw [HXS.out] at hfr
  have HFR := Lib.hid hfr; clear hfr
  have fp := HBP.out.cell
  go_wp2_with fail
  refine (HFI.out _ _ _ _ _ _ _ _ _ _ HBP.out HFR.out (Nat.le_refl _)).mono ?_
  rintro e3 w3 ⟨rfl, hb3⟩
  have s3 := hb3.size
  have HR3 := Lib.hid (HR2.out.below hb3); have HBP3 := Lib.hid (HBP.out.below hb3 HBP.out.lt); have HOA3 := Lib.hid (own_below HOA.out hb3); have HOK3 := Lib.hid (own_below HOK.out hb3)
  have HFX3 := Lib.hid ((loc_ownFx _ _ _ xs w2 w3 (fun b h1 h2 => hb3.block b h2) HFX.out).more s3)
  clear hb3 HR2 HBP HOA HOK HFX HFR HFI fp
  have t3 : ((d.files.length : Int) == 3) = false := by rw [beq_eq_false_iff_ne]; omega
  have HXL := Lib.hid (show xs.length = d.files.length by rw [← HXS.out]; simp)
  have fp := HBP3.out.cell; have j0 : (P : Int) + 1 ≤ 4 := by omega
  go_wp2_with fail
  have hfb := (loc_ownFx _ _ _ xs w3 (w3.alloc (.cells #[.string nm, .slice none 0 0, .string ⟨#[]⟩, .int .i64 0] 55)) (fun b _ h2 => Below.heap_alloc w3 _ b h2) HFX3.out)
  have hrw := hfb.row
  rw [HXL.out] at hrw
  have hsa : (w3.alloc (.cells #[.string nm, .slice none 0 0, .string ⟨#[]⟩, .int .i64 0] 55)).heap.size = w3.heap.size + 1 := by simp
  have hvb : ∀ g, (Value.slice V d.files.length cv).ownBlock = some g → g < w3.heap.size := fun g hg => HFX3.out.top g hg
  refine (insertFil_any (.slice V d.files.length cv) d.files.length P w3.heap.size 1 B (flat xs) (Fx.cells ⟨filNew nm, none, 0⟩) _ hrw hPn (by omega) (by omega) (Blk.new w3 55 #[.string nm, .slice none 0 0, .string ⟨#[]⟩, .int .i64 0]) (fun e => by have := hvb _ e; omega) rfl (by intro u hu; simp only [Fx.cells, Fx.sl, List.mem_cons, List.not_mem_nil, or_false] at hu; rcases hu with rfl | rfl | rfl | rfl <;> rfl) (flat_one xs)).mono ?_
  rintro e4 w4 ⟨g', cap', rfl, hr4, hg4, hat4⟩
  have s4 : w3.heap.size + 1 ≤ w4.heap.size := by have := hg4.size; omega
  have hfx4 := OwnFx.insert (k := P) (y := ⟨filNew nm, none, 0⟩) hfb (by rw [hsa]; omega) rfl rfl hg4 hat4 (by rw [HXL.out]; exact hr4)
  rw [HXL.out] at hfx4
  have hkb : ∀ b, b < B → w4.heap[b]? = w3.heap[b]? := fun b hb => (hg4.block b (by omega) (fun e => by have := (hrw.lt b e.symm).1; omega)).trans (Below.heap_alloc w3 _ b (by omega))
  have HBP4 := Lib.hid (show Blk w4 p 32 (devCs d A2 c2 V cv K2 ck2) from (hkb p hpB).trans HBP3.out)
  have HRB4 := Lib.hid (show Blk w4 (w.heap.size + 1) 32 #[.int .i64 0, .int .i64 0, .int .i64 0, .slice none 0 0, .slice none 0 0, .slice none 0 0] from (hkb _ (by omega)).trans (HR3.out.get 0 rfl))
  have HBEL := Lib.hid (show Below w.heap.size w w4 from ((HR3.out.1.alloc (by have := HR3.out.1.size; omega) _).grown hg4 (by omega) (fun k hk => by have := (hrw.lt k hk).1; omega)))
  have HOA4 := Lib.hid (own_keep (hi := b1) HOA3.out HOAB.out (fun b h1 h2 => hkb b (by have := HQ.out.2.1; omega)))
  have HOK4 := Lib.hid (own_keep (hi := b3) HOK3.out HOKB.out (fun b h1 h2 => hkb b (by have := HQ.out.2.2.2.1; omega)))
  have HFX4 := Lib.hid hfx4; have HIL := Lib.hid (ins_len P (filNew nm) d.files); have HIM := Lib.hid (show (ins P (⟨filNew nm, none, 0⟩ : Fx) xs).map Fx.f = ins P (filNew nm) d.files by rw [ins_map, HXS.out])
  clear hfb hrw hsa hvb hr4 hg4 hat4 hfx4 hkb HFX3 HBP3 HOA3 HOK3 HR3 fp
  have fp := HBP4.out.cell; have zp := HBP4.out.frozen; have fr := HRB4.out.cell; have zr := HRB4.out.frozen
  go_wp2_with fail
  refine bodyPost_ret (v := .tuple #[.agg #[.int .i64 ((P : Int) + 1), .int .i64 d.scr.row, .int .i64 d.scr.col, .slice A2 d.scr.rows.length c2, .slice (some ⟨g', 0, none⟩) (d.files.length + 1) cap', .slice K2 d.keys.length ck2], .int .i64 0]) (by simp [results, Tryz.results15, go_sem, fr]) rfl ⟨_, rfl, ?_, ?_⟩
  · obtain ⟨q1, q2, q3, q4, q5, q6⟩ := HQ.out
    rw [← HIL.out]
    refine ownDev_mk (W := w4) (p := p) (r := w.heap.size + 1) (d := ⟨(P : Int) + 1, d.scr, ins P (filNew nm) d.files, d.keys⟩) (lo := w.heap.size) ⟨by omega, q2, by omega, q4, q5, by omega⟩ ⟨by omega, by omega, by omega⟩ (by omega) HX13.out HOA4.out HOAB.out HIM.out (by have := HFX4.out; rw [← HIL.out] at this; exact this) HOK4.out HOKB.out (fun b h1 h2 => ?_) (by simp [World.setCell])
    iterate 8 (with_reducible rw [Below.heap_setCell _ _ _ b (by simp; omega)])
  · iterate 8 (with_reducible refine Below.setCell ?_ (by simp; try omega) _)
    exact HBEL.out

theorem implUseDevice_any (d : Dev) (nm : ByteArray) (v : Value) (lo hi : Nat) (w : World) (hx : DevR w lo hi v d) (hhi : hi ≤ w.heap.size) (hs : DevSmall d) (hl : nm.size ≤ 1048576) :
    Calls Tryz.prog 15 #[v, .string nm] w fun e w' => ∃ v', e = .returned (.tuple #[v', .int .i64 (useP d nm).2]) ∧ OwnDev w' w.heap.size w'.heap.size v' (useP d nm).1 ∧ Below w.heap.size w w' := by
  cases hB : devB d
  · rw [show useP d nm = (noDev, 1) by simp [useP, hB]]
    exact iUse_bad d nm v lo hi w hx hhi hs hB
  · by_cases hz : nm.size = 0
    · rw [show useP d nm = (⟨0, d.scr, d.files, d.keys⟩, 0) by simp [useP, useDev, hB, hz]]
      refine iUse_empty d nm v lo hi w hx hhi hs hB ?_
      obtain ⟨a⟩ := nm
      have : a = #[] := Array.eq_empty_of_size_eq_zero hz
      rw [this]
    · cases hN : nameB nm
      · rw [show useP d nm = (noDev, 1) by simp [useP, hB, hz, hN]]
        exact iUse_name d nm v lo hi w hx hhi hs hB hz hN hl
      · cases hT : thereB d.files nm
        · by_cases h3 : d.files.length = 3
          · rw [show useP d nm = (noDev, 4) by simp [useP, useDev, hB, hz, hN, hT, h3]]
            exact iUse_many d nm v lo hi w hx hhi hs hB hz hN hl hT h3
          · rw [show useP d nm = (⟨(place d.files nm : Int) + 1, d.scr, ins (place d.files nm) (filNew nm) d.files, d.keys⟩, 0) by simp [useP, useDev, hB, hz, hN, hT, h3]]
            exact iUse_new d nm v lo hi w hx hhi hs hB hz hN hl hT h3
        · rw [show useP d nm = (⟨(place d.files nm : Int) + 1, d.scr, d.files, d.keys⟩, 0) by simp [useP, useDev, hB, hz, hN, hT]]
          exact iUse_there d nm v lo hi w hx hhi hs hB hz hN hl hT

end Go.Proofs.YtmeholhmadeehaaGreatDoor
