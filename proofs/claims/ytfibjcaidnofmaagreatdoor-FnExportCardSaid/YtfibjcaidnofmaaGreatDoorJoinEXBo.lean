/- The program's ImportTree walked. -/
import Derived.Test.YtfibjcaidnofmaaGreatDoorJoinEXBm
namespace Go.Proofs.YtfibjcaidnofmaaGreatDoor
open Go.RowKit
attribute [local go_sem] Oper.semAt_some

theorem importP_not {l : List UInt8} (h : ¬ 60000 < l.length) (hl : ∀ c ∈ l, c ≠ 10) : importP l = (14, []) := importP_nil h (by rw [linesP_none l hl])
/-- What the program's ImportTree owes. -/
def ImpO (w w' : World) (imp : Int × List Nod) (e : Ending) : Prop :=
  ∃ A c, e = .returned (.tuple #[.agg #[.slice A imp.2.length c], .int .i64 imp.1]) ∧ Own shTree w' w.heap.size w'.heap.size [.slice A imp.2.length c] (imp.2.map tyOf)
theorem impO_none {w w' : World} {imp : Int × List Nod} {k : Int} (h : imp = (k, [])) : ImpO w w' imp (.returned (.tuple #[.agg #[.slice none 0 0], .int .i64 k])) := by
  subst h
  exact ⟨none, 0, rfl, Own.nil_row _ _ _⟩

/-- The cells of the two results. -/
def Cells2 (w W : World) (u v : Value) : Prop := Blk W w.heap.size 26 #[u] ∧ Blk W (w.heap.size + 1) 2 #[v] ∧ Below w.heap.size w W
theorem Cells2.below {w W W' : World} {u v : Value} (h : Cells2 w W u v) (hb : Below W.heap.size W W') : Cells2 w W' u v :=
  ⟨h.1.below hb h.1.lt, h.2.1.below hb h.2.1.lt, h.2.2.trans (hb.mono h.2.2.size)⟩
theorem Cells2.set {w W : World} {u v : Value} (h : Cells2 w W u v) (x y : Value) : Cells2 w ((W.setCell ⟨w.heap.size, 0, none⟩ x).setCell ⟨w.heap.size + 1, 0, none⟩ y) x y :=
  ⟨(h.1.set_ 0 x).far (by simp) y, (h.2.1.far (by simp) x).set_ 0 y, (h.2.2.setCell (Nat.le_refl _) _).setCell (by simp) _⟩
theorem Cells2.facts {w W : World} {u v : Value} (h : Cells2 w W u v) (x : Value) : (∀ i, W.cell? ⟨w.heap.size, i, none⟩ = (#[u] : Array Value)[i]?) ∧ W.frozen? ⟨w.heap.size, 0, none⟩ = false ∧
    (∀ i, (W.setCell ⟨w.heap.size, 0, none⟩ x).cell? ⟨w.heap.size + 1, i, none⟩ = (#[v] : Array Value)[i]?) ∧ (W.setCell ⟨w.heap.size, 0, none⟩ x).frozen? ⟨w.heap.size + 1, 0, none⟩ = false := by
  have hB1' := h.2.1.far (p := ⟨w.heap.size, 0, none⟩) (by simp) x
  exact ⟨h.1.cell, h.1.frozen 0, hB1'.cell, hB1'.frozen 0⟩
theorem below_putObj {B : Nat} {a W : World} (h : Below B a W) {l : Nat} (hl : B ≤ l) (o : Obj) : Below B a (W.putObj l o) :=
  ⟨h.os, h.tape, h.output, by have := h.size; simpa using this, fun k hk => (World.putObj_heap_other (by omega)).trans (h.block k hk)⟩
theorem Cells2.putObj {w W : World} {u v : Value} (h : Cells2 w W u v) {l : Nat} (hl : w.heap.size + 1 < l) (o : Obj) : Cells2 w (W.putObj l o) u v :=
  ⟨(World.putObj_heap_other (by omega)).trans h.1, (World.putObj_heap_other (by omega)).trans h.2.1, below_putObj h.2.2 (by omega) o⟩
theorem Cells2.far {w W : World} {u v : Value} (h : Cells2 w W u v) {p : Addr} (hp : w.heap.size + 1 < p.block) (x : Value) : Cells2 w (W.setCell p x) u v :=
  ⟨h.1.far (by omega) x, h.2.1.far (by omega) x, h.2.2.setCell (by omega) _⟩
theorem keeps_below {W W' : World} (h : Below W.heap.size W W') : KeepsOthers W W' := ⟨h.size, fun k _ hk _ => (h.block k (Array.getElem?_eq_some_iff.1 hk).1).trans hk⟩
theorem Blk.put_ {w : World} {g l : Nat} {t : TypeId} {cs : Array Value} (h : Blk w g t cs) (hl : g ≠ l) (o : Obj) : Blk (w.putObj l o) g t cs := (World.putObj_heap_other hl).trans h
theorem Own.put_ {α : Type} {s : Sh α} {w : World} {lo hi l : Nat} {vs : List Value} {x : α} (h : Own s w lo hi vs x) (hl : l < lo) (o : Obj) : Own s (w.putObj l o) lo hi vs x := h.keep fun b h1 _ => World.putObj_heap_other (by omega)

/-- What the loop keeps: the nodes read so far, in the tree's row. -/
def ImIv (w : World) (B8 S5 : Nat) (pre : List ByteArray) (W : World) : Prop :=
  Cells2 w W (.slice none 0 0) (.int .i64 0) ∧ S5 ≤ W.heap.size ∧ ∃ ns A c, readAll (pre.map fun x => trimN x.data.toList) = some ns ∧ ns.length = pre.length ∧ Blk W B8 26 #[.slice A ns.length c] ∧ Own (Sh.row 32 shNode) W (S5 + 2) W.heap.size [.slice A ns.length c] (ns.map tyOf)
def ImIx (w : World) (IMP : Int × List Nod) (c : Code) (_ : List ByteArray) (W : World) : Prop := c = .ret ∧ IMP = (14, []) ∧ Cells2 w W (.slice none 0 0) (.int .i64 14)
theorem ImIv.alloc {w : World} {B8 S5 : Nat} {pre : List ByteArray} {W : World} (h : ImIv w B8 S5 pre W) (o : Obj) : ImIv w B8 S5 pre (W.alloc o) := by
  obtain ⟨h1, h2, ns, A, c, h3, h4, h5, h6⟩ := h
  have hb := (Below.refl W.heap.size W).alloc (Nat.le_refl _) o
  exact ⟨h1.below hb, by simp; omega, ns, A, c, h3, h4, h5.alloc o, (h6.below hb (Nat.le_refl _)).more (Nat.le_refl _) hb.size⟩
theorem ImIv.put {w : World} {B8 S5 : Nat} {pre : List ByteArray} {W : World} (h : ImIv w B8 S5 pre W) (hB : B8 < S5) (hw : w.heap.size < S5) (o : Obj) : ImIv w B8 S5 pre (W.putObj (S5 + 1) o) := by
  obtain ⟨h1, h2, ns, A, c, h3, h4, h5, h6⟩ := h
  have hz : (W.putObj (S5 + 1) o).heap.size = W.heap.size := by simp
  exact ⟨h1.putObj (by omega) o, by omega, ns, A, c, h3, h4, h5.put_ (by omega) o, by rw [hz]; exact h6.put_ (by omega) o⟩
theorem ImIv.set {w : World} {B8 S5 Bx : Nat} {pre : List ByteArray} {W : World} (h : ImIv w B8 S5 pre W) (hB : Bx ≠ B8) (hw : w.heap.size + 1 < Bx) (hx : Bx < S5) (v : Value) : ImIv w B8 S5 pre (W.setCell ⟨Bx, 0, none⟩ v) := by
  obtain ⟨h1, h2, ns, A, c, h3, h4, h5, h6⟩ := h
  have hz : (W.setCell ⟨Bx, 0, none⟩ v).heap.size = W.heap.size := by simp
  exact ⟨h1.far (by simpa using hw) v, by omega, ns, A, c, h3, h4, h5.far (by simpa using hB.symm) v, by rw [hz]; exact h6.setCell (by simp; omega) v⟩
theorem ImIv.drew {w : World} {B8 S5 : Nat} {pre : List ByteArray} {W : World} (h : ImIv w B8 S5 pre W) (k : Nat) : ImIv w B8 S5 pre (W.drewN k) := by
  obtain ⟨h1, h2, ns, A, c, h3, h4, h5, h6⟩ := h
  exact ⟨h1.below (below_drewN' W k), h2, ns, A, c, h3, h4, h5.drewN k, h6.below (below_drewN' W k) (Nat.le_refl _)⟩

theorem chunk_len {l a : List UInt8} (h : a ∈ chunksP l) : a.length ≤ l.length + 1 := by
  have h2 := linesP_len l
  unfold chunksP at h
  rcases List.mem_append.1 h with h | h
  · obtain ⟨b, hb, rfl⟩ := List.mem_map.1 h
    have := h2.1 b hb
    rw [List.length_append]; simp; omega
  · split at h
    · cases h
    · rw [List.mem_singleton.1 h]
      have := h2.2; omega
theorem trimN_len (a : List UInt8) : (trimN a).length ≤ a.length := by
  unfold trimN Lib.trimSuffix
  split
  · rw [List.length_take]; exact Nat.min_le_right _ _
  · exact Nat.le_refl _
theorem nodO_low {w : World} {b b' : Nat} {v : Value} {x : Nod} (h : NodO w b v x) (hb : b' ≤ b) : NodO w b' v x := by
  obtain ⟨A, c, e, h1, h2⟩ := h
  exact ⟨A, c, e, h1, h2.1, h2.2.imp id fun ⟨g, cap, cur, e1, e2, r⟩ => ⟨g, cap, cur, e1, Nat.le_trans hb e2, r⟩⟩
theorem nodO_own {w : World} {base : Nat} {v : Value} {x : Nod} (h : NodO w base v x) (hb : base ≤ w.heap.size) : ∃ A c, v = .agg #[.string x.name, .slice A x.subs.length c, .string x.value] ∧ Own shNode w base w.heap.size [.string x.name, .slice A x.subs.length c, .string x.value] (tyOf x) := by
  obtain ⟨A, c, e, h⟩ := h
  obtain ⟨A', c', e2, h2⟩ := Own_of_ownR h (Nat.le_refl _)
  injection e2 with e3 e4 e5
  subst e3 e5
  exact ⟨A, c, e, Own.prod (Own.one w base base _) (Own.prod h2 (Own.one w w.heap.size w.heap.size _) (Nat.le_refl _) hb (Nat.le_refl _)) (Nat.le_refl _) (Nat.le_refl _) hb⟩

theorem heap_set2 {w W : World} {D : Nat} {o : Obj} (h : W.heap[D]? = some o) (h0 : w.heap.size ≠ D) (h1 : w.heap.size + 1 ≠ D) (x y : Value) : ((W.setCell ⟨w.heap.size, 0, none⟩ x).setCell ⟨w.heap.size + 1, 0, none⟩ y).heap[D]? = some o :=
  (Below.heap_setCell _ ⟨w.heap.size + 1, 0, none⟩ _ _ (fun e => h1 e.symm)).trans ((Below.heap_setCell _ ⟨w.heap.size, 0, none⟩ _ _ (fun e => h0 e.symm)).trans h)

theorem results2 (tmps : Array Value) (w W : World) (u v : Value) (h : Blk W w.heap.size 26 #[u] ∧ Blk W (w.heap.size + 1) 2 #[v])
    (h2 : tmps.getD 2 undef = .pointer (some ⟨w.heap.size, 0, none⟩)) (h3 : tmps.getD 3 undef = .pointer (some ⟨w.heap.size + 1, 0, none⟩)) :
    (results Tryz.f14 tmps).run Tryz.prog W = .ok (.tuple #[.agg #[u], v]) W := by
  have h2' : tmps[2]?.getD undef = .pointer (some ⟨w.heap.size, 0, none⟩) := by simpa using h2
  have h3' : tmps[3]?.getD undef = .pointer (some ⟨w.heap.size + 1, 0, none⟩) := by simpa using h3
  have c3 := h.2.cell 0
  have hv : (loadVar 2 ⟨w.heap.size + 1, 0, none⟩).run Tryz.prog W = .ok v W := by simp [loadVar, isAgg, c3]
  simp [results, h2', h3', asAddr, run_loadVar_row W w.heap.size 26 26 #[u] (0, 0) _ h.1 Tryz.underlying26 rfl (by kernel_rfl), hv]

theorem importP_big {l : List UInt8} (h : 60000 < l.length) : importP l = (4, []) := by unfold importP; rw [if_pos h]
theorem cutR_any (s : ByteArray) (hs : s.size ≤ 1048576) (W : World) (hm : ∃ m', W.cell? ⟨0, 0, none⟩ = some (.int .i64 m')) :
    Calls Tryz.prog 39 #[.string s, .string ⟨#[10]⟩] W fun e w' => (∃ F R b, e = .returned (.tuple #[.string F, .string R, .bool b]) ∧ F.size ≤ 1048576 ∧ R.size ≤ 1048576 ∧
      ((b = true ∧ s.data.toList = F.data.toList ++ 10 :: R.data.toList ∧ ∀ c ∈ F.data.toList, c ≠ 10) ∨ (b = false ∧ ∀ c ∈ s.data.toList, c ≠ 10))) ∧ Below W.heap.size W w' := by
  obtain ⟨m0, hm0⟩ := hm
  have hlen : s.data.toList.length = s.size := by simp
  refine (Tryz.strings_Cut s ⟨#[10]⟩ m0 W (by omega) hm0).mono ?_
  rintro e w' ⟨he, k, rfl⟩
  have he' : e = .returned (.tuple #[.string ⟨(Lib.cut s.data.toList [10]).1.toArray⟩, .string ⟨(Lib.cut s.data.toList [10]).2.1.toArray⟩, .bool (Lib.cut s.data.toList [10]).2.2]) := he
  refine ⟨?_, below_drewN' W k⟩
  rcases cut_cases s.data.toList with ⟨a, z, el, ha, hc⟩ | ⟨hn, hc⟩
  · rw [hc] at he'
    have := congrArg List.length el
    rw [hlen, List.length_append, List.length_cons] at this
    exact ⟨_, _, _, he', by show a.length ≤ _; omega, by show z.length ≤ _; omega, .inl ⟨rfl, el, ha⟩⟩
  · rw [hc] at he'
    exact ⟨_, _, _, he', by show s.data.toList.length ≤ _; omega, by show 0 ≤ _; omega, .inr ⟨rfl, hn⟩⟩

set_option maxHeartbeats 16000000 in
set_option maxRecDepth 100000 in
theorem implImportTree_any (s : ByteArray) (hs : s.size ≤ 1048576) (w : World) (hE : EnvR w) :
    Calls Tryz.prog 14 #[.string s] w fun e w' => ImpO w w' (importP s.data.toList) e ∧ Below w.heap.size w w' := by
  obtain ⟨IMP, hIMP⟩ : ∃ IMP, IMP = importP s.data.toList := ⟨_, rfl⟩
  rw [← hIMP]
  have HI := Lib.hid hIMP
  have hlen : s.data.toList.length = s.size := by simp
  obtain ⟨mm, hm⟩ := hE.1.2
  have hb0 := ((Below.refl w.heap.size w).alloc (Nat.le_refl _) (.cells #[.slice none 0 0] 26)).alloc (by simp) (.cells #[.int .i64 0] 2)
  have C0 : Cells2 w ((w.alloc (.cells #[.slice none 0 0] 26)).alloc (.cells #[.int .i64 0] 2)) (.slice none 0 0) (.int .i64 0) := ⟨(Blk.new w 26 #[.slice none 0 0]).alloc (.cells #[.int .i64 0] 2), by
    have := Blk.new (w.alloc (.cells #[.slice none 0 0] 26)) 2 #[.int .i64 0]
    simpa using this, hb0⟩
  have C0 := Lib.hid C0
  have hz0 : ((w.alloc (.cells #[.slice none 0 0] 26)).alloc (.cells #[.int .i64 0] 2)).heap.size = w.heap.size + 2 := by simp
  have HE := Lib.hid hE
  have hmg : ∀ W, Below w.heap.size w W → ∃ m', W.cell? ⟨0, 0, none⟩ = some (.int .i64 m') := fun W hb => (hE.below hb).1.2
  have HMG := Lib.hid hmg
  clear hIMP hE hb0 hm hmg
  refine (callsIn_wide (n := 5)).1 (callsIn_of_wp_marks Tryz.func14 rfl trivial ?_)
  refine wpIn_wide.2 ?_
  obtain ⟨Q, hQ⟩ : ∃ Q, Q = bodyPostM Fence.wide 5 Tryz.prog Tryz.f14 (fun e w' => ImpO w w' IMP e ∧ Below w.heap.size w w') := ⟨_, rfl⟩
  rw [← hQ]
  have HQ0 := Lib.hid (fun (tmps : Array Value) (W : World) (k : Int) (h2 : tmps.getD 2 undef = .pointer (some ⟨w.heap.size, 0, none⟩)) (h3 : tmps.getD 3 undef = .pointer (some ⟨w.heap.size + 1, 0, none⟩)) (hC : Cells2 w W (.slice none 0 0) (.int .i64 k)) (hI : IMP = (k, [])) => show Q .ret { tmps := tmps, defers := [] } W by
    rw [hQ]; exact postM_ret0 (results2 tmps w W _ _ ⟨hC.1, hC.2.1⟩ h2 h3) rfl ⟨impO_none hI, hC.2.2⟩)
  have HQ1 := Lib.hid (fun (tmps : Array Value) (W : World) (D : Nat) (A : Option Addr) (c : Nat) (h2 : tmps.getD 2 undef = .pointer (some ⟨w.heap.size, 0, none⟩)) (h3 : tmps.getD 3 undef = .pointer (some ⟨w.heap.size + 1, 0, none⟩)) (hK : W.heap[D]? = some (.deferred (some []))) (hD : w.heap.size + 1 < D) (hC : Cells2 w W (.slice A IMP.2.length c) (.int .i64 IMP.1))
      (hO : Own shTree (W.putObj D (.deferred none)) w.heap.size (W.putObj D (.deferred none)).heap.size [.slice A IMP.2.length c] (IMP.2.map tyOf)) => show Q .ret { tmps := tmps, defers := [{ target := .collected D, args := #[] }] } W by
    have hC' := hC.putObj hD (.deferred none)
    rw [hQ]; exact postM_ret1 hK (results2 tmps w _ _ _ ⟨hC'.1, hC'.2.1⟩ h2 h3) rfl ⟨⟨A, c, rfl, hO⟩, hC'.2.2⟩)
  have HQ2 := Lib.hid (fun (tmps : Array Value) (W : World) (D : Nat) (k : Int) (h2 : tmps.getD 2 undef = .pointer (some ⟨w.heap.size, 0, none⟩)) (h3 : tmps.getD 3 undef = .pointer (some ⟨w.heap.size + 1, 0, none⟩)) (hK : W.heap[D]? = some (.deferred (some []))) (hD : w.heap.size + 1 < D) (hC : Cells2 w W (.slice none 0 0) (.int .i64 k)) (hI : IMP = (k, [])) =>
    show Q .ret { tmps := tmps, defers := [{ target := .collected D, args := #[] }] } W from HQ1.out tmps W D none 0 h2 h3 hK hD (by rw [hI]; exact hC) (by rw [hI]; exact Own.nil_row _ _ _))
  clear hQ
  simp only [Tryz.ntmps14, List.size_toArray, List.length_cons, List.length_nil, Nat.reduceAdd, Nat.reduceSub, Array.replicate_succ, Array.replicate_zero, List.push_toArray, List.append_toArray, List.nil_append, List.cons_append]
  go_wp2_with fail
  refine (cutR_any s hs _ (HMG.out _ C0.out.2.2)).mono ?_
  rintro e1 w1 ⟨⟨F, R, b, rfl, hF, hR, hcut⟩, hb1⟩
  have C1 := Lib.hid (C0.out.below hb1)
  have hz1 := hb1.size
  have HCUT := Lib.hid hcut
  clear C0 hb1 hcut
  go_wp2_with fail
  refine (announced_any F hF _ (HE.out.below C1.out.2.2)).mono ?_
  rintro e2 w2 ⟨rfl, hb2⟩
  have C2 := Lib.hid (C1.out.below hb2)
  have hz2 := hb2.size
  clear C1 hb2
  obtain ⟨M, hM⟩ : ∃ M, M = manyP F.data.toList := ⟨_, rfl⟩
  rw [← hM]
  have HM := Lib.hid hM
  clear hM
  by_cases hbig : 60000 < s.size
  · have HI4 := Lib.hid (HI.out.trans (importP_big (by rw [hlen]; exact hbig)))
    have i1 : (60000 : Int) < (s.size : Int) := by omega
    clear hlen
    obtain ⟨f0, z0, f1, z1⟩ := C2.out.facts (.slice none 0 0)
    go_wp2_with fail
    exact HQ0.out _ _ _ rfl rfl (C2.out.set _ _) HI4.out
  · have i1 : ¬ (60000 : Int) < (s.size : Int) := by omega
    have H60 := Lib.hid (show ¬ 60000 < s.data.toList.length by rw [hlen]; exact hbig)
    have HLEN := Lib.hid hlen
    clear hlen hbig
    rcases HCUT.out with ⟨rfl, hl, ha⟩ | ⟨rfl, hn⟩
    · have hR60 : R.size < 60000 := by
        have h1 := congrArg List.length hl
        rw [HLEN.out, List.length_append, List.length_cons] at h1
        have h2 : R.data.toList.length = R.size := by simp
        omega
      have HIC := Lib.hid (importP_cons H60.out (a := F.data.toList) (L := (linesP R.data.toList).1) (by rw [hl, linesP_line _ _ ha]))
      rw [← HI.out, show (linesP s.data.toList).2 = (linesP R.data.toList).2 by rw [hl, linesP_line _ _ ha], ← HM.out] at HIC
      clear HCUT hl ha
      by_cases h120 : 120 < M
      · have HI4 := Lib.hid (HIC.out.1 h120)
        obtain ⟨f0, z0, f1, z1⟩ := C2.out.facts (.slice none 0 0)
        go_wp2_with fail
        exact HQ0.out _ _ _ rfl rfl (C2.out.set _ _) HI4.out
      · by_cases hneg : M < 0
        · have HI4 := Lib.hid (HIC.out.2.1 h120 (.inr (.inl hneg)))
          obtain ⟨f0, z0, f1, z1⟩ := C2.out.facts (.slice none 0 0)
          go_wp2_with fail
          exact HQ0.out _ _ _ rfl rfl (C2.out.set _ _) HI4.out
        · obtain ⟨L, hL⟩ : ∃ L, L = (linesP R.data.toList).1 := ⟨_, rfl⟩
          have hcnt : Lib.countByte R.data.toList 10 = L.length := by
            rw [hL, linesP_count]; rfl
          have HL := Lib.hid hL
          have HCT := Lib.hid (Tryz.strings_Count_one R 10 w2)
          rw [hcnt] at HCT
          rw [← hL] at HIC
          clear hL hcnt
          by_cases hML : M = L.length
          · have HSF := Lib.hid (Tryz.strings_HasSuffix R ⟨#[10]⟩ w2 (by omega))
            have hsf : R.data.toList ≠ [] → Lib.hasSuffix R.data.toList (⟨#[10]⟩ : ByteArray).data.toList = decide ((linesP R.data.toList).2 = []) := fun h => linesP_whole _ h
            have HLP := Lib.hid (show ∀ L', (linesP R.data.toList).1 = L' → L = L' from fun L' h => HL.out.trans h)
            have im : ((L.length : Nat) : Int) = M := by omega
            by_cases hbad : R.data.toList ≠ [] ∧ (linesP R.data.toList).2 ≠ []
            · have HI4 := Lib.hid (HIC.out.2.1 h120 (.inl (decide_eq_false hbad.2)))
              have hr0 : R.toList.isEmpty = false := by rw [Lib.toList_data, List.isEmpty_eq_false_iff]; exact hbad.1
              rw [hsf hbad.1, decide_eq_false hbad.2] at HSF
              obtain ⟨f0, z0, f1, z1⟩ := C2.out.facts (.slice none 0 0)
              clear hML hsf hbad
              go_wp2_with fail
              refine HCT.out.mono ?_
              rintro e3 w3 ⟨rfl, rfl⟩
              go_wp2_with fail
              refine HSF.out.mono ?_
              rintro e4 w4 ⟨rfl, rfl⟩
              go_wp2_with fail
              exact HQ0.out _ _ _ rfl rfl (C2.out.set _ _) HI4.out
            · have hwh : (linesP R.data.toList).2 = [] := by
                by_cases h : R.data.toList = []
                · rw [h]; rfl
                · exact Classical.byContradiction fun h2 => hbad ⟨h, h2⟩
              have HIM := Lib.hid (HIC.out.2.2 h120 (decide_eq_true hwh) hneg hML)
              rw [decide_eq_true hwh] at hsf
              have HWH := Lib.hid hwh
              have HSQ := Lib.hid hsf
              clear HIC hML hsf hbad hwh
              go_upto_region 5 with fail
              go_cut [51] from 31 (fun bv wc => bv = .bool false ∧ w2 = wc)
              case first =>
                by_cases h0 : R.data.toList = []
                · have hr0 : R.toList.isEmpty = true := by rw [Lib.toList_data, h0]; rfl
                  go_wp2_with fail
                  refine HCT.out.mono ?_
                  rintro e3 w3 ⟨rfl, rfl⟩
                  go_wp2_with fail
                  go_meet
                  case rel => exact ⟨by rw [decide_eq_false (by omega)], rfl⟩
                · have hr0 : R.toList.isEmpty = false := by rw [Lib.toList_data, List.isEmpty_eq_false_iff]; exact h0
                  rw [HSQ.out h0] at HSF
                  go_wp2_with fail
                  refine HCT.out.mono ?_
                  rintro e3 w3 ⟨rfl, rfl⟩
                  go_wp2_with fail
                  refine HSF.out.mono ?_
                  rintro e4 w4 ⟨rfl, rfl⟩
                  go_wp2_with fail
                  go_meet
                  case rel => exact ⟨by rw [decide_eq_false (by omega)], rfl⟩
              case rest =>
                obtain ⟨rfl, rfl⟩ := hcut
                clear HSQ HSF HCT HL H60
                have C3 := Lib.hid (C2.out.below ((Below.refl w2.heap.size w2).alloc (Nat.le_refl _) (.cells #[.slice none 0 0] 26)))
                have T3 := Lib.hid (Blk.new w2 26 #[.slice none 0 0])
                have hs3 : (w2.alloc (.cells #[.slice none 0 0] 26)).heap.size = w2.heap.size + 1 := by simp
                have hs2 : w.heap.size + 1 < w2.heap.size := C2.out.2.1.lt
                go_wp2_with fail
                refine (lines_any R _).mono ?_
                rintro e5 w5 ⟨rfl, hw5⟩
                have hb5 := (Below.refl (w2.alloc (.cells #[.slice none 0 0] 26)).heap.size (w2.alloc (.cells #[.slice none 0 0] 26))).alloc (Nat.le_refl _) (.cells #[.string R] 9)
                rw [← hw5] at hb5
                have X5 := Boxed.new (w2.alloc (.cells #[.slice none 0 0] 26)) 9 (.string R)
                rw [← hw5, hs3] at X5
                have C5 := Lib.hid (C3.out.below hb5)
                have T5 := Lib.hid (T3.out.below hb5 T3.out.lt)
                have hs5 : w5.heap.size = w2.heap.size + 2 := by rw [hw5]; simp
                rw [hs3]
                have X5 := Lib.hid X5
                clear hb5 hw5 T3 C3 C2 hs3
                go_wp2_with fail
                refine (wpIn_wide (n := 5)).1 ?_
                apply wpIn_range_box (α := ByteArray) (m := 5) (gf := 102) (Bx := w2.heap.size + 1) (t := 9) (v0 := .string R) (encs := fun x => #[.string x]) rfl (enters_of Tryz.func102 (by kernel_rfl) rfl) (fun _ => rfl) X5.out (lines1_box 5 R hR (w2.heap.size + 1)) (ImIv w w2.heap.size w5.heap.size) (ImIx w IMP)
                  (fun _ _ o h => h.alloc o) (fun _ _ o _ h => h.put (by omega) (by omega) o) (fun _ _ _ v h _ => h.set (by omega) (by omega) (by omega) v) (fun _ _ k h => h.drew k) (fun _ _ _ o _ h => ⟨h.1, h.2.1, h.2.2.putObj (by omega) o⟩)
                  (by exact ⟨C5.out, Nat.le_refl _, [], none, 0, rfl, rfl, T5.out, Own.nil_row _ _ _⟩)
                case hassign =>
                  intro l x W K hK
                  gi_wp2
                  exact hK
                case hbody =>
                  rintro l pre x W v hlt ⟨hC, hsz, ns, A, c, hra, hnl, hT, hO⟩ hbx ⟨zc, hzc⟩
                  have hxl : (trimN x.data.toList).length ≤ 1048576 := by
                    have h1 := chunk_len (l := R.data.toList) (a := x.data.toList) (by rw [← hzc]; simp)
                    have h2 := trimN_len x.data.toList
                    have h3 : R.data.toList.length = R.size := by simp
                    omega
                  have hnp : ns.length ≤ 120 := by
                    have h1 := congrArg List.length hzc
                    rw [chunks_len HWH.out, ← HLP.out _ rfl, List.length_append, List.length_map, List.length_cons] at h1
                    omega
                  have hxs : x.size ≤ 9223372036854775807 := by
                    have h1 := chunk_len (l := R.data.toList) (a := x.data.toList) (by rw [← hzc]; simp)
                    have h3 : R.data.toList.length = R.size := by simp
                    have h4 : x.data.toList.length = x.size := by simp
                    omega
                  have HRA := Lib.hid (show readAll ((pre ++ [x]).map fun x => trimN x.data.toList) = (rdlI (trimN x.data.toList)).map fun n => ns ++ [n] by
                    rw [List.map_append, List.map_cons, List.map_nil, readAll_snoc, hra]; rfl)
                  have HNO := Lib.hid (show readAll ((pre ++ [x]).map fun x => trimN x.data.toList) = none → readAll L = none from fun h => by
                    have hLc : L = ((pre ++ [x]).map fun x => trimN x.data.toList) ++ zc.map trimN := by
                      rw [HLP.out _ rfl, ← trim_chunks HWH.out, ← hzc]
                      simp [List.map_append, List.map_map, Function.comp_def]
                    refine readAll_none (k := (pre ++ [x]).length) ?_
                    rw [hLc, List.take_left' (by simp)]
                    exact h)
                  obtain ⟨rd, hrd⟩ : ∃ rd, rd = rdlI (trimN x.data.toList) := ⟨_, rfl⟩
                  have HRL := Lib.hid (show Calls Tryz.prog 10 #[.string ⟨(Lib.trimSuffix x.data.toList [10]).toArray⟩] W fun e w' => (∃ v, e = .returned (.tuple #[v, .bool rd.isSome]) ∧ NodO w' (W.heap.size + 1) v (rd.getD nodD)) ∧ Below W.heap.size W w' by
                    rw [hrd]; exact implReadLine_any ⟨(Lib.trimSuffix x.data.toList [10]).toArray⟩ hxl W (HE.out.below hC.2.2))
                  rw [← hrd] at HRA
                  have HTS := Lib.hid (Tryz.strings_TrimSuffix x ⟨#[10]⟩ W hxs)
                  have HC := Lib.hid hC; have HT := Lib.hid hT; have HO := Lib.hid hO; have HBX := Lib.hid hbx
                  have HS5 := Lib.hid hs5
                  have hlw : w.heap.size + 1 < W.heap.size := hC.2.1.lt
                  clear hC hT hO hbx hzc hra hs5 hrd
                  gi_wp2
                  refine ⟨trivial, CallsIn.inRound l (callsIn_wide.2 (HTS.out.mono ?_))⟩
                  rintro e6 w6 ⟨rfl, rfl⟩
                  gi_wp2
                  refine ⟨trivial, CallsIn.inRound l (callsIn_wide.2 (HRL.out.mono ?_))⟩
                  rintro e7 w7 ⟨⟨v7, rfl, hno⟩, hb7⟩
                  obtain ⟨A7, c7, rfl, ho7⟩ := nodO_own (nodO_low hno (Nat.le_add_right _ _)) hb7.size
                  have HO7 := Lib.hid ho7
                  have hC7 := HC.out.below hb7
                  have HC7 := Lib.hid hC7
                  have HB7 := Lib.hid hb7
                  have hs7 := hb7.size
                  clear hno ho7 hb7
                  cases rd with
                  | none =>
                    have hCA := hC7.below ((Below.refl w7.heap.size w7).alloc (Nat.le_refl _) (.cells #[.string nodD.name, .slice A7 nodD.subs.length c7, .string nodD.value] 32))
                    have HCA := Lib.hid hCA
                    obtain ⟨f0, z0, f1, z1⟩ := hCA.facts (.slice none 0 0)
                    clear hC7 hCA
                    gi_wp2
                    refine ⟨(keeps_below HB7.out).trans (((KeepsOthers.alloc _ _).trans (KeepsOthers.setCell _ _ _)).trans (KeepsOthers.setCell _ _ _)), rfl, HIM.out.1 (HNO.out (by rw [HRA.out]; rfl)), HCA.out.set _ _⟩
                  | some n =>
                    have hA := (Below.refl w7.heap.size w7).alloc (Nat.le_refl _) (.cells #[.string n.name, .slice A7 n.subs.length c7, .string n.value] 32)
                    have HCA := Lib.hid (hC7.below hA)
                    have hTA := (HT.out.below HB7.out HT.out.lt).alloc (.cells #[.string n.name, .slice A7 n.subs.length c7, .string n.value] 32)
                    have HTA := Lib.hid hTA
                    have HOA := Lib.hid ((HO.out.below HB7.out (Nat.le_refl _)).below hA hs7)
                    have HNA := Lib.hid (HO7.out.below hA (Nat.le_refl _))
                    have HBA := Lib.hid (HB7.out.trans (hA.mono hs7))
                    have hsA : (w7.alloc (.cells #[.string n.name, .slice A7 n.subs.length c7, .string n.value] 32)).heap.size = w7.heap.size + 1 := by simp
                    have fT := hTA.cell
                    have HNL := Lib.hid hnl
                    clear hC7 hA hTA hnl
                    gi_wp2_with (gi_at_builtin; refine wpListIn_grow (s := shNode) rfl (.tmp 67) (.tmp 69) 24 rfl Tryz.underlying24 rfl (by decide) (by decide) infoNode (w7.alloc (.cells #[.string n.name, .slice A7 n.subs.length c7, .string n.value] 32)) (w5.heap.size + 2) w6.heap.size w6.heap.size w7.heap.size A ns.length c (ns.map tyOf) [.string n.name, .slice A7 n.subs.length c7, .string n.value] (tyOf n) rfl HOA.out HNA.out (Nat.le_refl _) hlt (by omega) (by omega) (by rw [hsA]; rfl) (by omega) ?_; intro A8 c8 w8 ho8 hb8 hs8 hk8; have hT8 := HTA.out.below hb8 (by have := HS5.out; omega); have fT8 := hT8.cell; have zT8 := hT8.frozen 0)
                    have h5 := HS5.out
                    have hC8 : Cells2 w w8 (.slice none 0 0) (.int .i64 0) := ⟨HCA.out.1.below hb8 (by omega), HCA.out.2.1.below hb8 (by omega), HCA.out.2.2.trans (hb8.mono (by omega))⟩
                    have hX8 : Blk w8 (w2.heap.size + 1) 9 #[v] := (((show Blk w6 (w2.heap.size + 1) 9 #[v] from HBX.out).below HB7.out HBX.out.lt).alloc _).below hb8 (by omega)
                    refine ⟨((((keeps_below HB7.out).trans (KeepsOthers.alloc _ _)).trans hk8).trans (KeepsOthers.setCell _ _ _)), hX8.far (by simp) _, hC8.far (by simp; omega) _, by simp; omega, ns ++ [n], A8, c8, by rw [HRA.out]; rfl, by simp [HNL.out], ?_, ?_⟩
                    · rw [List.length_append]; exact hT8.set_ 0 _
                    · rw [List.length_append, List.map_append]
                      have hz : (w8.setCell ⟨w2.heap.size, 0, none⟩ (.slice A8 (ns.length + 1) c8)).heap.size = w8.heap.size := by simp
                      rw [hz]
                      exact ho8.setCell (by simp; omega) _
                case hdone =>
                  rintro xs W hlt hS ⟨hC, hsz, ns, A, c, hra, hnl, hT, hO⟩ hK
                  have hLx : L = xs.map (fun x => trimN x.data.toList) := by
                    rw [HLP.out _ rfl, ← trim_chunks HWH.out, ← show xs.map (fun x => x.data.toList) = chunksP R.data.toList from hS, List.map_map]; rfl
                  rw [← hLx] at hra
                  have hok := readAll_ok hra
                  have hnl2 : ns.length ≤ 120 := by rw [readAll_len hra]; omega
                  have hsm : ∀ x ∈ ns, SmN (tyOf x) := fun x hx => by
                    have h1 := nodB_facts (hok x hx)
                    exact ⟨by have := h1.2.1; show x.subs.length ≤ _; omega, fun z hz => by have := nodB_facts0 (hok x hx) z hz; omega⟩
                  have HS := Lib.hid (sort_own A c (w5.heap.size + 2) ns w W HE.out.1.1 hC.2.2 (by omega) hsm hnl2 hO hlt)
                  have HSR := Lib.hid (fun (P : List Nod) h1 h2 => import_sort (ns := ns) (P := P) h1 h2 hok hnl2)
                  have HSM := Lib.hid (show ∀ P : List Nod, P.Perm ns → NodsSmall P from fun P hp => ⟨by rw [hp.length_eq]; omega, fun x hx => by
                    have h0 := hok x (hp.subset hx)
                    have h1 := nodB_facts h0
                    exact ⟨by have := h1.1; omega, by have := h1.2.2.2; omega, by have := h1.2.1; omega, fun y hy => by have := h1.2.2.1 y hy; omega⟩⟩)
                  have HI5 := Lib.hid (HIM.out.2.1 ns hra)
                  have HI0 := Lib.hid (HIM.out.2.2 ns hra)
                  have HC := Lib.hid hC; have HT := Lib.hid hT; have HK := Lib.hid hK; have HS5 := Lib.hid hs5
                  have hT2 : w2.heap.size < w5.heap.size := by omega
                  have fT := hT.cell
                  clear hC hT hO hK hs5 hra hok hnl hsm hLx hS
                  go_wp2_with fail
                  refine HS.out.mono ?_
                  rintro e9 w9 ⟨rfl, hs9, hb9, P, hP, hPw, hO9⟩
                  obtain ⟨hq1, hq2⟩ := HSR.out P hP hPw
                  have hPl : P.length = ns.length := hP.length_eq
                  have HP1 := Lib.hid hPl
                  have hC9 : Cells2 w w9 (.slice none 0 0) (.int .i64 0) := ⟨HC.out.1.below hb9 (by omega), HC.out.2.1.below hb9 (by omega), HC.out.2.2.trans (hb9.mono (by omega))⟩
                  have C9 := Lib.hid hC9
                  have T9 := Lib.hid (HT.out.below hb9 (by omega))
                  have K9 := Lib.hid (show w9.heap[w5.heap.size]? = some (.deferred (some [])) from (hb9.block _ (by omega)).trans HK.out)
                  have HTO := Lib.hid (implTreeOk_any P (.agg #[.slice A ns.length c]) (w5.heap.size + 2) w9.heap.size w9 ⟨A, c, by rw [hPl], by
                    have h1 := nodesR_of hO9.reads
                    rw [map_nodOf] at h1
                    rw [hPl]; exact h1⟩ (Nat.le_refl _) (HSM.out P hP) (HE.out.below hC9.2.2).1.1)
                  rw [hq1] at HTO
                  have fT9 := T9.out.cell
                  have HO9 := Lib.hid hO9
                  have HQE := Lib.hid hq2
                  obtain ⟨bad, hbad⟩ : ∃ bad, bad = (insN ns).2 := ⟨_, rfl⟩
                  rw [← hbad] at HI5 HI0 HTO HQE
                  clear hP hPw hO9 hq1 hq2 hPl hC9 hb9 HSR HSM HS HC HT HK hbad fT
                  go_wp2_with fail
                  refine HTO.out.mono ?_
                  rintro e10 w10 ⟨rfl, hb10⟩
                  have hC10 := C9.out.below hb10
                  have C10 := Lib.hid hC10
                  have T10 := T9.out.below hb10 T9.out.lt
                  have hs10 := hb10.size
                  have K10 := Lib.hid (show w10.heap[w5.heap.size]? = some (.deferred (some [])) from (hb10.block _ (by omega)).trans K9.out)
                  have HO10 := Lib.hid ((HO9.out.below hb10 (Nat.le_refl _)).more (Nat.le_refl _) hs10)
                  cases bad with
                  | true =>
                    obtain ⟨f0, z0, f1, z1⟩ := hC10.facts (.slice none 0 0)
                    clear hC10 hb10
                    go_wp2_with fail
                    have hD := HS5.out
                    exact HQ2.out _ _ _ _ rfl rfl (heap_set2 K10.out (by omega) (by omega) _ _) (by omega) (C10.out.set _ _) (HI5.out (by trivial))
                  | false =>
                    obtain ⟨f0, z0, f1, z1⟩ := hC10.facts (.slice A ns.length c)
                    have fT10 := T10.cell
                    clear hC10 hb10
                    go_wp2_with fail
                    have hD := HS5.out
                    have hI0 : IMP = (0, P) := by rw [HI0.out (by trivial), HQE.out (by trivial)]
                    refine HQ1.out _ _ w5.heap.size A c rfl rfl (heap_set2 K10.out (by omega) (by omega) _ _) (by omega) ?_ ?_
                    · rw [hI0]
                      show Cells2 w _ (.slice A P.length c) (.int .i64 0)
                      rw [HP1.out]
                      exact C10.out.set _ _
                    · rw [hI0]
                      show Own shTree _ _ _ [.slice A P.length c] (P.map tyOf)
                      rw [HP1.out]
                      have h1 := (((HO10.out.setCell (p := ⟨w.heap.size, 0, none⟩) (by show w.heap.size < _; omega) (.slice A ns.length c)).setCell (p := ⟨w.heap.size + 1, 0, none⟩) (by show w.heap.size + 1 < _; omega) (.int .i64 0)).put_ (l := w5.heap.size) (by omega) (.deferred none))
                      exact h1.more (by omega) (by simp)
                case hstop =>
                  rintro cc pre W hlt ⟨rfl, hI, hC⟩ hK
                  gi_step
                  gi_step
                  exact HQ2.out _ _ _ _ rfl rfl hK (by omega) hC hI
          · have HI4 := Lib.hid (HIC.out.2.1 h120 (.inr (.inr hML)))
            obtain ⟨f0, z0, f1, z1⟩ := C2.out.facts (.slice none 0 0)
            have im : ¬ ((L.length : Nat) : Int) = M := by omega
            clear hML
            go_wp2_with fail
            refine HCT.out.mono ?_
            rintro e3 w3 ⟨rfl, rfl⟩
            go_wp2_with fail
            exact HQ0.out _ _ _ rfl rfl (C2.out.set _ _) HI4.out
    · have HI4 := Lib.hid (HI.out.trans (importP_not H60.out hn))
      clear HCUT hn
      obtain ⟨f0, z0, f1, z1⟩ := C2.out.facts (.slice none 0 0)
      go_wp2_with fail
      exact HQ0.out _ _ _ rfl rfl (C2.out.set _ _) HI4.out

end Go.Proofs.YtfibjcaidnofmaaGreatDoor

