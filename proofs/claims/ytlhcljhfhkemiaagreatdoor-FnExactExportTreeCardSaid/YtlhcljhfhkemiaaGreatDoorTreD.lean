/- Trees: rows of nodes; walks of szNodeS, szTree, toNodeS, toTree, eqNodeS, eqTree. -/
import Derived.Test.YtlhcljhfhkemiaaGreatDoorNodB
import Derived.StillTailTactics
namespace Go.Proofs.YtlhcljhfhkemiaaGreatDoor
open Go.RowKit

/-- At cell o of block b there lies a node that reads as x. -/
def NodAt (w : World) (lo hi b o : Nat) (x : Nod) : Prop :=
  ∃ A c, w.cell? ⟨b, o, none⟩ = some (.string x.name) ∧ w.cell? ⟨b, o + 1, none⟩ = some (.slice A x.subs.length c) ∧ w.cell? ⟨b, o + 2, none⟩ = some (.string x.value) ∧ StrR w lo hi A x.subs.length x.subs
/-- The slice with address A and n nodes reads as ns; all of it lies in blocks from lo up to, not including, hi. -/
def NodesR (w : World) (lo hi : Nat) (A : Option Addr) (n : Nat) (ns : List Nod) : Prop :=
  ns.length = n ∧ (0 < n → ∃ b off, A = some ⟨b, off, none⟩ ∧ lo ≤ b ∧ b < hi ∧ ∀ j, j < n → NodAt w lo hi b (off + j * 3) (ns.getD j nodD))
theorem NodesR.keep {w w' : World} {lo hi : Nat} {A : Option Addr} {n : Nat} {ns : List Nod} (h : NodesR w lo hi A n ns) (hk : ∀ b, lo ≤ b → b < hi → w'.heap[b]? = w.heap[b]?) : NodesR w' lo hi A n ns :=
  ⟨h.1, fun hn => by
    obtain ⟨b, off, e, h1, h2, hc⟩ := h.2 hn
    refine ⟨b, off, e, h1, h2, fun j hj => ?_⟩
    obtain ⟨L, c, e0, e1, e2, hL⟩ := hc j hj
    have hkb := hk b h1 h2
    exact ⟨L, c, (World.cell?_of_block hkb).trans e0, (World.cell?_of_block hkb).trans e1, (World.cell?_of_block hkb).trans e2, hL.keep hk⟩⟩
theorem NodesR.below {w w' : World} {lo hi B : Nat} {A : Option Addr} {n : Nat} {ns : List Nod} (h : NodesR w lo hi A n ns) (hb : Below B w w') (hB : hi ≤ B) : NodesR w' lo hi A n ns :=
  h.keep fun b _ h2 => hb.block b (by omega)
theorem NodesR.at_ {w : World} {lo hi : Nat} {A : Option Addr} {n : Nat} {ns : List Nod} {k : Nat} (h : NodesR w lo hi A n ns) (hk : k < n) :
    ∃ b off, A = some ⟨b, off, none⟩ ∧ lo ≤ b ∧ b < hi ∧ NodAt w lo hi b (off + k * 3) (ns.getD k nodD) := by
  obtain ⟨b, off, e, h1, h2, hc⟩ := h.2 (by omega)
  exact ⟨b, off, e, h1, h2, hc k hk⟩
/-- The value v of a tree reads as ns. -/
def TreR (w : World) (lo hi : Nat) (v : Value) (ns : List Nod) : Prop := ∃ A c, v = .agg #[.slice A ns.length c] ∧ NodesR w lo hi A ns.length ns
theorem TreR.keep {w w' : World} {lo hi : Nat} {v : Value} {ns : List Nod} (h : TreR w lo hi v ns) (hk : ∀ b, lo ≤ b → b < hi → w'.heap[b]? = w.heap[b]?) : TreR w' lo hi v ns := by
  obtain ⟨A, c, hv, h1⟩ := h
  exact ⟨A, c, hv, h1.keep hk⟩
theorem TreR.below {w w' : World} {lo hi B : Nat} {v : Value} {ns : List Nod} (h : TreR w lo hi v ns) (hb : Below B w w') (hB : hi ≤ B) : TreR w' lo hi v ns :=
  h.keep fun b _ h2 => hb.block b (by omega)
theorem loc_treR (lo hi : Nat) (v : Value) (ns : List Nod) : Loc lo hi (fun w => TreR w lo hi v ns) := fun _ _ hk h => h.keep hk
theorem loc_nodesR (lo hi : Nat) (A : Option Addr) (n : Nat) (ns : List Nod) : Loc lo hi (fun w => NodesR w lo hi A n ns) := fun _ _ hk h => h.keep hk

def costNodTo (ns : List Nod) (k : Nat) : Nat := ((ns.take k).map costNod).sum
def costNods (ns : List Nod) : Nat := ns.length + (ns.map costNod).sum
def NodsReach (ns : List Nod) : Prop := ns.length ≤ 9223372036854775807 ∧ ∀ x ∈ ns, NodReach x
def NodsSmall (ns : List Nod) : Prop := ns.length ≤ 1048576 ∧ ∀ x ∈ ns, NodSmall x
theorem costNod_mem {ns : List Nod} {x : Nod} (h : x ∈ ns) : costNod x ≤ (ns.map costNod).sum := by
  induction ns with
  | nil => simp at h
  | cons y ys ih =>
    rcases List.mem_cons.1 h with rfl | h
    · simp
    · have := ih h; simp; omega
theorem NodsSmall.of_cost {ns : List Nod} (h : costNods ns ≤ 1048576) : NodsSmall ns := by
  unfold costNods at h
  exact ⟨by omega, fun x hx => NodSmall.of_cost (by have := costNod_mem hx; omega)⟩
theorem costNodTo_succ {ns : List Nod} {k : Nat} (h : k < ns.length) : costNodTo ns (k + 1) = costNodTo ns k + costNod (ns.getD k nodD) := by
  unfold costNodTo
  rw [List.take_succ_eq_append_getElem h, List.map_append, List.sum_append]
  simp [List.getD_eq_getElem?_getD, List.getElem?_eq_getElem h]
theorem nod_mem {α : Type} {fs : List α} {d : α} {k : Nat} (h : k < fs.length) : fs.getD k d ∈ fs := by
  rw [List.getD_eq_getElem?_getD, List.getElem?_eq_getElem h]
  exact List.getElem_mem _

set_option maxHeartbeats 1000000 in
theorem szNodeS_any (A : Option Addr) (n c lo hi : Nat) (left : Int) (fs : List Nod) (w : World) (ha : NodesR w lo hi A n fs) (hhi : hi ≤ w.heap.size) (hr : NodsReach fs) (hl0 : 0 ≤ left) (hl : left ≤ 1048576) :
    Calls Tryz.prog 25 #[.slice A n c, .int .i64 left] w fun e w' => ∃ m, e = .returned (.int .i64 m) ∧ Left left (costNods fs) m ∧ Below w.heap.size w w' := by
  have hlen := ha.1
  subst hlen
  have hn := hr.1
  have HA := Lib.hid ha; have HR := Lib.hid hr.2
  clear ha hr
  by_cases g0 : left - (fs.length : Int) < 0
  · go_enter Tryz.func25, Tryz.ntmps25
    go_wp2_with fail
    go_ret
    exact ⟨_, rfl, .inl rfl, Below.refl _ _⟩
  go_enter Tryz.func25, Tryz.ntmps25
  go_wp2_with fail
  go_loopw [1, 5] (fun l i wr => ∃ (k : Nat) (m : Int), k ≤ fs.length ∧ i = .int .i64 k ∧ l = .int .i64 m ∧ 0 ≤ m ∧ m + fs.length + costNodTo fs k = left ∧ Below w.heap.size w wr) (fun _ i _ => fs.length - (intOf i).toNat)
  case atStart => exact ⟨0, _, Nat.zero_le _, rfl, rfl, by omega, by simp [costNodTo], Below.refl _ _⟩
  case round =>
    obtain ⟨k, m, hk, rfl, rfl, hm0, hm, hb⟩ := hrel
    have HM := Lib.hid hm
    have hml : m ≤ 1048576 := by omega
    clear hm
    by_cases hlt : k < fs.length
    · obtain ⟨b, off, rfl, hb1, hb2, L, d, e0, e1, e2, hL⟩ := (HA.out.below hb hhi).at_ hlt
      have HS := Lib.hid (costNodTo_succ hlt)
      have HX := Lib.hid (HR.out _ (nod_mem (d := nodD) hlt))
      generalize fs.getD k nodD = F at *
      have HB := Lib.hid hb; have HL := Lib.hid hL
      have hsz := hb.size
      clear hb hL
      go_wp2_with fail
      refine (szNode_any F _ lo hi _ _ ⟨_, _, rfl, HL.out⟩ (by omega) HX.out hm0 hml).mono ?_
      rintro e5 w5 ⟨m5, rfl, hm5, hb5⟩
      rcases hm5 with rfl | ⟨hm50, hm5⟩
      · have HB5 := Lib.hid hb5; clear hb5 e0 e1 e2
        go_wp2_with fail
        go_ret
        exact ⟨_, rfl, .inl rfl, HB.out.trans (HB5.out.mono hsz)⟩
      have n5 : ¬ (m5 < 0) := by omega
      have HM5 := Lib.hid hm5
      have HB5 := Lib.hid hb5; clear hb5 e0 e1 e2 hm5
      go_wp2_with fail
      go_roundw
      case rel => exact ⟨k + 1, m5, by omega, by go_num, rfl, hm50, by have := HM.out; have := HM5.out; have := HS.out; omega, HB.out.trans (HB5.out.mono hsz)⟩
      case measure => simp [intOf]; omega
    · go_wp2_with fail
      go_ret
      obtain rfl : k = fs.length := by omega
      refine ⟨_, rfl, .inr ⟨hm0, ?_⟩, hb⟩
      have := HM.out
      unfold costNodTo at this
      rw [List.take_length] at this
      unfold costNods
      omega

set_option maxHeartbeats 1000000 in
theorem szTree_any (ns : List Nod) (v : Value) (lo hi : Nat) (left : Int) (w : World) (hx : TreR w lo hi v ns) (hhi : hi ≤ w.heap.size) (hr : NodsReach ns) (hl0 : 0 ≤ left) (hl : left ≤ 1048576) :
    Calls Tryz.prog 11 #[v, .int .i64 left] w fun e w' => ∃ m, e = .returned (.int .i64 m) ∧ Left left (costNods ns) m ∧ Below w.heap.size w w' := by
  obtain ⟨A, c, rfl, hA⟩ := hx
  have hbo := (Below.refl w.heap.size w).alloc (Nat.le_refl _) (.cells #[.slice A ns.length c] 33)
  have HC := Lib.hid (szNodeS_any A ns.length c lo hi left ns _ (hA.below hbo hhi) (Nat.le_trans hhi hbo.size) hr hl0 hl)
  have HD := Lib.hid hbo
  clear hA hbo hr
  go_enter Tryz.func11, Tryz.ntmps11
  go_wp2_with fail
  refine HC.out.mono ?_
  rintro e1 w1 ⟨m1, rfl, hm1, hb1⟩
  have HB1 := Lib.hid (HD.out.trans (hb1.mono HD.out.size)); clear hb1
  rcases hm1 with rfl | ⟨hm0, hm1⟩
  · go_wp2_with fail
    go_ret
    exact ⟨_, rfl, .inl rfl, HB1.out⟩
  have n1 : ¬ (m1 < 0) := by omega
  have HM1 := Lib.hid hm1
  clear hm1
  go_wp2_with fail
  go_ret
  exact ⟨_, rfl, .inr ⟨hm0, HM1.out⟩, HB1.out⟩

def put3 (cs : Array Value) (o : Nat) (a b c : Value) : Array Value := ((cs.setIfInBounds o a).setIfInBounds (o + 1) b).setIfInBounds (o + 2) c
theorem put3_size (cs : Array Value) (o : Nat) (a b c : Value) : (put3 cs o a b c).size = cs.size := by simp [put3]
theorem put3_far (cs : Array Value) (o p : Nat) (a b c : Value) (h : p < o ∨ o + 3 ≤ p) : (put3 cs o a b c)[p]? = cs[p]? := by
  unfold put3
  rw [Array.getElem?_setIfInBounds_ne (by omega), Array.getElem?_setIfInBounds_ne (by omega), Array.getElem?_setIfInBounds_ne (by omega)]
theorem put3_get (cs : Array Value) (o : Nat) (a b c : Value) (h : o + 2 < cs.size) :
    (put3 cs o a b c)[o]? = some a ∧ (put3 cs o a b c)[o + 1]? = some b ∧ (put3 cs o a b c)[o + 2]? = some c := by
  unfold put3
  refine ⟨?_, ?_, ?_⟩
  · rw [Array.getElem?_setIfInBounds_ne (by omega), Array.getElem?_setIfInBounds_ne (by omega), Array.getElem?_setIfInBounds_self_of_lt (by omega)]
  · rw [Array.getElem?_setIfInBounds_ne (by omega), Array.getElem?_setIfInBounds_self_of_lt (by simp; omega)]
  · rw [Array.getElem?_setIfInBounds_self_of_lt (by simp; omega)]

/-- Block g holds the first k nodes; their subscripts lie behind it. -/
structure RowNs (w : World) (g : Nat) (cs : Array Value) (ns : List Nod) (k : Nat) : Prop where
  blk : Blk w g 27 cs
  cells : ∀ j, j < k → ∃ L c, cs[j * 3]? = some (.string (ns.getD j nodD).name) ∧ cs[j * 3 + 1]? = some (.slice L (ns.getD j nodD).subs.length c) ∧ cs[j * 3 + 2]? = some (.string (ns.getD j nodD).value) ∧ StrR w (g + 1) w.heap.size L (ns.getD j nodD).subs.length (ns.getD j nodD).subs

theorem RowNs.reads {w : World} {g : Nat} {cs : Array Value} {ns : List Nod} (h : RowNs w g cs ns ns.length) : NodesR w g w.heap.size (some ⟨g, 0, none⟩) ns.length ns := by
  refine ⟨rfl, fun _ => ⟨g, 0, rfl, Nat.le_refl _, h.blk.lt, fun j hj => ?_⟩⟩
  obtain ⟨L, c, e0, e1, e2, hL⟩ := h.cells j hj
  refine ⟨L, c, ?_, ?_, ?_, hL.more (by omega) (Nat.le_refl _)⟩
  · rw [Nat.zero_add, h.blk.cell]; exact e0
  · rw [Nat.zero_add, h.blk.cell]; exact e1
  · rw [Nat.zero_add, h.blk.cell]; exact e2

theorem setCell_strR {w : World} {lo hi : Nat} {A : Option Addr} {n : Nat} {xs : List ByteArray} (h : StrR w lo hi A n xs) {g : Nat} (hg : g < lo) (o : Nat) (u : Value) : StrR (w.setCell ⟨g, o, none⟩ u) lo hi A n xs :=
  h.keep fun b h1 _ => Below.heap_setCell w ⟨g, o, none⟩ u b (show b ≠ g by omega)

/-- One node more. -/
theorem RowNs.add {w w1 : World} {g : Nat} {cs : Array Value} {ns : List Nod} {k : Nat} {A : Option Addr} {c : Nat} (h : RowNs w g cs ns k) (hb : Below w.heap.size w w1)
    (ho : w1.ownsRow w.heap.size 9 1 (.slice A (ns.getD k nodD).subs.length c) (ns.getD k nodD).subs.length ((ns.getD k nodD).subs.map Value.string)) (hk : k * 3 + 2 < cs.size) :
    RowNs (((w1.setCell ⟨g, k * 3, none⟩ (.string (ns.getD k nodD).name)).setCell ⟨g, k * 3 + 1, none⟩ (.slice A (ns.getD k nodD).subs.length c)).setCell ⟨g, k * 3 + 2, none⟩ (.string (ns.getD k nodD).value))
      g (put3 cs (k * 3) (.string (ns.getD k nodD).name) (.slice A (ns.getD k nodD).subs.length c) (.string (ns.getD k nodD).value)) ns (k + 1) := by
  have hg : g < w.heap.size := h.blk.lt
  have hs := hb.size
  refine ⟨?_, fun j hj => ?_⟩
  · exact (((h.blk.below hb hg).set_ _ _).set_ _ _).set_ _ _
  · by_cases e : j = k
    · subst e
      obtain ⟨p0, p1, p2⟩ := put3_get cs (j * 3) (.string (ns.getD j nodD).name) (.slice A (ns.getD j nodD).subs.length c) (.string (ns.getD j nodD).value) hk
      refine ⟨A, c, p0, p1, p2, ?_⟩
      have h1 := (StrR.of_own ho).more (show g + 1 ≤ w.heap.size by omega) (Nat.le_refl _)
      have h2 := setCell_strR (setCell_strR (setCell_strR h1 (g := g) (by omega) (j * 3) (.string (ns.getD j nodD).name)) (g := g) (by omega) (j * 3 + 1) (.slice A (ns.getD j nodD).subs.length c)) (g := g) (by omega) (j * 3 + 2) (.string (ns.getD j nodD).value)
      simpa using h2
    · obtain ⟨L, d, e0, e1, e2, hL⟩ := h.cells j (by omega)
      refine ⟨L, d, (put3_far _ _ _ _ _ _ (by omega)).trans e0, (put3_far _ _ _ _ _ _ (by omega)).trans e1, (put3_far _ _ _ _ _ _ (by omega)).trans e2, ?_⟩
      have h1 := (hL.below hb (Nat.le_refl _)).more (Nat.le_refl _) hs
      have h2 := setCell_strR (setCell_strR (setCell_strR h1 (g := g) (by omega) (k * 3) (.string (ns.getD k nodD).name)) (g := g) (by omega) (k * 3 + 1) (.slice A (ns.getD k nodD).subs.length c)) (g := g) (by omega) (k * 3 + 2) (.string (ns.getD k nodD).value)
      simpa using h2

theorem NodesR.more {w : World} {lo hi lo' hi' : Nat} {A : Option Addr} {n : Nat} {ns : List Nod} (h : NodesR w lo hi A n ns) (h1 : lo' ≤ lo) (h2 : hi ≤ hi') : NodesR w lo' hi' A n ns :=
  ⟨h.1, fun hn => by
    obtain ⟨b, off, e, h3, h4, hc⟩ := h.2 hn
    refine ⟨b, off, e, by omega, by omega, fun j hj => ?_⟩
    obtain ⟨L, c, e0, e1, e2, hL⟩ := hc j hj
    exact ⟨L, c, e0, e1, e2, hL.more h1 h2⟩⟩
theorem setCell_nodesR {w : World} {lo hi : Nat} {A : Option Addr} {n : Nat} {xs : List Nod} (h : NodesR w lo hi A n xs) {g : Nat} (hg : g < lo) (o : Nat) (u : Value) : NodesR (w.setCell ⟨g, o, none⟩ u) lo hi A n xs :=
  h.keep fun b h1 _ => Below.heap_setCell w ⟨g, o, none⟩ u b (show b ≠ g by omega)
theorem infoNode : (Tryz.prog.info? 27).map (fun i => (i.zero, i.size, i.bytes)) = some (some (.agg #[.string ⟨#[]⟩, .slice none 0 0, .string ⟨#[]⟩]), 3, 56) := by kernel_rfl
def zeroNod : Array Value := #[.string ⟨#[]⟩, .slice none 0 0, .string ⟨#[]⟩]
theorem make_nodes (n : Nat) (hn : n ≤ 1048576) (w : World) :
    (Instr.makeSlice 37 (.int .i64 (n : Int)) (.int .i64 (n : Int))).run Tryz.prog w = .ok (.slice (some ⟨w.heap.size, 0, none⟩) n n) (w.alloc (.cells (madeCells zeroNod (n * 3)) 27)) := by
  obtain ⟨i0, hi0, hz0, hz1, hz2⟩ := info_parts infoNode
  have hb : (i0.bytes : Int) * (n : Int) ≤ 281474976710656 := by
    rw [hz2]; omega
  have hr := run_make (P := Tryz.prog) w 37 27 i0 _ Tryz.underlying37 hi0 hz0 .i64 .i64 n n (by omega) (by omega) hb (by omega)
  simp only [Int.toNat_natCast] at hr
  rw [hr, hz1]
  rfl

set_option maxHeartbeats 2000000 in
theorem toNodeS_any (A : Option Addr) (n c lo hi : Nat) (fs : List Nod) (w : World) (ha : NodesR w lo hi A n fs) (hhi : hi ≤ w.heap.size) (hs : NodsSmall fs) :
    Calls Tryz.prog 28 #[.slice A n c] w fun e w' => ∃ A', e = .returned (.slice A' n n) ∧ NodesR w' w.heap.size w'.heap.size A' n fs ∧ Below w.heap.size w w' := by
  have hlen := ha.1
  subst hlen
  have hmk := fun W => make_nodes fs.length hs.1 W
  have hn := hs.1
  have H0 := Lib.hid (Blk.new w 27 (madeCells zeroNod (fs.length * 3)))
  have HB0 := Lib.hid ((Below.refl w.heap.size w).alloc (Nat.le_refl _) (.cells (madeCells zeroNod (fs.length * 3)) 27))
  have HA := Lib.hid ha; have HS := Lib.hid hs
  clear ha hs
  go_enter Tryz.func28, Tryz.ntmps28
  go_wp2_with fail
  go_loopw [4] (fun i wr => ∃ (k : Nat) (cs : Array Value), k ≤ fs.length ∧ i = .int .i64 k ∧ cs.size = fs.length * 3 ∧ RowNs wr w.heap.size cs fs k ∧ Below w.heap.size w wr) (fun i _ => fs.length - (intOf i).toNat)
  case atStart => exact ⟨0, _, Nat.zero_le _, rfl, size_madeCells _ _, ⟨H0.out, fun j hj => absurd hj (by omega)⟩, HB0.out⟩
  case round =>
    clear hmk
    obtain ⟨k, cs, hk, rfl, hcs, ho, hb⟩ := hrel
    by_cases hlt : k < fs.length
    · obtain ⟨b, off, rfl, hb1, hb2, L1, d1, e0, e1, e2, hL⟩ := (HA.out.below hb hhi).at_ hlt
      have HX := Lib.hid (HS.out.2 _ (nod_mem (d := nodD) hlt))
      have HN := Lib.hid (fun w1 A1 c1 hb1 ho1 => RowNs.add (w1 := w1) (A := A1) (c := c1) ho hb1 ho1 (by omega))
      have HSZ := Lib.hid (put3_size cs (k * 3))
      have HC := Lib.hid hcs
      obtain ⟨x0, q0⟩ : ∃ x, cs[k * 3]? = some x := ⟨_, Array.getElem?_eq_getElem (by omega)⟩
      obtain ⟨x1, q1⟩ : ∃ x, cs[k * 3 + 1]? = some x := ⟨_, Array.getElem?_eq_getElem (by omega)⟩
      obtain ⟨x2, q2⟩ : ∃ x, cs[k * 3 + 2]? = some x := ⟨_, Array.getElem?_eq_getElem (by omega)⟩
      have HBL := Lib.hid ho.blk
      generalize fs.getD k nodD = F at *
      have HB := Lib.hid hb; have HL := Lib.hid hL
      have hsz := hb.size
      clear hb hL ho hcs
      go_wp2_with fail
      refine (toNode_any F _ lo hi _ ⟨_, _, rfl, HL.out⟩ (by omega) HX.out).mono ?_
      rintro e5 w5 ⟨A5, c5, rfl, ho5, hb5⟩
      have HN5 := Lib.hid (HN.out w5 A5 c5 hb5 ho5)
      have B5 := HBL.out.below hb5 HBL.out.lt
      have f5 := B5.cell
      have z5 := B5.frozen
      have s5 := hb5.size
      have HB5 := Lib.hid (HB.out.trans (hb5.mono hsz))
      clear hb5 ho5 B5 HN HBL e0 e1 e2
      go_wp2_with fail
      go_roundw
      case rel =>
        refine ⟨k + 1, _, by omega, by go_num, ?_, HN5.out, ?_⟩
        · rw [HSZ.out]; exact HC.out
        · iterate 3 (with_reducible refine Below.setCell ?_ (by simp) _)
          exact HB5.out
      case measure => simp [intOf]; omega
    · go_wp2_with fail
      go_ret
      obtain rfl : k = fs.length := by omega
      exact ⟨_, rfl, ho.reads, hb⟩

set_option maxHeartbeats 1000000 in
theorem toTree_any (ns : List Nod) (v : Value) (lo hi : Nat) (w : World) (hx : TreR w lo hi v ns) (hhi : hi ≤ w.heap.size) (hs : NodsSmall ns) :
    Calls Tryz.prog 13 #[v] w fun e w' => ∃ A, e = .returned (.agg #[.slice A ns.length ns.length]) ∧ NodesR w' w.heap.size w'.heap.size A ns.length ns ∧ Below w.heap.size w w' := by
  obtain ⟨A, c, rfl, hA⟩ := hx
  have HA := Lib.hid hA
  clear hA
  go_enter Tryz.func13, Tryz.ntmps13
  go_wp2_with fail
  have T0 := Three.start w 33 39 39 #[.slice A ns.length c] #[.slice none 0 0] #[.slice none 0 0]
  refine (toNodeS_any _ _ _ lo hi ns _ (HA.out.below T0.2.2.2 hhi) (Nat.le_trans hhi T0.2.2.2.size) hs).mono ?_
  rintro e1 w1 ⟨A1, rfl, ho1, hb1⟩
  have T1 := T0.call hb1
  have hsz3 : w.heap.size + 1 + 1 + 1 ≤ w1.heap.size := by have := hb1.size; simp at this; omega
  have ho1' : NodesR w1 (w.heap.size + 1 + 1 + 1) w1.heap.size A1 ns.length ns := by simpa using ho1
  clear T0 hb1 ho1
  have f0 := T1.1.cell
  have f1 := T1.2.1.cell
  have z1 := T1.2.1.frozen
  have f2 := T1.2.2.1.cell
  have z2 := T1.2.2.1.frozen
  have TT := Lib.hid T1; clear T1
  have O1 := Lib.hid ho1'; clear ho1'
  go_wp2_with fail
  refine bodyPost_ret (v := .agg #[.slice A1 ns.length ns.length]) (by simp [results, Tryz.results13, go_sem, f1]) rfl ⟨A1, rfl, ?_, ?_⟩
  · refine NodesR.more (lo := w.heap.size + 1 + 1 + 1) (hi := w1.heap.size) ?_ (by omega) (by simp)
    iterate 2 (with_reducible refine setCell_nodesR ?_ (by omega) _ _)
    exact O1.out
  · iterate 2 (with_reducible refine Below.setCell ?_ (by simp; try omega) _)
    exact TT.out.2.2.2

set_option maxHeartbeats 1000000 in
theorem eqNodeS_same (A A' : Option Addr) (n c c' lo hi lo' hi' : Nat) (fs : List Nod) (w : World) (ha : NodesR w lo hi A n fs) (ha' : NodesR w lo' hi' A' n fs) (hhi : hi ≤ w.heap.size) (hhi' : hi' ≤ w.heap.size) (hs : NodsSmall fs) :
    Calls Tryz.prog 33 #[.slice A n c, .slice A' n c'] w fun e w' => e = .returned (.bool true) ∧ Below w.heap.size w w' := by
  have hlen := ha.1
  subst hlen
  have hn := hs.1
  have HA := Lib.hid ha; have HA' := Lib.hid ha'; have HS := Lib.hid hs
  clear ha ha' hs
  go_enter Tryz.func33, Tryz.ntmps33
  go_wp2_with fail
  go_loopw [5] (fun i wr => ∃ k : Nat, k ≤ fs.length ∧ i = .int .i64 k ∧ Below w.heap.size w wr) (fun i _ => fs.length - (intOf i).toNat)
  case atStart => exact ⟨0, Nat.zero_le _, rfl, Below.refl _ _⟩
  case round =>
    obtain ⟨k, hk, rfl, hb⟩ := hrel
    by_cases hlt : k < fs.length
    · obtain ⟨b, off, rfl, hb1, hb2, L1, d1, e0, e1, e2, hL⟩ := (HA.out.below hb hhi).at_ hlt
      obtain ⟨b', off', rfl, hb1', hb2', L1', d1', e0', e1', e2', hL'⟩ := (HA'.out.below hb hhi').at_ hlt
      have HX := Lib.hid (HS.out.2 _ (nod_mem (d := nodD) hlt))
      generalize fs.getD k nodD = F at *
      have HB := Lib.hid hb; have HL := Lib.hid hL; have HL' := Lib.hid hL'
      have hsz := hb.size
      clear hb hL hL'
      have hwi : hi ≤ wr.drew.heap.size := (show hi ≤ wr.heap.size by omega)
      have hwi' : hi' ≤ wr.drew.heap.size := (show hi' ≤ wr.heap.size by omega)
      have hbw : b < wr.drew.heap.size := (show b < wr.heap.size by omega)
      have hbw' : b' < wr.drew.heap.size := (show b' < wr.heap.size by omega)
      have HBd := Lib.hid HB.out.drew
      have HLd := Lib.hid (HL.out.drewN 1); have HLd' := Lib.hid (HL'.out.drewN 1)
      go_wp2_with fail
      go_region_held3 (fun w' => w'.cell? ⟨b, off + k * 3, none⟩ = some (.string F.name) ∧ w'.cell? ⟨b, off + k * 3 + 1, none⟩ = some (.slice L1 F.subs.length d1) ∧ w'.cell? ⟨b, off + k * 3 + 2, none⟩ = some (.string F.value) ∧ w'.cell? ⟨b', off' + k * 3, none⟩ = some (.string F.name) ∧ w'.cell? ⟨b', off' + k * 3 + 1, none⟩ = some (.slice L1' F.subs.length d1') ∧ w'.cell? ⟨b', off' + k * 3 + 2, none⟩ = some (.string F.value) ∧ Below w.heap.size w w')
        (first | exact ⟨e0, e1, e2, e0', e1', e2', HB.out⟩ | exact ⟨e0, e1, e2, e0', e1', e2', HBd.out⟩ | exact ⟨(hb5.cell hbw).trans e0, (hb5.cell hbw).trans e1, (hb5.cell hbw).trans e2, (hb5.cell hbw').trans e0', (hb5.cell hbw').trans e1', (hb5.cell hbw').trans e2', HBd.out.trans (hb5.mono HBd.out.size)⟩)
        (first | (go_at_call 10; (refine (eqNode_same F _ _ lo hi lo' hi' wr.drew ⟨L1, d1, rfl, HLd.out⟩ ⟨L1', d1', rfl, HLd'.out⟩ hwi hwi' HX.out.2.2.1).mono ?_); rintro e5 w5 ⟨rfl, hb5⟩))
      have HB5 := Lib.hid (HBd.out.trans (hb5.mono HBd.out.size))
      clear hb5 e0 e1 e2 e0' e1' e2'
      go_wp2_with fail
      go_roundw
      case rel => exact ⟨k + 1, by omega, by go_num, HB5.out⟩
      case measure => simp [intOf]; omega
    · have HB := Lib.hid hb; clear hb
      go_wp2_with fail
      go_ret
      exact ⟨rfl, HB.out⟩

set_option maxHeartbeats 1000000 in
/-- Two values of one tree: eqTree says yes. -/
theorem eqTree_same (x : List Nod) (v v' : Value) (lo hi lo' hi' : Nat) (w : World) (hx : TreR w lo hi v x) (hx' : TreR w lo' hi' v' x) (hhi : hi ≤ w.heap.size) (hhi' : hi' ≤ w.heap.size) (hs : NodsSmall x) :
    Calls Tryz.prog 15 #[v, v'] w fun e w' => e = .returned (.bool true) ∧ Below w.heap.size w w' := by
  obtain ⟨A, c, rfl, hA⟩ := hx
  obtain ⟨A', c', rfl, hA'⟩ := hx'
  have R1 := (((((Stand.nil w).add lo hi _ (loc_nodesR lo hi A _ x) hhi hA).add lo' hi' _ (loc_nodesR lo' hi' A' _ x) hhi' hA').box 39 #[.slice A x.length c])).box 39 #[.slice A' x.length c']
  rw [heap_size_allocN] at R1
  have HR1 := Lib.hid R1
  clear hA hA' R1
  go_enter Tryz.func15, Tryz.ntmps15
  go_wp2_with fail
  refine (eqNodeS_same _ _ _ _ _ lo hi lo' hi' x _ (HR1.out.get 3 rfl) (HR1.out.get 2 rfl) (HR1.out.le 3 rfl) (HR1.out.le 2 rfl) hs).mono ?_
  rintro e1 w1 ⟨rfl, hb1⟩
  have HR2 := Lib.hid (HR1.out.below hb1)
  clear hb1 HR1
  go_wp2_with fail
  go_ret
  exact ⟨rfl, HR2.out.1⟩
end Go.Proofs.YtlhcljhfhkemiaaGreatDoor
