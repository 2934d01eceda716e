/- Rows of bytes made of a text: a text more, and their text. The mark of such a row lies behind its last place, so its places are free. -/
import Derived.Test.YtlhcljhfhkemiaaGreatDoorByt
namespace Go.Proofs.YtlhcljhfhkemiaaGreatDoor
open Go.RowKit

/-- Places behind which the mark lies, or a row without one: what is stored there is stored. -/
theorem store_free (P : Program) (t : TypeId) (fz : Nat × Nat) : ∀ (vs : List Value) (g o i : Nat) (cur : Array Value) (w : World), (∀ v ∈ vs, v.oneCell' = true) → w.heap[g]? = some (.cells cur t fz) → (cur.size ≤ fz.1 ∨ fz.2 = 0) → o + i + vs.length ≤ cur.size →
    (storeCells ⟨g, o, none⟩ vs i).run P w = .ok () (w.setRow g (cur.toList.take (o + i) ++ vs ++ cur.toList.drop (o + i + vs.length)).toArray) := by
  intro vs
  induction vs with
  | nil =>
    intro g o i cur w _ hg _ _
    have e : (cur.toList.take (o + i) ++ [] ++ cur.toList.drop (o + i + ([] : List Value).length)).toArray = cur := by
      rw [List.append_nil, List.length_nil, Nat.add_zero, List.take_append_drop, Array.toArray_toList]
    rw [e, setRow_self w g cur t fz hg]
    rfl
  | cons v vs ih =>
    intro g o i cur w hone hg hfz hlen
    rw [List.length_cons] at hlen
    have hlt : o + i < cur.size := by omega
    have ha : (⟨g, o, none⟩ : Addr).add i = ⟨g, o + i, none⟩ := by unfold Addr.add; split <;> simp_all
    have hc : w.cell? ⟨g, o + i, none⟩ = some cur[o + i] := by unfold World.cell?; rw [hg]; simp [hlt]
    have hf : w.frozen? ⟨g, o + i, none⟩ = false := by
      unfold World.frozen?
      rw [hg]
      obtain ⟨p, q⟩ := fz
      rcases hfz with h | h
      · have h : cur.size ≤ p := h
        have : ¬ p ≤ o + i := by omega
        simp [this]
      · have h : q = 0 := h
        subst h; simp
    have h1 : (store ((⟨g, o, none⟩ : Addr).add i) v).run P w = .ok () (w.setRow g (cur.setIfInBounds (o + i) v)) := by
      rw [ha, run_store P w _ v _ (hone v (List.mem_cons_self ..)), hc]
      dsimp only
      rw [hf, if_neg (by decide), setCell_eq_setRow w g (o + i) cur t fz v hg]
    have h2 := ih g o (i + 1) (cur.setIfInBounds (o + i) v) (w.setRow g (cur.setIfInBounds (o + i) v)) (fun x hx => hone x (List.mem_cons_of_mem _ hx)) (setRow_heap w g cur _ t fz hg) (by rw [Array.size_setIfInBounds]; exact hfz) (by rw [Array.size_setIfInBounds]; omega)
    have h3 := list_seg_step cur.toList (o + i) v vs (by rw [Array.length_toList]; omega)
    show ((do store ((⟨g, o, none⟩ : Addr).add i) v; storeCells ⟨g, o, none⟩ vs (i + 1)) : Sem Unit).run P w = _
    rw [Sem.run_bind, h1, Result.andThen_ok, h2, setRow_setRow]
    congr 3
    simpa [Array.toList_setIfInBounds, Nat.add_assoc] using h3

/-- A row of bytes of the call's own; its mark, if it has one, lies behind its last place. -/
def OwnB (w : World) (base : Nat) (v : Value) (xs : List UInt8) : Prop :=
  ∃ g cap cur fz, v = .slice (some ⟨g, 0, none⟩) xs.length cap ∧ base ≤ g ∧ w.heap[g]? = some (.cells cur 5 fz) ∧ (cur.size ≤ fz.1 ∨ fz.2 = 0) ∧ xs.length ≤ cap ∧ cap ≤ maxLen ∧ cur.size = cap ∧ cur.toList.take xs.length = xs.map encB
theorem OwnB.below {w w' : World} {base : Nat} {v : Value} {xs : List UInt8} (h : OwnB w base v xs) (hb : Below w.heap.size w w') : OwnB w' base v xs := by
  obtain ⟨g, cap, cur, fz, h1, h2, h3, r⟩ := h
  have hlt : g < w.heap.size := by
    rcases Nat.lt_or_ge g w.heap.size with h' | h'
    · exact h'
    · rw [Array.getElem?_eq_none h'] at h3; cases h3
  exact ⟨g, cap, cur, fz, h1, h2, (hb.block g hlt).trans h3, r⟩
/-- []byte(s). -/
theorem own_text (w : World) (s : ByteArray) (hs : s.size ≤ 1000000000) : ∃ v w', (convert 9 53 (.string s)).run Tryz.prog w = .ok v w' ∧ OwnB w' w.heap.size v s.data.toList ∧ Below w.heap.size w w' := by
  refine ⟨_, _, Lib.run_convert_string_bytes w _ _ 5 s Tryz.underlying9 Tryz.underlying53 Tryz.underlying5, ?_, ?_⟩
  · have hge := grownCap_ge w s.size 0 5
    have hle := grownCap_le_maxLen w s.size 0 5 (by unfold maxLen; omega)
    have hcs : (Lib.bytesCells w 5 s).size = grownCap w s.size 0 5 := by
      unfold Lib.bytesCells
      rw [Array.size_append, Array.size_map, Array.size_replicate]
      have : s.data.size = s.size := rfl
      omega
    have hll : s.data.toList.length = s.size := Array.length_toList
    refine ⟨w.heap.size, grownCap w s.size 0 5, Lib.bytesCells w 5 s, _, by rw [hll], Nat.le_refl _, Lib.bytesWorld_at_new w 5 s, .inl (Nat.le_refl _), by rw [hll]; exact hge, hle, hcs, ?_⟩
    unfold Lib.bytesCells
    rw [Array.toList_append, List.take_left' (by rw [Array.length_toList, Array.size_map]; exact hll.symm), Array.toList_map]
  · exact ⟨rfl, rfl, rfl, by rw [Lib.bytesWorld_size]; omega, fun k hk => Lib.bytesWorld_at_old w _ s k hk⟩

/-- append(b, t...). -/
theorem wpList_appT {ops : Array Oper} {rest : List Oper} {o : Oper} {a : Act} {Q : Exit → Act → World → Prop} (hgd : o.guard = none) (sl x : Operand)
    (ho : o.op = .call { callee := .builtin .append, args := #[sl, x], argTypes := #[53, 9] })
    (w : World) (base : Nat) (v : Value) (xs : List UInt8) (t : ByteArray) (hs : a.eval sl = v) (hown : OwnB w base v xs)
    (hx : a.eval x = .string t) (hlen : xs.length ≤ 1000000000) (hlt : t.size ≤ 1000000000) (hbase : base ≤ w.heap.size)
    (h : ∀ v' w', OwnB w' base v' (xs ++ t.data.toList) → Below base w w' → wpList Tryz.prog ops Q rest (a.put o.dst v') w') : wpList Tryz.prog ops Q (o :: rest) a w := by
  obtain ⟨i0, hi0, hz0, hz1, hz2⟩ := info_parts infoByte
  obtain ⟨g, cap, cur, fz, rfl, hbg, hg, hfz, hnc, hcm, hcs, htake⟩ := hown
  have hsl : (Lib.strCells t).length = t.size := Lib.strCells_length t
  have htl : t.data.toList.length = t.size := Array.length_toList
  have hglt : g < w.heap.size := by
    rcases Nat.lt_or_ge g w.heap.size with h' | h'
    · exact h'
    · rw [Array.getElem?_eq_none h'] at hg; cases hg
  refine wpList_plain hgd fun K hK => ?_
  by_cases hroom : xs.length + t.size ≤ cap
  · have hst := store_free Tryz.prog 5 fz (Lib.strCells t) g xs.length 0 cur w (Lib.strCells_oneCell t) hg hfz (by rw [hsl]; omega)
    have hfc := Lib.run_firstCells_string (P := Tryz.prog) w 1 t
    rw [Nat.add_zero, hsl] at hst
    have hr : (Builtin.append_ #[53, 9] o.type #[.slice (some ⟨g, 0, none⟩) xs.length cap, .string t]).run Tryz.prog w =
        .ok (.slice (some ⟨g, 0, none⟩) (xs.length + t.size) cap) (w.setRow g (cur.toList.take xs.length ++ Lib.strCells t ++ cur.toList.drop (xs.length + t.size)).toArray) := by
      simp [Builtin.append_, run_underlying Tryz.underlying53, run_underlying Tryz.underlying9, sizeOf, typeInfo, hi0, hz1, Builtin.lenOf, hroom, hfc, Addr.add_lit, hst]
    unfold Oper.wp execOp
    simp only [ho, resolve, invoke, builtin, Sem.run_bind, Sem.run_pure, Result.andThen_ok, List.map_toArray, List.map_cons, List.map_nil, hs, hx, hr]
    refine hK _ _ (h _ _ ⟨g, cap, _, fz, by rw [List.length_append, htl], hbg, setRow_heap w g cur _ 5 fz hg, ?_, by rw [List.length_append, htl]; exact hroom, hcm, ?_, ?_⟩ ⟨rfl, rfl, rfl, by simp, fun k hk => setRow_other w g k _ (by omega)⟩)
    · simp only [List.size_toArray, List.length_append, List.length_take, List.length_drop, Array.length_toList, hsl]
      rcases hfz with h1 | h1
      · left; omega
      · right; exact h1
    · simp only [List.size_toArray, List.length_append, List.length_take, List.length_drop, Array.length_toList, hsl]
      omega
    · rw [htake, List.length_append, List.map_append, ← strCells_enc]
      rw [List.take_left' (by rw [List.length_append, List.length_map, hsl, htl])]
  · have holds : ∀ j u, (xs.map encB)[j]? = some u → w.cell? ((⟨g, 0, none⟩ : Addr).add j) = some u := by
      intro j u hj
      have ha : (⟨g, 0, none⟩ : Addr).add j = ⟨g, j, none⟩ := by unfold Addr.add; split <;> simp_all
      rw [ha]
      unfold World.cell?
      rw [hg]
      have hjl : j < xs.length := by
        rcases Nat.lt_or_ge j xs.length with h' | h'
        · exact h'
        · rw [List.getElem?_eq_none (by rw [List.length_map]; exact h')] at hj; cases hj
      rw [← htake, List.getElem?_take, if_pos hjl] at hj
      simpa using hj
    have hr := Lib.run_append_grow_string (P := Tryz.prog) w 53 9 o.type 5 i0 (.int .u8 0) Tryz.underlying53 Tryz.underlying9 hi0 hz0 ⟨g, 0, none⟩ xs.length cap (xs.map encB) (by rw [hz1, List.length_map, Nat.mul_one]) holds t (by omega) (by omega) (by rw [hz2]; exact growslice_fits (by omega) (by omega))
    unfold Oper.wp execOp
    simp only [ho, resolve, invoke, builtin, Sem.run_bind, Sem.run_pure, Result.andThen_ok, List.map_toArray, List.map_cons, List.map_nil, hs, hx, hr]
    have hge := grownCap_ge w (xs.length + t.size) cap 5
    have hcm2 := grownCap_le_maxLen w (xs.length + t.size) cap 5 (by unfold maxLen; omega)
    refine hK _ _ (h _ _ ⟨w.heap.size, _, _, (0, 0), by rw [List.length_append, htl], hbase, heap_alloc_new w.drew _, .inr rfl, by rw [List.length_append, htl]; exact hge, hcm2, ?_, ?_⟩ ⟨rfl, rfl, rfl, by simp, fun k hk => heap_alloc_old w.drew _ (show k < w.drew.heap.size from Nat.lt_of_lt_of_le hk hbase)⟩)
    · have hz3 : (Value.int IntKind.u8 0).cells.size = 1 := rfl
      simp only [Array.size_append, List.size_toArray, size_zeroCells, hz3, hsl, List.length_map]
      omega
    · simp only [Array.toList_append, List.append_assoc]
      rw [← List.append_assoc, List.length_append, List.map_append, ← strCells_enc]
      exact List.take_left' (by rw [List.length_append, List.length_map, hsl, htl])

/-- string(b). -/
theorem text_own {w : World} {base : Nat} {v : Value} {xs : List UInt8} (h : OwnB w base v xs) : (convert 53 9 v).run Tryz.prog w = .ok (.string ⟨xs.toArray⟩) w := by
  obtain ⟨g, cap, cur, fz, rfl, _, hg, _, _, _, hcs, htake⟩ := h
  have := run_convert_bytes_arg (P := Tryz.prog) w 53 5 Tryz.underlying53 Tryz.underlying5 g 0 xs.length cap (xs.map fun c => (c.toNat : Int)) (by simp) (fun i hi => by
    unfold World.cell?
    rw [hg]
    have h1 : (cur.toList.take xs.length)[i]? = (xs.map encB)[i]? := by rw [htake]
    rw [List.getElem?_take, if_pos hi] at h1
    simp only [Nat.zero_add]
    rw [Array.getElem?_toList] at h1
    rw [h1]
    simp [List.getD_eq_getElem?_getD, List.getElem?_eq_getElem hi]) 9 Tryz.underlying9
  have e : strOfNums (xs.map fun c => (c.toNat : Int)) = ⟨xs.toArray⟩ := by
    unfold strOfNums
    rw [List.map_map]
    have : ((fun n : Int => UInt8.ofNat n.toNat) ∘ fun c : UInt8 => (c.toNat : Int)) = id := by
      funext c
      simp
    rw [this, List.map_id]
  rw [this, e]
end Go.Proofs.YtlhcljhfhkemiaaGreatDoor
