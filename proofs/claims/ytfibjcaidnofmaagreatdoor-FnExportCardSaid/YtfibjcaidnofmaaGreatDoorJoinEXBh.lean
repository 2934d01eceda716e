/- Putting a node to its place, by the reference: l03Subs, l03Own, l03At walked; rows that are known by reading alone. -/
import Derived.Test.YtfibjcaidnofmaaGreatDoorJoinEXBg
namespace Go.Proofs.YtfibjcaidnofmaaGreatDoor
open Go.RowKit

theorem flatText : FlatSh shS := fun h _ => ⟨rfl, h⟩
theorem rowG_of_shape {α : Type} {s : Sh α} {t : TypeId} {w : World} {lo hi c : Nat} {A : Option Addr} {xs : List α} (h : (Sh.row t s).R w lo hi [.slice A xs.length c] xs) : RowG s w lo hi A xs := by
  obtain ⟨A', c', e, h⟩ := h
  injection e with e _
  injection e with e1 e2 e3
  subst e1; exact h
/-- An empty literal row, laid behind W. -/
theorem lit0_own {t : TypeId} {k : Nat} (W : World) (base : Nat) (hb : base ≤ W.heap.size) : (W.alloc (.cells #[] t)).ownsRow base t k (.slice (some ⟨W.heap.size, 0, none⟩) 0 0) 0 [] := by
  have := World.ownsRow_lit (base := base) (e := t) (size := k) W #[] 0 hb (by simp) (by simp)
  simpa using this

/-! ### Rows known by reading alone -/
section
variable {α : Type} {s : Sh α} {t : TypeId} {w w' : World} {base lo hi : Nat} {v : Value} {xs ys : List α}
/-- The row is the call's own; what its elements hang on lies ahead of it and is read only. -/
def RdRow (s : Sh α) (t : TypeId) (w : World) (base lo hi : Nat) (v : Value) (xs : List α) : Prop :=
  ∃ cs, w.ownsRow base t s.k v xs.length cs ∧ ∀ j, j < xs.length → s.R w lo hi (elemAt s.k cs j) (xs.getD j s.d)
theorem RdRow.nil_ (h : w.ownsRow base t s.k v 0 []) : RdRow s t w base lo hi v [] := ⟨[], h, fun j hj => absurd hj (by simp)⟩
theorem RdRow.row (h : RdRow s t w base lo hi v xs) (hl : lo ≤ base) (hh : hi ≤ w.heap.size) : ∃ A c, v = .slice A xs.length c ∧ RowG s w lo w.heap.size A xs ∧ xs.length ≤ c := by
  obtain ⟨cs, ho, hel⟩ := h
  have hl0 : cs.length = xs.length * s.k := ho.1
  rcases ho.2 with ⟨e1, e2⟩ | ⟨g, cap, cur, e1, hb, hg, hn, hm, hs, ht⟩
  · exact ⟨none, 0, by rw [e1, e2], fun hp => by omega, by omega⟩
  · refine ⟨_, cap, e1, fun hp => ⟨g, 0, rfl, Nat.le_trans hl hb, ?_, fun j hj => ⟨elemAt s.k cs j, fun i hi' => ?_, s.R_more (hel j hj) (Nat.le_refl _) hh⟩⟩, hn⟩
    · exact (Array.getElem?_eq_some_iff.1 hg).1
    · have hlen := elemAt_len hl0 hj
      rw [hlen] at hi'
      rw [elemAt_get hi']
      have h1 := mul_lt hj hi'
      have h2 : w.cell? ⟨g, 0 + j * s.k + i, none⟩ = cur[0 + j * s.k + i]? := (show Blk w g t cur from hg).cell _
      rw [h2, Nat.zero_add, ← ht, List.getElem?_take, if_pos h1, Array.getElem?_toList]
theorem RdRow.below (h : RdRow s t w base lo hi v xs) (hb : Below w.heap.size w w') (hh : hi ≤ w.heap.size) : RdRow s t w' base lo hi v xs := by
  obtain ⟨cs, ho, hel⟩ := h
  exact ⟨cs, own_below ho hb, fun j hj => s.R_below (hel j hj) hb hh⟩

/-- append(row, ys...): more of what is read only. -/
theorem wpList_app_rd {P : Program} {ops : Array Oper} {rest : List Oper} {o : Oper} {a : Go.Act} {Q : Exit → Go.Act → World → Prop} (hgd : o.guard = none) (p x : Operand) (ty : TypeId)
    (ho : o.op = .call { callee := .builtin .append, args := #[p, x], argTypes := #[ty, ty] }) (ht : P.underlying ty = some (.slice t))
    {z : Value} {by_ : Nat} (hzz : z.cells.size = s.k) (hk : 0 < s.k) (hby : by_ ≤ 4096) (hinfo : (P.info? t).map (fun i => (i.zero, i.size, i.bytes)) = some (some z, s.k, by_))
    (w : World) (base lo hi : Nat) (v : Value) (xs ys : List α) (b off c : Nat) (news : List Value) (hs : a.eval p = v) (h : RdRow s t w base lo hi v xs) (hx : a.eval x = .slice (some ⟨b, off, none⟩) ys.length c)
    (hl : news.length = ys.length * s.k) (hc : ∀ j u, news[j]? = some u → w.cell? ⟨b, off + j, none⟩ = some u) (hone : ∀ u ∈ news, u.oneCell' = true) (hel : ∀ j, j < ys.length → s.R w lo hi (elemAt s.k news j) (ys.getD j s.d))
    (hlen : xs.length + ys.length ≤ 1000000000) (hhi : hi ≤ base) (hbase : base ≤ w.heap.size)
    (hq : ∀ v' w', RdRow s t w' base lo hi v' (xs ++ ys) → Below base w w' → wpList P ops Q rest (a.put o.dst v') w') : wpList P ops Q (o :: rest) a w := by
  obtain ⟨i0, hi0, hz0, hz1, hz2⟩ := info_parts hinfo
  obtain ⟨cs, hown, hel0⟩ := h
  have hadd : ∀ j, (⟨b, off, none⟩ : Addr).add j = ⟨b, off + j, none⟩ := fun j => by unfold Addr.add; split <;> simp_all
  have hl0 : cs.length = xs.length * s.k := hown.1
  refine wpList_append_own w hgd p x ty ho base t i0 _ s.k by_ ht hi0 hz0 hz1 hz2 hzz hk v xs.length cs hs hown ⟨b, off, none⟩ ys.length c news hx hl (fun j u hj => by rw [hadd]; exact hc j u hj) hone (by unfold maxLen; omega) (Nat.le_trans (Nat.mul_le_mul_left _ hby) (by omega)) hbase ?_
  intro v' w' h1 h2 _
  have hB : Below base w w' := (Below.refl base w).grown h2 hbase (fun k hk => (hown.lt k hk).1)
  have hlen2 : (xs ++ ys).length = xs.length + ys.length := List.length_append
  have hl3 : (cs ++ news).length = (xs.length + ys.length) * s.k := by rw [List.length_append, hl0, hl, Nat.add_mul]
  refine hq v' w' ⟨cs ++ news, by rw [hlen2]; exact h1, fun j hj => ?_⟩ hB
  rw [hlen2] at hj
  rcases Nat.lt_or_ge j xs.length with hjx | hjx
  · have e1 : elemAt s.k (cs ++ news) j = elemAt s.k cs j := elemAt_ext hl3 hj (elemAt_len hl0 hjx) fun i hi => by
      have := mul_lt hjx hi
      rw [elemAt_get hi, List.getElem?_append_left (by omega)]
    have e2 : (xs ++ ys).getD j s.d = xs.getD j s.d := by simp [List.getD_eq_getElem?_getD, List.getElem?_append_left hjx]
    rw [e1, e2]
    exact s.R_keep (hel0 j hjx) fun q _ hq => hB.block q (by omega)
  · have hjy : j - xs.length < ys.length := by omega
    have e1 : elemAt s.k (cs ++ news) j = elemAt s.k news (j - xs.length) := elemAt_ext hl3 hj (elemAt_len hl hjy) fun i hi => by
      have h3 : xs.length * s.k ≤ j * s.k := Nat.mul_le_mul_right _ hjx
      have h4 : (j - xs.length) * s.k = j * s.k - xs.length * s.k := Nat.sub_mul _ _ _
      rw [elemAt_get hi, List.getElem?_append_right (by omega)]
      congr 1; omega
    have e2 : (xs ++ ys).getD j s.d = ys.getD (j - xs.length) s.d := by simp [List.getD_eq_getElem?_getD, List.getElem?_append_right hjx]
    rw [e1, e2]
    exact s.R_keep (hel _ hjy) fun q _ hq => hB.block q (by omega)
/-- .. a slice that may be empty. -/
theorem wpList_app_rdG {P : Program} {ops : Array Oper} {rest : List Oper} {o : Oper} {a : Go.Act} {Q : Exit → Go.Act → World → Prop} (hgd : o.guard = none) (p x : Operand) (ty : TypeId)
    (ho : o.op = .call { callee := .builtin .append, args := #[p, x], argTypes := #[ty, ty] }) (ht : P.underlying ty = some (.slice t))
    {z : Value} {by_ : Nat} (hzz : z.cells.size = s.k) (hk : 0 < s.k) (hby : by_ ≤ 4096) (hinfo : (P.info? t).map (fun i => (i.zero, i.size, i.bytes)) = some (some z, s.k, by_))
    (w : World) (base lo hi : Nat) (v : Value) (xs ys : List α) (A : Option Addr) (n c : Nat) (hs : a.eval p = v) (h : RdRow s t w base lo hi v xs) (hx : a.eval x = .slice A n c) (hn : n = ys.length) (hr : RowG s w lo hi A ys)
    (hlen : xs.length + ys.length ≤ 1000000000) (hhi : hi ≤ base) (hbase : base ≤ w.heap.size)
    (hq : ∀ v' w', RdRow s t w' base lo hi v' (xs ++ ys) → Below base w w' → wpList P ops Q rest (a.put o.dst v') w') : wpList P ops Q (o :: rest) a w := by
  subst hn
  by_cases h0 : ys = []
  · subst h0
    obtain ⟨i0, hi0, hz0, hz1, hz2⟩ := info_parts hinfo
    obtain ⟨cs, hown, hel0⟩ := id h
    have hrun : (Builtin.append_ #[ty, ty] o.type #[v, .slice A 0 c]).run P w = .ok v w := by
      rcases hown.2 with ⟨rfl, hz⟩ | ⟨g, cap, cur, rfl, _, _, hnc, _⟩
      · cases A <;> simp [Builtin.append_, run_underlying ht, sizeOf, typeInfo, hi0, Builtin.lenOf, Builtin.firstCells, loadCells, loadCellsFrom]
      · cases A <;> simp [Builtin.append_, run_underlying ht, sizeOf, typeInfo, hi0, Builtin.lenOf, Builtin.firstCells, loadCells, loadCellsFrom, storeCells] <;> omega
    refine wpList_plain hgd fun K hK => ?_
    unfold Oper.wp execOp
    rw [List.length_nil] at hx
    simp only [ho, resolve, invoke, builtin, Sem.run_bind, Sem.run_pure, Result.andThen_ok, List.map_toArray, List.map_cons, List.map_nil, hs, hx, hrun]
    exact hK _ _ (hq v w (by rw [List.append_nil]; exact h) (Below.refl _ _))
  · obtain ⟨b, off, news, rfl, _, _, hl, hc, hone, hel⟩ := rowG_news hr (List.length_pos_iff.2 h0)
    exact wpList_app_rd hgd p x ty ho ht hzz hk hby hinfo w base lo hi v xs ys b off c news hs h hx hl hc hone hel hlen hhi hbase hq
theorem RowG.take {A : Option Addr} (h : RowG s w lo hi A xs) (k : Nat) : RowG s w lo hi A (xs.take k) := fun hp => by
  rw [List.length_take] at hp
  obtain ⟨b, off, e, h1, h2, hc⟩ := h (by omega)
  refine ⟨b, off, e, h1, h2, fun j hj => ?_⟩
  rw [List.length_take] at hj
  have e2 : (xs.take k).getD j s.d = xs.getD j s.d := by rw [List.getD_eq_getElem?_getD, List.getD_eq_getElem?_getD, List.getElem?_take, if_pos (by omega)]
  rw [e2]; exact hc j (by omega)
theorem RowG.drop {b off : Nat} {xs : List α} (h : RowG s w lo hi (some ⟨b, off, none⟩) xs) (k : Nat) : RowG s w lo hi (some ⟨b, off + k * s.k, none⟩) (xs.drop k) := fun hp => by
  rw [List.length_drop] at hp
  obtain ⟨b', off', e, h1, h2, hc⟩ := h (by omega)
  injection e with e
  injection e with e1 e2
  subst e1 e2
  refine ⟨b, _, rfl, h1, h2, fun j hj => ?_⟩
  rw [List.length_drop] at hj
  obtain ⟨us, h3, h4⟩ := hc (k + j) (by omega)
  have e2 : (xs.drop k).getD j s.d = xs.getD (k + j) s.d := by rw [List.getD_eq_getElem?_getD, List.getD_eq_getElem?_getD, List.getElem?_drop]
  rw [e2]
  refine ⟨us, ?_, h4⟩
  rw [Nat.add_mul, ← Nat.add_assoc] at h3
  exact h3
end

set_option maxHeartbeats 1000000 in
theorem l03Subs_any (A : Option Addr) (c lo hi : Nat) (ys : List ByteArray) (w : World) (h : StrR w lo hi A ys.length ys) (hhi : hi ≤ w.heap.size) (hn : ys.length ≤ 1048576) :
    Calls Tryz.prog 161 #[.slice A ys.length c] w fun e w' => (∃ B d, e = .returned (.slice B ys.length d) ∧ Own (Sh.row 9 shS) w' w.heap.size w'.heap.size [.slice B ys.length d] ys) ∧ Below w.heap.size w w' := by
  have hb := (Below.refl w.heap.size w).alloc (Nat.le_refl _) (.cells #[] 9)
  have HL := Lib.hid (lit0_own (t := 9) (k := shS.k) w w.heap.size (Nat.le_refl _))
  have HR := Lib.hid (rowG_of_R (m := markT) (co := ByteArray.size) (h1 := fun _ => rfl) (h.below hb hhi))
  have HB := Lib.hid hb
  clear h hb
  go_enter Tryz.func161, Tryz.ntmps161
  go_wp2_with (at_builtin; refine wpList_growR (s := shS) rfl (.tmp 3) (.tmp 4) 29 rfl Tryz.underlying29 rfl (by decide) (by decide) infoString flatText _ w.heap.size lo hi _ A c ys rfl HL.out rfl HR.out (by omega) (by simp) ?_)
  intro B d w1 ho hb1
  have HO := Lib.hid ho
  have HB1 := Lib.hid (HB.out.trans hb1)
  clear ho hb1
  go_wp2_with fail
  go_ret
  exact ⟨⟨B, d, rfl, HO.out⟩, HB1.out⟩

end Go.Proofs.YtfibjcaidnofmaaGreatDoor

/- Putting a node to its place, by the reference: l03Own, l03At walked. -/
namespace Go.Proofs.YtfibjcaidnofmaaGreatDoor
open Go.RowKit

theorem tw_at {α : Type} (p : α → Bool) : ∀ (l : List α) (k : Nat), (∀ j x, j < k → l[j]? = some x → p x = true) → (∀ x, l[k]? = some x → p x = false) → k ≤ l.length → l.takeWhile p = l.take k ∧ l.dropWhile p = l.drop k
  | [], k, _, _, hk => by simp
  | a :: l, 0, _, h2, _ => by
    have ha := h2 a rfl
    simp [ha]
  | a :: l, k + 1, h1, h2, hk => by
    have ha := h1 0 a (by omega) rfl
    obtain ⟨i1, i2⟩ := tw_at p l k (fun j x hj hx => h1 (j + 1) x (by omega) hx) (fun x hx => h2 x hx) (by simpa using hk)
    rw [List.takeWhile_cons, List.dropWhile_cons, ha, i1, i2]
    exact ⟨rfl, rfl⟩
def befK (key : ByteArray × List ByteArray) (y : TyNode) : Bool := befP (keyT y) key
def atK (ts : List TyNode) (key : ByteArray × List ByteArray) : Nat := (ts.takeWhile (befK key)).length
def hasK (ts : List TyNode) (key : ByteArray × List ByteArray) : Bool := match ts.dropWhile (befK key) with
  | [] => false
  | y :: _ => decide (keyT y = key)
theorem at_is {ts : List TyNode} {key : ByteArray × List ByteArray} {k : Nat} (h1 : ∀ j x, j < k → ts[j]? = some x → befK key x = true) (h2 : ∀ x, ts[k]? = some x → befK key x = false) (hk : k ≤ ts.length) :
    atK ts key = k ∧ hasK ts key = (match ts[k]? with | none => false | some y => decide (keyT y = key)) := by
  obtain ⟨e1, e2⟩ := tw_at (befK key) ts k h1 h2 hk
  refine ⟨by unfold atK; rw [e1, List.length_take]; omega, ?_⟩
  unfold hasK
  rw [e2]
  by_cases h : k < ts.length
  · rw [List.drop_eq_getElem_cons h, List.getElem?_eq_getElem h]
  · rw [List.drop_of_length_le (by omega), List.getElem?_eq_none (by omega)]
theorem atK_le (ts : List TyNode) (key : ByteArray × List ByteArray) : atK ts key ≤ ts.length ∧ (hasK ts key = true → atK ts key < ts.length) := by
  have h := congrArg List.length (split_while (befK key) ts)
  rw [List.length_append] at h
  refine ⟨by unfold atK; omega, fun hh => ?_⟩
  unfold hasK at hh
  unfold atK
  cases hd : ts.dropWhile (befK key) with
  | nil => rw [hd] at hh; cases hh
  | cons y r => rw [hd, List.length_cons] at h; omega
theorem put_is (ts : List TyNode) (x : TyNode) : insOne befP keyT ts x = ts.take (atK ts (keyT x)) ++ x :: ts.drop (if hasK ts (keyT x) then atK ts (keyT x) + 1 else atK ts (keyT x)) ∧ hasOne befP keyT ts x = hasK ts (keyT x) := by
  have hs := split_while (befK (keyT x)) ts
  have e1 : ts.take (atK ts (keyT x)) = ts.takeWhile (befK (keyT x)) := by unfold atK; conv => lhs; arg 2; rw [← hs]
                                                                           rw [List.take_append_of_le_length (Nat.le_refl _), List.take_length]
  have e2 : ts.drop (atK ts (keyT x)) = ts.dropWhile (befK (keyT x)) := by unfold atK; conv => lhs; arg 2; rw [← hs]
                                                                           rw [List.drop_append_of_le_length (Nat.le_refl _), List.drop_length, List.nil_append]
  have hh0 : hasOne befP keyT ts x = hasK ts (keyT x) := by
    unfold hasOne hasK
    cases hd : ts.dropWhile (fun y => befP (keyT y) (keyT x)) with
    | nil =>
      have hd' : ts.dropWhile (befK (keyT x)) = [] := hd
      rw [hd']
    | cons y r =>
      have hd' : ts.dropWhile (befK (keyT x)) = y :: r := hd
      rw [hd']
  refine ⟨?_, hh0⟩
  unfold insOne
  show ts.takeWhile (befK (keyT x)) ++ x :: insBehind keyT x (ts.dropWhile (befK (keyT x))) = _
  rw [e1]
  cases hd : ts.dropWhile (befK (keyT x)) with
  | nil =>
    have hh : hasK ts (keyT x) = false := by unfold hasK; rw [hd]
    rw [hh, if_neg Bool.false_ne_true, e2, hd]; rfl
  | cons y r =>
    have hh : hasK ts (keyT x) = decide (keyT y = keyT x) := by unfold hasK; rw [hd]
    rw [hd] at e2
    rw [hh]
    show _ ++ x :: (if keyT y = keyT x then r else y :: r) = _
    by_cases h : keyT y = keyT x
    · rw [if_pos h, decide_eq_true h, if_pos rfl, ← List.drop_drop, e2]; rfl
    · rw [if_neg h, decide_eq_false h, if_neg Bool.false_ne_true, e2]

theorem shNode_str1 {w : World} {lo hi : Nat} {y0 : ByteArray} {y1 : List ByteArray} {y2 : ByteArray} {A1 : Option Addr} {c1 : Nat} (h : shNode.R w lo hi [.string y0, .slice A1 y1.length c1, .string y2] (y0, y1, y2)) : StrR w lo hi A1 y1.length y1 := rowR_of (shNode_f1 h)
/-- What the walks ask of nodes: sizes. -/
def SmT (ts : List TyNode) : Prop := ts.length ≤ 1048576 ∧ ∀ x ∈ ts, x.2.1.length ≤ 1048576 ∧ ∀ y ∈ x.2.1, y.size ≤ 1048576

set_option maxHeartbeats 4000000 in
set_option maxRecDepth 100000 in
theorem l03Own_any (A : Option Addr) (c lo hi : Nat) (ts : List TyNode) (w : World) (h : RowG shNode w lo hi A ts) (hhi : hi ≤ w.heap.size) (hs : SmT ts) :
    Calls Tryz.prog 112 #[.slice A ts.length c] w fun e w' => (∃ B d, e = .returned (.slice B ts.length d) ∧ Own (Sh.row 32 shNode) w' w.heap.size w'.heap.size [.slice B ts.length d] ts) ∧ Below w.heap.size w w' := by
  have hn := hs.1
  have HS := Lib.hid hs.2
  have HR := Lib.hid (show (Sh.row 32 shNode).R w lo hi [.slice A ts.length c] ts from ⟨A, c, rfl, h⟩)
  have hb := (Below.refl w.heap.size w).alloc (Nat.le_refl _) (.cells #[] 32)
  have HB := Lib.hid hb
  have hz : (w.alloc (.cells #[] 32)).heap.size = w.heap.size + 1 := by simp
  have HZ := Lib.hid hz
  have HN := Lib.hid (show Own (Sh.row 32 shNode) (w.alloc (.cells #[] 32)) w.heap.size (w.alloc (.cells #[] 32)).heap.size [.slice (some ⟨w.heap.size, 0, none⟩) 0 0] [] from by
    obtain ⟨A', c', e, ho⟩ := Own.of_flat (s := shNode) (hi := (w.alloc (.cells #[] 32)).heap.size) (xs := []) (lit0_own (t := 32) (k := shNode.k) w w.heap.size (Nat.le_refl _)) rfl (Nat.le_refl _) (fun j hj => absurd hj (by simp))
    injection e with e1 e2 e3
    subst e1 e3; exact ho)
  clear hs h hb
  go_enter Tryz.func112, Tryz.ntmps112
  go_wp2_with fail
  generalize w.alloc (.cells #[] 32) = wa at *
  go_loopw [3, 4] (fun v i wr => ∃ (k : Nat) (B : Option Addr) (d : Nat), k ≤ ts.length ∧ i = .int .i64 k ∧ v = .slice B k d ∧ Own (Sh.row 32 shNode) wr w.heap.size wr.heap.size [.slice B k d] (ts.take k) ∧ Below w.heap.size wa wr) (fun _ i _ => ts.length - (intOf i).toNat)
  case atStart => exact ⟨0, _, _, Nat.zero_le _, rfl, rfl, HN.out, Below.refl _ _⟩
  case round =>
    obtain ⟨k, B, d, hk, rfl, rfl, hO, hb⟩ := hrel
    by_cases hlt : k < ts.length
    · have hbw := HB.out.trans hb
      obtain ⟨-, b, off, rfl, hb1, hb2, A1, c1, e100, e101, e102, hX⟩ := shNode_at ((Sh.row 32 shNode).R_below HR.out hbw hhi) hlt
      have HX := Lib.hid (HS.out _ (getD_in (d := shNode.d) hlt))
      have HTK := Lib.hid (take_succ_getD shNode hlt)
      generalize ts.getD k shNode.d = X at *
      obtain ⟨y0, y1, y2⟩ := X
      dsimp only at e100 e101 e102
      have hsz : w.heap.size ≤ wr.heap.size := hbw.size
      have hn1 : y1.length ≤ 1048576 := HX.out.1
      have HBW := Lib.hid (show Below w.heap.size w wr.drew from hbw.trans (below_drewN' wr 1 |>.mono hsz))
      have HBA := Lib.hid (show Below w.heap.size wa wr.drew from hb.trans (below_drewN' wr 1 |>.mono hsz))
      have HST := Lib.hid (show StrR wr.drew lo hi A1 y1.length y1 from (shNode_str1 hX).below (below_drewN' wr 1) (by omega))
      have HO := Lib.hid (show Own (Sh.row 32 shNode) wr.drew w.heap.size wr.drew.heap.size [.slice B k d] (ts.take k) from hO.below (below_drewN' wr 1) (Nat.le_refl _))
      have HC := Lib.hid (show wr.drew.cell? ⟨b, off + k * 3, none⟩ = some (.string y0) ∧ wr.drew.cell? ⟨b, off + k * 3 + 1, none⟩ = some (.slice A1 y1.length c1) ∧ wr.drew.cell? ⟨b, off + k * 3 + 2, none⟩ = some (.string y2) from ⟨e100, e101, e102⟩)
      have hszd : w.heap.size ≤ wr.drew.heap.size := hsz
      clear hX hO hb hbw e100 e101 e102
      go_wp2_with fail
      refine AnyT.region (fun _ => false) (fun W => W.cell? ⟨b, off + k * 3, none⟩ = some (.string y0) ∧ W.cell? ⟨b, off + k * 3 + 1, none⟩ = some (.slice A1 y1.length c1) ∧ W.cell? ⟨b, off + k * 3 + 2, none⟩ = some (.string y2)) (by kernel_rfl) HC.out (fun hHeld => ?_)
      generalize wr.drew = w4 at *
      ((refine AnyT.takeAny 0 12 ?_ rfl (by kernel_rfl) (by kernel_rfl) (by kernel_rfl) rfl rfl (fun _ _ _ _ h => h) rfl ?_ (by assumption) ?_); rotate_left; (intro w; go_simp; (try (with_reducible rfl))); simp only [Act.put, List.setIfInBounds_toArray, List.set_cons_zero, List.set_cons_succ])
      ((refine AnyT.takeAny 1 13 ?_ rfl (by kernel_rfl) (by kernel_rfl) (by kernel_rfl) rfl rfl (fun _ _ _ _ h => h) rfl ?_ (by assumption) ?_); rotate_left; (intro w; go_simp; (try (with_reducible rfl))); simp only [Act.put, List.setIfInBounds_toArray, List.set_cons_zero, List.set_cons_succ])
      ((refine AnyT.takeAny 2 14 ?_ rfl (by kernel_rfl) (by kernel_rfl) (by kernel_rfl) rfl rfl (fun _ _ _ _ h => h) rfl ?_ (by assumption) ?_); rotate_left; (intro w; go_simp; (try (with_reducible rfl))); simp only [Act.put, List.setIfInBounds_toArray, List.set_cons_zero, List.set_cons_succ])
      ((refine AnyT.takeAny 3 15 ?_ rfl (by kernel_rfl) (by kernel_rfl) (by kernel_rfl) rfl rfl (fun _ _ _ _ h => h) rfl ?_ (by assumption) ?_); rotate_left; (intro w; go_simp; (try (with_reducible rfl))); simp only [Act.put, List.setIfInBounds_toArray, List.set_cons_zero, List.set_cons_succ])
      ((refine AnyT.takeAny 4 16 ?_ rfl (by kernel_rfl) (by kernel_rfl) (by kernel_rfl) rfl rfl (fun _ _ _ _ h => h) rfl ?_ (by assumption) ?_); rotate_left; (intro w; go_simp; (try (with_reducible rfl))); simp only [Act.put, List.setIfInBounds_toArray, List.set_cons_zero, List.set_cons_succ])
      ((refine AnyT.take 5 17 ?_ rfl (by kernel_rfl) (by kernel_rfl) (by kernel_rfl) (by kernel_rfl) rfl (by kernel_rfl) rfl (fun _ _ _ _ h => h) rfl ?_ (by assumption) ?_); rotate_left; (intro w hSw; (try dsimp only at hSw); go_simp; (try (with_reducible rfl))); simp only [Act.put, List.setIfInBounds_toArray, List.set_cons_zero, List.set_cons_succ])
      ((refine AnyT.takeAny 6 18 ?_ rfl (by kernel_rfl) (by kernel_rfl) (by kernel_rfl) rfl rfl (fun _ _ _ _ h => h) rfl ?_ (by assumption) ?_); rotate_left; (intro w; go_simp; (try (with_reducible rfl))); simp only [Act.put, List.setIfInBounds_toArray, List.set_cons_zero, List.set_cons_succ])
      ((refine AnyT.takeAny 7 19 ?_ rfl (by kernel_rfl) (by kernel_rfl) (by kernel_rfl) rfl rfl (fun _ _ _ _ h => h) rfl ?_ (by assumption) ?_); rotate_left; (intro w; go_simp; (try (with_reducible rfl))); simp only [Act.put, List.setIfInBounds_toArray, List.set_cons_zero, List.set_cons_succ])
      ((refine AnyT.takeAny 8 20 ?_ rfl (by kernel_rfl) (by kernel_rfl) (by kernel_rfl) rfl rfl (fun _ _ _ _ h => h) rfl ?_ (by assumption) ?_); rotate_left; (intro w; go_simp; (try (with_reducible rfl))); simp only [Act.put, List.setIfInBounds_toArray, List.set_cons_zero, List.set_cons_succ])
      ((refine AnyT.takeAny 9 21 ?_ rfl (by kernel_rfl) (by kernel_rfl) (by kernel_rfl) rfl rfl (fun _ _ _ _ h => h) rfl ?_ (by assumption) ?_); rotate_left; (intro w; go_simp; (try (with_reducible rfl))); simp only [Act.put, List.setIfInBounds_toArray, List.set_cons_zero, List.set_cons_succ])
      ((refine AnyT.take 10 22 ?_ rfl (by kernel_rfl) (by kernel_rfl) (by kernel_rfl) (by kernel_rfl) rfl (by kernel_rfl) rfl (fun _ _ _ _ h => h) rfl ?_ (by assumption) ?_); rotate_left; (intro w hSw; (try dsimp only at hSw); go_simp; (try (with_reducible rfl))); simp only [Act.put, List.setIfInBounds_toArray, List.set_cons_zero, List.set_cons_succ])
      ((refine AnyT.takeAny 12 24 ?_ rfl (by kernel_rfl) (by kernel_rfl) (by kernel_rfl) rfl rfl (fun _ _ _ _ h => h) rfl ?_ (by assumption) ?_); rotate_left; (intro w; go_simp; (try (with_reducible rfl))); simp only [Act.put, List.setIfInBounds_toArray, List.set_cons_zero, List.set_cons_succ])
      ((refine AnyT.takeAny 13 25 ?_ rfl (by kernel_rfl) (by kernel_rfl) (by kernel_rfl) rfl rfl (fun _ _ _ _ h => h) rfl ?_ (by assumption) ?_); rotate_left; (intro w; go_simp; (try (with_reducible rfl))); simp only [Act.put, List.setIfInBounds_toArray, List.set_cons_zero, List.set_cons_succ])
      ((refine AnyT.takeAny 14 26 ?_ rfl (by kernel_rfl) (by kernel_rfl) (by kernel_rfl) rfl rfl (fun _ _ _ _ h => h) rfl ?_ (by assumption) ?_); rotate_left; (intro w; go_simp; (try (with_reducible rfl))); simp only [Act.put, List.setIfInBounds_toArray, List.set_cons_zero, List.set_cons_succ])
      ((refine AnyT.takeAny 15 27 ?_ rfl (by kernel_rfl) (by kernel_rfl) (by kernel_rfl) rfl rfl (fun _ _ _ _ h => h) rfl ?_ (by assumption) ?_); rotate_left; (intro w; go_simp; (try (with_reducible rfl))); simp only [Act.put, List.setIfInBounds_toArray, List.set_cons_zero, List.set_cons_succ])
      ((refine AnyT.take 16 28 ?_ rfl (by kernel_rfl) (by kernel_rfl) (by kernel_rfl) (by kernel_rfl) rfl (by kernel_rfl) rfl (fun _ _ _ _ h => h) rfl ?_ (by assumption) ?_); rotate_left; (intro w hSw; (try dsimp only at hSw); go_simp; (try (with_reducible rfl))); simp only [Act.put, List.setIfInBounds_toArray, List.set_cons_zero, List.set_cons_succ])
      ((refine AnyT.one (i := 11) (by kernel_rfl) rfl (fun K hK => ?_)))
      go_simp
      refine (l03Subs_any A1 c1 lo hi y1 w4 HST.out (by omega) hn1).mono ?_
      rintro e5 w5 ⟨⟨B5, d5, rfl, ho5⟩, hb5⟩
      go_simp
      have hs5 := hb5.size
      have HO5 := Lib.hid (HO.out.below hb5 (Nat.le_refl _))
      have HE5 := Lib.hid (show Own shNode w5 w4.heap.size w5.heap.size [.string y0, .slice B5 y1.length d5, .string y2] (y0, y1, y2) from Own.prod (Own.one w5 w4.heap.size w4.heap.size _) (Own.prod ho5 (Own.one w5 w5.heap.size w5.heap.size _) (by omega) (by omega) (by omega)) (by omega) (by omega) (by omega))
      have HBA5 := Lib.hid (HBA.out.trans (hb5.mono hszd))
      have hbl : b < w4.heap.size := by omega
      have HC5 := Lib.hid (show w5.cell? ⟨b, off + k * 3, none⟩ = some (.string y0) ∧ w5.cell? ⟨b, off + k * 3 + 1, none⟩ = some (.slice A1 y1.length c1) ∧ w5.cell? ⟨b, off + k * 3 + 2, none⟩ = some (.string y2) from ⟨(hb5.cell (p := ⟨b, _, none⟩) hbl).trans HC.out.1, (hb5.cell (p := ⟨b, _, none⟩) hbl).trans HC.out.2.1, (hb5.cell (p := ⟨b, _, none⟩) hbl).trans HC.out.2.2⟩)
      refine hK.out _ _ HC5.out (fun hHeld => ?_)
      clear hK K hb5 ho5
      (try simp only [Act.put, List.setIfInBounds_toArray, List.set_cons_zero, List.set_cons_succ])
      ((refine AnyT.takeAny 17 29 ?_ rfl (by kernel_rfl) (by kernel_rfl) (by kernel_rfl) rfl rfl (fun _ _ _ _ h => h) rfl ?_ (by assumption) ?_); rotate_left; (intro w; go_simp; (try (with_reducible rfl))); simp only [Act.put, List.setIfInBounds_toArray, List.set_cons_zero, List.set_cons_succ])
      ((refine AnyT.one (i := 18) (by kernel_rfl) rfl (fun K hK => ?_)))
      go_simp
      have hba := (Below.refl w5.heap.size w5).alloc (Nat.le_refl _) (.cells #[.string y0, .slice B5 y1.length d5, .string y2] 32)
      refine hK.out _ _ ⟨(hba.cell (p := ⟨b, _, none⟩) (by dsimp only; omega)).trans HC5.out.1, (hba.cell (p := ⟨b, _, none⟩) (by dsimp only; omega)).trans HC5.out.2.1, (hba.cell (p := ⟨b, _, none⟩) (by dsimp only; omega)).trans HC5.out.2.2⟩ (fun hHeld => ?_)
      clear hK K hba
      (try simp only [Act.put, List.setIfInBounds_toArray, List.set_cons_zero, List.set_cons_succ])
      ((refine AnyT.one (i := 19) (by kernel_rfl) rfl (fun K hK => ?_)))
      refine step_grow (s := shNode) rfl (.tmp 12) (.tmp 30) 24 rfl Tryz.underlying24 rfl (by decide) (by decide) infoNode w5 w.heap.size w4.heap.size w4.heap.size w5.heap.size B k d (ts.take k) [.string y0, .slice B5 y1.length d5, .string y2] (y0, y1, y2) rfl HO5.out HE5.out (Nat.le_refl _) hszd (Nat.le_refl _) (by omega) rfl (by omega) ?_
      intro B7 d7 w7 ho7 hb7 hs7 hk7
      rw [← HTK.out] at ho7
      have HO7 := Lib.hid ho7
      have HBA7 := Lib.hid (HBA5.out.trans hb7)
      have hbw2 : b < w.heap.size := by omega
      refine hK.out _ _ ⟨(hb7.cell (p := ⟨b, _, none⟩) hbw2).trans HC5.out.1, (hb7.cell (p := ⟨b, _, none⟩) hbw2).trans HC5.out.2.1, (hb7.cell (p := ⟨b, _, none⟩) hbw2).trans HC5.out.2.2⟩ (fun hHeld => ?_)
      clear hK K hb7 ho7 hk7
      (try simp only [Act.put, List.setIfInBounds_toArray, List.set_cons_zero, List.set_cons_succ])
      ((refine AnyT.takeAny 20 3 ?_ rfl (by kernel_rfl) (by kernel_rfl) (by kernel_rfl) rfl rfl (fun _ _ _ _ h => h) rfl ?_ (by assumption) ?_); rotate_left; (intro w; go_simp; (try (with_reducible rfl))); simp only [Act.put, List.setIfInBounds_toArray, List.set_cons_zero, List.set_cons_succ])
      refine AnyT.done (by kernel_rfl) ?_ _
      clear hHeld
      go_wp2_with fail
      go_roundw
      case rel => exact ⟨k + 1, B7, d7, by omega, by go_num, rfl, HO7.out, HBA7.out⟩
      case measure => simp [intOf]; omega
    · obtain rfl : k = ts.length := by omega
      rw [List.take_length] at hO
      have HO := Lib.hid hO
      have HBW := Lib.hid (HB.out.trans hb)
      clear hO hb
      go_wp2_with fail
      go_ret
      exact ⟨⟨B, d, rfl, HO.out⟩, HBW.out⟩

end Go.Proofs.YtfibjcaidnofmaaGreatDoor
