/- Putting a node to its place, by the reference: l03Subs, l03Own, l03At walked; rows that are known by reading alone. -/
import Derived.Test.YtfibjcaidnofmaaGreatDoorJoinEOBg
import Derived.Test.YtfibjcaidnofmaaGreatDoorJoinEOAy
import Derived.Test.YtfibjcaidnofmaaGreatDoorJoinEOAv
namespace Go.Proofs.YtfibjcaidnofmaaGreatDoor
open Go.RowKit

theorem flatText : FlatSh shS := fun h _ => ⟨rfl, h⟩
theorem rowG_of_shape {α : Type} {s : Sh α} {t : TypeId} {w : World} {lo hi c : Nat} {A : Option Addr} {xs : List α} (h : (Sh.row t s).R w lo hi [.slice A xs.length c] xs) : RowG s w lo hi A xs := by
  obtain ⟨A', c', e, h⟩ := h
  injection e with e _
  injection e with e1 e2 e3
  subst e1; exact h
/-- An empty literal row, laid behind W. -/
theorem lit0_own {t : TypeId} {k : Nat} (W : World) (base : Nat) (hb : base ≤ W.heap.size) : (W.alloc (.cells #[] t)).ownsRow base t k (.slice (some ⟨W.heap.size, 0, none⟩) 0 0) 0 [] := by
  have := World.ownsRow_lit (base := base) (e := t) (size := k) W #[] 0 hb (by simp) (by simp)
  simpa using this

/-! ### Rows known by reading alone -/
section
variable {α : Type} {s : Sh α} {t : TypeId} {w w' : World} {base lo hi : Nat} {v : Value} {xs ys : List α}
/-- The row is the call's own; what its elements hang on lies ahead of it and is read only. -/
def RdRow (s : Sh α) (t : TypeId) (w : World) (base lo hi : Nat) (v : Value) (xs : List α) : Prop :=
  ∃ cs, w.ownsRow base t s.k v xs.length cs ∧ ∀ j, j < xs.length → s.R w lo hi (elemAt s.k cs j) (xs.getD j s.d)
theorem RdRow.nil_ (h : w.ownsRow base t s.k v 0 []) : RdRow s t w base lo hi v [] := ⟨[], h, fun j hj => absurd hj (by simp)⟩
theorem RdRow.row (h : RdRow s t w base lo hi v xs) (hl : lo ≤ base) (hh : hi ≤ w.heap.size) : ∃ A c, v = .slice A xs.length c ∧ RowG s w lo w.heap.size A xs ∧ xs.length ≤ c := by
  obtain ⟨cs, ho, hel⟩ := h
  have hl0 : cs.length = xs.length * s.k := ho.1
  rcases ho.2 with ⟨e1, e2⟩ | ⟨g, cap, cur, e1, hb, hg, hn, hm, hs, ht⟩
  · exact ⟨none, 0, by rw [e1, e2], fun hp => by omega, by omega⟩
  · refine ⟨_, cap, e1, fun hp => ⟨g, 0, rfl, Nat.le_trans hl hb, ?_, fun j hj => ⟨elemAt s.k cs j, fun i hi' => ?_, s.R_more (hel j hj) (Nat.le_refl _) hh⟩⟩, hn⟩
    · exact (Array.getElem?_eq_some_iff.1 hg).1
    · have hlen := elemAt_len hl0 hj
      rw [hlen] at hi'
      rw [elemAt_get hi']
      have h1 := mul_lt hj hi'
      have h2 : w.cell? ⟨g, 0 + j * s.k + i, none⟩ = cur[0 + j * s.k + i]? := (show Blk w g t cur from hg).cell _
      rw [h2, Nat.zero_add, ← ht, List.getElem?_take, if_pos h1, Array.getElem?_toList]
theorem RdRow.below (h : RdRow s t w base lo hi v xs) (hb : Below w.heap.size w w') (hh : hi ≤ w.heap.size) : RdRow s t w' base lo hi v xs := by
  obtain ⟨cs, ho, hel⟩ := h
  exact ⟨cs, own_below ho hb, fun j hj => s.R_below (hel j hj) hb hh⟩

/-- append(row, ys...): more of what is read only. -/
theorem wpList_app_rd {P : Program} {ops : Array Oper} {rest : List Oper} {o : Oper} {a : Go.Act} {Q : Exit → Go.Act → World → Prop} (hgd : o.guard = none) (p x : Operand) (ty : TypeId)
    (ho : o.op = .call { callee := .builtin .append, args := #[p, x], argTypes := #[ty, ty] }) (ht : P.underlying ty = some (.slice t))
    {z : Value} {by_ : Nat} (hzz : z.cells.size = s.k) (hk : 0 < s.k) (hby : by_ ≤ 4096) (hinfo : (P.info? t).map (fun i => (i.zero, i.size, i.bytes)) = some (some z, s.k, by_))
    (w : World) (base lo hi : Nat) (v : Value) (xs ys : List α) (b off c : Nat) (news : List Value) (hs : a.eval p = v) (h : RdRow s t w base lo hi v xs) (hx : a.eval x = .slice (some ⟨b, off, none⟩) ys.length c)
    (hl : news.length = ys.length * s.k) (hc : ∀ j u, news[j]? = some u → w.cell? ⟨b, off + j, none⟩ = some u) (hone : ∀ u ∈ news, u.oneCell' = true) (hel : ∀ j, j < ys.length → s.R w lo hi (elemAt s.k news j) (ys.getD j s.d))
    (hlen : xs.length + ys.length ≤ 1000000000) (hhi : hi ≤ base) (hbase : base ≤ w.heap.size)
    (hq : ∀ v' w', RdRow s t w' base lo hi v' (xs ++ ys) → Below base w w' → wpList P ops Q rest (a.put o.dst v') w') : wpList P ops Q (o :: rest) a w := by
  obtain ⟨i0, hi0, hz0, hz1, hz2⟩ := info_parts hinfo
  obtain ⟨cs, hown, hel0⟩ := h
  have hadd : ∀ j, (⟨b, off, none⟩ : Addr).add j = ⟨b, off + j, none⟩ := fun j => by unfold Addr.add; split <;> simp_all
  have hl0 : cs.length = xs.length * s.k := hown.1
  refine wpList_append_own w hgd p x ty ho base t i0 _ s.k by_ ht hi0 hz0 hz1 hz2 hzz hk v xs.length cs hs hown ⟨b, off, none⟩ ys.length c news hx hl (fun j u hj => by rw [hadd]; exact hc j u hj) hone (by unfold maxLen; omega) (Nat.le_trans (Nat.mul_le_mul_left _ hby) (by omega)) hbase ?_
  intro v' w' h1 h2 _
  have hB : Below base w w' := (Below.refl base w).grown h2 hbase (fun k hk => (hown.lt k hk).1)
  have hlen2 : (xs ++ ys).length = xs.length + ys.length := List.length_append
  have hl3 : (cs ++ news).length = (xs.length + ys.length) * s.k := by rw [List.length_append, hl0, hl, Nat.add_mul]
  refine hq v' w' ⟨cs ++ news, by rw [hlen2]; exact h1, fun j hj => ?_⟩ hB
  rw [hlen2] at hj
  rcases Nat.lt_or_ge j xs.length with hjx | hjx
  · have e1 : elemAt s.k (cs ++ news) j = elemAt s.k cs j := elemAt_ext hl3 hj (elemAt_len hl0 hjx) fun i hi => by
      have := mul_lt hjx hi
      rw [elemAt_get hi, List.getElem?_append_left (by omega)]
    have e2 : (xs ++ ys).getD j s.d = xs.getD j s.d := by simp [List.getD_eq_getElem?_getD, List.getElem?_append_left hjx]
    rw [e1, e2]
    exact s.R_keep (hel0 j hjx) fun q _ hq => hB.block q (by omega)
  · have hjy : j - xs.length < ys.length := by omega
    have e1 : elemAt s.k (cs ++ news) j = elemAt s.k news (j - xs.length) := elemAt_ext hl3 hj (elemAt_len hl hjy) fun i hi => by
      have h3 : xs.length * s.k ≤ j * s.k := Nat.mul_le_mul_right _ hjx
      have h4 : (j - xs.length) * s.k = j * s.k - xs.length * s.k := Nat.sub_mul _ _ _
      rw [elemAt_get hi, List.getElem?_append_right (by omega)]
      congr 1; omega
    have e2 : (xs ++ ys).getD j s.d = ys.getD (j - xs.length) s.d := by simp [List.getD_eq_getElem?_getD, List.getElem?_append_right hjx]
    rw [e1, e2]
    exact s.R_keep (hel _ hjy) fun q _ hq => hB.block q (by omega)
/-- .. a slice that may be empty. -/
theorem wpList_app_rdG {P : Program} {ops : Array Oper} {rest : List Oper} {o : Oper} {a : Go.Act} {Q : Exit → Go.Act → World → Prop} (hgd : o.guard = none) (p x : Operand) (ty : TypeId)
    (ho : o.op = .call { callee := .builtin .append, args := #[p, x], argTypes := #[ty, ty] }) (ht : P.underlying ty = some (.slice t))
    {z : Value} {by_ : Nat} (hzz : z.cells.size = s.k) (hk : 0 < s.k) (hby : by_ ≤ 4096) (hinfo : (P.info? t).map (fun i => (i.zero, i.size, i.bytes)) = some (some z, s.k, by_))
    (w : World) (base lo hi : Nat) (v : Value) (xs ys : List α) (A : Option Addr) (n c : Nat) (hs : a.eval p = v) (h : RdRow s t w base lo hi v xs) (hx : a.eval x = .slice A n c) (hn : n = ys.length) (hr : RowG s w lo hi A ys)
    (hlen : xs.length + ys.length ≤ 1000000000) (hhi : hi ≤ base) (hbase : base ≤ w.heap.size)
    (hq : ∀ v' w', RdRow s t w' base lo hi v' (xs ++ ys) → Below base w w' → wpList P ops Q rest (a.put o.dst v') w') : wpList P ops Q (o :: rest) a w := by
  subst hn
  by_cases h0 : ys = []
  · subst h0
    obtain ⟨i0, hi0, hz0, hz1, hz2⟩ := info_parts hinfo
    obtain ⟨cs, hown, hel0⟩ := id h
    have hrun : (Builtin.append_ #[ty, ty] o.type #[v, .slice A 0 c]).run P w = .ok v w := by
      rcases hown.2 with ⟨rfl, hz⟩ | ⟨g, cap, cur, rfl, _, _, hnc, _⟩
      · cases A <;> simp [Builtin.append_, run_underlying ht, sizeOf, typeInfo, hi0, Builtin.lenOf, Builtin.firstCells, loadCells, loadCellsFrom]
      · cases A <;> simp [Builtin.append_, run_underlying ht, sizeOf, typeInfo, hi0, Builtin.lenOf, Builtin.firstCells, loadCells, loadCellsFrom, storeCells] <;> omega
    refine wpList_plain hgd fun K hK => ?_
    unfold Oper.wp execOp
    rw [List.length_nil] at hx
    simp only [ho, resolve, invoke, builtin, Sem.run_bind, Sem.run_pure, Result.andThen_ok, List.map_toArray, List.map_cons, List.map_nil, hs, hx, hrun]
    exact hK _ _ (hq v w (by rw [List.append_nil]; exact h) (Below.refl _ _))
  · obtain ⟨b, off, news, rfl, _, _, hl, hc, hone, hel⟩ := rowG_news hr (List.length_pos_iff.2 h0)
    exact wpList_app_rd hgd p x ty ho ht hzz hk hby hinfo w base lo hi v xs ys b off c news hs h hx hl hc hone hel hlen hhi hbase hq
theorem RowG.take {A : Option Addr} (h : RowG s w lo hi A xs) (k : Nat) : RowG s w lo hi A (xs.take k) := fun hp => by
  rw [List.length_take] at hp
  obtain ⟨b, off, e, h1, h2, hc⟩ := h (by omega)
  refine ⟨b, off, e, h1, h2, fun j hj => ?_⟩
  rw [List.length_take] at hj
  have e2 : (xs.take k).getD j s.d = xs.getD j s.d := by rw [List.getD_eq_getElem?_getD, List.getD_eq_getElem?_getD, List.getElem?_take, if_pos (by omega)]
  rw [e2]; exact hc j (by omega)
theorem RowG.drop {b off : Nat} {xs : List α} (h : RowG s w lo hi (some ⟨b, off, none⟩) xs) (k : Nat) : RowG s w lo hi (some ⟨b, off + k * s.k, none⟩) (xs.drop k) := fun hp => by
  rw [List.length_drop] at hp
  obtain ⟨b', off', e, h1, h2, hc⟩ := h (by omega)
  injection e with e
  injection e with e1 e2
  subst e1 e2
  refine ⟨b, _, rfl, h1, h2, fun j hj => ?_⟩
  rw [List.length_drop] at hj
  obtain ⟨us, h3, h4⟩ := hc (k + j) (by omega)
  have e2 : (xs.drop k).getD j s.d = xs.getD (k + j) s.d := by rw [List.getD_eq_getElem?_getD, List.getD_eq_getElem?_getD, List.getElem?_drop]
  rw [e2]
  refine ⟨us, ?_, h4⟩
  rw [Nat.add_mul, ← Nat.add_assoc] at h3
  exact h3
end

set_option maxHeartbeats 1000000 in
theorem l03Subs_any (A : Option Addr) (c lo hi : Nat) (ys : List ByteArray) (w : World) (h : StrR w lo hi A ys.length ys) (hhi : hi ≤ w.heap.size) (hn : ys.length ≤ 1048576) :
    Calls Tryz.prog 161 #[.slice A ys.length c] w fun e w' => (∃ B d, e = .returned (.slice B ys.length d) ∧ Own (Sh.row 9 shS) w' w.heap.size w'.heap.size [.slice B ys.length d] ys) ∧ Below w.heap.size w w' := by
  have hb := (Below.refl w.heap.size w).alloc (Nat.le_refl _) (.cells #[] 9)
  have HL := Lib.hid (lit0_own (t := 9) (k := shS.k) w w.heap.size (Nat.le_refl _))
  have HR := Lib.hid (rowG_of_R (m := markT) (co := ByteArray.size) (h1 := fun _ => rfl) (h.below hb hhi))
  have HB := Lib.hid hb
  clear h hb
  go_enter Tryz.func161, Tryz.ntmps161
  go_wp2_with (at_builtin; refine wpList_growR (s := shS) rfl (.tmp 3) (.tmp 4) 29 rfl Tryz.underlying29 rfl (by decide) (by decide) infoString flatText _ w.heap.size lo hi _ A c ys rfl HL.out rfl HR.out (by omega) (by simp) ?_)
  intro B d w1 ho hb1
  have HO := Lib.hid ho
  have HB1 := Lib.hid (HB.out.trans hb1)
  clear ho hb1
  go_wp2_with fail
  go_ret
  exact ⟨⟨B, d, rfl, HO.out⟩, HB1.out⟩

end Go.Proofs.YtfibjcaidnofmaaGreatDoor

/- The program's line of a node. -/
namespace Go.Proofs.YtfibjcaidnofmaaGreatDoor
open Go.RowKit

theorem lineT_split (x : Nod) : lineT x = ((94 :: x.name.data.toList) ++ subsT x.subs) ++ [61] ++ plainP x.value.data.toList := by
  unfold lineT
  simp
theorem joinT_len (l : List ByteArray) (n : Nat) (hn : l.length ≤ n) (h : ∀ y ∈ l, y.size ≤ 24) : (joinT l).length ≤ 300 * n := by
  unfold joinT
  have : ∀ (l : List ByteArray), (∀ y ∈ l, y.size ≤ 24) → (Lib.join (l.map fun s => plainP s.data.toList) [44]).length ≤ 300 * l.length := by
    intro l h
    cases l with
    | nil => exact Nat.zero_le _
    | cons a l =>
      rw [List.map_cons, join_cons, List.length_append, List.length_cons]
      have h1 := plainP_len a.data.toList
      have h2 := h a (List.mem_cons_self ..)
      rw [len_list] at h1
      have h3 : ((l.map fun s => plainP s.data.toList).map ([44] ++ ·)).flatten.length ≤ 300 * l.length := by
        clear h1 h2
        induction l with
        | nil => exact Nat.zero_le _
        | cons b l ih =>
          have h4 := ih (fun y hy => h y (by rcases List.mem_cons.1 hy with e | e; exact e ▸ List.mem_cons_self .. ; exact List.mem_cons_of_mem _ (List.mem_cons_of_mem _ e)))
          have h5 := plainP_len b.data.toList
          have h6 := h b (List.mem_cons_of_mem _ (List.mem_cons_self ..))
          rw [len_list] at h5
          rw [List.map_cons, List.map_cons, List.flatten_cons, List.length_append, List.length_append, List.length_cons, List.length_cons, List.length_nil]
          omega
      omega
  have := this l h
  have h7 : 300 * l.length ≤ 300 * n := Nat.mul_le_mul_left _ hn
  omega

set_option maxHeartbeats 4000000 in
set_option maxRecDepth 100000 in
theorem nodeLine_any (x : Nod) (v : Value) (lo hi : Nat) (w : World) (hx : NodR w lo hi v x) (hhi : hi ≤ w.heap.size) (hB : nodB x = true) (hE : EnvIn w) :
    Calls Tryz.prog 31 #[v] w fun e w' => e = .returned (.string ⟨(lineT x).toArray⟩) ∧ Below w.heap.size w w' := by
  obtain ⟨A, c, rfl, hA⟩ := hx
  obtain ⟨f1, f2, f3, f4⟩ := nodB_facts hB
  have hbo := (Below.refl w.heap.size w).alloc (Nat.le_refl _) (.cells #[.string x.name, .slice A x.subs.length c, .string x.value] 32)
  have hsz : (w.alloc (.cells #[.string x.name, .slice A x.subs.length c, .string x.value] 32)).heap.size = w.heap.size + 1 := by simp
  have HBK := Lib.hid (Blk.new w 32 #[.string x.name, .slice A x.subs.length c, .string x.value])
  have HA := Lib.hid (hA.below hbo hhi)
  have HD := Lib.hid hbo
  have HE := Lib.hid (hE.below hbo)
  have HF3 := Lib.hid f3
  have HJ := Lib.hid (joinT_len x.subs 4 f2 f3)
  have HR := Lib.hid (lineT_split x)
  have HPV := Lib.hid (fun W h => plain_any x.value (by omega) W h)
  have hpv := plainP_len x.value.data.toList
  rw [len_list] at hpv
  clear hA hbo hE f3 hB
  generalize plainP x.value.data.toList = V at *
  by_cases h0 : x.subs.length = 0
  · have z0 : ¬ (0 : Int) < (x.subs.length : Int) := by omega
    have HS := Lib.hid (show subsT x.subs = [] by unfold subsT; exact if_pos (List.eq_nil_of_length_eq_zero h0))
    have HZ := Lib.hid h0
    clear h0
    have c1 := HBK.out.cell
    go_enter Tryz.func31, Tryz.ntmps31
    go_wp2_with fail
    refine (HPV.out _ HE.out).mono ?_; rintro e2 w2 ⟨rfl, hb2⟩
    go_wp2_with fail
    go_ret
    exact ⟨by rw [HR.out, HS.out, List.append_nil, ← mk_app, ← mk_app, ← txt_cons]; rfl, HD.out.trans (hb2.mono HD.out.size)⟩
  · have z0 : (0 : Int) < (x.subs.length : Int) := by omega
    have HS := Lib.hid (show subsT x.subs = 40 :: (joinT x.subs ++ [41]) by unfold subsT; exact if_neg (fun e => h0 (by rw [e]; rfl)))
    have HZ := Lib.hid h0
    have hd0 : decide (0 < x.subs.length) = true := decide_eq_true (by omega)
    have hd1 : decide ((0 : Int) < (x.subs.length : Int)) = true := decide_eq_true z0
    clear h0
    have c1 := HBK.out.cell
    go_enter Tryz.func31, Tryz.ntmps31
    go_upto_region 4 with fail
    generalize hw1 : w.alloc (.cells #[.string x.name, .slice A x.subs.length c, .string x.value] 32) = w1 at *
    have HW1 := Lib.hid hw1; clear hw1
    have hlt1 : w.heap.size < w1.heap.size := by omega
    have hsz := Lib.hid hsz
    have hown0 : OwnStrs (w1.alloc (.cells #[] 9)) w1.heap.size 9 (.slice (some ⟨w.heap.size + 1, 0, none⟩) 0 0) [] := by
      have := OwnR.none_ (enc := Value.string) w1 w1.heap.size 9 (Nat.le_refl _)
      rw [hsz.out] at this ⊢
      exact this
    have hb0 : Below w1.heap.size w1 (w1.alloc (.cells #[] 9)) := (Below.refl _ _).alloc (Nat.le_refl _) _
    have c2 := (HBK.out.below hb0 (by omega)).cell
    have HB0 := Lib.hid hb0
    clear c1 hb0
    go_wp2_with fail
    go_loopw [4, 18] (fun v i wr => ∃ (k : Nat) (fs : List ByteArray), k ≤ x.subs.length ∧ i = .int .i64 k ∧ OwnStrs wr w1.heap.size 9 v fs ∧ fs.length = k ∧ fs.map (·.data.toList) = (x.subs.take k).map (fun s => plainP s.data.toList) ∧ Below w1.heap.size w1 wr) (fun _ i _ => x.subs.length - (intOf i).toNat)
    case atStart => exact ⟨0, [], Nat.zero_le _, rfl, hown0, rfl, rfl, HB0.out⟩
    case round =>
      clear c2 hown0
      obtain ⟨k, fs, hk, rfl, hown, hfl, hfs, hbr⟩ := hrel
      have HFS := Lib.hid hfs
      have hszr := hbr.size
      have HBR := Lib.hid hbr
      have hAr := HA.out.below hbr (by omega)
      have c3 := (HBK.out.below hbr (by omega)).cell
      clear hfs
      by_cases hlt : k < x.subs.length
      · obtain ⟨b, off, rfl, _, _, hcell⟩ := hAr.at_ hlt
        have k1 : (k : Int) < (x.subs.length : Int) := by omega
        have hsX := HF3.out _ (getD_mem' (d := ByteArray.empty) hlt)
        have HP := Lib.hid (plain_any (x.subs.getD k ByteArray.empty) (by omega) wr (HE.out.below hbr))
        have HN := Lib.hid (show (fs ++ [(⟨(plainP (x.subs.getD k ByteArray.empty).data.toList).toArray⟩ : ByteArray)]).map (·.data.toList) = (x.subs.take (k + 1)).map (fun s => plainP s.data.toList) by
          rw [List.take_succ_eq_append_getElem hlt, List.map_append, List.map_append, HFS.out, List.getD_eq_getElem?_getD, List.getElem?_eq_getElem hlt]; rfl)
        clear hAr hbr c3
        generalize plainP (x.subs.getD k ByteArray.empty).data.toList = F at *
        generalize x.subs.getD k ByteArray.empty = X at *
        go_wp2_with fail
        refine HP.out.mono ?_; rintro e2 w2 ⟨rfl, hb2⟩; have hown3 := hown.below hb2; have hs2 := Nat.le_trans hszr hb2.size
        go_wp2_with (first
          | fail
          | (at_builtin; refine wpList_app1 (enc := Value.string) rfl (.tmp 22) (.tmp 25) 29 9 rfl Tryz.underlying29 rfl (by omega) (fun _ => rfl) infoTxt w2 w1.heap.size _ fs ⟨F.toArray⟩ rfl hown3 rfl (by omega) hs2 ?_; intro v3 w3 hown4 hb3))
        go_roundw
        case rel => exact ⟨k + 1, _, by omega, by go_num, hown4, by rw [List.length_append, hfl]; rfl, HN.out, HBR.out.trans ((hb2.mono hszr).trans hb3)⟩
        case measure => simp [intOf]; omega
      · have k1 : ¬ (k : Int) < (x.subs.length : Int) := by omega
        obtain rfl : k = x.subs.length := by omega
        have hjn : Lib.join (fs.map (·.data.toList)) [44] = joinT x.subs := by
          rw [HFS.out, List.take_length]; rfl
        have HJO := Lib.hid (join_own hown (by omega) ⟨#[44]⟩ (by show (Lib.join (fs.map (·.data.toList)) [44]).length ≤ _; rw [hjn]; have := HJ.out; omega))
        have HJN := Lib.hid (show Lib.join (fs.map (·.data.toList)) (⟨#[44]⟩ : ByteArray).data.toList = joinT x.subs from hjn)
        have hjl := HJ.out
        have hEr := Lib.hid (HE.out.below hbr)
        clear hjn hown hbr hAr
        have HX := Lib.hid (show ∀ D : List UInt8, ((⟨#[40]⟩ : ByteArray) ++ ⟨D.toArray⟩ ++ (⟨#[41]⟩ : ByteArray)) = ⟨(40 :: (D ++ [41])).toArray⟩ from fun D => by rw [mk_app1]; exact mk_app (40 :: D) [41])
        go_wp2_with fail
        refine HJO.out.mono ?_; rintro e3 w3 ⟨rfl, hb3⟩
        rw [HJN.out]
        have c4 := (HBK.out.below (HBR.out.trans (hb3.mono HBR.out.size)) (by omega)).cell
        have HB3 := Lib.hid (HBR.out.trans (hb3.mono HBR.out.size))
        have hE3 := Lib.hid (HE.out.below HB3.out)
        generalize joinT x.subs = D at *
        clear c3 hb3
        go_wp2_with fail
        refine (HPV.out _ hE3.out).mono ?_; rintro e4 w4 ⟨rfl, hb4⟩
        go_wp2_with fail
        go_ret
        exact ⟨by rw [HR.out, HS.out, ← mk_app, ← mk_app, ← mk_app, ← HX.out, ← txt_cons]; rfl, HD.out.trans ((HB3.out.trans (hb4.mono HB3.out.size)).mono HD.out.size)⟩

set_option maxHeartbeats 1000000 in
theorem implNodeLine_any (x : Nod) (v : Value) (lo hi : Nat) (w : World) (hx : NodR w lo hi v x) (hhi : hi ≤ w.heap.size) (hs : NodSmall x) (hE : EnvIn w) :
    Calls Tryz.prog 9 #[v] w fun e w' => e = .returned (.string ⟨(nodeLineP x).toArray⟩) ∧ Below w.heap.size w w' := by
  obtain ⟨A, c, rfl, hA⟩ := hx
  have hbo := (Below.refl w.heap.size w).alloc (Nat.le_refl _) (.cells #[.string x.name, .slice A x.subs.length c, .string x.value] 32)
  have hsz : (w.alloc (.cells #[.string x.name, .slice A x.subs.length c, .string x.value] 32)).heap.size = w.heap.size + 1 := by simp
  have HC := Lib.hid (nodeOk_any x (.agg #[.string x.name, .slice A x.subs.length c, .string x.value]) lo hi _ ⟨A, c, rfl, hA.below hbo hhi⟩ (Nat.le_trans hhi (by omega)) hs)
  have HBK := Lib.hid (Blk.new w 32 #[.string x.name, .slice A x.subs.length c, .string x.value])
  have HA := Lib.hid (hA.below hbo hhi)
  have HD := Lib.hid hbo
  have HE := Lib.hid (hE.below hbo)
  clear hA hbo hE hs
  cases hB : nodB x
  · rw [hB] at HC
    have HR := Lib.hid (show nodeLineP x = [] by unfold nodeLineP; rw [hB]; rfl)
    rw [HR.out]
    clear hB
    go_enter Tryz.func9, Tryz.ntmps9
    go_wp2_with fail
    refine HC.out.mono ?_; rintro e1 w1 ⟨rfl, hb1⟩
    go_wp2_with fail
    go_ret
    exact ⟨rfl, HD.out.trans (hb1.mono HD.out.size)⟩
  · rw [hB] at HC
    have HR := Lib.hid (show nodeLineP x = lineT x by unfold nodeLineP; rw [hB]; rfl)
    rw [HR.out]
    have HNL := Lib.hid (fun W lo hi h1 h2 h3 => nodeLine_any x (.agg #[.string x.name, .slice A x.subs.length c, .string x.value]) lo hi W h1 h2 hB h3)
    clear hB
    generalize lineT x = T at *
    go_enter Tryz.func9, Tryz.ntmps9
    go_wp2_with fail
    refine HC.out.mono ?_; rintro e1 w1 ⟨rfl, hb1⟩
    have c1 := (HBK.out.below hb1 (by omega)).cell
    have HB1 := Lib.hid (HD.out.trans (hb1.mono HD.out.size))
    have HN1 := Lib.hid (HNL.out w1 lo hi ⟨A, c, rfl, HA.out.below hb1 (by omega)⟩ (Nat.le_trans hhi HB1.out.size) (HE.out.below hb1))
    clear hb1
    go_wp2_with fail
    refine HN1.out.mono ?_; rintro e2 w2 ⟨rfl, hb2⟩
    go_wp2_with fail
    go_ret
    exact ⟨rfl, HB1.out.trans (hb2.mono HB1.out.size)⟩
end Go.Proofs.YtfibjcaidnofmaaGreatDoor
