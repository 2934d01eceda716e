/- A drawn tree: l22Tree, DrawExportTree of the reference walked. -/
import Derived.Test.YtfibjcaidnofmaaGreatDoorJoinEOBs
namespace Go.Proofs.YtfibjcaidnofmaaGreatDoor
open Go.RowKit

/-- What a tree owns are rows of nodes and of texts. -/
theorem tree_types {w : World} {F : List Nat} {vs : List Value} {ts : List TyNode} (h : shTree.O w F vs ts) : ∀ b ∈ F, ∃ cs t, Blk w b t cs ∧ t ≠ 26 := by
  obtain ⟨A, c, cs, Fs, rfl, ho, rfl, hel⟩ := h
  intro b hb
  rcases List.mem_append.1 hb with hb | hb
  · rcases ho.2 with ⟨e1, _⟩ | ⟨g, cap, cur, e1, _, e3, _⟩
    · rw [e1] at hb; cases hb
    · rw [e1] at hb
      obtain rfl : b = g := by simpa [Value.ownBlock] using hb
      exact ⟨cur, _, e3, by decide⟩
  · obtain ⟨j, hj, hb⟩ := List.mem_flatMap.1 hb
    have h1 := hel j (List.mem_range.1 hj)
    generalize ts.getD j shNode.d = x at *
    obtain ⟨x0, x1, x2⟩ := x
    obtain ⟨A1, c1, F1, _, eF, h3⟩ := shNode_O.1 h1
    obtain ⟨ho1, eF1⟩ := own_of_O h3
    rw [eF, eF1, List.append_nil, List.nil_append] at hb
    rcases ho1.2 with ⟨e1, _⟩ | ⟨g, cap, cur, e1, _, e3, _⟩
    · rw [e1] at hb; cases hb
    · rw [e1] at hb
      obtain rfl : b = g := by simpa [Value.ownBlock] using hb
      exact ⟨cur, _, e3, by decide⟩
theorem Own.tree_set {w : World} {lo hi g i : Nat} {vs : List Value} {ts : List TyNode} {cs : Array Value} (h : Own shTree w lo hi vs ts) (hb : Blk w g 26 cs) (u : Value) : Own shTree (w.setCell ⟨g, i, none⟩ u) lo hi vs ts := by
  obtain ⟨F, hO, hN, hr⟩ := h
  refine ⟨F, shTree.O_keep hO fun b hbF => Below.heap_setCell _ ⟨g, i, none⟩ u b fun e => ?_, hN, hr⟩
  have e : b = g := e
  subst e
  obtain ⟨cs', t, h1, h2⟩ := tree_types hO b hbF
  have := h1.symm.trans hb
  injection this with this
  injection this with _ this _
  exact h2 this
section
variable {α : Type} {s : Sh α} {t : TypeId}
/-- append at a step of a region that draws, told closely. -/
theorem step_grow2 {P : Program} {ops : Array Oper} {o : Oper} {a : Go.Act} {K : Go.Act → World → Prop} {Q : Exit → Go.Act → World → Prop} {E : Prop} (hgd : o.guard = none) (p x : Operand) (ty : TypeId)
    (ho : o.op = .call { callee := .builtin .append, args := #[p, x], argTypes := #[ty, ty] }) (ht : P.underlying ty = some (.slice t))
    {z : Value} {by_ : Nat} (hzz : z.cells.size = s.k) (hk : 0 < s.k) (hby : by_ ≤ 4096) (hinfo : (P.info? t).map (fun i => (i.zero, i.size, i.bytes)) = some (some z, s.k, by_))
    (w : World) (base m m' hi : Nat) (A : Option Addr) (n c : Nat) (xs : List α) (us : List Value) (y : α) (hs : a.eval p = .slice A n c) (h1 : Own (Sh.row t s) w base m [.slice A n c] xs) (h2 : Own s w m' hi us y) (hm : m ≤ m') (hb : base ≤ m') (hhi : hi ≤ w.heap.size) (hbase : base ≤ w.heap.size)
    (hx : a.eval x = .slice (some ⟨w.heap.size, 0, none⟩) 1 1) (hlen : n ≤ 1000000000)
    (h : ∀ A' c' w', Own (Sh.row t s) w' base w'.heap.size [.slice A' (n + 1) c'] (xs ++ [y]) → Below base w w' → w.heap.size < w'.heap.size → (∀ b t' cs, Blk w b t' cs → t' ≠ t → Blk w' b t' cs) → K (a.put o.dst (.slice A' (n + 1) c')) w') : if Region.wanted o (yielded ops a.tmps) = true then Oper.wp P o a (w.alloc (.cells us.toArray t)) K Q else E := by
  obtain ⟨i0, hi0, hz0, hz1, hz2⟩ := info_parts hinfo
  have hba := (Below.refl w.heap.size w).alloc (Nat.le_refl _) (.cells us.toArray t)
  have h2b := h2.below hba hhi
  obtain ⟨F, ⟨A', c', cs, Fs, e, ho1, eF, hel⟩, hN, hr⟩ := h1
  have hlt1 : ∀ b ∈ F, b < w.heap.size := fun b hb' => (Sh.row t s).O_lt ⟨A', c', cs, Fs, e, ho1, eF, hel⟩ b hb'
  injection e with e _
  injection e with e1 e2 e3
  subst e1 e2 e3
  have h1b : Own (Sh.row t s) (w.alloc (.cells us.toArray t)) base m [.slice A xs.length c] xs := by
    refine ⟨F, (Sh.row t s).O_keep ⟨A, c, cs, Fs, rfl, ho1, eF, hel⟩ (fun b hb' => hba.block b (hlt1 b hb')), hN, hr⟩
  have ho2 : (w.alloc (.cells us.toArray t)).ownsRow 0 t s.k (.slice A xs.length c) xs.length cs := ho1.alloc _
  have ho3 : (w.alloc (.cells us.toArray t)).ownsRow base t s.k (.slice A xs.length c) xs.length cs := ownsRow_base ho2 fun g hg => (hr g (by rw [eF, hg]; simp)).1
  have hul : us.length = s.k := h2.len
  refine step_append_lies _ hgd p x ty ho base t i0 _ s.k by_ ht hi0 hz0 hz1 hz2 hzz hk (.slice A xs.length c) xs.length cs hs ho3 ⟨w.heap.size, 0, none⟩ 1 1 us hx (by omega) ?_ (fun u hu => s.R_one h2.reads u hu) (by omega) (by unfold maxLen; omega) ?_ (by simp; omega) _ rfl ?_
  · exact World.news_of_block (Blk.new w t us.toArray)
  · exact Nat.le_trans (Nat.mul_le_mul_left _ hby) (by omega)
  · intro g cap w' q1 q2 q3 q4
    have hsz : w.heap.size < w'.heap.size := by have := q2.size; rw [heap_alloc_size1] at this; omega
    refine h _ _ w' (Own.grow h1b h2b hm hb (by simp; omega) ho2 q1 q2 q3 q4) (((Below.refl base w).alloc hbase _).grown q2 (by simp; omega) fun k hk => (hr k (by rw [eF, hk]; simp)).1) hsz fun b t' cs' hB hne => ?_
    refine (q2.block b (by have := hB.lt; rw [heap_alloc_size1]; omega) fun e => ?_).trans (hB.alloc _)
    rcases ho1.2 with ⟨e1, _⟩ | ⟨g', cap', cur', e1, _, e3, _⟩
    · rw [e1] at e; cases e
    · rw [e1] at e
      injection e with e
      have e : b = g' := e
      subst e
      have := e3.symm.trans hB
      injection this with this
      injection this with _ this _
      exact hne this.symm
end

theorem strs_node {w : World} {base : Nat} (nm vl : ByteArray) {A : Option Addr} {c : Nat} {xs : List ByteArray} (h : OwnStrs w base 9 (.slice A xs.length c) xs) (hb : base ≤ w.heap.size) : Own shNode w base w.heap.size [.string nm, .slice A xs.length c, .string vl] (nm, xs, vl) := by
  obtain ⟨A', c', e2, h2⟩ := Own_of_ownR h (Nat.le_refl _)
  injection e2 with e3 e4 e5
  subst e3 e5
  exact Own.prod (Own.one w base base _) (Own.prod h2 (Own.one w w.heap.size w.heap.size _) (Nat.le_refl _) hb (Nat.le_refl _)) (Nat.le_refl _) (Nat.le_refl _) hb
theorem treeOwn_moved {w w' : World} {p lo hi : Nat} {vs : List Value} {ts : List TyNode} (h : Own shTree w lo hi vs ts) (hm : Moved p w w') (hp : p < lo) (hh : hi ≤ w.heap.size) : Own shTree w' lo w'.heap.size vs ts :=
  (h.keep fun b h1 h2 => hm.block b (by omega) (by omega)).more (Nat.le_refl _) (Nat.le_trans hh hm.size)

set_option maxHeartbeats 16000000 in
set_option maxRecDepth 100000 in
theorem l22Tree_any (p lo hi : Nat) (A : Option Addr) (n c K : Nat) (w : World) (h : Src w p lo hi A n c K) (hK : K ≤ 400000000) :
    Calls Tryz.prog 26 #[.pointer (some ⟨p, 0, none⟩)] w fun e w' => ∃ A' c' ts, e = .returned (.agg #[.slice A' ts.length c']) ∧ Own shTree w' w.heap.size w'.heap.size [.slice A' ts.length c'] ts ∧ TSm 10 ts ∧ Moved p w w' := by
  have hpl := h.lt
  have hhi := h.le
  have hA := h.alloc (.cells #[.slice none 0 0] 26)
  have hz : (w.alloc (.cells #[.slice none 0 0] 26)).heap.size = w.heap.size + 1 := by simp
  have B0 := Lib.hid (Blk.new w 26 #[.slice none 0 0])
  have M0 := Lib.hid (Moved.alloc w (.cells #[.slice none 0 0] 26) p)
  have HP1 := Lib.hid (pickS p lo hi A n c K _ hA (by omega) 5 (by omega) (by omega))
  clear h hA
  go_enter Tryz.func26, Tryz.ntmps26
  go_wp2_with fail
  generalize w.alloc (.cells #[.slice none 0 0] 26) = wa at *
  refine HP1.out.mono ?_
  rintro e1 w1 ⟨r1, hr1, rfl, hs1, hm1⟩
  have HB1 := Lib.hid (B0.out.moved hm1 (by omega)); have HM1 := Lib.hid (M0.out.trans hm1)
  have s1 := hm1.size
  have HN2 := Lib.hid (l03Made_any p lo hi A n c _ r1 w1 hs1 (by omega) (by omega))
  clear hs1 hm1 B0 M0 HP1
  go_wp2_with fail
  refine HN2.out.mono ?_
  rintro e2 w2 ⟨B, d, ts, rfl, ho2, hsm2, hs2, hm2⟩
  have s2 := hm2.size
  have hba := (Below.refl w2.heap.size w2).alloc (Nat.le_refl _) (.cells #[.slice B ts.length d] 26)
  have hz3 : (w2.alloc (.cells #[.slice B ts.length d] 26)).heap.size = w2.heap.size + 1 := by simp
  have HS := Lib.hid (show MadeSt w (w2.alloc (.cells #[.slice B ts.length d] 26)) p lo hi A n c (K + 2 + 20 * r1) w.heap.size w2.heap.size (w2.heap.size + 1) B d ts from
    ⟨(HB1.out.moved hm2 (by omega)).alloc _, Blk.new w2 26 _, hs2.below hba, (HM1.out.trans hm2).trans (Moved.of_below hba), hhi, hpl, Nat.le_refl _, by omega, by omega, by omega⟩)
  have HO := Lib.hid (show Own shTree (w2.alloc (.cells #[.slice B ts.length d] 26)) (w.heap.size + 1) (w2.alloc (.cells #[.slice B ts.length d] 26)).heap.size [.slice B ts.length d] ts from (ho2.below hba (Nat.le_refl _)).more (by omega) (by omega))
  have HSM := Lib.hid (hsm2.more (m' := 4) (by omega))
  clear hs2 hm2 hba ho2 hsm2 HB1 HM1 HN2
  go_upto_region 2 with fail
  change Code.wp _ _ _ _ (w2.alloc (.cells #[.slice B ts.length d] 26))
  generalize w2.alloc (.cells #[.slice B ts.length d] 26) = w3 at *
  generalize w2.heap.size = g5 at *
  have HP4 := Lib.hid (pickS p lo hi A n c _ w3 HS.out.src (by omega) 6 (by omega) (by omega))
  go_wp2_with fail
  refine HP4.out.mono ?_
  rintro e4 w4 ⟨r4, hr4, rfl, hs4, hm4⟩
  have HS4 := Lib.hid (HS.out.moved hm4 hs4)
  have HO4 := Lib.hid (treeOwn_moved HO.out hm4 (by omega) (Nat.le_refl _))
  clear hs4 hm4 HP4 HS HO
  go_wp2_with fail
  go_loopw [4, 5, 6, 7] (fun kk _ _ _ wr => ∃ j : Nat, j ≤ 5 ∧ kk = .int .i64 j ∧ ∃ ts : List TyNode, TSm (9 - j) ts ∧ ∃ (B : Option Addr) (d : Nat), Own shTree wr (w.heap.size + 1) wr.heap.size [.slice B ts.length d] ts ∧ MadeSt w wr p lo hi A n c (K + 100 + 60 * (5 - j)) w.heap.size g5 (g5 + 1) B d ts) (fun kk _ _ _ _ => (intOf kk).toNat)
  case atStart => exact ⟨r4, by omega, rfl, ts, HSM.out.more (by omega), B, d, HO4.out, HS4.out.more (by omega)⟩
  case round =>
    obtain ⟨j, hj, rfl, ts, hsm, B, d, hown, hst⟩ := hrel
    have HSM := Lib.hid hsm; have HST := Lib.hid hst; have HOW := Lib.hid hown
    clear HS4 HO4
    by_cases h0 : 0 < j
    · have i1 : (0 : Int) < (j : Int) := by omega
      have HN := Lib.hid (l22Node_any p lo hi A n c _ wr hst.src (by omega))
      have hsep := hst.sep
      clear hst hsm hown
      go_wp2_with fail
      refine HN.out.mono ?_
      rintro e5 w5 ⟨nm, v, vl, rfl, xs, ho5, hx5, hs5, hm5⟩
      obtain ⟨A5, c5, hv⟩ := ho5.1
      subst hv
      have s5 := hm5.size
      have hba := (Below.refl w5.heap.size w5).alloc (Nat.le_refl _) (.cells #[.string nm, .slice A5 xs.length c5, .string vl] 32)
      have hz6 : (w5.alloc (.cells #[.string nm, .slice A5 xs.length c5, .string vl] 32)).heap.size = w5.heap.size + 1 := by simp
      have HX := Lib.hid hx5
      have HY6 := Lib.hid ((show StrR w5 wr.heap.size w5.heap.size A5 xs.length xs from OwnR.reads (d := ByteArray.empty) ho5).below hba (Nat.le_refl _))
      have HS6 := Lib.hid ((HST.out.moved hm5 hs5).below hba)
      have HO6 := Lib.hid (((treeOwn_moved HOW.out hm5 (by omega) (Nat.le_refl _)).below hba (Nat.le_refl _)).more (Nat.le_refl _) hba.size)
      have HB6 := Lib.hid (Blk.new w5 32 #[.string nm, .slice A5 xs.length c5, .string vl])
      clear ho5 hx5 hs5 hm5 hba HST HOW HN
      go_upto_region 6 with fail
      change Code.wp _ _ _ _ (w5.alloc (.cells #[.string nm, .slice A5 xs.length c5, .string vl] 32))
      generalize w5.alloc (.cells #[.string nm, .slice A5 xs.length c5, .string vl] 32) = w6 at *
      generalize w5.heap.size = g6 at *
      have HQ := Lib.hid (putNode_any B d (w.heap.size + 1) w6.heap.size (9 - j) ts nm vl A5 c5 _ _ xs w6 HO6.out HY6.out (Nat.le_refl _) (by omega) HSM.out (by omega) HX.out)
      have f5 := HS6.out.var.cell
      have f6 := HB6.out.cell
      go_wp2_with fail
      refine HQ.out.mono ?_
      rintro e7 w7 ⟨A7, c7, ts', k7, rfl, ho7, hsm7, hb7⟩
      have s7 := hb7.size
      have hba := (Below.refl w7.heap.size w7).alloc (Nat.le_refl _) (.cells #[.slice A7 ts'.length c7] 26)
      have hz8 : (w7.alloc (.cells #[.slice A7 ts'.length c7] 26)).heap.size = w7.heap.size + 1 := by simp
      have HS8 := Lib.hid ((HS6.out.below hb7).below hba)
      have HO8 := Lib.hid ((((HO6.out.below hb7 (Nat.le_refl _)).more (Nat.le_refl _) hb7.size).below hba (Nat.le_refl _)).more (Nat.le_refl _) hba.size)
      have HT8 := Lib.hid ((ho7.below hba (Nat.le_refl _)).more (show w.heap.size + 1 ≤ w6.heap.size by omega) hba.size)
      have HB8 := Lib.hid (Blk.new w7 26 #[.slice A7 ts'.length c7])
      have HSM7 := Lib.hid hsm7
      clear ho7 hsm7 hb7 hba HS6 HO6 HQ f5 f6 HB6 HY6
      go_upto_region 7 with fail
      change Code.wp _ _ _ _ (w7.alloc (.cells #[.slice A7 ts'.length c7] 26))
      generalize w7.alloc (.cells #[.slice A7 ts'.length c7] 26) = w8 at *
      generalize w7.heap.size = g8 at *
      by_cases hk0 : k7 = 0
      · subst hk0
        have f8 := HB8.out.cell
        have f5 := HS8.out.var.cell; have z5 := HS8.out.var.frozen 0
        go_wp2_with fail
        go_roundw
        case rel => exact ⟨j - 1, by omega, by go_num, ts', HSM7.out.more (by omega), A7, c7, (HT8.out.tree_set HS8.out.var _).more (Nat.le_refl _) (by simp), (HS8.out.put A7 c7 ts').more (by omega)⟩
        case measure => simp [intOf]; omega
      · go_wp2_with fail
        go_roundw
        case rel => exact ⟨j - 1, by omega, by go_num, ts, HSM.out.more (by omega), B, d, HO8.out, HS8.out.more (by omega)⟩
        case measure => simp [intOf]; omega
    · obtain rfl : j = 0 := by omega
      have i1 : ¬ (0 : Int) < ((0 : Nat) : Int) := by omega
      have HP := Lib.hid (oneS p lo hi A n c _ wr hst.src (by omega) 12 (by omega) (by omega))
      clear hst hsm hown
      go_wp2_with fail
      refine HP.out.mono ?_
      rintro e9 w9 ⟨b9, rfl, hs9, hm9⟩
      have hsep := HST.out.sep
      have s9 := hm9.size
      have HS9 := Lib.hid (HST.out.moved hm9 hs9)
      have HO9 := Lib.hid (treeOwn_moved HOW.out hm9 (by omega) (Nat.le_refl _))
      clear hs9 hm9 HP HST HOW
      cases b9 with
      | false =>
        have f5 := HS9.out.var.cell; have f4 := HS9.out.res.cell; have z4 := HS9.out.res.frozen 0
        have hsepE := HS9.out.sep
        go_wp2_with fail
        refine bodyPost_ret (v := .agg #[.slice B ts.length d]) (by simp [results, Tryz.results26, go_sem, f4]) rfl ⟨B, d, ts, rfl, ?_, HSM.out.more (by omega), ?_⟩
        · exact (HO9.out.tree_set HS9.out.res _).more (by omega) (by simp [World.setCell])
        · exact HS9.out.mov.set_ (by dsimp only; omega) _
      | true =>
        go_upto_region 10 with fail
        have hS10 : MadeSt w w9.drew p lo hi A n c _ w.heap.size g5 (g5 + 1) B d ts := HS9.out.below (below_drewN' w9 1)
        have hO10 : Own shTree w9.drew (w.heap.size + 1) w9.drew.heap.size [.slice B ts.length d] ts := HO9.out.below (below_drewN' w9 1) (Nat.le_refl _)
        have s10 : wr.heap.size ≤ w9.drew.heap.size := s9
        clear HS9 HO9 s9
        refine AnyT.region (fun i => i == 7) (fun W => ∀ i, W.cell? ⟨g5, i, none⟩ = (#[.slice B ts.length d] : Array Value)[i]?) (by kernel_rfl) hS10.var.cell (fun hHeld => ?_)
        generalize w9.drew = w10 at *
        have HS10 := Lib.hid hS10; have HO10 := Lib.hid hO10
        have HN := Lib.hid (l22Node_any p lo hi A n c _ w10 hS10.src (by omega))
        clear hS10 hO10
        ((refine AnyT.takeAny 0 36 ?_ rfl (by kernel_rfl) (by kernel_rfl) (by kernel_rfl) rfl rfl (fun _ _ _ _ h => h) rfl ?_ (by assumption) ?_); rotate_left; (intro w; go_simp; (try (with_reducible rfl))); simp only [Act.put, List.setIfInBounds_toArray, List.set_cons_zero, List.set_cons_succ])
        ((refine AnyT.take 1 37 ?_ rfl (by kernel_rfl) (by kernel_rfl) (by kernel_rfl) (by kernel_rfl) rfl (by kernel_rfl) rfl (fun _ _ _ _ h => h) rfl ?_ (by assumption) ?_); rotate_left; (intro w hSw; (try dsimp only at hSw); go_simp; (try (with_reducible rfl))); simp only [Act.put, List.setIfInBounds_toArray, List.set_cons_zero, List.set_cons_succ])
        ((refine AnyT.takeAny 2 38 ?_ rfl (by kernel_rfl) (by kernel_rfl) (by kernel_rfl) rfl rfl (fun _ _ _ _ h => h) rfl ?_ (by assumption) ?_); rotate_left; (intro w; go_simp; (try (with_reducible rfl))); simp only [Act.put, List.setIfInBounds_toArray, List.set_cons_zero, List.set_cons_succ])
        ((refine AnyT.one (i := 3) (by kernel_rfl) rfl (fun K hK => ?_)))
        go_simp
        refine HN.out.mono ?_
        rintro e11 w11 ⟨nm, v, vl, rfl, xs, ho11, hx11, hs11, hm11⟩
        obtain ⟨A5, c5, hv⟩ := ho11.1
        subst hv
        have s11 := hm11.size
        have HX := Lib.hid hx11
        have HE11 := Lib.hid (strs_node nm vl ho11 s11)
        have HS11 := Lib.hid (HS10.out.moved hm11 hs11)
        have HO11 := Lib.hid (HO10.out.keep (w' := w11) fun b h1 h2 => hm11.block b h2 (by omega))
        clear ho11 hx11 hs11 hm11 HS10 HO10 HN
        go_simp
        refine hK.out _ _ HS11.out.var.cell (fun hHeld => ?_)
        clear hK K
        (try simp only [Act.put, List.setIfInBounds_toArray, List.set_cons_zero, List.set_cons_succ])
        ((refine AnyT.one (i := 4) (by kernel_rfl) rfl (fun K hK => ?_)))
        go_simp
        have hba := (Below.refl w11.heap.size w11).alloc (Nat.le_refl _) (.cells #[.string nm, .slice A5 xs.length c5, .string vl] 32)
        refine hK.out _ _ (HS11.out.below hba).var.cell (fun hHeld => ?_)
        clear hK K hba
        (try simp only [Act.put, List.setIfInBounds_toArray, List.set_cons_zero, List.set_cons_succ])
        ((refine AnyT.one (i := 5) (by kernel_rfl) rfl (fun K hK => ?_)))
        refine step_grow2 (s := shNode) rfl (.tmp 37) (.tmp 40) 24 rfl Tryz.underlying24 rfl (by decide) (by decide) infoNode w11 (w.heap.size + 1) w10.heap.size w10.heap.size w11.heap.size B ts.length d ts [.string nm, .slice A5 xs.length c5, .string vl] (nm, xs, vl) rfl HO11.out HE11.out (Nat.le_refl _) (by omega) (Nat.le_refl _) (by omega) rfl (by have := HSM.out.1; omega) ?_
        intro B7 d7 w12 ho12 hb12 hs12 hk12
        have hS12 : MadeSt w w12 p lo hi A n c _ w.heap.size g5 (g5 + 1) B d ts := ⟨hk12 _ _ _ HS11.out.res (by decide), hk12 _ _ _ HS11.out.var (by decide), HS11.out.src.belowB hb12 (by omega) (by omega), HS11.out.mov.trans_below (hb12.mono (by omega)), HS11.out.sep.1, HS11.out.sep.2.1, HS11.out.sep.2.2.1, HS11.out.sep.2.2.2.1, HS11.out.sep.2.2.2.2.1, by omega⟩
        have HS12 := Lib.hid hS12; have HO12 := Lib.hid ho12
        refine hK.out _ _ hS12.var.cell (fun hHeld => ?_)
        clear hK K hb12 hk12 hS12 ho12 HS11 HO11 HE11
        (try simp only [Act.put, List.setIfInBounds_toArray, List.set_cons_zero, List.set_cons_succ])
        ((refine AnyT.takeAny 6 42 ?_ rfl (by kernel_rfl) (by kernel_rfl) (by kernel_rfl) rfl rfl (fun _ _ _ _ h => h) rfl ?_ (by assumption) ?_); rotate_left; (intro w; go_simp; (try (with_reducible rfl))); simp only [Act.put, List.setIfInBounds_toArray, List.set_cons_zero, List.set_cons_succ])
        have z12 := HS12.out.var.frozen 0
        have f12 := HS12.out.var.cell
        ((refine AnyT.last (i := 7) (by kernel_rfl) rfl (by kernel_rfl) (fun K hK => ?_)))
        go_simp
        have hlen : (ts ++ [(nm, xs, vl)]).length = ts.length + 1 := by rw [List.length_append]; rfl
        have hS13 := HS12.out.put B7 d7 (ts ++ [(nm, xs, vl)])
        have hO13 := HO12.out.tree_set (i := 0) HS12.out.var (.slice B7 (ts.length + 1) d7)
        rw [hlen] at hS13
        have HSM13 := Lib.hid (show TSm 10 (ts ++ [(nm, xs, vl)]) from ⟨by rw [hlen]; have := HSM.out.1; omega, fun x hx => by
          rcases List.mem_append.1 hx with hx | hx
          · exact HSM.out.2 x hx
          · rw [List.mem_singleton.1 hx]; exact HX.out⟩)
        rw [← hlen] at hS13 hO13 ⊢
        generalize ts ++ [(nm, xs, vl)] = ts2 at *
        refine hK.out _ _ ?_
        clear hK K HS12 HO12 z12 f12
        (try simp only [Act.put, List.setIfInBounds_toArray, List.set_cons_zero, List.set_cons_succ])
        refine AnyT.done (by kernel_rfl) ?_ _
        clear hHeld
        have hz13 : (w12.setCell ⟨g5, 0, none⟩ (.slice B7 ts2.length d7)).heap.size = w12.heap.size := by simp
        have HS13 := Lib.hid hS13
        have HO13 := Lib.hid (hO13.more (Nat.le_refl _) (Nat.le_of_eq hz13.symm))
        clear hS13 hO13 hlen
        generalize w12.setCell ⟨g5, 0, none⟩ (.slice B7 ts2.length d7) = w13 at *
        have f5 := HS13.out.var.cell; have f4 := HS13.out.res.cell; have z4 := HS13.out.res.frozen 0
        have hsepE := HS13.out.sep
        go_wp2_with fail
        refine bodyPost_ret (v := .agg #[.slice B7 ts2.length d7]) (by simp [results, Tryz.results26, go_sem, f4]) rfl ⟨B7, d7, ts2, rfl, ?_, HSM13.out, ?_⟩
        · exact (HO13.out.tree_set HS13.out.res _).more (by omega) (by simp [World.setCell])
        · exact HS13.out.mov.set_ (by dsimp only; omega) _

set_option maxHeartbeats 4000000 in
set_option maxRecDepth 100000 in
theorem drawExportTree_any (lo hi : Nat) (A : Option Addr) (n c : Nat) (w : World) (hb : BytesR w lo hi A n) (hhi : hi ≤ w.heap.size) (hn : n ≤ 1048576) :
    Calls Tryz.prog 7 #[.slice A n c] w fun e w' => ∃ A' c' ts, e = .returned (.agg #[.slice A' ts.length c']) ∧ Own shTree w' w.heap.size w'.heap.size [.slice A' ts.length c'] ts ∧ TSm 10 ts ∧ Below w.heap.size w w' := by
  have hba := (Below.refl w.heap.size w).alloc (Nat.le_refl _) (.cells #[.slice none 0 0] 26)
  have hz : (w.alloc (.cells #[.slice none 0 0] 26)).heap.size = w.heap.size + 1 := by simp
  have B0 := Lib.hid (Blk.new w 26 #[.slice none 0 0])
  have HB := Lib.hid (hb.keep (w' := w.alloc (.cells #[.slice none 0 0] 26)) fun b _ h2 => hba.block b (by omega))
  have HBA := Lib.hid hba
  have HF := Lib.hid (l00From_any A n c (w.alloc (.cells #[.slice none 0 0] 26)))
  clear hb hba
  go_enter Tryz.func7, Tryz.ntmps7
  go_wp2_with fail
  refine HF.out.mono ?_
  rintro e1 w1 ⟨rfl, hs1, hb1⟩
  rw [hz] at hs1 hb1 ⊢
  have s1 := hb1.size
  have hbw := HBA.out.trans (hb1.mono (by omega))
  have HT := Lib.hid (l22Tree_any (w.heap.size + 1) lo hi A n c 0 w1 ⟨⟨0, Nat.le_refl _, hs1⟩, HB.out.keep fun b _ h2 => hb1.block b (by omega), hn, .inl (by omega), by omega⟩ (by omega))
  have B1 := Lib.hid (B0.out.below hb1 (by omega))
  have HBW := Lib.hid hbw
  clear hs1 hb1 hbw HF HB B0
  go_wp2_with fail
  refine HT.out.mono ?_
  rintro e2 w2 ⟨B, d, ts, rfl, ho2, hsm2, hm2⟩
  have B2 := B1.out.moved hm2 (by omega)
  have f2 := B2.cell; have z2 := B2.frozen 0
  have HO2 := Lib.hid ho2; have HSM := Lib.hid hsm2
  have HBF := Lib.hid (HBW.out.trans (hm2.below (B := w.heap.size) (by omega) (by omega)))
  have s2 := hm2.size
  clear ho2 hsm2 hm2 B2
  go_wp2_with fail
  refine bodyPost_ret (v := .agg #[.slice B ts.length d]) (by simp [results, Tryz.results7, go_sem, f2]) rfl ⟨B, d, ts, rfl, ?_, HSM.out, ?_⟩
  · exact (HO2.out.setCell (by dsimp only; omega) _).more (by omega) (by simp [World.setCell])
  · exact HBF.out.setCell (by dsimp only; omega) _

end Go.Proofs.YtfibjcaidnofmaaGreatDoor

