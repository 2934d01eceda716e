/- A drawn tree: l22Tree, DrawExportTree of the reference walked. -/
import Derived.Test.YtfibjcaidnofmaaGreatDoorJoinEXBq
import Derived.Test.YtfibjcaidnofmaaGreatDoorJoinEXAc
import Derived.Test.YtfibjcaidnofmaaGreatDoorJoinEXAl
import Derived.Test.YtfibjcaidnofmaaGreatDoorJoinEXAv
namespace Go.Proofs.YtfibjcaidnofmaaGreatDoor
open Go.RowKit

/-- What a tree owns are rows of nodes and of texts. -/
theorem tree_types {w : World} {F : List Nat} {vs : List Value} {ts : List TyNode} (h : shTree.O w F vs ts) : ∀ b ∈ F, ∃ cs t, Blk w b t cs ∧ t ≠ 26 := by
  obtain ⟨A, c, cs, Fs, rfl, ho, rfl, hel⟩ := h
  intro b hb
  rcases List.mem_append.1 hb with hb | hb
  · rcases ho.2 with ⟨e1, _⟩ | ⟨g, cap, cur, e1, _, e3, _⟩
    · rw [e1] at hb; cases hb
    · rw [e1] at hb
      obtain rfl : b = g := by simpa [Value.ownBlock] using hb
      exact ⟨cur, _, e3, by decide⟩
  · obtain ⟨j, hj, hb⟩ := List.mem_flatMap.1 hb
    have h1 := hel j (List.mem_range.1 hj)
    generalize ts.getD j shNode.d = x at *
    obtain ⟨x0, x1, x2⟩ := x
    obtain ⟨A1, c1, F1, _, eF, h3⟩ := shNode_O.1 h1
    obtain ⟨ho1, eF1⟩ := own_of_O h3
    rw [eF, eF1, List.append_nil, List.nil_append] at hb
    rcases ho1.2 with ⟨e1, _⟩ | ⟨g, cap, cur, e1, _, e3, _⟩
    · rw [e1] at hb; cases hb
    · rw [e1] at hb
      obtain rfl : b = g := by simpa [Value.ownBlock] using hb
      exact ⟨cur, _, e3, by decide⟩
theorem Own.tree_set {w : World} {lo hi g i : Nat} {vs : List Value} {ts : List TyNode} {cs : Array Value} (h : Own shTree w lo hi vs ts) (hb : Blk w g 26 cs) (u : Value) : Own shTree (w.setCell ⟨g, i, none⟩ u) lo hi vs ts := by
  obtain ⟨F, hO, hN, hr⟩ := h
  refine ⟨F, shTree.O_keep hO fun b hbF => Below.heap_setCell _ ⟨g, i, none⟩ u b fun e => ?_, hN, hr⟩
  have e : b = g := e
  subst e
  obtain ⟨cs', t, h1, h2⟩ := tree_types hO b hbF
  have := h1.symm.trans hb
  injection this with this
  injection this with _ this _
  exact h2 this
section
variable {α : Type} {s : Sh α} {t : TypeId}
/-- append at a step of a region that draws, told closely. -/
theorem step_grow2 {P : Program} {ops : Array Oper} {o : Oper} {a : Go.Act} {K : Go.Act → World → Prop} {Q : Exit → Go.Act → World → Prop} {E : Prop} (hgd : o.guard = none) (p x : Operand) (ty : TypeId)
    (ho : o.op = .call { callee := .builtin .append, args := #[p, x], argTypes := #[ty, ty] }) (ht : P.underlying ty = some (.slice t))
    {z : Value} {by_ : Nat} (hzz : z.cells.size = s.k) (hk : 0 < s.k) (hby : by_ ≤ 4096) (hinfo : (P.info? t).map (fun i => (i.zero, i.size, i.bytes)) = some (some z, s.k, by_))
    (w : World) (base m m' hi : Nat) (A : Option Addr) (n c : Nat) (xs : List α) (us : List Value) (y : α) (hs : a.eval p = .slice A n c) (h1 : Own (Sh.row t s) w base m [.slice A n c] xs) (h2 : Own s w m' hi us y) (hm : m ≤ m') (hb : base ≤ m') (hhi : hi ≤ w.heap.size) (hbase : base ≤ w.heap.size)
    (hx : a.eval x = .slice (some ⟨w.heap.size, 0, none⟩) 1 1) (hlen : n ≤ 1000000000)
    (h : ∀ A' c' w', Own (Sh.row t s) w' base w'.heap.size [.slice A' (n + 1) c'] (xs ++ [y]) → Below base w w' → w.heap.size < w'.heap.size → (∀ b t' cs, Blk w b t' cs → t' ≠ t → Blk w' b t' cs) → K (a.put o.dst (.slice A' (n + 1) c')) w') : if Region.wanted o (yielded ops a.tmps) = true then Oper.wp P o a (w.alloc (.cells us.toArray t)) K Q else E := by
  obtain ⟨i0, hi0, hz0, hz1, hz2⟩ := info_parts hinfo
  have hba := (Below.refl w.heap.size w).alloc (Nat.le_refl _) (.cells us.toArray t)
  have h2b := h2.below hba hhi
  obtain ⟨F, ⟨A', c', cs, Fs, e, ho1, eF, hel⟩, hN, hr⟩ := h1
  have hlt1 : ∀ b ∈ F, b < w.heap.size := fun b hb' => (Sh.row t s).O_lt ⟨A', c', cs, Fs, e, ho1, eF, hel⟩ b hb'
  injection e with e _
  injection e with e1 e2 e3
  subst e1 e2 e3
  have h1b : Own (Sh.row t s) (w.alloc (.cells us.toArray t)) base m [.slice A xs.length c] xs := by
    refine ⟨F, (Sh.row t s).O_keep ⟨A, c, cs, Fs, rfl, ho1, eF, hel⟩ (fun b hb' => hba.block b (hlt1 b hb')), hN, hr⟩
  have ho2 : (w.alloc (.cells us.toArray t)).ownsRow 0 t s.k (.slice A xs.length c) xs.length cs := ho1.alloc _
  have ho3 : (w.alloc (.cells us.toArray t)).ownsRow base t s.k (.slice A xs.length c) xs.length cs := ownsRow_base ho2 fun g hg => (hr g (by rw [eF, hg]; simp)).1
  have hul : us.length = s.k := h2.len
  refine step_append_lies _ hgd p x ty ho base t i0 _ s.k by_ ht hi0 hz0 hz1 hz2 hzz hk (.slice A xs.length c) xs.length cs hs ho3 ⟨w.heap.size, 0, none⟩ 1 1 us hx (by omega) ?_ (fun u hu => s.R_one h2.reads u hu) (by omega) (by unfold maxLen; omega) ?_ (by simp; omega) _ rfl ?_
  · exact World.news_of_block (Blk.new w t us.toArray)
  · exact Nat.le_trans (Nat.mul_le_mul_left _ hby) (by omega)
  · intro g cap w' q1 q2 q3 q4
    have hsz : w.heap.size < w'.heap.size := by have := q2.size; rw [heap_alloc_size1] at this; omega
    refine h _ _ w' (Own.grow h1b h2b hm hb (by simp; omega) ho2 q1 q2 q3 q4) (((Below.refl base w).alloc hbase _).grown q2 (by simp; omega) fun k hk => (hr k (by rw [eF, hk]; simp)).1) hsz fun b t' cs' hB hne => ?_
    refine (q2.block b (by have := hB.lt; rw [heap_alloc_size1]; omega) fun e => ?_).trans (hB.alloc _)
    rcases ho1.2 with ⟨e1, _⟩ | ⟨g', cap', cur', e1, _, e3, _⟩
    · rw [e1] at e; cases e
    · rw [e1] at e
      injection e with e
      have e : b = g' := e
      subst e
      have := e3.symm.trans hB
      injection this with this
      injection this with _ this _
      exact hne this.symm
end

theorem strs_node {w : World} {base : Nat} (nm vl : ByteArray) {A : Option Addr} {c : Nat} {xs : List ByteArray} (h : OwnStrs w base 9 (.slice A xs.length c) xs) (hb : base ≤ w.heap.size) : Own shNode w base w.heap.size [.string nm, .slice A xs.length c, .string vl] (nm, xs, vl) := by
  obtain ⟨A', c', e2, h2⟩ := Own_of_ownR h (Nat.le_refl _)
  injection e2 with e3 e4 e5
  subst e3 e5
  exact Own.prod (Own.one w base base _) (Own.prod h2 (Own.one w w.heap.size w.heap.size _) (Nat.le_refl _) hb (Nat.le_refl _)) (Nat.le_refl _) (Nat.le_refl _) hb
theorem treeOwn_moved {w w' : World} {p lo hi : Nat} {vs : List Value} {ts : List TyNode} (h : Own shTree w lo hi vs ts) (hm : Moved p w w') (hp : p < lo) (hh : hi ≤ w.heap.size) : Own shTree w' lo w'.heap.size vs ts :=
  (h.keep fun b h1 h2 => hm.block b (by omega) (by omega)).more (Nat.le_refl _) (Nat.le_trans hh hm.size)

set_option maxHeartbeats 16000000 in
set_option maxRecDepth 100000 in
theorem l22Tree_any (p lo hi : Nat) (A : Option Addr) (n c K : Nat) (w : World) (h : Src w p lo hi A n c K) (hK : K ≤ 400000000) :
    Calls Tryz.prog 26 #[.pointer (some ⟨p, 0, none⟩)] w fun e w' => ∃ A' c' ts, e = .returned (.agg #[.slice A' ts.length c']) ∧ Own shTree w' w.heap.size w'.heap.size [.slice A' ts.length c'] ts ∧ TSm 10 ts ∧ Moved p w w' := by
  have hpl := h.lt
  have hhi := h.le
  have hA := h.alloc (.cells #[.slice none 0 0] 26)
  have hz : (w.alloc (.cells #[.slice none 0 0] 26)).heap.size = w.heap.size + 1 := by simp
  have B0 := Lib.hid (Blk.new w 26 #[.slice none 0 0])
  have M0 := Lib.hid (Moved.alloc w (.cells #[.slice none 0 0] 26) p)
  have HP1 := Lib.hid (pickS p lo hi A n c K _ hA (by omega) 5 (by omega) (by omega))
  clear h hA
  go_enter Tryz.func26, Tryz.ntmps26
  go_wp2_with fail
  generalize w.alloc (.cells #[.slice none 0 0] 26) = wa at *
  refine HP1.out.mono ?_
  rintro e1 w1 ⟨r1, hr1, rfl, hs1, hm1⟩
  have HB1 := Lib.hid (B0.out.moved hm1 (by omega)); have HM1 := Lib.hid (M0.out.trans hm1)
  have s1 := hm1.size
  have HN2 := Lib.hid (l03Made_any p lo hi A n c _ r1 w1 hs1 (by omega) (by omega))
  clear hs1 hm1 B0 M0 HP1
  go_wp2_with fail
  refine HN2.out.mono ?_
  rintro e2 w2 ⟨B, d, ts, rfl, ho2, hsm2, hs2, hm2⟩
  have s2 := hm2.size
  have hba := (Below.refl w2.heap.size w2).alloc (Nat.le_refl _) (.cells #[.slice B ts.length d] 26)
  have hz3 : (w2.alloc (.cells #[.slice B ts.length d] 26)).heap.size = w2.heap.size + 1 := by simp
  have HS := Lib.hid (show MadeSt w (w2.alloc (.cells #[.slice B ts.length d] 26)) p lo hi A n c (K + 2 + 20 * r1) w.heap.size w2.heap.size (w2.heap.size + 1) B d ts from
    ⟨(HB1.out.moved hm2 (by omega)).alloc _, Blk.new w2 26 _, hs2.below hba, (HM1.out.trans hm2).trans (Moved.of_below hba), hhi, hpl, Nat.le_refl _, by omega, by omega, by omega⟩)
  have HO := Lib.hid (show Own shTree (w2.alloc (.cells #[.slice B ts.length d] 26)) (w.heap.size + 1) (w2.alloc (.cells #[.slice B ts.length d] 26)).heap.size [.slice B ts.length d] ts from (ho2.below hba (Nat.le_refl _)).more (by omega) (by omega))
  have HSM := Lib.hid (hsm2.more (m' := 4) (by omega))
  clear hs2 hm2 hba ho2 hsm2 HB1 HM1 HN2
  go_upto_region 2 with fail
  change Code.wp _ _ _ _ (w2.alloc (.cells #[.slice B ts.length d] 26))
  generalize w2.alloc (.cells #[.slice B ts.length d] 26) = w3 at *
  generalize w2.heap.size = g5 at *
  have HP4 := Lib.hid (pickS p lo hi A n c _ w3 HS.out.src (by omega) 6 (by omega) (by omega))
  go_wp2_with fail
  refine HP4.out.mono ?_
  rintro e4 w4 ⟨r4, hr4, rfl, hs4, hm4⟩
  have HS4 := Lib.hid (HS.out.moved hm4 hs4)
  have HO4 := Lib.hid (treeOwn_moved HO.out hm4 (by omega) (Nat.le_refl _))
  clear hs4 hm4 HP4 HS HO
  go_wp2_with fail
  go_loopw [4, 5, 6, 7] (fun kk _ _ _ wr => ∃ j : Nat, j ≤ 5 ∧ kk = .int .i64 j ∧ ∃ ts : List TyNode, TSm (9 - j) ts ∧ ∃ (B : Option Addr) (d : Nat), Own shTree wr (w.heap.size + 1) wr.heap.size [.slice B ts.length d] ts ∧ MadeSt w wr p lo hi A n c (K + 100 + 60 * (5 - j)) w.heap.size g5 (g5 + 1) B d ts) (fun kk _ _ _ _ => (intOf kk).toNat)
  case atStart => exact ⟨r4, by omega, rfl, ts, HSM.out.more (by omega), B, d, HO4.out, HS4.out.more (by omega)⟩
  case round =>
    obtain ⟨j, hj, rfl, ts, hsm, B, d, hown, hst⟩ := hrel
    have HSM := Lib.hid hsm; have HST := Lib.hid hst; have HOW := Lib.hid hown
    clear HS4 HO4
    by_cases h0 : 0 < j
    · have i1 : (0 : Int) < (j : Int) := by omega
      have HN := Lib.hid (l22Node_any p lo hi A n c _ wr hst.src (by omega))
      have hsep := hst.sep
      clear hst hsm hown
      go_wp2_with fail
      refine HN.out.mono ?_
      rintro e5 w5 ⟨nm, v, vl, rfl, xs, ho5, hx5, hs5, hm5⟩
      obtain ⟨A5, c5, hv⟩ := ho5.1
      subst hv
      have s5 := hm5.size
      have hba := (Below.refl w5.heap.size w5).alloc (Nat.le_refl _) (.cells #[.string nm, .slice A5 xs.length c5, .string vl] 32)
      have hz6 : (w5.alloc (.cells #[.string nm, .slice A5 xs.length c5, .string vl] 32)).heap.size = w5.heap.size + 1 := by simp
      have HX := Lib.hid hx5
      have HY6 := Lib.hid ((show StrR w5 wr.heap.size w5.heap.size A5 xs.length xs from OwnR.reads (d := ByteArray.empty) ho5).below hba (Nat.le_refl _))
      have HS6 := Lib.hid ((HST.out.moved hm5 hs5).below hba)
      have HO6 := Lib.hid (((treeOwn_moved HOW.out hm5 (by omega) (Nat.le_refl _)).below hba (Nat.le_refl _)).more (Nat.le_refl _) hba.size)
      have HB6 := Lib.hid (Blk.new w5 32 #[.string nm, .slice A5 xs.length c5, .string vl])
      clear ho5 hx5 hs5 hm5 hba HST HOW HN
      go_upto_region 6 with fail
      change Code.wp _ _ _ _ (w5.alloc (.cells #[.string nm, .slice A5 xs.length c5, .string vl] 32))
      generalize w5.alloc (.cells #[.string nm, .slice A5 xs.length c5, .string vl] 32) = w6 at *
      generalize w5.heap.size = g6 at *
      have HQ := Lib.hid (putNode_any B d (w.heap.size + 1) w6.heap.size (9 - j) ts nm vl A5 c5 _ _ xs w6 HO6.out HY6.out (Nat.le_refl _) (by omega) HSM.out (by omega) HX.out)
      have f5 := HS6.out.var.cell
      have f6 := HB6.out.cell
      go_wp2_with fail
      refine HQ.out.mono ?_
      rintro e7 w7 ⟨A7, c7, ts', k7, rfl, ho7, hsm7, hb7⟩
      have s7 := hb7.size
      have hba := (Below.refl w7.heap.size w7).alloc (Nat.le_refl _) (.cells #[.slice A7 ts'.length c7] 26)
      have hz8 : (w7.alloc (.cells #[.slice A7 ts'.length c7] 26)).heap.size = w7.heap.size + 1 := by simp
      have HS8 := Lib.hid ((HS6.out.below hb7).below hba)
      have HO8 := Lib.hid ((((HO6.out.below hb7 (Nat.le_refl _)).more (Nat.le_refl _) hb7.size).below hba (Nat.le_refl _)).more (Nat.le_refl _) hba.size)
      have HT8 := Lib.hid ((ho7.below hba (Nat.le_refl _)).more (show w.heap.size + 1 ≤ w6.heap.size by omega) hba.size)
      have HB8 := Lib.hid (Blk.new w7 26 #[.slice A7 ts'.length c7])
      have HSM7 := Lib.hid hsm7
      clear ho7 hsm7 hb7 hba HS6 HO6 HQ f5 f6 HB6 HY6
      go_upto_region 7 with fail
      change Code.wp _ _ _ _ (w7.alloc (.cells #[.slice A7 ts'.length c7] 26))
      generalize w7.alloc (.cells #[.slice A7 ts'.length c7] 26) = w8 at *
      generalize w7.heap.size = g8 at *
      by_cases hk0 : k7 = 0
      · subst hk0
        have f8 := HB8.out.cell
        have f5 := HS8.out.var.cell; have z5 := HS8.out.var.frozen 0
        go_wp2_with fail
        go_roundw
        case rel => exact ⟨j - 1, by omega, by go_num, ts', HSM7.out.more (by omega), A7, c7, (HT8.out.tree_set HS8.out.var _).more (Nat.le_refl _) (by simp), (HS8.out.put A7 c7 ts').more (by omega)⟩
        case measure => simp [intOf]; omega
      · go_wp2_with fail
        go_roundw
        case rel => exact ⟨j - 1, by omega, by go_num, ts, HSM.out.more (by omega), B, d, HO8.out, HS8.out.more (by omega)⟩
        case measure => simp [intOf]; omega
    · obtain rfl : j = 0 := by omega
      have i1 : ¬ (0 : Int) < ((0 : Nat) : Int) := by omega
      have HP := Lib.hid (oneS p lo hi A n c _ wr hst.src (by omega) 12 (by omega) (by omega))
      clear hst hsm hown
      go_wp2_with fail
      refine HP.out.mono ?_
      rintro e9 w9 ⟨b9, rfl, hs9, hm9⟩
      have hsep := HST.out.sep
      have s9 := hm9.size
      have HS9 := Lib.hid (HST.out.moved hm9 hs9)
      have HO9 := Lib.hid (treeOwn_moved HOW.out hm9 (by omega) (Nat.le_refl _))
      clear hs9 hm9 HP HST HOW
      cases b9 with
      | false =>
        have f5 := HS9.out.var.cell; have f4 := HS9.out.res.cell; have z4 := HS9.out.res.frozen 0
        have hsepE := HS9.out.sep
        go_wp2_with fail
        refine bodyPost_ret (v := .agg #[.slice B ts.length d]) (by simp [results, Tryz.results26, go_sem, f4]) rfl ⟨B, d, ts, rfl, ?_, HSM.out.more (by omega), ?_⟩
        · exact (HO9.out.tree_set HS9.out.res _).more (by omega) (by simp [World.setCell])
        · exact HS9.out.mov.set_ (by dsimp only; omega) _
      | true =>
        go_upto_region 10 with fail
        have hS10 : MadeSt w w9.drew p lo hi A n c _ w.heap.size g5 (g5 + 1) B d ts := HS9.out.below (below_drewN' w9 1)
        have hO10 : Own shTree w9.drew (w.heap.size + 1) w9.drew.heap.size [.slice B ts.length d] ts := HO9.out.below (below_drewN' w9 1) (Nat.le_refl _)
        have s10 : wr.heap.size ≤ w9.drew.heap.size := s9
        clear HS9 HO9 s9
        refine AnyT.region (fun i => i == 7) (fun W => ∀ i, W.cell? ⟨g5, i, none⟩ = (#[.slice B ts.length d] : Array Value)[i]?) (by kernel_rfl) hS10.var.cell (fun hHeld => ?_)
        generalize w9.drew = w10 at *
        have HS10 := Lib.hid hS10; have HO10 := Lib.hid hO10
        have HN := Lib.hid (l22Node_any p lo hi A n c _ w10 hS10.src (by omega))
        clear hS10 hO10
        ((refine AnyT.takeAny 0 36 ?_ rfl (by kernel_rfl) (by kernel_rfl) (by kernel_rfl) rfl rfl (fun _ _ _ _ h => h) rfl ?_ (by assumption) ?_); rotate_left; (intro w; go_simp; (try (with_reducible rfl))); simp only [Act.put, List.setIfInBounds_toArray, List.set_cons_zero, List.set_cons_succ])
        ((refine AnyT.take 1 37 ?_ rfl (by kernel_rfl) (by kernel_rfl) (by kernel_rfl) (by kernel_rfl) rfl (by kernel_rfl) rfl (fun _ _ _ _ h => h) rfl ?_ (by assumption) ?_); rotate_left; (intro w hSw; (try dsimp only at hSw); go_simp; (try (with_reducible rfl))); simp only [Act.put, List.setIfInBounds_toArray, List.set_cons_zero, List.set_cons_succ])
        ((refine AnyT.takeAny 2 38 ?_ rfl (by kernel_rfl) (by kernel_rfl) (by kernel_rfl) rfl rfl (fun _ _ _ _ h => h) rfl ?_ (by assumption) ?_); rotate_left; (intro w; go_simp; (try (with_reducible rfl))); simp only [Act.put, List.setIfInBounds_toArray, List.set_cons_zero, List.set_cons_succ])
        ((refine AnyT.one (i := 3) (by kernel_rfl) rfl (fun K hK => ?_)))
        go_simp
        refine HN.out.mono ?_
        rintro e11 w11 ⟨nm, v, vl, rfl, xs, ho11, hx11, hs11, hm11⟩
        obtain ⟨A5, c5, hv⟩ := ho11.1
        subst hv
        have s11 := hm11.size
        have HX := Lib.hid hx11
        have HE11 := Lib.hid (strs_node nm vl ho11 s11)
        have HS11 := Lib.hid (HS10.out.moved hm11 hs11)
        have HO11 := Lib.hid (HO10.out.keep (w' := w11) fun b h1 h2 => hm11.block b h2 (by omega))
        clear ho11 hx11 hs11 hm11 HS10 HO10 HN
        go_simp
        refine hK.out _ _ HS11.out.var.cell (fun hHeld => ?_)
        clear hK K
        (try simp only [Act.put, List.setIfInBounds_toArray, List.set_cons_zero, List.set_cons_succ])
        ((refine AnyT.one (i := 4) (by kernel_rfl) rfl (fun K hK => ?_)))
        go_simp
        have hba := (Below.refl w11.heap.size w11).alloc (Nat.le_refl _) (.cells #[.string nm, .slice A5 xs.length c5, .string vl] 32)
        refine hK.out _ _ (HS11.out.below hba).var.cell (fun hHeld => ?_)
        clear hK K hba
        (try simp only [Act.put, List.setIfInBounds_toArray, List.set_cons_zero, List.set_cons_succ])
        ((refine AnyT.one (i := 5) (by kernel_rfl) rfl (fun K hK => ?_)))
        refine step_grow2 (s := shNode) rfl (.tmp 37) (.tmp 40) 24 rfl Tryz.underlying24 rfl (by decide) (by decide) infoNode w11 (w.heap.size + 1) w10.heap.size w10.heap.size w11.heap.size B ts.length d ts [.string nm, .slice A5 xs.length c5, .string vl] (nm, xs, vl) rfl HO11.out HE11.out (Nat.le_refl _) (by omega) (Nat.le_refl _) (by omega) rfl (by have := HSM.out.1; omega) ?_
        intro B7 d7 w12 ho12 hb12 hs12 hk12
        have hS12 : MadeSt w w12 p lo hi A n c _ w.heap.size g5 (g5 + 1) B d ts := ⟨hk12 _ _ _ HS11.out.res (by decide), hk12 _ _ _ HS11.out.var (by decide), HS11.out.src.belowB hb12 (by omega) (by omega), HS11.out.mov.trans_below (hb12.mono (by omega)), HS11.out.sep.1, HS11.out.sep.2.1, HS11.out.sep.2.2.1, HS11.out.sep.2.2.2.1, HS11.out.sep.2.2.2.2.1, by omega⟩
        have HS12 := Lib.hid hS12; have HO12 := Lib.hid ho12
        refine hK.out _ _ hS12.var.cell (fun hHeld => ?_)
        clear hK K hb12 hk12 hS12 ho12 HS11 HO11 HE11
        (try simp only [Act.put, List.setIfInBounds_toArray, List.set_cons_zero, List.set_cons_succ])
        ((refine AnyT.takeAny 6 42 ?_ rfl (by kernel_rfl) (by kernel_rfl) (by kernel_rfl) rfl rfl (fun _ _ _ _ h => h) rfl ?_ (by assumption) ?_); rotate_left; (intro w; go_simp; (try (with_reducible rfl))); simp only [Act.put, List.setIfInBounds_toArray, List.set_cons_zero, List.set_cons_succ])
        have z12 := HS12.out.var.frozen 0
        have f12 := HS12.out.var.cell
        ((refine AnyT.last (i := 7) (by kernel_rfl) rfl (by kernel_rfl) (fun K hK => ?_)))
        go_simp
        have hlen : (ts ++ [(nm, xs, vl)]).length = ts.length + 1 := by rw [List.length_append]; rfl
        have hS13 := HS12.out.put B7 d7 (ts ++ [(nm, xs, vl)])
        have hO13 := HO12.out.tree_set (i := 0) HS12.out.var (.slice B7 (ts.length + 1) d7)
        rw [hlen] at hS13
        have HSM13 := Lib.hid (show TSm 10 (ts ++ [(nm, xs, vl)]) from ⟨by rw [hlen]; have := HSM.out.1; omega, fun x hx => by
          rcases List.mem_append.1 hx with hx | hx
          · exact HSM.out.2 x hx
          · rw [List.mem_singleton.1 hx]; exact HX.out⟩)
        rw [← hlen] at hS13 hO13 ⊢
        generalize ts ++ [(nm, xs, vl)] = ts2 at *
        refine hK.out _ _ ?_
        clear hK K HS12 HO12 z12 f12
        (try simp only [Act.put, List.setIfInBounds_toArray, List.set_cons_zero, List.set_cons_succ])
        refine AnyT.done (by kernel_rfl) ?_ _
        clear hHeld
        have hz13 : (w12.setCell ⟨g5, 0, none⟩ (.slice B7 ts2.length d7)).heap.size = w12.heap.size := by simp
        have HS13 := Lib.hid hS13
        have HO13 := Lib.hid (hO13.more (Nat.le_refl _) (Nat.le_of_eq hz13.symm))
        clear hS13 hO13 hlen
        generalize w12.setCell ⟨g5, 0, none⟩ (.slice B7 ts2.length d7) = w13 at *
        have f5 := HS13.out.var.cell; have f4 := HS13.out.res.cell; have z4 := HS13.out.res.frozen 0
        have hsepE := HS13.out.sep
        go_wp2_with fail
        refine bodyPost_ret (v := .agg #[.slice B7 ts2.length d7]) (by simp [results, Tryz.results26, go_sem, f4]) rfl ⟨B7, d7, ts2, rfl, ?_, HSM13.out, ?_⟩
        · exact (HO13.out.tree_set HS13.out.res _).more (by omega) (by simp [World.setCell])
        · exact HS13.out.mov.set_ (by dsimp only; omega) _

set_option maxHeartbeats 4000000 in
set_option maxRecDepth 100000 in
theorem drawExportTree_any (lo hi : Nat) (A : Option Addr) (n c : Nat) (w : World) (hb : BytesR w lo hi A n) (hhi : hi ≤ w.heap.size) (hn : n ≤ 1048576) :
    Calls Tryz.prog 7 #[.slice A n c] w fun e w' => ∃ A' c' ts, e = .returned (.agg #[.slice A' ts.length c']) ∧ Own shTree w' w.heap.size w'.heap.size [.slice A' ts.length c'] ts ∧ TSm 10 ts ∧ Below w.heap.size w w' := by
  have hba := (Below.refl w.heap.size w).alloc (Nat.le_refl _) (.cells #[.slice none 0 0] 26)
  have hz : (w.alloc (.cells #[.slice none 0 0] 26)).heap.size = w.heap.size + 1 := by simp
  have B0 := Lib.hid (Blk.new w 26 #[.slice none 0 0])
  have HB := Lib.hid (hb.keep (w' := w.alloc (.cells #[.slice none 0 0] 26)) fun b _ h2 => hba.block b (by omega))
  have HBA := Lib.hid hba
  have HF := Lib.hid (l00From_any A n c (w.alloc (.cells #[.slice none 0 0] 26)))
  clear hb hba
  go_enter Tryz.func7, Tryz.ntmps7
  go_wp2_with fail
  refine HF.out.mono ?_
  rintro e1 w1 ⟨rfl, hs1, hb1⟩
  rw [hz] at hs1 hb1 ⊢
  have s1 := hb1.size
  have hbw := HBA.out.trans (hb1.mono (by omega))
  have HT := Lib.hid (l22Tree_any (w.heap.size + 1) lo hi A n c 0 w1 ⟨⟨0, Nat.le_refl _, hs1⟩, HB.out.keep fun b _ h2 => hb1.block b (by omega), hn, .inl (by omega), by omega⟩ (by omega))
  have B1 := Lib.hid (B0.out.below hb1 (by omega))
  have HBW := Lib.hid hbw
  clear hs1 hb1 hbw HF HB B0
  go_wp2_with fail
  refine HT.out.mono ?_
  rintro e2 w2 ⟨B, d, ts, rfl, ho2, hsm2, hm2⟩
  have B2 := B1.out.moved hm2 (by omega)
  have f2 := B2.cell; have z2 := B2.frozen 0
  have HO2 := Lib.hid ho2; have HSM := Lib.hid hsm2
  have HBF := Lib.hid (HBW.out.trans (hm2.below (B := w.heap.size) (by omega) (by omega)))
  have s2 := hm2.size
  clear ho2 hsm2 hm2 B2
  go_wp2_with fail
  refine bodyPost_ret (v := .agg #[.slice B ts.length d]) (by simp [results, Tryz.results7, go_sem, f2]) rfl ⟨B, d, ts, rfl, ?_, HSM.out, ?_⟩
  · exact (HO2.out.setCell (by dsimp only; omega) _).more (by omega) (by simp [World.setCell])
  · exact HBF.out.setCell (by dsimp only; omega) _

end Go.Proofs.YtfibjcaidnofmaaGreatDoor

/- A drawn plain text (DrawReadPlain): some text of few bytes. -/
namespace Go.Proofs.YtfibjcaidnofmaaGreatDoor
open Go.RowKit

section
variable (p lo hi : Nat) (A : Option Addr) (n c K : Nat) (w : World) (h : Src w p lo hi A n c K) (hK : K ≤ 800000000)
include h hK
theorem nextS : Calls Tryz.prog 122 #[.pointer (some ⟨p, 0, none⟩)] w fun e w' => ∃ b : Nat, b ≤ 255 ∧ e = .returned (.int .i64 b) ∧ Src w' p lo hi A n c (K + 1) ∧ Moved p w w' := by
  obtain ⟨k, hk, hs⟩ := h.src
  refine (next_any p lo hi A n c k w hs h.bytes (by omega) h.few h.apart).mono ?_
  rintro e w' ⟨b, hb, rfl, hs', ht⟩
  exact ⟨b, hb, rfl, h.moved ht.moved ⟨k + 1, by omega, hs'⟩, ht.moved⟩
end

set_option maxHeartbeats 4000000 in
set_option maxRecDepth 100000 in
theorem wordS (m : Nat) (hm1 : 1 ≤ m) (hm : m ≤ 1000) (p lo hi : Nat) (A : Option Addr) (n c K : Nat) (w : World) (h : Src w p lo hi A n c K) (hK : K ≤ 700000000) :
    Calls Tryz.prog 74 #[.pointer (some ⟨p, 0, none⟩), .int .i64 m] w fun e w' => ∃ u : ByteArray, e = .returned (.string u) ∧ u.size < m ∧ Src w' p lo hi A n c (K + 1002) ∧ Moved p w w' := by
  have hpl := h.lt
  have hhi := h.le
  have hown0 : OwnR encB (w.alloc (.cells #[] 5)) w.heap.size 5 (.slice (some ⟨w.heap.size, 0, none⟩) 0 0) [] := OwnR.none_ _ _ _ (Nat.le_refl _)
  have HO0 := Lib.hid hown0
  have HP := Lib.hid (pickS p lo hi A n c K _ (h.alloc (.cells #[] 5)) (by omega) m (by omega) (by omega))
  have HM0 := Lib.hid (Moved.alloc w (.cells #[] 5) p)
  clear hown0 h
  go_enter Tryz.func74, Tryz.ntmps74
  go_wp2_with fail
  refine HP.out.mono ?_
  rintro e1 w1 ⟨r, hr, rfl, hs1, hm1⟩
  have HS1 := Lib.hid hs1
  have HO1 := Lib.hid (HO0.out.moved hm1 hpl)
  have HM1 := Lib.hid (HM0.out.trans hm1)
  clear hs1 hm1 HO0 HM0 HP
  go_wp2_with fail
  go_loopw [5, 6] (fun v i wr => ∃ (k : Nat) (bs : List UInt8), bs.length + k = r ∧ i = .int .i64 k ∧ OwnR encB wr w.heap.size 5 v bs ∧ Src wr p lo hi A n c (K + 2 + bs.length) ∧ Moved p w wr) (fun _ i _ => (intOf i).toNat)
  case atStart => exact ⟨r, [], by simp, rfl, HO1.out, HS1.out, HM1.out⟩
  case round =>
    obtain ⟨k, bs, hk, rfl, hown, hs, hm⟩ := hrel
    have hrm : r < m := by omega
    by_cases hlt : 0 < k
    · obtain ⟨j, rfl⟩ : ∃ j, k = j + 1 := ⟨k - 1, by omega⟩
      have i1 : (0 : Int) < ((j + 1 : Nat) : Int) := by omega
      have HN := Lib.hid (nextS p lo hi A n c (K + 2 + bs.length) wr hs (by omega))
      have hsz := hm.size
      have HMv := Lib.hid hm
      clear hs hm
      go_wp2_with fail
      refine HN.out.mono ?_
      rintro e2 w2 ⟨z, hz, rfl, hs2, hm2⟩
      have hown2 := hown.moved hm2 hpl
      have hs2s := hm2.size
      have HS2 := Lib.hid hs2
      have HM2 := Lib.hid (HMv.out.trans hm2)
      obtain ⟨y, hy, hmod⟩ : ∃ y : UInt8, y = UInt8.ofNat z ∧ (z : Int) % 256 = (y.toNat : Int) := ⟨_, rfl, by rw [UInt8.toNat_ofNat']; omega⟩
      have hmod2 : (z : Int) = (y.toNat : Int) := by omega
      clear hs2 hm2 hown HN HMv hy
      go_wp2_with (first
        | fail
        | (at_builtin; refine wpList_app1 (enc := encB) rfl (.tmp 15) (.tmp 19) 22 5 rfl Tryz.underlying22 rfl (by omega) (fun _ => rfl) infoByte w2 w.heap.size _ bs y rfl hown2 (by first | rfl | (rw [hmod2]; rfl)) (by omega) (by omega) ?_; intro v4 w4 hown4 hb4))
      go_roundw
      case rel => exact ⟨j, bs ++ [y], by rw [List.length_append]; simp only [List.length_cons, List.length_nil]; omega, by go_num, hown4, (HS2.out.belowB hb4 hpl hhi).more (by rw [List.length_append]; simp only [List.length_cons, List.length_nil]; omega), HM2.out.trans_below hb4⟩
      case measure => simp [intOf]
    · obtain rfl : k = 0 := by omega
      have i1 : ¬ (0 : Int) < ((0 : Nat) : Int) := by omega
      have hcv := convert_own hown
      have HS := Lib.hid hs; have HM := Lib.hid hm
      clear hs hm
      go_wp2_with fail
      go_ret
      exact ⟨_, rfl, by show bs.toArray.size < m; rw [List.size_toArray]; omega, HS.out.more (by omega), HM.out⟩

/-- append(row, some bytes...) at a step of a region that draws. -/
theorem step_appB {ops : Array Oper} {o : Oper} {a : Go.Act} {K : Go.Act → World → Prop} {Q : Exit → Go.Act → World → Prop} {E : Prop} (hgd : o.guard = none) (s x : Operand)
    (ho : o.op = .call { callee := .builtin .append, args := #[s, x], argTypes := #[22, 22] })
    (w : World) (base : Nat) (v : Value) (xs ys : List UInt8) (b off c : Nat) (hs : a.eval s = v) (hown : OwnR encB w base 5 v xs)
    (hx : a.eval x = .slice (some ⟨b, off, none⟩) ys.length c) (hc : ∀ j, j < ys.length → w.cell? ⟨b, off + j, none⟩ = some (encB (ys.getD j 0))) (hlen : xs.length + ys.length ≤ 1000000000) (hbase : base ≤ w.heap.size)
    (h : ∀ v' w', OwnR encB w' base 5 v' (xs ++ ys) → Below base w w' → K (a.put o.dst v') w') :
    if Region.wanted o (yielded ops a.tmps) = true then Oper.wp Tryz.prog o a w K Q else E := by
  have hw : Region.wanted o (yielded ops a.tmps) = true := by simp [Region.wanted, hgd]
  rw [if_pos hw]
  obtain ⟨i0, hi0, hz0, hz1, hz2⟩ := info_parts infoByte
  refine wp_append_own _ s x 22 ho base 5 i0 _ 1 1 Tryz.underlying22 hi0 hz0 hz1 hz2 rfl (by decide) v xs.length (xs.map encB) hs hown.2 ⟨b, off, none⟩ ys.length c (ys.map encB) hx (by simp) ?_ ?_ (by unfold maxLen; omega) (by omega) hbase ?_
  · intro j u hj
    have hadd : (⟨b, off, none⟩ : Addr).add j = ⟨b, off + j, none⟩ := by unfold Addr.add; split <;> simp_all
    rw [List.getElem?_map] at hj
    rcases Nat.lt_or_ge j ys.length with hlt | hge
    · rw [List.getElem?_eq_getElem hlt] at hj
      simp only [Option.map_some, Option.some.injEq] at hj
      rw [hadd, hc j hlt, ← hj, List.getD_eq_getElem?_getD, List.getElem?_eq_getElem hlt]
      rfl
    · rw [List.getElem?_eq_none hge] at hj; cases hj
  · intro u hu
    obtain ⟨y, _, rfl⟩ := List.mem_map.1 hu
    rfl
  · intro v' w' h1 h2 _
    have hB : Below base w w' := (Below.refl base w).grown h2 hbase (fun k hk => (hown.2.lt k hk).1)
    have e3 : (xs ++ ys).length = xs.length + ys.length := List.length_append
    refine h v' w' ⟨?_, by rw [e3, List.map_append]; exact h1⟩ hB
    rcases h1.2 with ⟨e1, e2⟩ | ⟨g, cap, cur, e1, _⟩
    · exact ⟨none, 0, by rw [e1, e3, e2]⟩
    · exact ⟨_, cap, by rw [e1, e3]⟩

/-- What stands in a row of bytes of one's own, and that it may be written. -/
theorem OwnB.row {w : World} {base : Nat} {v : Value} {xs : List UInt8} (h : OwnB w base v xs) : ∃ g cap, v = .slice (some ⟨g, 0, none⟩) xs.length cap ∧ base ≤ g ∧ g < w.heap.size ∧ xs.length ≤ cap ∧ cap ≤ maxLen ∧
    (∀ j, j < xs.length → w.cell? ⟨g, j, none⟩ = some (encB (xs.getD j 0))) ∧ (∀ j, j < xs.length → w.frozen? ⟨g, j, none⟩ = false) ∧ (∀ j (y : UInt8), j < xs.length → OwnB (w.setCell ⟨g, j, none⟩ (encB y)) base v (xs.set j y)) := by
  obtain ⟨g, cap, cur, fz, hv, hbg, hg, hfz, hnc, hcm, hcs, htake⟩ := h
  have hglt : g < w.heap.size := by
    rcases Nat.lt_or_ge g w.heap.size with h | h
    · exact h
    · rw [Array.getElem?_eq_none h] at hg; cases hg
  have hcell : ∀ j, w.cell? ⟨g, j, none⟩ = cur[j]? := fun j => cell_of_row w g j cur 5 fz hg
  refine ⟨g, cap, hv, hbg, hglt, hnc, hcm, fun j hj => ?_, fun j hj => ?_, fun j y hj => ?_⟩
  · have h1 : (cur.toList.take xs.length)[j]? = (xs.map encB)[j]? := by rw [htake]
    rw [List.getElem?_take, if_pos hj, Array.getElem?_toList, List.getElem?_map] at h1
    rw [hcell, h1, List.getD_eq_getElem?_getD, List.getElem?_eq_getElem hj]
    rfl
  · unfold World.frozen?
    rw [hg]
    obtain ⟨p, q⟩ := fz
    rcases hfz with h | h
    · have h : cur.size ≤ p := h
      have : ¬ p ≤ j := by omega
      simp [this]
    · have h : q = 0 := h
      subst h
      simp
  · refine ⟨g, cap, cur.setIfInBounds j (encB y), fz, by rw [List.length_set]; exact hv, hbg, ?_, by simpa using hfz, by rw [List.length_set]; exact hnc, hcm, by simpa using hcs, ?_⟩
    · simp [World.setCell, Array.getElem?_modify, hg]
    · rw [List.length_set, Array.toList_setIfInBounds, List.take_set, htake, List.map_set]
theorem OwnB.moved {w w' : World} {p base : Nat} {v : Value} {xs : List UInt8} (h : OwnB w base v xs) (hm : Moved p w w') (hp : p < base) : OwnB w' base v xs := by
  obtain ⟨g, cap, cur, fz, h1, h2, h3, r⟩ := h
  have hlt : g < w.heap.size := by
    rcases Nat.lt_or_ge g w.heap.size with h' | h'
    · exact h'
    · rw [Array.getElem?_eq_none h'] at h3; cases h3
  exact ⟨g, cap, cur, fz, h1, h2, (hm.block g hlt (by omega)).trans h3, r⟩
abbrev bendTs : List ByteArray := [⟨#[10]⟩, ⟨#[34]⟩, ⟨#[41]⟩, ⟨#[95]⟩, ⟨#[120]⟩]
theorem bendTs_size : ∀ x ∈ bendTs, x.size ≤ 24 := by decide

set_option maxHeartbeats 8000000 in
set_option maxRecDepth 100000 in
theorem bendS (t : ByteArray) (ht : t.size ≤ 60000) (p lo hi : Nat) (A : Option Addr) (n c K : Nat) (w : World) (h : Src w p lo hi A n c K) (hK : K ≤ 700000000) :
    Calls Tryz.prog 71 #[.pointer (some ⟨p, 0, none⟩), .string t] w fun e w' => ∃ u : ByteArray, e = .returned (.string u) ∧ u.size ≤ t.size + 24 ∧ Src w' p lo hi A n c (K + 8) ∧ Moved p w w' := by
  have hpl := h.lt
  have hhi := h.le
  obtain ⟨v0, w1, hcv, hown, hb1⟩ := own_text w t (by omega)
  have HS1 := Lib.hid (h.below hb1)
  have HM1 := Lib.hid (Moved.of_below (p := p) hb1)
  have hs1 := hb1.size
  have htl : t.data.toList.length = t.size := by simp
  obtain ⟨xs, hxs⟩ : ∃ xs, xs = t.data.toList := ⟨_, rfl⟩
  rw [← hxs] at hown htl
  obtain ⟨g, cap, hv, hbg, hgl, hnc, hcm, _⟩ := hown.row
  subst hv
  have HO1 := Lib.hid hown
  have HTL := Lib.hid htl
  clear h hb1 hxs hown htl
  go_enter Tryz.func71, Tryz.ntmps71
  go_upto_region 2 with fail
  clear hcv
  by_cases h0 : xs.length = 0
  · have i0 : ((xs.length : Int) == 0) = true := by rw [h0]; rfl
    clear h0
    go_wp2_with fail
    go_ret
    exact ⟨_, rfl, by omega, HS1.out.more (by omega), HM1.out⟩
  have i0 : ((xs.length : Int) == 0) = false := by rw [beq_eq_false_iff_ne]; omega
  have hxb : xs.length ≤ 60000 := by rw [HTL.out]; exact ht
  have HP := Lib.hid (pickS p lo hi A n c K w1 HS1.out (by omega) xs.length (by omega) (by omega))
  clear h0
  go_wp2_with fail
  refine HP.out.mono ?_
  rintro e2 w2 ⟨i, hi2, rfl, hs2, hm2⟩
  have HS2 := Lib.hid hs2
  have HO2 := Lib.hid (HO1.out.moved hm2 hpl)
  have HM2 := Lib.hid (HM1.out.trans hm2)
  have hs2z := hm2.size
  have HP2 := Lib.hid (pickS p lo hi A n c (K + 2) w2 hs2 (by omega) 5 (by omega) (by omega))
  clear hs2 hm2 HP HO1 HM1 HS1 i0
  go_wp2_with fail
  refine HP2.out.mono ?_
  rintro e3 w3 ⟨r, hr, rfl, hs3, hm3⟩
  have HS3 := Lib.hid hs3
  have HO3 := Lib.hid (HO2.out.moved hm3 hpl)
  have HM3 := Lib.hid (HM2.out.trans hm3)
  have hs3z := hm3.size
  clear hs3 hm3 HP2 HO2 HM2 HS2
  have hil : i < xs.length := by omega
  by_cases r0 : r = 0
  · subst r0
    have HN := Lib.hid (nextS p lo hi A n c (K + 2 + 2) w3 HS3.out (by omega))
    go_wp2_with fail
    refine HN.out.mono ?_
    rintro e4 w4 ⟨z, hz, rfl, hs4, hm4⟩
    have HS4 := Lib.hid hs4
    have HO4 := Lib.hid (HO3.out.moved hm4 hpl)
    have HM4 := Lib.hid (HM3.out.trans hm4)
    obtain ⟨y, hy, hmod⟩ : ∃ y : UInt8, y = UInt8.ofNat z ∧ (z : Int) % 256 = (y.toNat : Int) := ⟨_, rfl, by rw [UInt8.toNat_ofNat']; omega⟩
    clear hs4 hm4 HN HO3 HM3 HS3 hy
    obtain ⟨g', cap', hv', hbg', hgl', -, -, hcell, hfro, hset⟩ := HO4.out.row
    injection hv' with e1 e2 e3
    injection e1 with e1
    injection e1 with e1
    subst e1 e3
    have f4 := hcell i hil
    have z4 := hfro i hil
    have HO5 := Lib.hid (hset i y hil)
    have i3 : (i : Int) < (xs.length : Int) := by omega
    clear hcell hfro hset
    go_upto_region 12 with fail
    have hzy : Value.int .u8 (z : Int) = encB y := by rw [show (z : Int) = (y.toNat : Int) by omega]
    rw [hzy]
    clear hzy
    have HSX := Lib.hid (HS4.out.far (q := ⟨g, i, none⟩) (show p ≠ g by omega) (show hi ≤ g by omega) (encB y))
    have HMX := Lib.hid (HM4.out.set_ (q := ⟨g, i, none⟩) hbg (encB y))
    have hcv := text_own HO5.out
    clear f4 z4
    generalize w4.setCell ⟨g, i, none⟩ (encB y) = w5 at *
    go_wp2_with fail
    go_ret
    exact ⟨_, rfl, by show (xs.set i y).toArray.size ≤ _; rw [List.size_toArray, List.length_set, HTL.out]; omega, HSX.out.more (by omega), HMX.out⟩
  by_cases r1 : r = 1
  · subst r1
    have hcap : cap ≤ 9223372036854775807 := by unfold maxLen at hcm; omega
    have i3 : (i : Int) + 1 ≤ (xs.length : Int) := by omega
    have m1 : IntKind.i64.wrap ((i : Int) + 1) = ((i + 1 : Nat) : Int) := by rw [IntWalk.i64_in _ (by omega)]; omega
    obtain ⟨o, ho, hoc⟩ : ∃ o, (if cap = i + 1 then (some ⟨g, 0, none⟩ : Option Addr) else some ⟨g, i + 1, none⟩) = some ⟨g, o, none⟩ ∧ (i + 1 < cap → o = i + 1) := by
      by_cases h : cap = i + 1
      · exact ⟨0, if_pos h, fun h2 => by omega⟩
      · exact ⟨i + 1, if_neg h, fun _ => rfl⟩
    go_upto_region 9 with fail
    have HS4 := Lib.hid (show Src w3.drew p lo hi A n c (K + 2 + 2) from HS3.out.below (below_drewN' w3 1))
    have HM4 := Lib.hid (show Moved p w w3.drew from HM3.out.trans (Moved.of_below (below_drewN' w3 1)))
    have HO4 := Lib.hid (show OwnB w3.drew w.heap.size (.slice (some ⟨g, 0, none⟩) xs.length cap) xs from HO3.out.below (below_drewN' w3 1))
    clear HS3 HM3 HO3
    refine AnyT.region (fun _ => false) (fun _ => True) (by kernel_rfl) trivial (fun hHeld => ?_)
    have hs4 : w3.heap.size = w3.drew.heap.size := rfl
    generalize w3.drew = w4 at *
    ((refine AnyT.takeAny 1 30 ?_ rfl (by kernel_rfl) (by kernel_rfl) (by kernel_rfl) rfl rfl (fun _ _ _ _ h => h) rfl ?_ (by assumption) ?_); rotate_left; (intro w; go_simp; (try (with_reducible rfl))); simp only [Act.put, List.setIfInBounds_toArray, List.set_cons_zero, List.set_cons_succ])
    ((refine AnyT.takeAny 2 31 ?_ rfl (by kernel_rfl) (by kernel_rfl) (by kernel_rfl) rfl rfl (fun _ _ _ _ h => h) rfl ?_ (by assumption) ?_); rotate_left; (intro w; go_simp; (try (with_reducible rfl))); simp only [Act.put, List.setIfInBounds_toArray, List.set_cons_zero, List.set_cons_succ])
    refine AnyT.takeAny 3 32 (.slice (some ⟨g, 0, none⟩) i cap) rfl (by kernel_rfl) (by kernel_rfl) (by kernel_rfl) rfl rfl (fun _ _ _ _ h => h) rfl (fun W => by go_simp; omega) (by assumption) ?_
    (try simp only [Act.put, List.setIfInBounds_toArray, List.set_cons_zero, List.set_cons_succ])
    ((refine AnyT.takeAny 5 34 ?_ rfl (by kernel_rfl) (by kernel_rfl) (by kernel_rfl) rfl rfl (fun _ _ _ _ h => h) rfl ?_ (by assumption) ?_); rotate_left; (intro w; go_simp; (try (with_reducible rfl))); simp only [Act.put, List.setIfInBounds_toArray, List.set_cons_zero, List.set_cons_succ])
    ((refine AnyT.takeAny 6 35 ?_ rfl (by kernel_rfl) (by kernel_rfl) (by kernel_rfl) rfl rfl (fun _ _ _ _ h => h) rfl ?_ (by assumption) ?_); rotate_left; (intro w; go_simp; (try (with_reducible rfl))); simp only [Act.put, List.setIfInBounds_toArray, List.set_cons_zero, List.set_cons_succ])
    ((refine AnyT.takeAny 7 36 ?_ rfl (by kernel_rfl) (by kernel_rfl) (by kernel_rfl) rfl rfl (fun _ _ _ _ h => h) rfl ?_ (by assumption) ?_); rotate_left; (intro w; go_simp; (try (with_reducible rfl))); simp only [Act.put, List.setIfInBounds_toArray, List.set_cons_zero, List.set_cons_succ])
    refine AnyT.takeAny 8 37 (.slice (some ⟨g, o, none⟩) (xs.length - (i + 1)) (cap - (i + 1))) rfl (by kernel_rfl) (by kernel_rfl) (by kernel_rfl) rfl rfl (fun _ _ _ _ h => h) rfl (fun W => by go_simp; intro h; omega) (by assumption) ?_
    (try simp only [Act.put, List.setIfInBounds_toArray, List.set_cons_zero, List.set_cons_succ])
    obtain ⟨g', cap', hv', hbg', hgl', -, -, hcell, -, -⟩ := HO4.out.row
    injection hv' with e1 e2 e3
    injection e1 with e1
    injection e1 with e1
    subst e1 e3
    have HCE := Lib.hid hcell
    clear hcell
    ((refine AnyT.one (i := 0) (by kernel_rfl) rfl (fun K hK => ?_)))
    go_simp
    have hown0 : OwnR encB (w4.alloc (.cells #[] 5)) w4.heap.size 5 (.slice (some ⟨w4.heap.size, 0, none⟩) 0 0) [] := OwnR.none_ _ _ _ (Nat.le_refl _)
    have HO5 := Lib.hid hown0
    have hba := (Below.refl w4.heap.size w4).alloc (Nat.le_refl _) (.cells #[] 5)
    have HB5 := Lib.hid hba
    refine hK.out _ _ trivial (fun hHeld => ?_)
    clear hK K hown0
    (try simp only [Act.put, List.setIfInBounds_toArray, List.set_cons_zero, List.set_cons_succ])
    have hs5 := hba.size
    clear hba
    generalize w4.alloc (.cells #[] 5) = w5 at *
    ((refine AnyT.one (i := 4) (by kernel_rfl) rfl (fun K hK => ?_)))
    refine step_appB rfl (.tmp 29) (.tmp 32) rfl w5 w4.heap.size _ [] (xs.take i) g 0 cap rfl HO5.out (by rw [List.length_take, Nat.min_eq_left (by omega)]; rfl) (fun j hj => by
      rw [List.length_take] at hj
      have h1 := HCE.out j (by omega)
      rw [Nat.zero_add, List.getD_eq_getElem?_getD, List.getElem?_take, if_pos (by omega), ← List.getD_eq_getElem?_getD]
      exact (HB5.out.cell (p := ⟨g, j, none⟩) hgl').trans h1) (by rw [List.length_take]; simp; omega) hs5 ?_
    intro v6 w6 hown6 hb6
    have HO6 := Lib.hid hown6
    have HB6 := Lib.hid (HB5.out.trans hb6)
    refine hK.out _ _ trivial (fun hHeld => ?_)
    clear hK K hown6 hb6 HO5 HB5
    (try simp only [Act.put, List.setIfInBounds_toArray, List.set_cons_zero, List.set_cons_succ])
    ((refine AnyT.one (i := 9) (by kernel_rfl) rfl (fun K hK => ?_)))
    refine step_appB rfl (.tmp 33) (.tmp 37) rfl w6 w4.heap.size v6 ([] ++ xs.take i) (xs.drop (i + 1)) g o (cap - (i + 1)) rfl HO6.out (by rw [List.length_drop]; rfl) (fun j hj => by
      rw [List.length_drop] at hj
      rw [hoc (by omega), List.getD_eq_getElem?_getD, List.getElem?_drop, ← List.getD_eq_getElem?_getD]
      exact (HB6.out.cell (p := ⟨g, i + 1 + j, none⟩) hgl').trans (HCE.out (i + 1 + j) (by omega))) (by rw [List.nil_append, List.length_take, List.length_drop]; omega) HB6.out.size ?_
    intro v7 w7 hown7 hb7
    have HO7 := Lib.hid hown7
    have HB7 := Lib.hid (HB6.out.trans hb7)
    refine hK.out _ _ trivial (fun hHeld => ?_)
    clear hK K hown7 hb7 HO6 HB6
    (try simp only [Act.put, List.setIfInBounds_toArray, List.set_cons_zero, List.set_cons_succ])
    ((refine AnyT.takeAny 10 5 ?_ rfl (by kernel_rfl) (by kernel_rfl) (by kernel_rfl) rfl rfl (fun _ _ _ _ h => h) rfl ?_ (by assumption) ?_); rotate_left; (intro w; go_simp; (try (with_reducible rfl))); simp only [Act.put, List.setIfInBounds_toArray, List.set_cons_zero, List.set_cons_succ])
    refine AnyT.done (by kernel_rfl) ?_ _
    clear hHeld
    have hcv := convert_own HO7.out
    have hl7 : ([] ++ xs.take i ++ xs.drop (i + 1)).length ≤ xs.length := by rw [List.nil_append, List.length_append, List.length_take, List.length_drop]; omega
    generalize [] ++ xs.take i ++ xs.drop (i + 1) = ys at *
    go_wp2_with fail
    go_ret
    exact ⟨_, rfl, by show ys.toArray.size ≤ _; rw [List.size_toArray]; have := HTL.out; omega, (HS4.out.belowB HB7.out (by omega) (by omega)).more (by omega), HM4.out.trans_below (HB7.out.mono (by omega))⟩
  by_cases r2 : r = 2
  · subst r2
    have HT := Lib.hid (textS p lo hi A n c (K + 2 + 2) w3 HS3.out (by omega) bendTs (by decide) (by decide))
    go_wp2_with fail
    refine HT.out.mono ?_
    rintro e4 w4 ⟨x, hx, rfl, hs4, hm4⟩
    have hxz := bendTs_size x hx
    have HS4 := Lib.hid hs4
    have hO4 := HO3.out.moved hm4 hpl
    have HM4 := Lib.hid (HM3.out.trans hm4)
    have hs4z := hm4.size
    clear hs4 hm4 HT HO3 HM3 HS3 hx
    go_wp2_with (first
      | fail
      | (at_builtin; refine wpList_appT rfl (.tmp 41) (.tmp 44) rfl w4 w.heap.size _ xs x rfl hO4 rfl (by omega) (by omega) (by omega) ?_; intro v5 w5 hown5 hb5; have hcv := text_own hown5))
    go_ret
    exact ⟨_, rfl, by
      have h1 : x.data.toList.length = x.size := by simp
      show (xs ++ x.data.toList).toArray.size ≤ _
      rw [List.size_toArray, List.length_append, h1]; have := HTL.out; omega, (HS4.out.belowB hb5 hpl hhi).more (by omega), HM4.out.trans_below hb5⟩
  have r0' : ((r : Int) == 0) = false := by rw [beq_eq_false_iff_ne]; omega
  have r1' : ((r : Int) == 1) = false := by rw [beq_eq_false_iff_ne]; omega
  have r2' : ((r : Int) == 2) = false := by rw [beq_eq_false_iff_ne]; omega
  have hcv := text_own HO3.out
  clear r0 r1 r2
  go_wp2_with fail
  go_ret
  exact ⟨_, rfl, by show xs.toArray.size ≤ _; rw [List.size_toArray]; have := HTL.out; omega, HS3.out.more (by omega), HM3.out⟩

abbrev readPlainTs : List ByteArray := [⟨#[]⟩, ⟨#[97]⟩, ⟨#[34]⟩, ⟨#[34, 34]⟩, ⟨#[48, 49]⟩, ⟨#[49]⟩, ⟨#[36, 67, 40, 41]⟩, ⟨#[36, 67, 40, 49, 48]⟩, ⟨#[36, 67, 40, 54, 53, 41]⟩, ⟨#[34, 97, 34, 95, 34, 98, 34]⟩, ⟨#[36, 67, 40, 49, 48, 41, 95, 36, 67, 40, 49, 49, 41]⟩, ⟨#[34, 49, 34]⟩, ⟨#[36, 67, 40, 50, 53, 54, 41]⟩, ⟨#[36, 67, 40, 48, 49, 48, 41]⟩]
theorem readPlainTs_size : ∀ x ∈ readPlainTs, x.size ≤ 24 := by decide

set_option maxHeartbeats 4000000 in
set_option maxRecDepth 100000 in
theorem drawReadPlain_any (lo hi : Nat) (A : Option Addr) (n c : Nat) (w : World) (hb : BytesR w lo hi A n) (hhi : hi ≤ w.heap.size) (hn : n ≤ 1048576) :
    Calls Tryz.prog 23 #[.slice A n c] w fun e w' => ∃ u : ByteArray, e = .returned (.string u) ∧ u.size ≤ 60000 ∧ Below w.heap.size w w' := by
  have HB := Lib.hid hb
  have HF := Lib.hid (l00From_any A n c w)
  clear hb
  go_enter Tryz.func23, Tryz.ntmps23
  go_wp2_with fail
  refine HF.out.mono ?_
  rintro e1 w1 ⟨rfl, hs1, hb1⟩
  have s1 := hb1.size
  have hpl := hs1.lt
  have HS1 := Lib.hid (show Src w1 w.heap.size lo hi A n c 0 from ⟨⟨0, Nat.le_refl _, hs1⟩, HB.out.keep fun b _ h2 => hb1.block b (by omega), hn, .inl hhi, by omega⟩)
  have HB1 := Lib.hid hb1
  clear hs1 hb1 HF HB
  have HO := Lib.hid (oneS w.heap.size lo hi A n c 0 w1 HS1.out (by omega) 4 (by omega) (by omega))
  go_wp2_with fail
  refine HO.out.mono ?_
  rintro e2 w2 ⟨b, rfl, hs2, hm2⟩
  have HS2 := Lib.hid hs2
  have s2 := hm2.size
  have HB2 := Lib.hid (HB1.out.trans (hm2.below (B := w.heap.size) (Nat.le_refl _) s1))
  clear hs2 hm2 HO HS1 HB1
  cases b with
  | true =>
    have HT := Lib.hid (textS w.heap.size lo hi A n c (0 + 2) w2 HS2.out (by omega) readPlainTs (by decide) (by decide))
    go_wp2_with fail
    refine HT.out.mono ?_
    rintro e3 w3 ⟨x, hx, rfl, hs3, hm3⟩
    have hxz := readPlainTs_size x hx
    have HB3 := Lib.hid (HB2.out.trans (hm3.below (B := w.heap.size) (Nat.le_refl _) (by omega)))
    clear hs3 hm3 HT hx
    go_wp2_with fail
    go_ret
    exact ⟨_, rfl, by omega, HB3.out⟩
  | false =>
    have HT := Lib.hid (l22Text_any w.heap.size lo hi A n c (0 + 2) w2 HS2.out (by omega))
    go_wp2_with fail
    refine HT.out.mono ?_
    rintro e3 w3 ⟨x, hx, rfl, hs3, hm3⟩
    have hxz := l22TextTs_size x hx
    have HS3 := Lib.hid hs3
    have s3 := hm3.size
    have HB3 := Lib.hid (HB2.out.trans (hm3.below (B := w.heap.size) (Nat.le_refl _) (by omega)))
    have HW := Lib.hid (wordS 2 (by omega) (by omega) w.heap.size lo hi A n c (0 + 2 + 2) w3 HS3.out (by omega))
    clear hs3 hm3 HT hx HS2 HB2
    go_wp2_with fail
    refine HW.out.mono ?_
    rintro e4 w4 ⟨y, rfl, hyz, hs4, hm4⟩
    have HS4 := Lib.hid hs4
    have s4 := hm4.size
    have HB4 := Lib.hid (HB3.out.trans (hm4.below (B := w.heap.size) (Nat.le_refl _) (by omega)))
    clear hs4 hm4 HW HS3 HB3
    have m1 : ¬ 9223372036854775807 < x.size + y.size := by omega
    have hxy : (x ++ y).size ≤ 26 := by rw [ByteArray.size_append]; omega
    have HP := Lib.hid (l22Plain_any (x ++ y) (by omega) w4)
    have hpl2 := plainP_len (x ++ y).data.toList
    have hxl : (x ++ y).data.toList.length = (x ++ y).size := by simp
    rw [hxl] at hpl2
    clear hxl
    generalize plainP (x ++ y).data.toList = P at *
    go_wp2_with fail
    refine HP.out.mono ?_
    rintro e5 w5 ⟨rfl, hb5⟩
    have HS5 := Lib.hid (HS4.out.below hb5)
    have HB5 := Lib.hid (HB4.out.trans (hb5.mono (by omega)))
    have s5 := hb5.size
    have hPz : (⟨P.toArray⟩ : ByteArray).size ≤ 50000 := by show P.toArray.size ≤ _; rw [List.size_toArray]; omega
    clear hb5 HP HS4 HB4
    have HBD := Lib.hid (bendS ⟨P.toArray⟩ (by omega) w.heap.size lo hi A n c _ w5 HS5.out (by omega))
    go_wp2_with fail
    refine HBD.out.mono ?_
    rintro e6 w6 ⟨u, rfl, huz, hs6, hm6⟩
    have HB6 := Lib.hid (HB5.out.trans (hm6.below (B := w.heap.size) (Nat.le_refl _) (by omega)))
    clear hs6 hm6 HBD
    go_wp2_with fail
    go_ret
    exact ⟨u, rfl, by omega, HB6.out⟩
end Go.Proofs.YtfibjcaidnofmaaGreatDoor
