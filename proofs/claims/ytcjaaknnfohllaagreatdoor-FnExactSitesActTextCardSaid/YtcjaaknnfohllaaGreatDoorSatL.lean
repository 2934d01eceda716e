/- The program's text of an operation of two sites walked: SitesActText. -/
import Derived.Test.YtcjaaknnfohllaaGreatDoorSatK
namespace Go.Proofs.YtcjaaknnfohllaaGreatDoor
open Go.RowKit

theorem indexByte_sp (l : List UInt8) : decide (0 ≤ Lib.indexByte l 32) = !(l.all (· != 32)) := by
  induction l with
  | nil => rfl
  | cons b l ih =>
    have h1 : ∀ m : List UInt8, -1 ≤ Lib.indexByte m 32 := by
      intro m
      induction m with
      | nil => simp [Lib.indexByte]
      | cons b m ihm => unfold Lib.indexByte; split <;> (try split) <;> omega
    have h2 := h1 l
    rw [List.all_cons, Bool.not_and, ← ih]
    have eq : Lib.indexByte (b :: l) 32 = if b == 32 then 0 else if Lib.indexByte l 32 == -1 then -1 else Lib.indexByte l 32 + 1 := rfl
    rw [eq]
    by_cases hb : b = 32
    · subst hb; simp
    · rw [if_neg (by simpa using hb)]
      have hb' : (b != 32) = true := by simpa using hb
      rw [hb', Bool.not_true, Bool.false_or]
      split
      · rename_i h3
        have : Lib.indexByte l 32 = -1 := by simpa using h3
        rw [this]
      · rename_i h3
        have : Lib.indexByte l 32 ≠ -1 := by simpa using h3
        rw [decide_eq_decide]; omega

theorem hasSp_pays (w : World) : PredAt Tryz.prog 36 #[] Value.string (fun x : ByteArray => !noSp x) w := by
  intro W x hb
  unfold FnGives
  have HC := Lib.hid (fun W => Tryz.strings_Contains_one x 32 W)
  rw [indexByte_sp] at HC
  have HN := Lib.hid (show noSp x = x.data.toList.all (· != 32) from rfl)
  rw [← HN.out] at HC
  go_enter Tryz.func36, Tryz.ntmps36
  go_wp2_with fail
  refine (HC.out _).mono ?_; rintro e1 w1 ⟨rfl, rfl⟩
  go_wp2_with fail
  go_ret
  exact ⟨rfl, 0, rfl⟩
theorem any_sp (xs : List ByteArray) : (xs.any fun x => !noSp x) = !xs.all noSp := by
  induction xs with
  | nil => rfl
  | cons x xs ih => simp only [List.any_cons, List.all_cons, ih, Bool.not_and]
theorem spaces_own {w : World} {base : Nat} {v : Value} {xs : List ByteArray} (h : OwnStrs w base 9 v xs) (hx : xs.length ≤ 1000000) :
    Calls Tryz.prog 35 #[v, .func (.func 36) #[] #[]] w fun e w' => e = .returned (.bool (!xs.all noSp)) ∧ Below w.heap.size w w' := by
  obtain ⟨⟨A, c, rfl⟩, ho⟩ := h
  by_cases h0 : xs = []
  · subst h0
    exact (Tryz.slices_ContainsFunc_empty (α := ByteArray) A c (.func (.func 36) #[] #[]) w).mono fun e w' ⟨he, hw⟩ => ⟨he, hw ▸ Below.refl _ _⟩
  · have hp := List.length_pos_iff.2 h0
    obtain ⟨b, off, rfl, _, hb, hc⟩ := (RowR.of_own (enc := Value.string) (d := ByteArray.empty) ho).2 hp
    refine (Tryz.slices_ContainsFunc Value.string (fun x : ByteArray => !noSp x) 36 #[] (enters_of Tryz.func36 (by kernel_rfl) rfl) b off xs.length c xs w (hasSp_pays w) (Nat.le_refl _) (by omega)
        (fun j hj => by rw [hc j hj, List.getD_eq_getElem?_getD, List.getElem?_eq_getElem hj]; simp [hj])).mono ?_
    rintro e w1 ⟨rfl, q, rfl⟩
    exact ⟨by rw [← any_sp, List.take_length], below_drewN' _ _⟩

/-- append(out, x, y) in a region that draws. -/
theorem step_app2 {α : Type} {enc : α → Value} {P : Program} {ops : Array Oper} {o : Oper} {a : Go.Act} {K : Go.Act → World → Prop} {Q : Exit → Go.Act → World → Prop} {E : Prop} (hgd : o.guard = none) (s x : Operand) (t e : TypeId)
    (ho : o.op = .call { callee := .builtin .append, args := #[s, x], argTypes := #[t, t] }) (ht : P.underlying t = some (.slice e))
    {z : Value} {by_ : Nat} (hzz : z.cells.size = 1) (hby : by_ ≤ 16) (hone : ∀ x : α, (enc x).oneCell' = true) (hinfo : (P.info? e).map (fun i => (i.zero, i.size, i.bytes)) = some (some z, 1, by_))
    (w : World) (base : Nat) (v : Value) (xs : List α) (y y2 : α) (hs : a.eval s = v) (hown : OwnR enc w base e v xs)
    (hx : a.eval x = .slice (some ⟨w.heap.size, 0, none⟩) 2 2) (hlen : xs.length ≤ 1000000000) (hbase : base ≤ w.heap.size)
    (h : ∀ A' c' w', w'.ownsRow base e 1 (.slice A' (xs ++ [y, y2]).length c') (xs ++ [y, y2]).length ((xs ++ [y, y2]).map enc) → Below base w w' → K (a.put o.dst (.slice A' (xs ++ [y, y2]).length c')) w') :
    if Region.wanted o (yielded ops a.tmps) = true then Oper.wp P o a (w.alloc (.cells #[enc y, enc y2] e)) K Q else E := by
  have hw : Region.wanted o (yielded ops a.tmps) = true := by simp [Region.wanted, hgd]
  rw [if_pos hw]
  obtain ⟨i0, hi0, hz0, hz1, hz2⟩ := info_parts hinfo
  refine wp_append_own _ s x t ho base e i0 _ 1 by_ ht hi0 hz0 hz1 hz2 hzz (by decide) v xs.length (xs.map enc) hs (hown.2.alloc _) ⟨w.heap.size, 0, none⟩ 2 2 [enc y, enc y2] hx rfl ?_ ?_ (by unfold maxLen; omega) (Nat.le_trans (Nat.mul_le_mul_left _ hby) (by omega)) (by simp; omega) ?_
  · intro j u hj
    match j, hj with
    | 0, hj => simp at hj; subst hj; simp [Addr.add]
    | 1, hj => simp at hj; subst hj; simp [Addr.add]
  · intro u hu
    simp at hu
    rcases hu with rfl | rfl
    · exact hone y
    · exact hone y2
  · intro v' w' h1 h2 _
    have hB : Below base w w' := ((Below.refl base w).alloc hbase _).grown h2 (by simp; omega) (fun k hk => by
      have := hown.2.lt k hk
      omega)
    have e3 : (xs ++ [y, y2]).length = xs.length + 2 := by simp
    rcases h1.2 with ⟨e1, e2⟩ | ⟨g, cap, cur, e1, _⟩
    · omega
    · subst e1
      have h9 := h (some ⟨g, 0, none⟩) cap w' (by rw [e3, List.map_append]; exact h1) hB
      rw [e3] at h9
      exact h9

set_option maxHeartbeats 8000000 in
set_option maxRecDepth 100000 in
theorem implSitesActText_any (x : Act) (kind at_ : Int) (v : Value) (lo hi : Nat) (w : World) (hx : SActR w lo hi v kind at_ x) (hhi : hi ≤ w.heap.size) (hs : ActSmall x) (hK : KeepMax x) (hE : EnvIn w) :
    Calls Tryz.prog 10 #[v] w fun e w' => e = .returned (.string ⟨(sitesT kind at_ x).toArray⟩) ∧ Below w.heap.size w w' := by
  have hx0 := hx
  obtain ⟨A, c, B, d, C, e, rfl, hA, hB, hC⟩ := hx
  generalize hcs : (#[.int .i64 kind, .int .i64 at_, .int .i64 x.k, .int .i64 x.a, .string x.r, .string x.l, .slice A x.args.length c, .slice B x.input.length d, .slice C x.keep.length e] : Array Value) = cs at *
  have hbo := (Below.refl w.heap.size w).alloc (Nat.le_refl _) (.cells cs 32)
  have hsz : (w.alloc (.cells cs 32)).heap.size = w.heap.size + 1 := by simp
  have HBK := Lib.hid (Blk.new w 32 cs)
  have HX0 := Lib.hid (hx0.below hbo hhi)
  have HD := Lib.hid hbo
  have HC := Lib.hid (implSitesActOk_any x kind at_ _ lo hi _ HX0.out (by omega) hs)
  have HE := Lib.hid (hE.below hbo)
  have HA0 := Lib.hid (show ∀ W, Below w.heap.size w W → ActR W lo hi (.agg #[.int .i64 x.k, .int .i64 x.a, .string x.r, .string x.l, .slice A x.args.length c, .slice B x.input.length d, .slice C x.keep.length e]) x from fun W hb => ⟨A, c, B, d, C, e, rfl, hA.below hb hhi, hB.below hb hhi, hC.below hb hhi⟩)
  clear hA hB hC hbo hx0 hE
  subst hcs
  cases hS : sitesB kind at_ x
  · rw [hS] at HC
    have HR := Lib.hid (show sitesT kind at_ x = [] by unfold sitesT; rw [hS]; rfl)
    rw [HR.out]
    clear hS
    go_enter Tryz.func10, Tryz.ntmps10
    go_wp2_with fail
    refine HC.out.mono ?_; rintro e1 w1 ⟨rfl, hb1⟩
    go_wp2_with fail
    go_ret
    exact ⟨rfl, HD.out.trans (hb1.mono HD.out.size)⟩
  · rw [hS] at HC
    have HR := Lib.hid (show sitesT kind at_ x = if (sitesW kind at_ x).all noSp then joinW (sitesW kind at_ x) else [] from if_pos hS)
    rw [HR.out]
    have hsm := sitesW_small hS hK
    have HSM := Lib.hid hsm.2
    have hn := hsm.1
    have HJL := Lib.hid (joinW_len (sitesW kind at_ x) hsm.2 _ (Nat.le_refl _))
    rw [List.take_length] at HJL
    clear hsm HR
    rcases sitesB_cases hS with ⟨rfl, hB1⟩ | ⟨hk, h1, h2⟩ | hk
    · have HM := Lib.hid (fun W hb he => mainWords_any x _ lo hi W (HA0.out W hb) (Nat.le_trans hhi hb.size) hB1 hK he)
      have HSW := Lib.hid (show sitesW 1 at_ x = mainW x from if_pos rfl)
      rw [HSW.out] at hn HSM HJL ⊢
      clear hS hB1 hK HSW
      generalize mainW x = L at *
      generalize hTT : (if L.all noSp then joinW L else []) = TT at *
      have HTT := Lib.hid hTT
      clear hTT
      go_enter Tryz.func10, Tryz.ntmps10
      go_wp2_with fail
      generalize w.alloc (.cells #[.int .i64 1, .int .i64 at_, .int .i64 x.k, .int .i64 x.a, .string x.r, .string x.l, .slice A x.args.length c, .slice B x.input.length d, .slice C x.keep.length e] 32) = w0 at *
      have hlt0 : w.heap.size < w0.heap.size := by omega
      refine HC.out.mono ?_; rintro e1 w1 ⟨rfl, hb1⟩
      have hs1 := hb1.size
      have HB1 := Lib.hid hb1
      have c1 := (HBK.out.below hb1 hlt0).cell
      have c2 := ((HBK.out.below hb1 hlt0).alloc (.cells #[] 9)).cell
      have HO := Lib.hid (OwnR.none_ (enc := Value.string) w1 w0.heap.size 9 hs1)
      have HBN := Lib.hid (HB1.out.alloc hs1 (.cells #[] 9))
      have HBKN := Lib.hid ((HBK.out.below hb1 hlt0).alloc (.cells #[] 9))
      clear hb1 HC
      go_wp2_with fail
      refine (HM.out _ (HD.out.trans (HBN.out.mono (by omega))) (HE.out.below HBN.out)).mono ?_; rintro e2 wz ⟨⟨v2, rfl, hv2⟩, hb2⟩
      obtain ⟨A2, c2', rfl⟩ := hv2.1
      have HOZ := Lib.hid (hv2.mono HBN.out.size)
      have HBZ := Lib.hid (HBN.out.trans (hb2.mono HBN.out.size))
      clear hb2 hv2 c1 c2
      have hbz := HBZ.out
      have hsz2 := hbz.size
      cases hsp : L.all noSp
      · have HCF := Lib.hid (spaces_own HOZ.out (by omega))
        have HF := Lib.hid (show TT = [] by rw [← HTT.out, hsp]; rfl)
        rw [hsp] at HCF
        clear hsp hbz
        go_wp2_with fail
        refine HCF.out.mono ?_; rintro e8 w8 ⟨rfl, hb8⟩
        go_wp2_with fail
        go_ret
        exact ⟨by rw [HF.out]; rfl, HD.out.trans ((HBZ.out.trans (hb8.mono hsz2)).mono (by omega))⟩
      · have HCF := Lib.hid (spaces_own HOZ.out (by omega))
        have HJN := Lib.hid (fun W (hb : Below wz.heap.size wz W) => join_own (HOZ.out.below hb) (by omega) ⟨#[32]⟩ (by have hjl := HJL.out; show (joinW L).length ≤ _; omega))
        have HJE := Lib.hid (show Lib.join (L.map (·.data.toList)) (⟨#[32]⟩ : ByteArray).data.toList = joinW L from rfl)
        rw [HJE.out] at HJN
        have HF := Lib.hid (show TT = joinW L by rw [← HTT.out, hsp]; rfl)
        rw [hsp] at HCF
        clear hsp hbz HJL
        go_wp2_with fail
        refine HCF.out.mono ?_; rintro e8 w8 ⟨rfl, hb8⟩
        have HB8 := Lib.hid hb8
        clear hb8
        go_wp2_with fail
        refine (HJN.out _ HB8.out).mono ?_; rintro e9 w9 ⟨rfl, hb9⟩
        go_wp2_with fail
        go_ret
        exact ⟨by rw [HF.out]; rfl, HD.out.trans ((HBZ.out.trans ((HB8.out.trans (hb9.mono HB8.out.size)).mono hsz2)).mono (by omega))⟩
    · rcases hk with rfl | rfl | rfl
      · have HSW := Lib.hid (show sitesW 3 at_ x = [] ++ [wArrive, decW at_] from rfl)
        have HWD := Lib.hid (fun W => sitesWord_any 3 (by omega) (by omega) W)
        have HWE := Lib.hid (show wordS 3 = wArrive from rfl)
        have HDC := Lib.hid (fun W h => decI_any at_ (by omega) (by omega) W h)
        rw [HWE.out] at HWD
        rw [HSW.out] at hn HSM HJL ⊢
        clear hS hK HSW HWE
        generalize wArrive = X at *
        generalize decW at_ = Y at *
        generalize hTT : (if ([] ++ [X, Y]).all noSp then joinW ([] ++ [X, Y]) else []) = TT at *
        have HTT := Lib.hid hTT
        clear hTT
        go_enter Tryz.func10, Tryz.ntmps10
        go_wp2_with fail
        generalize w.alloc (.cells #[.int .i64 3, .int .i64 at_, .int .i64 x.k, .int .i64 x.a, .string x.r, .string x.l, .slice A x.args.length c, .slice B x.input.length d, .slice C x.keep.length e] 32) = w0 at *
        have hlt0 : w.heap.size < w0.heap.size := by omega
        refine HC.out.mono ?_; rintro e1 w1 ⟨rfl, hb1⟩
        have hs1 := hb1.size
        have HB1 := Lib.hid hb1
        have c1 := (HBK.out.below hb1 hlt0).cell
        have c2 := ((HBK.out.below hb1 hlt0).alloc (.cells #[] 9)).cell
        have HO := Lib.hid (OwnR.none_ (enc := Value.string) w1 w0.heap.size 9 hs1)
        have HBN := Lib.hid (HB1.out.alloc hs1 (.cells #[] 9))
        have HBKN := Lib.hid ((HBK.out.below hb1 hlt0).alloc (.cells #[] 9))
        clear hb1 HC
        go_upto_region 11 with fail
        clear c1 c2
        generalize w1.alloc (.cells #[] 9) = wN at *
        have cN := HBKN.out.cell
        refine wp_region_held_drew (S := fun w' => ∀ i, w'.cell? ⟨w.heap.size, i, none⟩ = (#[.int .i64 3, .int .i64 at_, .int .i64 x.k, .int .i64 x.a, .string x.r, .string x.l, .slice A x.args.length c, .slice B x.input.length d, .slice C x.keep.length e] : Array Value)[i]?) (by kernel_rfl) (HBKN.out.drewN 1).cell (fun hHeld => ?_)
        ((refine held_take 0 25 ?_ rfl (by kernel_rfl) (by kernel_rfl) (by kernel_rfl) rfl (fun _ _ _ _ h => h) rfl ?_ (by assumption) ?_); rotate_left; (intro w hSw; (try dsimp only at hSw); go_simp; (try (with_reducible rfl))); simp only [Act.put, List.setIfInBounds_toArray, List.set_cons_zero, List.set_cons_succ])
        ((refine held_take 1 26 ?_ rfl (by kernel_rfl) (by kernel_rfl) (by kernel_rfl) rfl (fun _ _ _ _ h => h) rfl ?_ (by assumption) ?_); rotate_left; (intro w hSw; (try dsimp only at hSw); go_simp; (try (with_reducible rfl))); simp only [Act.put, List.setIfInBounds_toArray, List.set_cons_zero, List.set_cons_succ])
        ((refine held_take 2 27 ?_ rfl (by kernel_rfl) (by kernel_rfl) (by kernel_rfl) rfl (fun _ _ _ _ h => h) rfl ?_ (by assumption) ?_); rotate_left; (intro w hSw; (try dsimp only at hSw); go_simp; (try (with_reducible rfl))); simp only [Act.put, List.setIfInBounds_toArray, List.set_cons_zero, List.set_cons_succ])
        ((refine held_take 4 29 ?_ rfl (by kernel_rfl) (by kernel_rfl) (by kernel_rfl) rfl (fun _ _ _ _ h => h) rfl ?_ (by assumption) ?_); rotate_left; (intro w hSw; (try dsimp only at hSw); go_simp; (try (with_reducible rfl))); simp only [Act.put, List.setIfInBounds_toArray, List.set_cons_zero, List.set_cons_succ])
        ((refine held_take 5 30 ?_ rfl (by kernel_rfl) (by kernel_rfl) (by kernel_rfl) rfl (fun _ _ _ _ h => h) rfl ?_ (by assumption) ?_); rotate_left; (intro w hSw; (try dsimp only at hSw); go_simp; (try (with_reducible rfl))); simp only [Act.put, List.setIfInBounds_toArray, List.set_cons_zero, List.set_cons_succ])
        ((refine wpAnyH_ready (rs := [3]) (by kernel_rfl) (by simp) ?_); (refine AllReadyH.cons rfl (fun K hK => ?_) AllReadyH.nil); go_simp)
        refine (HWD.out _).mono ?_; rintro e3 w3 ⟨rfl, hb3⟩
        have hbN : Below w0.heap.size w0 (wN.drewN 1) := HBN.out.drew
        have hs3 : w0.heap.size ≤ w3.heap.size := Nat.le_trans hbN.size hb3.size
        have HBK3 := Lib.hid ((HBKN.out.drewN 1).below hb3 (Nat.lt_of_lt_of_le hlt0 hbN.size))
        have HO3 := Lib.hid ((show OwnStrs (wN.drewN 1) w0.heap.size 9 (.slice (some ⟨w1.heap.size, 0, none⟩) 0 0) [] from HO.out).below hb3)
        have HB3 := Lib.hid (hbN.trans (hb3.mono hbN.size))
        clear hb3 hbN HO cN
        refine hK.out _ _ HBK3.out.cell (fun hHeld => ?_)
        clear hK K
        (try simp only [Go.Act.put, List.setIfInBounds_toArray, List.set_cons_zero, List.set_cons_succ])
        ((refine wpAnyH_ready (rs := [6]) (by kernel_rfl) (by simp) ?_); (refine AllReadyH.cons rfl (fun K hK => ?_) AllReadyH.nil); go_simp)
        refine (HDC.out _ (HE.out.1.below HB3.out)).mono ?_; rintro e6 w6 ⟨rfl, hb6⟩
        have hs6 : w0.heap.size ≤ w6.heap.size := Nat.le_trans hs3 hb6.size
        have HBK6 := Lib.hid (HBK3.out.below hb6 (Nat.lt_of_lt_of_le hlt0 hs3))
        have HO6 := Lib.hid (HO3.out.below hb6)
        have HB6 := Lib.hid (HB3.out.trans (hb6.mono hs3))
        clear hb6 HO3
        refine hK.out _ _ HBK6.out.cell (fun hHeld => ?_)
        clear hK K
        (try simp only [Go.Act.put, List.setIfInBounds_toArray, List.set_cons_zero, List.set_cons_succ])
        ((refine wpAnyH_ready (rs := [7]) (by kernel_rfl) (by simp) ?_); (refine AllReadyH.cons rfl (fun K hK => ?_) AllReadyH.nil); go_simp)
        refine hK.out _ _ (HBK6.out.alloc _).cell (fun hHeld => ?_)
        clear hK K
        (try simp only [Go.Act.put, List.setIfInBounds_toArray, List.set_cons_zero, List.set_cons_succ])
        refine wpAnyH_ready (rs := [8]) (by kernel_rfl) (by simp) ?_
        refine AllReadyH.cons rfl (fun K hK => ?_) AllReadyH.nil
        refine step_app2 (enc := Value.string) (by rfl) (.tmp 25) (.tmp 32) 22 9 (by rfl) Tryz.underlying22 rfl (by omega) (fun _ => rfl) infoTxt w6 w0.heap.size _ [] X Y (by rfl) HO6.out (by rfl) (by show 0 ≤ _; omega) hs6 ?_
        intro A3 c3 wz hr8 hb8
        have HOZ := Lib.hid (show OwnStrs wz w0.heap.size 9 (.slice A3 2 c3) ([] ++ [X, Y]) from ⟨⟨_, _, rfl⟩, hr8⟩)
        have HBZ := Lib.hid (HB6.out.trans hb8)
        refine hK.out _ _ (HBK6.out.below hb8 hlt0).cell (fun hHeld => ?_)
        clear hK K hr8 hb8
        (try simp only [Go.Act.put, List.setIfInBounds_toArray, List.set_cons_zero, List.set_cons_succ])
        ((refine held_take 9 3 ?_ rfl (by kernel_rfl) (by kernel_rfl) (by kernel_rfl) rfl (fun _ _ _ _ h => h) rfl ?_ (by assumption) ?_); rotate_left; (intro w hSw; (try dsimp only at hSw); go_simp; (try (with_reducible rfl))); simp only [Act.put, List.setIfInBounds_toArray, List.set_cons_zero, List.set_cons_succ])
        refine wpAnyH_done (by kernel_rfl) ?_ _
        generalize hL : ([] ++ [X, Y] : List ByteArray) = L at *
        clear hHeld hL
        have hbz := HBZ.out
        have hsz2 := hbz.size
        cases hsp : L.all noSp
        · have HCF := Lib.hid (spaces_own HOZ.out (by omega))
          have HF := Lib.hid (show TT = [] by rw [← HTT.out, hsp]; rfl)
          rw [hsp] at HCF
          clear hsp hbz
          go_wp2_with fail
          refine HCF.out.mono ?_; rintro e8 w8 ⟨rfl, hb8⟩
          go_wp2_with fail
          go_ret
          exact ⟨by rw [HF.out]; rfl, HD.out.trans ((HBZ.out.trans (hb8.mono hsz2)).mono (by omega))⟩
        · have HCF := Lib.hid (spaces_own HOZ.out (by omega))
          have HJN := Lib.hid (fun W (hb : Below wz.heap.size wz W) => join_own (HOZ.out.below hb) (by omega) ⟨#[32]⟩ (by have hjl := HJL.out; show (joinW L).length ≤ _; omega))
          have HJE := Lib.hid (show Lib.join (L.map (·.data.toList)) (⟨#[32]⟩ : ByteArray).data.toList = joinW L from rfl)
          rw [HJE.out] at HJN
          have HF := Lib.hid (show TT = joinW L by rw [← HTT.out, hsp]; rfl)
          rw [hsp] at HCF
          clear hsp hbz HJL
          go_wp2_with fail
          refine HCF.out.mono ?_; rintro e8 w8 ⟨rfl, hb8⟩
          have HB8 := Lib.hid hb8
          clear hb8
          go_wp2_with fail
          refine (HJN.out _ HB8.out).mono ?_; rintro e9 w9 ⟨rfl, hb9⟩
          go_wp2_with fail
          go_ret
          exact ⟨by rw [HF.out]; rfl, HD.out.trans ((HBZ.out.trans ((HB8.out.trans (hb9.mono HB8.out.size)).mono hsz2)).mono (by omega))⟩
      · have HSW := Lib.hid (show sitesW 4 at_ x = [] ++ [wLose, decW at_] from rfl)
        have HWD := Lib.hid (fun W => sitesWord_any 4 (by omega) (by omega) W)
        have HWE := Lib.hid (show wordS 4 = wLose from rfl)
        have HDC := Lib.hid (fun W h => decI_any at_ (by omega) (by omega) W h)
        rw [HWE.out] at HWD
        rw [HSW.out] at hn HSM HJL ⊢
        clear hS hK HSW HWE
        generalize wLose = X at *
        generalize decW at_ = Y at *
        generalize hTT : (if ([] ++ [X, Y]).all noSp then joinW ([] ++ [X, Y]) else []) = TT at *
        have HTT := Lib.hid hTT
        clear hTT
        go_enter Tryz.func10, Tryz.ntmps10
        go_wp2_with fail
        generalize w.alloc (.cells #[.int .i64 4, .int .i64 at_, .int .i64 x.k, .int .i64 x.a, .string x.r, .string x.l, .slice A x.args.length c, .slice B x.input.length d, .slice C x.keep.length e] 32) = w0 at *
        have hlt0 : w.heap.size < w0.heap.size := by omega
        refine HC.out.mono ?_; rintro e1 w1 ⟨rfl, hb1⟩
        have hs1 := hb1.size
        have HB1 := Lib.hid hb1
        have c1 := (HBK.out.below hb1 hlt0).cell
        have c2 := ((HBK.out.below hb1 hlt0).alloc (.cells #[] 9)).cell
        have HO := Lib.hid (OwnR.none_ (enc := Value.string) w1 w0.heap.size 9 hs1)
        have HBN := Lib.hid (HB1.out.alloc hs1 (.cells #[] 9))
        have HBKN := Lib.hid ((HBK.out.below hb1 hlt0).alloc (.cells #[] 9))
        clear hb1 HC
        go_upto_region 11 with fail
        clear c1 c2
        generalize w1.alloc (.cells #[] 9) = wN at *
        have cN := HBKN.out.cell
        refine wp_region_held_drew (S := fun w' => ∀ i, w'.cell? ⟨w.heap.size, i, none⟩ = (#[.int .i64 4, .int .i64 at_, .int .i64 x.k, .int .i64 x.a, .string x.r, .string x.l, .slice A x.args.length c, .slice B x.input.length d, .slice C x.keep.length e] : Array Value)[i]?) (by kernel_rfl) (HBKN.out.drewN 1).cell (fun hHeld => ?_)
        ((refine held_take 0 25 ?_ rfl (by kernel_rfl) (by kernel_rfl) (by kernel_rfl) rfl (fun _ _ _ _ h => h) rfl ?_ (by assumption) ?_); rotate_left; (intro w hSw; (try dsimp only at hSw); go_simp; (try (with_reducible rfl))); simp only [Act.put, List.setIfInBounds_toArray, List.set_cons_zero, List.set_cons_succ])
        ((refine held_take 1 26 ?_ rfl (by kernel_rfl) (by kernel_rfl) (by kernel_rfl) rfl (fun _ _ _ _ h => h) rfl ?_ (by assumption) ?_); rotate_left; (intro w hSw; (try dsimp only at hSw); go_simp; (try (with_reducible rfl))); simp only [Act.put, List.setIfInBounds_toArray, List.set_cons_zero, List.set_cons_succ])
        ((refine held_take 2 27 ?_ rfl (by kernel_rfl) (by kernel_rfl) (by kernel_rfl) rfl (fun _ _ _ _ h => h) rfl ?_ (by assumption) ?_); rotate_left; (intro w hSw; (try dsimp only at hSw); go_simp; (try (with_reducible rfl))); simp only [Act.put, List.setIfInBounds_toArray, List.set_cons_zero, List.set_cons_succ])
        ((refine held_take 4 29 ?_ rfl (by kernel_rfl) (by kernel_rfl) (by kernel_rfl) rfl (fun _ _ _ _ h => h) rfl ?_ (by assumption) ?_); rotate_left; (intro w hSw; (try dsimp only at hSw); go_simp; (try (with_reducible rfl))); simp only [Act.put, List.setIfInBounds_toArray, List.set_cons_zero, List.set_cons_succ])
        ((refine held_take 5 30 ?_ rfl (by kernel_rfl) (by kernel_rfl) (by kernel_rfl) rfl (fun _ _ _ _ h => h) rfl ?_ (by assumption) ?_); rotate_left; (intro w hSw; (try dsimp only at hSw); go_simp; (try (with_reducible rfl))); simp only [Act.put, List.setIfInBounds_toArray, List.set_cons_zero, List.set_cons_succ])
        ((refine wpAnyH_ready (rs := [3]) (by kernel_rfl) (by simp) ?_); (refine AllReadyH.cons rfl (fun K hK => ?_) AllReadyH.nil); go_simp)
        refine (HWD.out _).mono ?_; rintro e3 w3 ⟨rfl, hb3⟩
        have hbN : Below w0.heap.size w0 (wN.drewN 1) := HBN.out.drew
        have hs3 : w0.heap.size ≤ w3.heap.size := Nat.le_trans hbN.size hb3.size
        have HBK3 := Lib.hid ((HBKN.out.drewN 1).below hb3 (Nat.lt_of_lt_of_le hlt0 hbN.size))
        have HO3 := Lib.hid ((show OwnStrs (wN.drewN 1) w0.heap.size 9 (.slice (some ⟨w1.heap.size, 0, none⟩) 0 0) [] from HO.out).below hb3)
        have HB3 := Lib.hid (hbN.trans (hb3.mono hbN.size))
        clear hb3 hbN HO cN
        refine hK.out _ _ HBK3.out.cell (fun hHeld => ?_)
        clear hK K
        (try simp only [Go.Act.put, List.setIfInBounds_toArray, List.set_cons_zero, List.set_cons_succ])
        ((refine wpAnyH_ready (rs := [6]) (by kernel_rfl) (by simp) ?_); (refine AllReadyH.cons rfl (fun K hK => ?_) AllReadyH.nil); go_simp)
        refine (HDC.out _ (HE.out.1.below HB3.out)).mono ?_; rintro e6 w6 ⟨rfl, hb6⟩
        have hs6 : w0.heap.size ≤ w6.heap.size := Nat.le_trans hs3 hb6.size
        have HBK6 := Lib.hid (HBK3.out.below hb6 (Nat.lt_of_lt_of_le hlt0 hs3))
        have HO6 := Lib.hid (HO3.out.below hb6)
        have HB6 := Lib.hid (HB3.out.trans (hb6.mono hs3))
        clear hb6 HO3
        refine hK.out _ _ HBK6.out.cell (fun hHeld => ?_)
        clear hK K
        (try simp only [Go.Act.put, List.setIfInBounds_toArray, List.set_cons_zero, List.set_cons_succ])
        ((refine wpAnyH_ready (rs := [7]) (by kernel_rfl) (by simp) ?_); (refine AllReadyH.cons rfl (fun K hK => ?_) AllReadyH.nil); go_simp)
        refine hK.out _ _ (HBK6.out.alloc _).cell (fun hHeld => ?_)
        clear hK K
        (try simp only [Go.Act.put, List.setIfInBounds_toArray, List.set_cons_zero, List.set_cons_succ])
        refine wpAnyH_ready (rs := [8]) (by kernel_rfl) (by simp) ?_
        refine AllReadyH.cons rfl (fun K hK => ?_) AllReadyH.nil
        refine step_app2 (enc := Value.string) (by rfl) (.tmp 25) (.tmp 32) 22 9 (by rfl) Tryz.underlying22 rfl (by omega) (fun _ => rfl) infoTxt w6 w0.heap.size _ [] X Y (by rfl) HO6.out (by rfl) (by show 0 ≤ _; omega) hs6 ?_
        intro A3 c3 wz hr8 hb8
        have HOZ := Lib.hid (show OwnStrs wz w0.heap.size 9 (.slice A3 2 c3) ([] ++ [X, Y]) from ⟨⟨_, _, rfl⟩, hr8⟩)
        have HBZ := Lib.hid (HB6.out.trans hb8)
        refine hK.out _ _ (HBK6.out.below hb8 hlt0).cell (fun hHeld => ?_)
        clear hK K hr8 hb8
        (try simp only [Go.Act.put, List.setIfInBounds_toArray, List.set_cons_zero, List.set_cons_succ])
        ((refine held_take 9 3 ?_ rfl (by kernel_rfl) (by kernel_rfl) (by kernel_rfl) rfl (fun _ _ _ _ h => h) rfl ?_ (by assumption) ?_); rotate_left; (intro w hSw; (try dsimp only at hSw); go_simp; (try (with_reducible rfl))); simp only [Act.put, List.setIfInBounds_toArray, List.set_cons_zero, List.set_cons_succ])
        refine wpAnyH_done (by kernel_rfl) ?_ _
        generalize hL : ([] ++ [X, Y] : List ByteArray) = L at *
        clear hHeld hL
        have hbz := HBZ.out
        have hsz2 := hbz.size
        cases hsp : L.all noSp
        · have HCF := Lib.hid (spaces_own HOZ.out (by omega))
          have HF := Lib.hid (show TT = [] by rw [← HTT.out, hsp]; rfl)
          rw [hsp] at HCF
          clear hsp hbz
          go_wp2_with fail
          refine HCF.out.mono ?_; rintro e8 w8 ⟨rfl, hb8⟩
          go_wp2_with fail
          go_ret
          exact ⟨by rw [HF.out]; rfl, HD.out.trans ((HBZ.out.trans (hb8.mono hsz2)).mono (by omega))⟩
        · have HCF := Lib.hid (spaces_own HOZ.out (by omega))
          have HJN := Lib.hid (fun W (hb : Below wz.heap.size wz W) => join_own (HOZ.out.below hb) (by omega) ⟨#[32]⟩ (by have hjl := HJL.out; show (joinW L).length ≤ _; omega))
          have HJE := Lib.hid (show Lib.join (L.map (·.data.toList)) (⟨#[32]⟩ : ByteArray).data.toList = joinW L from rfl)
          rw [HJE.out] at HJN
          have HF := Lib.hid (show TT = joinW L by rw [← HTT.out, hsp]; rfl)
          rw [hsp] at HCF
          clear hsp hbz HJL
          go_wp2_with fail
          refine HCF.out.mono ?_; rintro e8 w8 ⟨rfl, hb8⟩
          have HB8 := Lib.hid hb8
          clear hb8
          go_wp2_with fail
          refine (HJN.out _ HB8.out).mono ?_; rintro e9 w9 ⟨rfl, hb9⟩
          go_wp2_with fail
          go_ret
          exact ⟨by rw [HF.out]; rfl, HD.out.trans ((HBZ.out.trans ((HB8.out.trans (hb9.mono HB8.out.size)).mono hsz2)).mono (by omega))⟩
      · have HSW := Lib.hid (show sitesW 5 at_ x = [] ++ [wTwice, decW at_] from rfl)
        have HWD := Lib.hid (fun W => sitesWord_any 5 (by omega) (by omega) W)
        have HWE := Lib.hid (show wordS 5 = wTwice from rfl)
        have HDC := Lib.hid (fun W h => decI_any at_ (by omega) (by omega) W h)
        rw [HWE.out] at HWD
        rw [HSW.out] at hn HSM HJL ⊢
        clear hS hK HSW HWE
        generalize wTwice = X at *
        generalize decW at_ = Y at *
        generalize hTT : (if ([] ++ [X, Y]).all noSp then joinW ([] ++ [X, Y]) else []) = TT at *
        have HTT := Lib.hid hTT
        clear hTT
        go_enter Tryz.func10, Tryz.ntmps10
        go_wp2_with fail
        generalize w.alloc (.cells #[.int .i64 5, .int .i64 at_, .int .i64 x.k, .int .i64 x.a, .string x.r, .string x.l, .slice A x.args.length c, .slice B x.input.length d, .slice C x.keep.length e] 32) = w0 at *
        have hlt0 : w.heap.size < w0.heap.size := by omega
        refine HC.out.mono ?_; rintro e1 w1 ⟨rfl, hb1⟩
        have hs1 := hb1.size
        have HB1 := Lib.hid hb1
        have c1 := (HBK.out.below hb1 hlt0).cell
        have c2 := ((HBK.out.below hb1 hlt0).alloc (.cells #[] 9)).cell
        have HO := Lib.hid (OwnR.none_ (enc := Value.string) w1 w0.heap.size 9 hs1)
        have HBN := Lib.hid (HB1.out.alloc hs1 (.cells #[] 9))
        have HBKN := Lib.hid ((HBK.out.below hb1 hlt0).alloc (.cells #[] 9))
        clear hb1 HC
        go_upto_region 11 with fail
        clear c1 c2
        generalize w1.alloc (.cells #[] 9) = wN at *
        have cN := HBKN.out.cell
        refine wp_region_held_drew (S := fun w' => ∀ i, w'.cell? ⟨w.heap.size, i, none⟩ = (#[.int .i64 5, .int .i64 at_, .int .i64 x.k, .int .i64 x.a, .string x.r, .string x.l, .slice A x.args.length c, .slice B x.input.length d, .slice C x.keep.length e] : Array Value)[i]?) (by kernel_rfl) (HBKN.out.drewN 1).cell (fun hHeld => ?_)
        ((refine held_take 0 25 ?_ rfl (by kernel_rfl) (by kernel_rfl) (by kernel_rfl) rfl (fun _ _ _ _ h => h) rfl ?_ (by assumption) ?_); rotate_left; (intro w hSw; (try dsimp only at hSw); go_simp; (try (with_reducible rfl))); simp only [Act.put, List.setIfInBounds_toArray, List.set_cons_zero, List.set_cons_succ])
        ((refine held_take 1 26 ?_ rfl (by kernel_rfl) (by kernel_rfl) (by kernel_rfl) rfl (fun _ _ _ _ h => h) rfl ?_ (by assumption) ?_); rotate_left; (intro w hSw; (try dsimp only at hSw); go_simp; (try (with_reducible rfl))); simp only [Act.put, List.setIfInBounds_toArray, List.set_cons_zero, List.set_cons_succ])
        ((refine held_take 2 27 ?_ rfl (by kernel_rfl) (by kernel_rfl) (by kernel_rfl) rfl (fun _ _ _ _ h => h) rfl ?_ (by assumption) ?_); rotate_left; (intro w hSw; (try dsimp only at hSw); go_simp; (try (with_reducible rfl))); simp only [Act.put, List.setIfInBounds_toArray, List.set_cons_zero, List.set_cons_succ])
        ((refine held_take 4 29 ?_ rfl (by kernel_rfl) (by kernel_rfl) (by kernel_rfl) rfl (fun _ _ _ _ h => h) rfl ?_ (by assumption) ?_); rotate_left; (intro w hSw; (try dsimp only at hSw); go_simp; (try (with_reducible rfl))); simp only [Act.put, List.setIfInBounds_toArray, List.set_cons_zero, List.set_cons_succ])
        ((refine held_take 5 30 ?_ rfl (by kernel_rfl) (by kernel_rfl) (by kernel_rfl) rfl (fun _ _ _ _ h => h) rfl ?_ (by assumption) ?_); rotate_left; (intro w hSw; (try dsimp only at hSw); go_simp; (try (with_reducible rfl))); simp only [Act.put, List.setIfInBounds_toArray, List.set_cons_zero, List.set_cons_succ])
        ((refine wpAnyH_ready (rs := [3]) (by kernel_rfl) (by simp) ?_); (refine AllReadyH.cons rfl (fun K hK => ?_) AllReadyH.nil); go_simp)
        refine (HWD.out _).mono ?_; rintro e3 w3 ⟨rfl, hb3⟩
        have hbN : Below w0.heap.size w0 (wN.drewN 1) := HBN.out.drew
        have hs3 : w0.heap.size ≤ w3.heap.size := Nat.le_trans hbN.size hb3.size
        have HBK3 := Lib.hid ((HBKN.out.drewN 1).below hb3 (Nat.lt_of_lt_of_le hlt0 hbN.size))
        have HO3 := Lib.hid ((show OwnStrs (wN.drewN 1) w0.heap.size 9 (.slice (some ⟨w1.heap.size, 0, none⟩) 0 0) [] from HO.out).below hb3)
        have HB3 := Lib.hid (hbN.trans (hb3.mono hbN.size))
        clear hb3 hbN HO cN
        refine hK.out _ _ HBK3.out.cell (fun hHeld => ?_)
        clear hK K
        (try simp only [Go.Act.put, List.setIfInBounds_toArray, List.set_cons_zero, List.set_cons_succ])
        ((refine wpAnyH_ready (rs := [6]) (by kernel_rfl) (by simp) ?_); (refine AllReadyH.cons rfl (fun K hK => ?_) AllReadyH.nil); go_simp)
        refine (HDC.out _ (HE.out.1.below HB3.out)).mono ?_; rintro e6 w6 ⟨rfl, hb6⟩
        have hs6 : w0.heap.size ≤ w6.heap.size := Nat.le_trans hs3 hb6.size
        have HBK6 := Lib.hid (HBK3.out.below hb6 (Nat.lt_of_lt_of_le hlt0 hs3))
        have HO6 := Lib.hid (HO3.out.below hb6)
        have HB6 := Lib.hid (HB3.out.trans (hb6.mono hs3))
        clear hb6 HO3
        refine hK.out _ _ HBK6.out.cell (fun hHeld => ?_)
        clear hK K
        (try simp only [Go.Act.put, List.setIfInBounds_toArray, List.set_cons_zero, List.set_cons_succ])
        ((refine wpAnyH_ready (rs := [7]) (by kernel_rfl) (by simp) ?_); (refine AllReadyH.cons rfl (fun K hK => ?_) AllReadyH.nil); go_simp)
        refine hK.out _ _ (HBK6.out.alloc _).cell (fun hHeld => ?_)
        clear hK K
        (try simp only [Go.Act.put, List.setIfInBounds_toArray, List.set_cons_zero, List.set_cons_succ])
        refine wpAnyH_ready (rs := [8]) (by kernel_rfl) (by simp) ?_
        refine AllReadyH.cons rfl (fun K hK => ?_) AllReadyH.nil
        refine step_app2 (enc := Value.string) (by rfl) (.tmp 25) (.tmp 32) 22 9 (by rfl) Tryz.underlying22 rfl (by omega) (fun _ => rfl) infoTxt w6 w0.heap.size _ [] X Y (by rfl) HO6.out (by rfl) (by show 0 ≤ _; omega) hs6 ?_
        intro A3 c3 wz hr8 hb8
        have HOZ := Lib.hid (show OwnStrs wz w0.heap.size 9 (.slice A3 2 c3) ([] ++ [X, Y]) from ⟨⟨_, _, rfl⟩, hr8⟩)
        have HBZ := Lib.hid (HB6.out.trans hb8)
        refine hK.out _ _ (HBK6.out.below hb8 hlt0).cell (fun hHeld => ?_)
        clear hK K hr8 hb8
        (try simp only [Go.Act.put, List.setIfInBounds_toArray, List.set_cons_zero, List.set_cons_succ])
        ((refine held_take 9 3 ?_ rfl (by kernel_rfl) (by kernel_rfl) (by kernel_rfl) rfl (fun _ _ _ _ h => h) rfl ?_ (by assumption) ?_); rotate_left; (intro w hSw; (try dsimp only at hSw); go_simp; (try (with_reducible rfl))); simp only [Act.put, List.setIfInBounds_toArray, List.set_cons_zero, List.set_cons_succ])
        refine wpAnyH_done (by kernel_rfl) ?_ _
        generalize hL : ([] ++ [X, Y] : List ByteArray) = L at *
        clear hHeld hL
        have hbz := HBZ.out
        have hsz2 := hbz.size
        cases hsp : L.all noSp
        · have HCF := Lib.hid (spaces_own HOZ.out (by omega))
          have HF := Lib.hid (show TT = [] by rw [← HTT.out, hsp]; rfl)
          rw [hsp] at HCF
          clear hsp hbz
          go_wp2_with fail
          refine HCF.out.mono ?_; rintro e8 w8 ⟨rfl, hb8⟩
          go_wp2_with fail
          go_ret
          exact ⟨by rw [HF.out]; rfl, HD.out.trans ((HBZ.out.trans (hb8.mono hsz2)).mono (by omega))⟩
        · have HCF := Lib.hid (spaces_own HOZ.out (by omega))
          have HJN := Lib.hid (fun W (hb : Below wz.heap.size wz W) => join_own (HOZ.out.below hb) (by omega) ⟨#[32]⟩ (by have hjl := HJL.out; show (joinW L).length ≤ _; omega))
          have HJE := Lib.hid (show Lib.join (L.map (·.data.toList)) (⟨#[32]⟩ : ByteArray).data.toList = joinW L from rfl)
          rw [HJE.out] at HJN
          have HF := Lib.hid (show TT = joinW L by rw [← HTT.out, hsp]; rfl)
          rw [hsp] at HCF
          clear hsp hbz HJL
          go_wp2_with fail
          refine HCF.out.mono ?_; rintro e8 w8 ⟨rfl, hb8⟩
          have HB8 := Lib.hid hb8
          clear hb8
          go_wp2_with fail
          refine (HJN.out _ HB8.out).mono ?_; rintro e9 w9 ⟨rfl, hb9⟩
          go_wp2_with fail
          go_ret
          exact ⟨by rw [HF.out]; rfl, HD.out.trans ((HBZ.out.trans ((HB8.out.trans (hb9.mono HB8.out.size)).mono hsz2)).mono (by omega))⟩
    · rcases hk with rfl | rfl | rfl
      · have HSW := Lib.hid (show sitesW 2 at_ x = [] ++ [wShip] from rfl)
        have HWD := Lib.hid (fun W => sitesWord_any 2 (by omega) (by omega) W)
        have HWE := Lib.hid (show wordS 2 = wShip from rfl)
        rw [HWE.out] at HWD
        rw [HSW.out] at hn HSM HJL ⊢
        clear hS hK HSW HWE
        generalize wShip = X at *
        generalize hTT : (if ([] ++ [X]).all noSp then joinW ([] ++ [X]) else []) = TT at *
        have HTT := Lib.hid hTT
        clear hTT
        go_enter Tryz.func10, Tryz.ntmps10
        go_wp2_with fail
        generalize w.alloc (.cells #[.int .i64 2, .int .i64 at_, .int .i64 x.k, .int .i64 x.a, .string x.r, .string x.l, .slice A x.args.length c, .slice B x.input.length d, .slice C x.keep.length e] 32) = w0 at *
        have hlt0 : w.heap.size < w0.heap.size := by omega
        refine HC.out.mono ?_; rintro e1 w1 ⟨rfl, hb1⟩
        have hs1 := hb1.size
        have HB1 := Lib.hid hb1
        have c1 := (HBK.out.below hb1 hlt0).cell
        have c2 := ((HBK.out.below hb1 hlt0).alloc (.cells #[] 9)).cell
        have HO := Lib.hid (OwnR.none_ (enc := Value.string) w1 w0.heap.size 9 hs1)
        have HBN := Lib.hid (HB1.out.alloc hs1 (.cells #[] 9))
        have HBKN := Lib.hid ((HBK.out.below hb1 hlt0).alloc (.cells #[] 9))
        clear hb1 HC
        go_wp2_with fail
        refine (HWD.out _).mono ?_; rintro e2 w2 ⟨rfl, hb2⟩
        have hs2 : w0.heap.size ≤ w2.heap.size := Nat.le_trans HBN.out.size hb2.size
        have hown2 := HO.out.below hb2
        have HB2 := Lib.hid (HBN.out.trans (hb2.mono HBN.out.size))
        clear hb2 c1 c2
        go_upto_region 12 with (first
          | fail
          | (at_builtin; refine wpList_app1 (enc := Value.string) rfl (.tmp 10) (.tmp 14) 22 9 rfl Tryz.underlying22 rfl (by omega) (fun _ => rfl) infoTxt w2 w0.heap.size _ [] X rfl hown2 rfl (by show 0 ≤ _; omega) hs2 ?_; intro v3 wz hown3 hb3))
        have HOZ := Lib.hid hown3
        have HBZ := Lib.hid (HB2.out.trans hb3)
        generalize hL : ([] ++ [X] : List ByteArray) = L at *
        obtain ⟨A3, c3, rfl⟩ := hown3.1
        clear hown3 hb3 hown2 hL
        have hbz := HBZ.out
        have hsz2 := hbz.size
        cases hsp : L.all noSp
        · have HCF := Lib.hid (spaces_own HOZ.out (by omega))
          have HF := Lib.hid (show TT = [] by rw [← HTT.out, hsp]; rfl)
          rw [hsp] at HCF
          clear hsp hbz
          go_wp2_with fail
          refine HCF.out.mono ?_; rintro e8 w8 ⟨rfl, hb8⟩
          go_wp2_with fail
          go_ret
          exact ⟨by rw [HF.out]; rfl, HD.out.trans ((HBZ.out.trans (hb8.mono hsz2)).mono (by omega))⟩
        · have HCF := Lib.hid (spaces_own HOZ.out (by omega))
          have HJN := Lib.hid (fun W (hb : Below wz.heap.size wz W) => join_own (HOZ.out.below hb) (by omega) ⟨#[32]⟩ (by have hjl := HJL.out; show (joinW L).length ≤ _; omega))
          have HJE := Lib.hid (show Lib.join (L.map (·.data.toList)) (⟨#[32]⟩ : ByteArray).data.toList = joinW L from rfl)
          rw [HJE.out] at HJN
          have HF := Lib.hid (show TT = joinW L by rw [← HTT.out, hsp]; rfl)
          rw [hsp] at HCF
          clear hsp hbz HJL
          go_wp2_with fail
          refine HCF.out.mono ?_; rintro e8 w8 ⟨rfl, hb8⟩
          have HB8 := Lib.hid hb8
          clear hb8
          go_wp2_with fail
          refine (HJN.out _ HB8.out).mono ?_; rintro e9 w9 ⟨rfl, hb9⟩
          go_wp2_with fail
          go_ret
          exact ⟨by rw [HF.out]; rfl, HD.out.trans ((HBZ.out.trans ((HB8.out.trans (hb9.mono HB8.out.size)).mono hsz2)).mono (by omega))⟩
      · have HSW := Lib.hid (show sitesW 6 at_ x = [] ++ [wCopy] from rfl)
        have HWD := Lib.hid (fun W => sitesWord_any 6 (by omega) (by omega) W)
        have HWE := Lib.hid (show wordS 6 = wCopy from rfl)
        rw [HWE.out] at HWD
        rw [HSW.out] at hn HSM HJL ⊢
        clear hS hK HSW HWE
        generalize wCopy = X at *
        generalize hTT : (if ([] ++ [X]).all noSp then joinW ([] ++ [X]) else []) = TT at *
        have HTT := Lib.hid hTT
        clear hTT
        go_enter Tryz.func10, Tryz.ntmps10
        go_wp2_with fail
        generalize w.alloc (.cells #[.int .i64 6, .int .i64 at_, .int .i64 x.k, .int .i64 x.a, .string x.r, .string x.l, .slice A x.args.length c, .slice B x.input.length d, .slice C x.keep.length e] 32) = w0 at *
        have hlt0 : w.heap.size < w0.heap.size := by omega
        refine HC.out.mono ?_; rintro e1 w1 ⟨rfl, hb1⟩
        have hs1 := hb1.size
        have HB1 := Lib.hid hb1
        have c1 := (HBK.out.below hb1 hlt0).cell
        have c2 := ((HBK.out.below hb1 hlt0).alloc (.cells #[] 9)).cell
        have HO := Lib.hid (OwnR.none_ (enc := Value.string) w1 w0.heap.size 9 hs1)
        have HBN := Lib.hid (HB1.out.alloc hs1 (.cells #[] 9))
        have HBKN := Lib.hid ((HBK.out.below hb1 hlt0).alloc (.cells #[] 9))
        clear hb1 HC
        go_wp2_with fail
        refine (HWD.out _).mono ?_; rintro e2 w2 ⟨rfl, hb2⟩
        have hs2 : w0.heap.size ≤ w2.heap.size := Nat.le_trans HBN.out.size hb2.size
        have hown2 := HO.out.below hb2
        have HB2 := Lib.hid (HBN.out.trans (hb2.mono HBN.out.size))
        clear hb2 c1 c2
        go_upto_region 12 with (first
          | fail
          | (at_builtin; refine wpList_app1 (enc := Value.string) rfl (.tmp 10) (.tmp 14) 22 9 rfl Tryz.underlying22 rfl (by omega) (fun _ => rfl) infoTxt w2 w0.heap.size _ [] X rfl hown2 rfl (by show 0 ≤ _; omega) hs2 ?_; intro v3 wz hown3 hb3))
        have HOZ := Lib.hid hown3
        have HBZ := Lib.hid (HB2.out.trans hb3)
        generalize hL : ([] ++ [X] : List ByteArray) = L at *
        obtain ⟨A3, c3, rfl⟩ := hown3.1
        clear hown3 hb3 hown2 hL
        have hbz := HBZ.out
        have hsz2 := hbz.size
        cases hsp : L.all noSp
        · have HCF := Lib.hid (spaces_own HOZ.out (by omega))
          have HF := Lib.hid (show TT = [] by rw [← HTT.out, hsp]; rfl)
          rw [hsp] at HCF
          clear hsp hbz
          go_wp2_with fail
          refine HCF.out.mono ?_; rintro e8 w8 ⟨rfl, hb8⟩
          go_wp2_with fail
          go_ret
          exact ⟨by rw [HF.out]; rfl, HD.out.trans ((HBZ.out.trans (hb8.mono hsz2)).mono (by omega))⟩
        · have HCF := Lib.hid (spaces_own HOZ.out (by omega))
          have HJN := Lib.hid (fun W (hb : Below wz.heap.size wz W) => join_own (HOZ.out.below hb) (by omega) ⟨#[32]⟩ (by have hjl := HJL.out; show (joinW L).length ≤ _; omega))
          have HJE := Lib.hid (show Lib.join (L.map (·.data.toList)) (⟨#[32]⟩ : ByteArray).data.toList = joinW L from rfl)
          rw [HJE.out] at HJN
          have HF := Lib.hid (show TT = joinW L by rw [← HTT.out, hsp]; rfl)
          rw [hsp] at HCF
          clear hsp hbz HJL
          go_wp2_with fail
          refine HCF.out.mono ?_; rintro e8 w8 ⟨rfl, hb8⟩
          have HB8 := Lib.hid hb8
          clear hb8
          go_wp2_with fail
          refine (HJN.out _ HB8.out).mono ?_; rintro e9 w9 ⟨rfl, hb9⟩
          go_wp2_with fail
          go_ret
          exact ⟨by rw [HF.out]; rfl, HD.out.trans ((HBZ.out.trans ((HB8.out.trans (hb9.mono HB8.out.size)).mono hsz2)).mono (by omega))⟩
      · have HSW := Lib.hid (show sitesW 7 at_ x = [] ++ [wSwitch] from rfl)
        have HWD := Lib.hid (fun W => sitesWord_any 7 (by omega) (by omega) W)
        have HWE := Lib.hid (show wordS 7 = wSwitch from rfl)
        rw [HWE.out] at HWD
        rw [HSW.out] at hn HSM HJL ⊢
        clear hS hK HSW HWE
        generalize wSwitch = X at *
        generalize hTT : (if ([] ++ [X]).all noSp then joinW ([] ++ [X]) else []) = TT at *
        have HTT := Lib.hid hTT
        clear hTT
        go_enter Tryz.func10, Tryz.ntmps10
        go_wp2_with fail
        generalize w.alloc (.cells #[.int .i64 7, .int .i64 at_, .int .i64 x.k, .int .i64 x.a, .string x.r, .string x.l, .slice A x.args.length c, .slice B x.input.length d, .slice C x.keep.length e] 32) = w0 at *
        have hlt0 : w.heap.size < w0.heap.size := by omega
        refine HC.out.mono ?_; rintro e1 w1 ⟨rfl, hb1⟩
        have hs1 := hb1.size
        have HB1 := Lib.hid hb1
        have c1 := (HBK.out.below hb1 hlt0).cell
        have c2 := ((HBK.out.below hb1 hlt0).alloc (.cells #[] 9)).cell
        have HO := Lib.hid (OwnR.none_ (enc := Value.string) w1 w0.heap.size 9 hs1)
        have HBN := Lib.hid (HB1.out.alloc hs1 (.cells #[] 9))
        have HBKN := Lib.hid ((HBK.out.below hb1 hlt0).alloc (.cells #[] 9))
        clear hb1 HC
        go_wp2_with fail
        refine (HWD.out _).mono ?_; rintro e2 w2 ⟨rfl, hb2⟩
        have hs2 : w0.heap.size ≤ w2.heap.size := Nat.le_trans HBN.out.size hb2.size
        have hown2 := HO.out.below hb2
        have HB2 := Lib.hid (HBN.out.trans (hb2.mono HBN.out.size))
        clear hb2 c1 c2
        go_upto_region 12 with (first
          | fail
          | (at_builtin; refine wpList_app1 (enc := Value.string) rfl (.tmp 10) (.tmp 14) 22 9 rfl Tryz.underlying22 rfl (by omega) (fun _ => rfl) infoTxt w2 w0.heap.size _ [] X rfl hown2 rfl (by show 0 ≤ _; omega) hs2 ?_; intro v3 wz hown3 hb3))
        have HOZ := Lib.hid hown3
        have HBZ := Lib.hid (HB2.out.trans hb3)
        generalize hL : ([] ++ [X] : List ByteArray) = L at *
        obtain ⟨A3, c3, rfl⟩ := hown3.1
        clear hown3 hb3 hown2 hL
        have hbz := HBZ.out
        have hsz2 := hbz.size
        cases hsp : L.all noSp
        · have HCF := Lib.hid (spaces_own HOZ.out (by omega))
          have HF := Lib.hid (show TT = [] by rw [← HTT.out, hsp]; rfl)
          rw [hsp] at HCF
          clear hsp hbz
          go_wp2_with fail
          refine HCF.out.mono ?_; rintro e8 w8 ⟨rfl, hb8⟩
          go_wp2_with fail
          go_ret
          exact ⟨by rw [HF.out]; rfl, HD.out.trans ((HBZ.out.trans (hb8.mono hsz2)).mono (by omega))⟩
        · have HCF := Lib.hid (spaces_own HOZ.out (by omega))
          have HJN := Lib.hid (fun W (hb : Below wz.heap.size wz W) => join_own (HOZ.out.below hb) (by omega) ⟨#[32]⟩ (by have hjl := HJL.out; show (joinW L).length ≤ _; omega))
          have HJE := Lib.hid (show Lib.join (L.map (·.data.toList)) (⟨#[32]⟩ : ByteArray).data.toList = joinW L from rfl)
          rw [HJE.out] at HJN
          have HF := Lib.hid (show TT = joinW L by rw [← HTT.out, hsp]; rfl)
          rw [hsp] at HCF
          clear hsp hbz HJL
          go_wp2_with fail
          refine HCF.out.mono ?_; rintro e8 w8 ⟨rfl, hb8⟩
          have HB8 := Lib.hid hb8
          clear hb8
          go_wp2_with fail
          refine (HJN.out _ HB8.out).mono ?_; rintro e9 w9 ⟨rfl, hb9⟩
          go_wp2_with fail
          go_ret
          exact ⟨by rw [HF.out]; rfl, HD.out.trans ((HBZ.out.trans ((HB8.out.trans (hb9.mono HB8.out.size)).mono hsz2)).mono (by omega))⟩
end Go.Proofs.YtcjaaknnfohllaaGreatDoor
