/- Putting a node to its place, by the reference: l03At walked. -/
import Derived.Test.YtfibjcaidnofmaaGreatDoorJoinITBq
namespace Go.Proofs.YtfibjcaidnofmaaGreatDoor
open Go.RowKit

theorem bytes_same {a b : ByteArray} (h : a = b) : (a.toList == b.toList) = true := by subst h; simp
theorem bytes_other {a b : ByteArray} (h : a ≠ b) : (a.toList == b.toList) = false := by
  rw [beq_eq_false_iff_ne]
  intro e
  rw [ByteArray.toList_eq, ByteArray.toList_eq] at e
  refine h ?_
  cases a; cases b
  congr 1
  exact Array.toList_inj.1 e
theorem sameB_key (a b : ByteArray) (x y : List ByteArray) : (if a = b then sameB x y else false) = decide ((a, x) = (b, y)) := by
  by_cases h : a = b
  · subst h
    rw [if_pos rfl]
    unfold sameB
    by_cases h2 : x = y
    · subst h2; simp
    · rw [@decide_eq_false _ (Classical.propDecidable _) h2, decide_eq_false (fun e => h2 (by injection e))]
  · rw [if_neg h, decide_eq_false (fun e => h (by injection e))]

set_option maxHeartbeats 8000000 in
set_option maxRecDepth 100000 in
theorem l03At_any (A : Option Addr) (c lo hi : Nat) (ts : List TyNode) (nm : ByteArray) (B : Option Addr) (d lo' hi' : Nat) (ys : List ByteArray) (w : World) (h : RowG shNode w lo hi A ts) (hy : StrR w lo' hi' B ys.length ys) (hhi : hi ≤ w.heap.size) (hhi' : hi' ≤ w.heap.size) (hs : SmT ts)
    (hys : ys.length ≤ 1048576 ∧ ∀ y ∈ ys, y.size ≤ 1048576) :
    Calls Tryz.prog 53 #[.agg #[.slice A ts.length c], .string nm, .slice B ys.length d] w fun e w' => e = .returned (.tuple #[.int .i64 (atK ts (nm, ys) : Nat), .bool (hasK ts (nm, ys))]) ∧ Below w.heap.size w w' := by
  have hn := hs.1
  have hyn := hys.1
  have HS := Lib.hid hs.2
  have HYS := Lib.hid hys.2
  have HR := Lib.hid (show (Sh.row 32 shNode).R w lo hi [.slice A ts.length c] ts from ⟨A, c, rfl, h⟩)
  have HY := Lib.hid hy
  have hb := (Below.refl w.heap.size w).alloc (Nat.le_refl _) (.cells #[.slice A ts.length c] 26)
  have HBK := Lib.hid (Blk.new w 26 #[.slice A ts.length c])
  have HB := Lib.hid hb
  have HAT := Lib.hid (fun k => at_is (ts := ts) (key := (nm, ys)) (k := k))
  generalize atK ts (nm, ys) = AT at *
  generalize hasK ts (nm, ys) = HAS at *
  clear hs hys h hb hy
  go_enter Tryz.func53, Tryz.ntmps53
  go_wp2_with fail
  generalize w.alloc (.cells #[.slice A ts.length c] 26) = wa at *
  go_loopw [8] (fun i wr => ∃ (k : Nat), k ≤ ts.length ∧ i = .int .i64 k ∧ Hid (∀ j x, j < k → ts[j]? = some x → befK (nm, ys) x = true) ∧ Below wa.heap.size wa wr) (fun i _ => ts.length - (intOf i).toNat)
  case atStart => exact ⟨0, Nat.zero_le _, rfl, (fun j x hj => absurd hj (by omega)), Below.refl _ _⟩
  case round =>
    obtain ⟨k, hk, rfl, HLO, hb⟩ := hrel
    have hwa : w.heap.size ≤ wa.heap.size := HB.out.size
    have hpl : w.heap.size < wa.heap.size := HBK.out.lt
    by_cases hlt : k < ts.length
    · have hbw := HB.out.trans (hb.mono hwa)
      obtain ⟨-, b, off, rfl, hb1, hb2, A1, c1, e100, e101, e102, hX⟩ := shNode_at ((Sh.row 32 shNode).R_below HR.out hbw hhi) hlt
      have HX := Lib.hid (HS.out _ (getD_in (d := shNode.d) hlt))
      have hXk : ts[k]? = some (ts.getD k shNode.d) := by rw [List.getD_eq_getElem?_getD, List.getElem?_eq_getElem hlt]; rfl
      generalize ts.getD k shNode.d = X at *
      obtain ⟨y0, y1, y2⟩ := X
      dsimp only at e100 e101 e102
      have HXK := Lib.hid hXk
      have hn1 : y1.length ≤ 1048576 := HX.out.1
      have hszr := hb.size
      have HBD := Lib.hid (show Below wa.heap.size wa wr.drew from hb.trans (below_drewN' wr 1 |>.mono hszr))
      have HST := Lib.hid (show StrR wr.drew lo hi A1 y1.length y1 from (shNode_str1 hX).below (below_drewN' wr 1) (by omega))
      have HYD := Lib.hid (show StrR wr.drew lo' hi' B ys.length ys from (HY.out.below hbw hhi').below (below_drewN' wr 1) (by omega))
      have HC := Lib.hid (show (∀ i, wr.drew.cell? ⟨w.heap.size, i, none⟩ = (#[.slice (some ⟨b, off, none⟩) ts.length c] : Array Value)[i]?) ∧ wr.drew.cell? ⟨b, off + k * 3, none⟩ = some (.string y0) ∧ wr.drew.cell? ⟨b, off + k * 3 + 1, none⟩ = some (.slice A1 y1.length c1) from ⟨((HBK.out.below hb hpl).drewN 1).cell, e100, e101⟩)
      have hszd : wa.heap.size ≤ wr.drew.heap.size := hszr
      clear hX hb hbw e100 e101 e102 hXk
      go_wp2_with fail
      refine AnyT.region (fun _ => false) (fun W => (∀ i, W.cell? ⟨w.heap.size, i, none⟩ = (#[.slice (some ⟨b, off, none⟩) ts.length c] : Array Value)[i]?) ∧ W.cell? ⟨b, off + k * 3, none⟩ = some (.string y0) ∧ W.cell? ⟨b, off + k * 3 + 1, none⟩ = some (.slice A1 y1.length c1)) (by kernel_rfl) HC.out (fun hHeld => ?_)
      generalize wr.drew = w4 at *
      ((refine AnyT.takeAny 0 9 ?_ rfl (by kernel_rfl) (by kernel_rfl) (by kernel_rfl) rfl rfl (fun _ _ _ _ h => h) rfl ?_ (by assumption) ?_); rotate_left; (intro w; go_simp; (try (with_reducible rfl))); simp only [Act.put, List.setIfInBounds_toArray, List.set_cons_zero, List.set_cons_succ])
      ((refine AnyT.takeAny 1 10 ?_ rfl (by kernel_rfl) (by kernel_rfl) (by kernel_rfl) rfl rfl (fun _ _ _ _ h => h) rfl ?_ (by assumption) ?_); rotate_left; (intro w; go_simp; (try (with_reducible rfl))); simp only [Act.put, List.setIfInBounds_toArray, List.set_cons_zero, List.set_cons_succ])
      ((refine AnyT.take 2 11 ?_ rfl (by kernel_rfl) (by kernel_rfl) (by kernel_rfl) (by kernel_rfl) rfl (by kernel_rfl) rfl (fun _ _ _ _ h => h) rfl ?_ (by assumption) ?_); rotate_left; (intro w hSw; (try dsimp only at hSw); go_simp; (try (with_reducible rfl))); simp only [Act.put, List.setIfInBounds_toArray, List.set_cons_zero, List.set_cons_succ])
      ((refine AnyT.takeAny 3 12 ?_ rfl (by kernel_rfl) (by kernel_rfl) (by kernel_rfl) rfl rfl (fun _ _ _ _ h => h) rfl ?_ (by assumption) ?_); rotate_left; (intro w; go_simp; (try (with_reducible rfl))); simp only [Act.put, List.setIfInBounds_toArray, List.set_cons_zero, List.set_cons_succ])
      ((refine AnyT.takeAny 4 13 ?_ rfl (by kernel_rfl) (by kernel_rfl) (by kernel_rfl) rfl rfl (fun _ _ _ _ h => h) rfl ?_ (by assumption) ?_); rotate_left; (intro w; go_simp; (try (with_reducible rfl))); simp only [Act.put, List.setIfInBounds_toArray, List.set_cons_zero, List.set_cons_succ])
      ((refine AnyT.takeAny 5 14 ?_ rfl (by kernel_rfl) (by kernel_rfl) (by kernel_rfl) rfl rfl (fun _ _ _ _ h => h) rfl ?_ (by assumption) ?_); rotate_left; (intro w; go_simp; (try (with_reducible rfl))); simp only [Act.put, List.setIfInBounds_toArray, List.set_cons_zero, List.set_cons_succ])
      ((refine AnyT.takeAny 6 15 ?_ rfl (by kernel_rfl) (by kernel_rfl) (by kernel_rfl) rfl rfl (fun _ _ _ _ h => h) rfl ?_ (by assumption) ?_); rotate_left; (intro w; go_simp; (try (with_reducible rfl))); simp only [Act.put, List.setIfInBounds_toArray, List.set_cons_zero, List.set_cons_succ])
      ((refine AnyT.take 7 16 ?_ rfl (by kernel_rfl) (by kernel_rfl) (by kernel_rfl) (by kernel_rfl) rfl (by kernel_rfl) rfl (fun _ _ _ _ h => h) rfl ?_ (by assumption) ?_); rotate_left; (intro w hSw; (try dsimp only at hSw); go_simp; (try (with_reducible rfl))); simp only [Act.put, List.setIfInBounds_toArray, List.set_cons_zero, List.set_cons_succ])
      ((refine AnyT.takeAny 8 17 ?_ rfl (by kernel_rfl) (by kernel_rfl) (by kernel_rfl) rfl rfl (fun _ _ _ _ h => h) rfl ?_ (by assumption) ?_); rotate_left; (intro w; go_simp; (try (with_reducible rfl))); simp only [Act.put, List.setIfInBounds_toArray, List.set_cons_zero, List.set_cons_succ])
      ((refine AnyT.takeAny 9 18 ?_ rfl (by kernel_rfl) (by kernel_rfl) (by kernel_rfl) rfl rfl (fun _ _ _ _ h => h) rfl ?_ (by assumption) ?_); rotate_left; (intro w; go_simp; (try (with_reducible rfl))); simp only [Act.put, List.setIfInBounds_toArray, List.set_cons_zero, List.set_cons_succ])
      ((refine AnyT.takeAny 10 19 ?_ rfl (by kernel_rfl) (by kernel_rfl) (by kernel_rfl) rfl rfl (fun _ _ _ _ h => h) rfl ?_ (by assumption) ?_); rotate_left; (intro w; go_simp; (try (with_reducible rfl))); simp only [Act.put, List.setIfInBounds_toArray, List.set_cons_zero, List.set_cons_succ])
      ((refine AnyT.take 11 20 ?_ rfl (by kernel_rfl) (by kernel_rfl) (by kernel_rfl) (by kernel_rfl) rfl (by kernel_rfl) rfl (fun _ _ _ _ h => h) rfl ?_ (by assumption) ?_); rotate_left; (intro w hSw; (try dsimp only at hSw); go_simp; (try (with_reducible rfl))); simp only [Act.put, List.setIfInBounds_toArray, List.set_cons_zero, List.set_cons_succ])
      ((refine AnyT.takeAny 12 21 ?_ rfl (by kernel_rfl) (by kernel_rfl) (by kernel_rfl) rfl rfl (fun _ _ _ _ h => h) rfl ?_ (by assumption) ?_); rotate_left; (intro w; go_simp; (try (with_reducible rfl))); simp only [Act.put, List.setIfInBounds_toArray, List.set_cons_zero, List.set_cons_succ])
      ((refine AnyT.take 13 22 ?_ rfl (by kernel_rfl) (by kernel_rfl) (by kernel_rfl) (by kernel_rfl) rfl (by kernel_rfl) rfl (fun _ _ _ _ h => h) rfl ?_ (by assumption) ?_); rotate_left; (intro w hSw; (try dsimp only at hSw); go_simp; (try (with_reducible rfl))); simp only [Act.put, List.setIfInBounds_toArray, List.set_cons_zero, List.set_cons_succ])
      ((refine AnyT.takeAny 14 23 ?_ rfl (by kernel_rfl) (by kernel_rfl) (by kernel_rfl) rfl rfl (fun _ _ _ _ h => h) rfl ?_ (by assumption) ?_); rotate_left; (intro w; go_simp; (try (with_reducible rfl))); simp only [Act.put, List.setIfInBounds_toArray, List.set_cons_zero, List.set_cons_succ])
      ((refine AnyT.takeAny 15 24 ?_ rfl (by kernel_rfl) (by kernel_rfl) (by kernel_rfl) rfl rfl (fun _ _ _ _ h => h) rfl ?_ (by assumption) ?_); rotate_left; (intro w; go_simp; (try (with_reducible rfl))); simp only [Act.put, List.setIfInBounds_toArray, List.set_cons_zero, List.set_cons_succ])
      ((refine AnyT.takeAny 16 25 ?_ rfl (by kernel_rfl) (by kernel_rfl) (by kernel_rfl) rfl rfl (fun _ _ _ _ h => h) rfl ?_ (by assumption) ?_); rotate_left; (intro w; go_simp; (try (with_reducible rfl))); simp only [Act.put, List.setIfInBounds_toArray, List.set_cons_zero, List.set_cons_succ])
      ((refine AnyT.take 17 26 ?_ rfl (by kernel_rfl) (by kernel_rfl) (by kernel_rfl) (by kernel_rfl) rfl (by kernel_rfl) rfl (fun _ _ _ _ h => h) rfl ?_ (by assumption) ?_); rotate_left; (intro w hSw; (try dsimp only at hSw); go_simp; (try (with_reducible rfl))); simp only [Act.put, List.setIfInBounds_toArray, List.set_cons_zero, List.set_cons_succ])
      ((refine AnyT.takeAny 18 27 ?_ rfl (by kernel_rfl) (by kernel_rfl) (by kernel_rfl) rfl rfl (fun _ _ _ _ h => h) rfl ?_ (by assumption) ?_); rotate_left; (intro w; go_simp; (try (with_reducible rfl))); simp only [Act.put, List.setIfInBounds_toArray, List.set_cons_zero, List.set_cons_succ])
      ((refine AnyT.takeAny 19 28 ?_ rfl (by kernel_rfl) (by kernel_rfl) (by kernel_rfl) rfl rfl (fun _ _ _ _ h => h) rfl ?_ (by assumption) ?_); rotate_left; (intro w; go_simp; (try (with_reducible rfl))); simp only [Act.put, List.setIfInBounds_toArray, List.set_cons_zero, List.set_cons_succ])
      ((refine AnyT.one (i := 20) (by kernel_rfl) rfl (fun K hK => ?_)))
      go_simp
      refine (l03Less_any y0 nm A1 B y1.length ys.length c1 d lo hi lo' hi' y1 ys w4 HST.out HYD.out (by omega) (by omega) hn1 hyn HX.out.2 HYS.out).mono ?_
      rintro e5 w5 ⟨rfl, hb5⟩
      go_simp
      have hs5 := hb5.size
      have HBD5 := Lib.hid (HBD.out.trans (hb5.mono hszd))
      have hbl : b < w4.heap.size := by omega
      have hpl4 : w.heap.size < w4.heap.size := by omega
      have HC5 := Lib.hid (show (∀ i, w5.cell? ⟨w.heap.size, i, none⟩ = (#[.slice (some ⟨b, off, none⟩) ts.length c] : Array Value)[i]?) ∧ w5.cell? ⟨b, off + k * 3, none⟩ = some (.string y0) ∧ w5.cell? ⟨b, off + k * 3 + 1, none⟩ = some (.slice A1 y1.length c1) from
        ⟨fun i => (hb5.cell (p := ⟨w.heap.size, i, none⟩) hpl4).trans (HC.out.1 i), (hb5.cell (p := ⟨b, _, none⟩) hbl).trans HC.out.2.1, (hb5.cell (p := ⟨b, _, none⟩) hbl).trans HC.out.2.2⟩)
      have HS5 := Lib.hid (HST.out.below hb5 (by omega))
      have HY5 := Lib.hid (HYD.out.below hb5 (by omega))
      refine hK.out _ _ HC5.out (fun hHeld => ?_)
      clear hK K hb5
      (try simp only [Act.put, List.setIfInBounds_toArray, List.set_cons_zero, List.set_cons_succ])
      cases hL : befLoc y0 y1 nm ys with
      | true =>
        have HLO2 := Lib.hid (show ∀ j x, j < k + 1 → ts[j]? = some x → befK (nm, ys) x = true from fun j x hj hx => by
          rcases Nat.lt_or_ge j k with hjk | hjk
          · exact HLO.out j x hjk hx
          · obtain rfl : j = k := by omega
            rw [HXK.out] at hx
            injection hx with hx
            subst hx; exact hL)
        clear hL
        ((refine AnyT.takeAny 21 30 ?_ rfl (by kernel_rfl) (by kernel_rfl) (by kernel_rfl) rfl rfl (fun _ _ _ _ h => h) rfl ?_ (by assumption) ?_); rotate_left; (intro w; go_simp; (try (with_reducible rfl))); simp only [Act.put, List.setIfInBounds_toArray, List.set_cons_zero, List.set_cons_succ])
        refine AnyT.done (by kernel_rfl) ?_ _
        clear hHeld
        go_wp2_with fail
        go_roundw
        case rel => exact ⟨k + 1, by omega, by go_num, HLO2, HBD5.out⟩
        case measure => simp [intOf]; omega
      | false =>
        obtain ⟨a1, a2⟩ := HAT.out k HLO.out (fun x hx => by rw [HXK.out] at hx; injection hx with hx; subst hx; exact hL) hk
        rw [HXK.out] at a2
        have HA2 := Lib.hid (a2.trans (sameB_key y0 nm y1 ys).symm)
        have HA1 := Lib.hid a1
        clear hL a1 a2
        ((refine AnyT.takeAny 21 30 ?_ rfl (by kernel_rfl) (by kernel_rfl) (by kernel_rfl) rfl rfl (fun _ _ _ _ h => h) rfl ?_ (by assumption) ?_); rotate_left; (intro w; go_simp; (try (with_reducible rfl))); simp only [Act.put, List.setIfInBounds_toArray, List.set_cons_zero, List.set_cons_succ])
        refine AnyT.done (by kernel_rfl) ?_ _
        clear hHeld
        obtain ⟨f1, f2, f3⟩ := HC5.out
        have HBW := Lib.hid (HB.out.trans (HBD5.out.mono hwa))
        by_cases hnm : y0 = nm
        · have hq := bytes_same hnm
          have HA3 := Lib.hid (HA2.out.trans (if_pos hnm))
          clear hnm
          go_wp2_with fail
          refine (sameSubs_n A1 B c1 d y1 ys lo hi lo' hi' w5 HS5.out HY5.out (by omega) (by omega) hn1 hyn).mono ?_
          rintro e6 w6 ⟨rfl, hb6⟩
          have HB6 := Lib.hid (HBW.out.trans (hb6.mono HBW.out.size))
          clear hb6
          go_wp2_with fail
          go_ret2
          exact ⟨by rw [HA1.out, HA3.out]; rfl, HB6.out⟩
        · have hq := bytes_other hnm
          have HA3 := Lib.hid (HA2.out.trans (if_neg hnm))
          clear hnm
          go_wp2_with fail
          go_ret2
          exact ⟨by rw [HA1.out, HA3.out]; rfl, HBW.out⟩
    · obtain rfl : k = ts.length := by omega
      obtain ⟨a1, a2⟩ := HAT.out ts.length HLO.out (fun x hx => by rw [List.getElem?_eq_none (Nat.le_refl _)] at hx; cases hx) (Nat.le_refl _)
      rw [List.getElem?_eq_none (Nat.le_refl _)] at a2
      have HA1 := Lib.hid a1
      have HA2 := Lib.hid a2
      have hszr := hb.size
      have HBW := Lib.hid (show Below w.heap.size w wr.drew from HB.out.trans ((hb.trans (below_drewN' wr 1 |>.mono hszr)).mono hwa))
      have HC := Lib.hid (show (∀ i, wr.drew.cell? ⟨w.heap.size, i, none⟩ = (#[.slice A ts.length c] : Array Value)[i]?) from ((HBK.out.below hb hpl).drewN 1).cell)
      clear hb a1 a2
      go_wp2_with fail
      refine AnyT.region (fun _ => false) (fun W => (∀ i, W.cell? ⟨w.heap.size, i, none⟩ = (#[.slice A ts.length c] : Array Value)[i]?)) (by kernel_rfl) HC.out (fun hHeld => ?_)
      generalize wr.drew = w4 at *
      ((refine AnyT.takeAny 0 9 ?_ rfl (by kernel_rfl) (by kernel_rfl) (by kernel_rfl) rfl rfl (fun _ _ _ _ h => h) rfl ?_ (by assumption) ?_); rotate_left; (intro w; go_simp; (try (with_reducible rfl))); simp only [Act.put, List.setIfInBounds_toArray, List.set_cons_zero, List.set_cons_succ])
      ((refine AnyT.takeAny 1 10 ?_ rfl (by kernel_rfl) (by kernel_rfl) (by kernel_rfl) rfl rfl (fun _ _ _ _ h => h) rfl ?_ (by assumption) ?_); rotate_left; (intro w; go_simp; (try (with_reducible rfl))); simp only [Act.put, List.setIfInBounds_toArray, List.set_cons_zero, List.set_cons_succ])
      ((refine AnyT.take 2 11 ?_ rfl (by kernel_rfl) (by kernel_rfl) (by kernel_rfl) (by kernel_rfl) rfl (by kernel_rfl) rfl (fun _ _ _ _ h => h) rfl ?_ (by assumption) ?_); rotate_left; (intro w hSw; (try dsimp only at hSw); go_simp; (try (with_reducible rfl))); simp only [Act.put, List.setIfInBounds_toArray, List.set_cons_zero, List.set_cons_succ])
      ((refine AnyT.takeAny 3 12 ?_ rfl (by kernel_rfl) (by kernel_rfl) (by kernel_rfl) rfl rfl (fun _ _ _ _ h => h) rfl ?_ (by assumption) ?_); rotate_left; (intro w; go_simp; (try (with_reducible rfl))); simp only [Act.put, List.setIfInBounds_toArray, List.set_cons_zero, List.set_cons_succ])
      ((refine AnyT.takeAny 4 13 ?_ rfl (by kernel_rfl) (by kernel_rfl) (by kernel_rfl) rfl rfl (fun _ _ _ _ h => h) rfl ?_ (by assumption) ?_); rotate_left; (intro w; go_simp; (try (with_reducible rfl))); simp only [Act.put, List.setIfInBounds_toArray, List.set_cons_zero, List.set_cons_succ])
      ((refine AnyT.takeAny 5 14 ?_ rfl (by kernel_rfl) (by kernel_rfl) (by kernel_rfl) rfl rfl (fun _ _ _ _ h => h) rfl ?_ (by assumption) ?_); rotate_left; (intro w; go_simp; (try (with_reducible rfl))); simp only [Act.put, List.setIfInBounds_toArray, List.set_cons_zero, List.set_cons_succ])
      refine AnyT.sk 6 15 ?_
      simp only [Act.put, List.setIfInBounds_toArray, List.set_cons_zero, List.set_cons_succ]
      refine AnyT.sk 7 16 ?_
      simp only [Act.put, List.setIfInBounds_toArray, List.set_cons_zero, List.set_cons_succ]
      refine AnyT.sk 8 17 ?_
      simp only [Act.put, List.setIfInBounds_toArray, List.set_cons_zero, List.set_cons_succ]
      refine AnyT.sk 9 18 ?_
      simp only [Act.put, List.setIfInBounds_toArray, List.set_cons_zero, List.set_cons_succ]
      refine AnyT.sk 10 19 ?_
      simp only [Act.put, List.setIfInBounds_toArray, List.set_cons_zero, List.set_cons_succ]
      refine AnyT.sk 11 20 ?_
      simp only [Act.put, List.setIfInBounds_toArray, List.set_cons_zero, List.set_cons_succ]
      refine AnyT.sk 12 21 ?_
      simp only [Act.put, List.setIfInBounds_toArray, List.set_cons_zero, List.set_cons_succ]
      refine AnyT.sk 13 22 ?_
      simp only [Act.put, List.setIfInBounds_toArray, List.set_cons_zero, List.set_cons_succ]
      refine AnyT.sk 14 23 ?_
      simp only [Act.put, List.setIfInBounds_toArray, List.set_cons_zero, List.set_cons_succ]
      refine AnyT.sk 15 24 ?_
      simp only [Act.put, List.setIfInBounds_toArray, List.set_cons_zero, List.set_cons_succ]
      refine AnyT.sk 16 25 ?_
      simp only [Act.put, List.setIfInBounds_toArray, List.set_cons_zero, List.set_cons_succ]
      refine AnyT.sk 17 26 ?_
      simp only [Act.put, List.setIfInBounds_toArray, List.set_cons_zero, List.set_cons_succ]
      refine AnyT.sk 18 27 ?_
      simp only [Act.put, List.setIfInBounds_toArray, List.set_cons_zero, List.set_cons_succ]
      refine AnyT.sk 19 28 ?_
      simp only [Act.put, List.setIfInBounds_toArray, List.set_cons_zero, List.set_cons_succ]
      refine AnyT.sk 20 29 ?_
      simp only [Act.put, List.setIfInBounds_toArray, List.set_cons_zero, List.set_cons_succ]
      ((refine AnyT.takeAny 21 30 ?_ rfl (by kernel_rfl) (by kernel_rfl) (by kernel_rfl) rfl rfl (fun _ _ _ _ h => h) rfl ?_ (by assumption) ?_); rotate_left; (intro w; go_simp; (try (with_reducible rfl))); simp only [Act.put, List.setIfInBounds_toArray, List.set_cons_zero, List.set_cons_succ])
      refine AnyT.done (by kernel_rfl) ?_ _
      clear hHeld
      have f1 := HC.out
      go_wp2_with fail
      go_ret2
      exact ⟨by rw [HA1.out, HA2.out]; rfl, HBW.out⟩

end Go.Proofs.YtfibjcaidnofmaaGreatDoor

