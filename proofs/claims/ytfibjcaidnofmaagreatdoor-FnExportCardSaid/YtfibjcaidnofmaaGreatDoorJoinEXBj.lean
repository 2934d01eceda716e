/- Putting a node to its place, by the reference: l03At walked. -/
import Derived.Test.YtfibjcaidnofmaaGreatDoorJoinEXBh
namespace Go.Proofs.YtfibjcaidnofmaaGreatDoor
open Go.RowKit

theorem bytes_same {a b : ByteArray} (h : a = b) : (a.toList == b.toList) = true := by subst h; simp
theorem bytes_other {a b : ByteArray} (h : a ≠ b) : (a.toList == b.toList) = false := by
  rw [beq_eq_false_iff_ne]
  intro e
  rw [ByteArray.toList_eq, ByteArray.toList_eq] at e
  refine h ?_
  cases a; cases b
  congr 1
  exact Array.toList_inj.1 e
theorem sameB_key (a b : ByteArray) (x y : List ByteArray) : (if a = b then sameB x y else false) = decide ((a, x) = (b, y)) := by
  by_cases h : a = b
  · subst h
    rw [if_pos rfl]
    unfold sameB
    by_cases h2 : x = y
    · subst h2; simp
    · rw [@decide_eq_false _ (Classical.propDecidable _) h2, decide_eq_false (fun e => h2 (by injection e))]
  · rw [if_neg h, decide_eq_false (fun e => h (by injection e))]

set_option maxHeartbeats 8000000 in
set_option maxRecDepth 100000 in
theorem l03At_any (A : Option Addr) (c lo hi : Nat) (ts : List TyNode) (nm : ByteArray) (B : Option Addr) (d lo' hi' : Nat) (ys : List ByteArray) (w : World) (h : RowG shNode w lo hi A ts) (hy : StrR w lo' hi' B ys.length ys) (hhi : hi ≤ w.heap.size) (hhi' : hi' ≤ w.heap.size) (hs : SmT ts)
    (hys : ys.length ≤ 1048576 ∧ ∀ y ∈ ys, y.size ≤ 1048576) :
    Calls Tryz.prog 53 #[.agg #[.slice A ts.length c], .string nm, .slice B ys.length d] w fun e w' => e = .returned (.tuple #[.int .i64 (atK ts (nm, ys) : Nat), .bool (hasK ts (nm, ys))]) ∧ Below w.heap.size w w' := by
  have hn := hs.1
  have hyn := hys.1
  have HS := Lib.hid hs.2
  have HYS := Lib.hid hys.2
  have HR := Lib.hid (show (Sh.row 32 shNode).R w lo hi [.slice A ts.length c] ts from ⟨A, c, rfl, h⟩)
  have HY := Lib.hid hy
  have hb := (Below.refl w.heap.size w).alloc (Nat.le_refl _) (.cells #[.slice A ts.length c] 26)
  have HBK := Lib.hid (Blk.new w 26 #[.slice A ts.length c])
  have HB := Lib.hid hb
  have HAT := Lib.hid (fun k => at_is (ts := ts) (key := (nm, ys)) (k := k))
  generalize atK ts (nm, ys) = AT at *
  generalize hasK ts (nm, ys) = HAS at *
  clear hs hys h hb hy
  go_enter Tryz.func53, Tryz.ntmps53
  go_wp2_with fail
  generalize w.alloc (.cells #[.slice A ts.length c] 26) = wa at *
  go_loopw [8] (fun i wr => ∃ (k : Nat), k ≤ ts.length ∧ i = .int .i64 k ∧ Hid (∀ j x, j < k → ts[j]? = some x → befK (nm, ys) x = true) ∧ Below wa.heap.size wa wr) (fun i _ => ts.length - (intOf i).toNat)
  case atStart => exact ⟨0, Nat.zero_le _, rfl, (fun j x hj => absurd hj (by omega)), Below.refl _ _⟩
  case round =>
    obtain ⟨k, hk, rfl, HLO, hb⟩ := hrel
    have hwa : w.heap.size ≤ wa.heap.size := HB.out.size
    have hpl : w.heap.size < wa.heap.size := HBK.out.lt
    by_cases hlt : k < ts.length
    · have hbw := HB.out.trans (hb.mono hwa)
      obtain ⟨-, b, off, rfl, hb1, hb2, A1, c1, e100, e101, e102, hX⟩ := shNode_at ((Sh.row 32 shNode).R_below HR.out hbw hhi) hlt
      have HX := Lib.hid (HS.out _ (getD_in (d := shNode.d) hlt))
      have hXk : ts[k]? = some (ts.getD k shNode.d) := by rw [List.getD_eq_getElem?_getD, List.getElem?_eq_getElem hlt]; rfl
      generalize ts.getD k shNode.d = X at *
      obtain ⟨y0, y1, y2⟩ := X
      dsimp only at e100 e101 e102
      have HXK := Lib.hid hXk
      have hn1 : y1.length ≤ 1048576 := HX.out.1
      have hszr := hb.size
      have HBD := Lib.hid (show Below wa.heap.size wa wr.drew from hb.trans (below_drewN' wr 1 |>.mono hszr))
      have HST := Lib.hid (show StrR wr.drew lo hi A1 y1.length y1 from (shNode_str1 hX).below (below_drewN' wr 1) (by omega))
      have HYD := Lib.hid (show StrR wr.drew lo' hi' B ys.length ys from (HY.out.below hbw hhi').below (below_drewN' wr 1) (by omega))
      have HC := Lib.hid (show (∀ i, wr.drew.cell? ⟨w.heap.size, i, none⟩ = (#[.slice (some ⟨b, off, none⟩) ts.length c] : Array Value)[i]?) ∧ wr.drew.cell? ⟨b, off + k * 3, none⟩ = some (.string y0) ∧ wr.drew.cell? ⟨b, off + k * 3 + 1, none⟩ = some (.slice A1 y1.length c1) from ⟨((HBK.out.below hb hpl).drewN 1).cell, e100, e101⟩)
      have hszd : wa.heap.size ≤ wr.drew.heap.size := hszr
      clear hX hb hbw e100 e101 e102 hXk
      go_wp2_with fail
      refine AnyT.region (fun _ => false) (fun W => (∀ i, W.cell? ⟨w.heap.size, i, none⟩ = (#[.slice (some ⟨b, off, none⟩) ts.length c] : Array Value)[i]?) ∧ W.cell? ⟨b, off + k * 3, none⟩ = some (.string y0) ∧ W.cell? ⟨b, off + k * 3 + 1, none⟩ = some (.slice A1 y1.length c1)) (by kernel_rfl) HC.out (fun hHeld => ?_)
      generalize wr.drew = w4 at *
      ((refine AnyT.takeAny 0 9 ?_ rfl (by kernel_rfl) (by kernel_rfl) (by kernel_rfl) rfl rfl (fun _ _ _ _ h => h) rfl ?_ (by assumption) ?_); rotate_left; (intro w; go_simp; (try (with_reducible rfl))); simp only [Act.put, List.setIfInBounds_toArray, List.set_cons_zero, List.set_cons_succ])
      ((refine AnyT.takeAny 1 10 ?_ rfl (by kernel_rfl) (by kernel_rfl) (by kernel_rfl) rfl rfl (fun _ _ _ _ h => h) rfl ?_ (by assumption) ?_); rotate_left; (intro w; go_simp; (try (with_reducible rfl))); simp only [Act.put, List.setIfInBounds_toArray, List.set_cons_zero, List.set_cons_succ])
      ((refine AnyT.take 2 11 ?_ rfl (by kernel_rfl) (by kernel_rfl) (by kernel_rfl) (by kernel_rfl) rfl (by kernel_rfl) rfl (fun _ _ _ _ h => h) rfl ?_ (by assumption) ?_); rotate_left; (intro w hSw; (try dsimp only at hSw); go_simp; (try (with_reducible rfl))); simp only [Act.put, List.setIfInBounds_toArray, List.set_cons_zero, List.set_cons_succ])
      ((refine AnyT.takeAny 3 12 ?_ rfl (by kernel_rfl) (by kernel_rfl) (by kernel_rfl) rfl rfl (fun _ _ _ _ h => h) rfl ?_ (by assumption) ?_); rotate_left; (intro w; go_simp; (try (with_reducible rfl))); simp only [Act.put, List.setIfInBounds_toArray, List.set_cons_zero, List.set_cons_succ])
      ((refine AnyT.takeAny 4 13 ?_ rfl (by kernel_rfl) (by kernel_rfl) (by kernel_rfl) rfl rfl (fun _ _ _ _ h => h) rfl ?_ (by assumption) ?_); rotate_left; (intro w; go_simp; (try (with_reducible rfl))); simp only [Act.put, List.setIfInBounds_toArray, List.set_cons_zero, List.set_cons_succ])
      ((refine AnyT.takeAny 5 14 ?_ rfl (by kernel_rfl) (by kernel_rfl) (by kernel_rfl) rfl rfl (fun _ _ _ _ h => h) rfl ?_ (by assumption) ?_); rotate_left; (intro w; go_simp; (try (with_reducible rfl))); simp only [Act.put, List.setIfInBounds_toArray, List.set_cons_zero, List.set_cons_succ])
      ((refine AnyT.takeAny 6 15 ?_ rfl (by kernel_rfl) (by kernel_rfl) (by kernel_rfl) rfl rfl (fun _ _ _ _ h => h) rfl ?_ (by assumption) ?_); rotate_left; (intro w; go_simp; (try (with_reducible rfl))); simp only [Act.put, List.setIfInBounds_toArray, List.set_cons_zero, List.set_cons_succ])
      ((refine AnyT.take 7 16 ?_ rfl (by kernel_rfl) (by kernel_rfl) (by kernel_rfl) (by kernel_rfl) rfl (by kernel_rfl) rfl (fun _ _ _ _ h => h) rfl ?_ (by assumption) ?_); rotate_left; (intro w hSw; (try dsimp only at hSw); go_simp; (try (with_reducible rfl))); simp only [Act.put, List.setIfInBounds_toArray, List.set_cons_zero, List.set_cons_succ])
      ((refine AnyT.takeAny 8 17 ?_ rfl (by kernel_rfl) (by kernel_rfl) (by kernel_rfl) rfl rfl (fun _ _ _ _ h => h) rfl ?_ (by assumption) ?_); rotate_left; (intro w; go_simp; (try (with_reducible rfl))); simp only [Act.put, List.setIfInBounds_toArray, List.set_cons_zero, List.set_cons_succ])
      ((refine AnyT.takeAny 9 18 ?_ rfl (by kernel_rfl) (by kernel_rfl) (by kernel_rfl) rfl rfl (fun _ _ _ _ h => h) rfl ?_ (by assumption) ?_); rotate_left; (intro w; go_simp; (try (with_reducible rfl))); simp only [Act.put, List.setIfInBounds_toArray, List.set_cons_zero, List.set_cons_succ])
      ((refine AnyT.takeAny 10 19 ?_ rfl (by kernel_rfl) (by kernel_rfl) (by kernel_rfl) rfl rfl (fun _ _ _ _ h => h) rfl ?_ (by assumption) ?_); rotate_left; (intro w; go_simp; (try (with_reducible rfl))); simp only [Act.put, List.setIfInBounds_toArray, List.set_cons_zero, List.set_cons_succ])
      ((refine AnyT.take 11 20 ?_ rfl (by kernel_rfl) (by kernel_rfl) (by kernel_rfl) (by kernel_rfl) rfl (by kernel_rfl) rfl (fun _ _ _ _ h => h) rfl ?_ (by assumption) ?_); rotate_left; (intro w hSw; (try dsimp only at hSw); go_simp; (try (with_reducible rfl))); simp only [Act.put, List.setIfInBounds_toArray, List.set_cons_zero, List.set_cons_succ])
      ((refine AnyT.takeAny 12 21 ?_ rfl (by kernel_rfl) (by kernel_rfl) (by kernel_rfl) rfl rfl (fun _ _ _ _ h => h) rfl ?_ (by assumption) ?_); rotate_left; (intro w; go_simp; (try (with_reducible rfl))); simp only [Act.put, List.setIfInBounds_toArray, List.set_cons_zero, List.set_cons_succ])
      ((refine AnyT.take 13 22 ?_ rfl (by kernel_rfl) (by kernel_rfl) (by kernel_rfl) (by kernel_rfl) rfl (by kernel_rfl) rfl (fun _ _ _ _ h => h) rfl ?_ (by assumption) ?_); rotate_left; (intro w hSw; (try dsimp only at hSw); go_simp; (try (with_reducible rfl))); simp only [Act.put, List.setIfInBounds_toArray, List.set_cons_zero, List.set_cons_succ])
      ((refine AnyT.takeAny 14 23 ?_ rfl (by kernel_rfl) (by kernel_rfl) (by kernel_rfl) rfl rfl (fun _ _ _ _ h => h) rfl ?_ (by assumption) ?_); rotate_left; (intro w; go_simp; (try (with_reducible rfl))); simp only [Act.put, List.setIfInBounds_toArray, List.set_cons_zero, List.set_cons_succ])
      ((refine AnyT.takeAny 15 24 ?_ rfl (by kernel_rfl) (by kernel_rfl) (by kernel_rfl) rfl rfl (fun _ _ _ _ h => h) rfl ?_ (by assumption) ?_); rotate_left; (intro w; go_simp; (try (with_reducible rfl))); simp only [Act.put, List.setIfInBounds_toArray, List.set_cons_zero, List.set_cons_succ])
      ((refine AnyT.takeAny 16 25 ?_ rfl (by kernel_rfl) (by kernel_rfl) (by kernel_rfl) rfl rfl (fun _ _ _ _ h => h) rfl ?_ (by assumption) ?_); rotate_left; (intro w; go_simp; (try (with_reducible rfl))); simp only [Act.put, List.setIfInBounds_toArray, List.set_cons_zero, List.set_cons_succ])
      ((refine AnyT.take 17 26 ?_ rfl (by kernel_rfl) (by kernel_rfl) (by kernel_rfl) (by kernel_rfl) rfl (by kernel_rfl) rfl (fun _ _ _ _ h => h) rfl ?_ (by assumption) ?_); rotate_left; (intro w hSw; (try dsimp only at hSw); go_simp; (try (with_reducible rfl))); simp only [Act.put, List.setIfInBounds_toArray, List.set_cons_zero, List.set_cons_succ])
      ((refine AnyT.takeAny 18 27 ?_ rfl (by kernel_rfl) (by kernel_rfl) (by kernel_rfl) rfl rfl (fun _ _ _ _ h => h) rfl ?_ (by assumption) ?_); rotate_left; (intro w; go_simp; (try (with_reducible rfl))); simp only [Act.put, List.setIfInBounds_toArray, List.set_cons_zero, List.set_cons_succ])
      ((refine AnyT.takeAny 19 28 ?_ rfl (by kernel_rfl) (by kernel_rfl) (by kernel_rfl) rfl rfl (fun _ _ _ _ h => h) rfl ?_ (by assumption) ?_); rotate_left; (intro w; go_simp; (try (with_reducible rfl))); simp only [Act.put, List.setIfInBounds_toArray, List.set_cons_zero, List.set_cons_succ])
      ((refine AnyT.one (i := 20) (by kernel_rfl) rfl (fun K hK => ?_)))
      go_simp
      refine (l03Less_any y0 nm A1 B y1.length ys.length c1 d lo hi lo' hi' y1 ys w4 HST.out HYD.out (by omega) (by omega) hn1 hyn HX.out.2 HYS.out).mono ?_
      rintro e5 w5 ⟨rfl, hb5⟩
      go_simp
      have hs5 := hb5.size
      have HBD5 := Lib.hid (HBD.out.trans (hb5.mono hszd))
      have hbl : b < w4.heap.size := by omega
      have hpl4 : w.heap.size < w4.heap.size := by omega
      have HC5 := Lib.hid (show (∀ i, w5.cell? ⟨w.heap.size, i, none⟩ = (#[.slice (some ⟨b, off, none⟩) ts.length c] : Array Value)[i]?) ∧ w5.cell? ⟨b, off + k * 3, none⟩ = some (.string y0) ∧ w5.cell? ⟨b, off + k * 3 + 1, none⟩ = some (.slice A1 y1.length c1) from
        ⟨fun i => (hb5.cell (p := ⟨w.heap.size, i, none⟩) hpl4).trans (HC.out.1 i), (hb5.cell (p := ⟨b, _, none⟩) hbl).trans HC.out.2.1, (hb5.cell (p := ⟨b, _, none⟩) hbl).trans HC.out.2.2⟩)
      have HS5 := Lib.hid (HST.out.below hb5 (by omega))
      have HY5 := Lib.hid (HYD.out.below hb5 (by omega))
      refine hK.out _ _ HC5.out (fun hHeld => ?_)
      clear hK K hb5
      (try simp only [Act.put, List.setIfInBounds_toArray, List.set_cons_zero, List.set_cons_succ])
      cases hL : befLoc y0 y1 nm ys with
      | true =>
        have HLO2 := Lib.hid (show ∀ j x, j < k + 1 → ts[j]? = some x → befK (nm, ys) x = true from fun j x hj hx => by
          rcases Nat.lt_or_ge j k with hjk | hjk
          · exact HLO.out j x hjk hx
          · obtain rfl : j = k := by omega
            rw [HXK.out] at hx
            injection hx with hx
            subst hx; exact hL)
        clear hL
        ((refine AnyT.takeAny 21 30 ?_ rfl (by kernel_rfl) (by kernel_rfl) (by kernel_rfl) rfl rfl (fun _ _ _ _ h => h) rfl ?_ (by assumption) ?_); rotate_left; (intro w; go_simp; (try (with_reducible rfl))); simp only [Act.put, List.setIfInBounds_toArray, List.set_cons_zero, List.set_cons_succ])
        refine AnyT.done (by kernel_rfl) ?_ _
        clear hHeld
        go_wp2_with fail
        go_roundw
        case rel => exact ⟨k + 1, by omega, by go_num, HLO2, HBD5.out⟩
        case measure => simp [intOf]; omega
      | false =>
        obtain ⟨a1, a2⟩ := HAT.out k HLO.out (fun x hx => by rw [HXK.out] at hx; injection hx with hx; subst hx; exact hL) hk
        rw [HXK.out] at a2
        have HA2 := Lib.hid (a2.trans (sameB_key y0 nm y1 ys).symm)
        have HA1 := Lib.hid a1
        clear hL a1 a2
        ((refine AnyT.takeAny 21 30 ?_ rfl (by kernel_rfl) (by kernel_rfl) (by kernel_rfl) rfl rfl (fun _ _ _ _ h => h) rfl ?_ (by assumption) ?_); rotate_left; (intro w; go_simp; (try (with_reducible rfl))); simp only [Act.put, List.setIfInBounds_toArray, List.set_cons_zero, List.set_cons_succ])
        refine AnyT.done (by kernel_rfl) ?_ _
        clear hHeld
        obtain ⟨f1, f2, f3⟩ := HC5.out
        have HBW := Lib.hid (HB.out.trans (HBD5.out.mono hwa))
        by_cases hnm : y0 = nm
        · have hq := bytes_same hnm
          have HA3 := Lib.hid (HA2.out.trans (if_pos hnm))
          clear hnm
          go_wp2_with fail
          refine (sameSubs_n A1 B c1 d y1 ys lo hi lo' hi' w5 HS5.out HY5.out (by omega) (by omega) hn1 hyn).mono ?_
          rintro e6 w6 ⟨rfl, hb6⟩
          have HB6 := Lib.hid (HBW.out.trans (hb6.mono HBW.out.size))
          clear hb6
          go_wp2_with fail
          go_ret2
          exact ⟨by rw [HA1.out, HA3.out]; rfl, HB6.out⟩
        · have hq := bytes_other hnm
          have HA3 := Lib.hid (HA2.out.trans (if_neg hnm))
          clear hnm
          go_wp2_with fail
          go_ret2
          exact ⟨by rw [HA1.out, HA3.out]; rfl, HBW.out⟩
    · obtain rfl : k = ts.length := by omega
      obtain ⟨a1, a2⟩ := HAT.out ts.length HLO.out (fun x hx => by rw [List.getElem?_eq_none (Nat.le_refl _)] at hx; cases hx) (Nat.le_refl _)
      rw [List.getElem?_eq_none (Nat.le_refl _)] at a2
      have HA1 := Lib.hid a1
      have HA2 := Lib.hid a2
      have hszr := hb.size
      have HBW := Lib.hid (show Below w.heap.size w wr.drew from HB.out.trans ((hb.trans (below_drewN' wr 1 |>.mono hszr)).mono hwa))
      have HC := Lib.hid (show (∀ i, wr.drew.cell? ⟨w.heap.size, i, none⟩ = (#[.slice A ts.length c] : Array Value)[i]?) from ((HBK.out.below hb hpl).drewN 1).cell)
      clear hb a1 a2
      go_wp2_with fail
      refine AnyT.region (fun _ => false) (fun W => (∀ i, W.cell? ⟨w.heap.size, i, none⟩ = (#[.slice A ts.length c] : Array Value)[i]?)) (by kernel_rfl) HC.out (fun hHeld => ?_)
      generalize wr.drew = w4 at *
      ((refine AnyT.takeAny 0 9 ?_ rfl (by kernel_rfl) (by kernel_rfl) (by kernel_rfl) rfl rfl (fun _ _ _ _ h => h) rfl ?_ (by assumption) ?_); rotate_left; (intro w; go_simp; (try (with_reducible rfl))); simp only [Act.put, List.setIfInBounds_toArray, List.set_cons_zero, List.set_cons_succ])
      ((refine AnyT.takeAny 1 10 ?_ rfl (by kernel_rfl) (by kernel_rfl) (by kernel_rfl) rfl rfl (fun _ _ _ _ h => h) rfl ?_ (by assumption) ?_); rotate_left; (intro w; go_simp; (try (with_reducible rfl))); simp only [Act.put, List.setIfInBounds_toArray, List.set_cons_zero, List.set_cons_succ])
      ((refine AnyT.take 2 11 ?_ rfl (by kernel_rfl) (by kernel_rfl) (by kernel_rfl) (by kernel_rfl) rfl (by kernel_rfl) rfl (fun _ _ _ _ h => h) rfl ?_ (by assumption) ?_); rotate_left; (intro w hSw; (try dsimp only at hSw); go_simp; (try (with_reducible rfl))); simp only [Act.put, List.setIfInBounds_toArray, List.set_cons_zero, List.set_cons_succ])
      ((refine AnyT.takeAny 3 12 ?_ rfl (by kernel_rfl) (by kernel_rfl) (by kernel_rfl) rfl rfl (fun _ _ _ _ h => h) rfl ?_ (by assumption) ?_); rotate_left; (intro w; go_simp; (try (with_reducible rfl))); simp only [Act.put, List.setIfInBounds_toArray, List.set_cons_zero, List.set_cons_succ])
      ((refine AnyT.takeAny 4 13 ?_ rfl (by kernel_rfl) (by kernel_rfl) (by kernel_rfl) rfl rfl (fun _ _ _ _ h => h) rfl ?_ (by assumption) ?_); rotate_left; (intro w; go_simp; (try (with_reducible rfl))); simp only [Act.put, List.setIfInBounds_toArray, List.set_cons_zero, List.set_cons_succ])
      ((refine AnyT.takeAny 5 14 ?_ rfl (by kernel_rfl) (by kernel_rfl) (by kernel_rfl) rfl rfl (fun _ _ _ _ h => h) rfl ?_ (by assumption) ?_); rotate_left; (intro w; go_simp; (try (with_reducible rfl))); simp only [Act.put, List.setIfInBounds_toArray, List.set_cons_zero, List.set_cons_succ])
      refine AnyT.sk 6 15 ?_
      simp only [Act.put, List.setIfInBounds_toArray, List.set_cons_zero, List.set_cons_succ]
      refine AnyT.sk 7 16 ?_
      simp only [Act.put, List.setIfInBounds_toArray, List.set_cons_zero, List.set_cons_succ]
      refine AnyT.sk 8 17 ?_
      simp only [Act.put, List.setIfInBounds_toArray, List.set_cons_zero, List.set_cons_succ]
      refine AnyT.sk 9 18 ?_
      simp only [Act.put, List.setIfInBounds_toArray, List.set_cons_zero, List.set_cons_succ]
      refine AnyT.sk 10 19 ?_
      simp only [Act.put, List.setIfInBounds_toArray, List.set_cons_zero, List.set_cons_succ]
      refine AnyT.sk 11 20 ?_
      simp only [Act.put, List.setIfInBounds_toArray, List.set_cons_zero, List.set_cons_succ]
      refine AnyT.sk 12 21 ?_
      simp only [Act.put, List.setIfInBounds_toArray, List.set_cons_zero, List.set_cons_succ]
      refine AnyT.sk 13 22 ?_
      simp only [Act.put, List.setIfInBounds_toArray, List.set_cons_zero, List.set_cons_succ]
      refine AnyT.sk 14 23 ?_
      simp only [Act.put, List.setIfInBounds_toArray, List.set_cons_zero, List.set_cons_succ]
      refine AnyT.sk 15 24 ?_
      simp only [Act.put, List.setIfInBounds_toArray, List.set_cons_zero, List.set_cons_succ]
      refine AnyT.sk 16 25 ?_
      simp only [Act.put, List.setIfInBounds_toArray, List.set_cons_zero, List.set_cons_succ]
      refine AnyT.sk 17 26 ?_
      simp only [Act.put, List.setIfInBounds_toArray, List.set_cons_zero, List.set_cons_succ]
      refine AnyT.sk 18 27 ?_
      simp only [Act.put, List.setIfInBounds_toArray, List.set_cons_zero, List.set_cons_succ]
      refine AnyT.sk 19 28 ?_
      simp only [Act.put, List.setIfInBounds_toArray, List.set_cons_zero, List.set_cons_succ]
      refine AnyT.sk 20 29 ?_
      simp only [Act.put, List.setIfInBounds_toArray, List.set_cons_zero, List.set_cons_succ]
      ((refine AnyT.takeAny 21 30 ?_ rfl (by kernel_rfl) (by kernel_rfl) (by kernel_rfl) rfl rfl (fun _ _ _ _ h => h) rfl ?_ (by assumption) ?_); rotate_left; (intro w; go_simp; (try (with_reducible rfl))); simp only [Act.put, List.setIfInBounds_toArray, List.set_cons_zero, List.set_cons_succ])
      refine AnyT.done (by kernel_rfl) ?_ _
      clear hHeld
      have f1 := HC.out
      go_wp2_with fail
      go_ret2
      exact ⟨by rw [HA1.out, HA2.out]; rfl, HBW.out⟩

end Go.Proofs.YtfibjcaidnofmaaGreatDoor

/- Putting a node to its place, by the reference: l03Put walked. -/
namespace Go.Proofs.YtfibjcaidnofmaaGreatDoor
open Go.RowKit

theorem RowG.keep {α : Type} {s : Sh α} {w w' : World} {lo hi : Nat} {A : Option Addr} {xs : List α} (h : RowG s w lo hi A xs) (hk : ∀ b, lo ≤ b → b < hi → w'.heap[b]? = w.heap[b]?) : RowG s w' lo hi A xs :=
  rowG_of_shape ((Sh.row 0 s).R_keep (show (Sh.row 0 s).R w lo hi [.slice A xs.length 0] xs from ⟨A, 0, rfl, h⟩) hk)
theorem RowG.more {α : Type} {s : Sh α} {w : World} {lo hi lo' hi' : Nat} {A : Option Addr} {xs : List α} (h : RowG s w lo hi A xs) (h1 : lo' ≤ lo) (h2 : hi ≤ hi') : RowG s w lo' hi' A xs :=
  rowG_of_shape ((Sh.row 0 s).R_more (show (Sh.row 0 s).R w lo hi [.slice A xs.length 0] xs from ⟨A, 0, rfl, h⟩) h1 h2)
theorem SmT.put {ts : List TyNode} {x : TyNode} (h : SmT ts) (hx : x.2.1.length ≤ 1048576 ∧ ∀ y ∈ x.2.1, y.size ≤ 1048576) (k m : Nat) (hl : ts.length < 1048576) (hkm : k ≤ m) : SmT (ts.take k ++ x :: ts.drop m) := by
  refine ⟨by rw [List.length_append, List.length_cons, List.length_take, List.length_drop]; omega, fun y hy => ?_⟩
  rcases List.mem_append.1 hy with hy | hy
  · exact h.2 y (List.mem_of_mem_take hy)
  · rcases List.mem_cons.1 hy with rfl | hy
    · exact hx
    · exact h.2 y (List.mem_of_mem_drop hy)

set_option maxHeartbeats 8000000 in
set_option maxRecDepth 100000 in
theorem l03Put_any (A : Option Addr) (c lo hi : Nat) (ts : List TyNode) (nm vl : ByteArray) (B : Option Addr) (d lo' hi' : Nat) (ys : List ByteArray) (w : World) (h : RowG shNode w lo hi A ts) (hc : ts.length ≤ c) (hy : StrR w lo' hi' B ys.length ys) (hhi : hi ≤ w.heap.size) (hhi' : hi' ≤ w.heap.size) (hs : SmT ts)
    (hys : ys.length ≤ 1048576 ∧ ∀ y ∈ ys, y.size ≤ 1048576) (hts : ts.length < 120) (hA : (A = none ∧ ts.length = 0 ∧ c = 0) ∨ ∃ b off, A = some ⟨b, off, none⟩) :
    Calls Tryz.prog 54 #[.agg #[.slice A ts.length c], .string nm, .slice B ys.length d, .string vl] w fun e w' => (∃ A' c', e = .returned (.tuple #[.agg #[.slice A' (insOne befP keyT ts (nm, ys, vl)).length c'], .int .i64 0]) ∧ Own shTree w' w.heap.size w'.heap.size [.slice A' (insOne befP keyT ts (nm, ys, vl)).length c'] (insOne befP keyT ts (nm, ys, vl))) ∧ Below w.heap.size w w' := by
  obtain ⟨hp1, hp2⟩ := put_is ts (nm, ys, vl)
  obtain ⟨hk1, hk2⟩ := atK_le ts (nm, ys)
  have hb1 := (Below.refl w.heap.size w).alloc (Nat.le_refl _) (.cells #[.slice A ts.length c] 26)
  have hb2 := hb1.alloc (by simp) (.cells #[.slice none 0 0] 26)
  have B1 := Lib.hid ((Blk.new w 26 #[.slice A ts.length c]).alloc (.cells #[.slice none 0 0] 26))
  have B2 := Lib.hid (show Blk ((w.alloc (.cells #[.slice A ts.length c] 26)).alloc (.cells #[.slice none 0 0] 26)) (w.heap.size + 1) 26 #[.slice none 0 0] from by
    have := Blk.new (w.alloc (.cells #[.slice A ts.length c] 26)) 26 #[.slice none 0 0]
    simpa using this)
  have HAT := Lib.hid (fun W (hb : Below w.heap.size w W) => l03At_any A c lo hi ts nm B d lo' hi' ys W (RowG.keep h (fun b _ q => hb.block b (by omega))) (hy.below hb hhi') (Nat.le_trans hhi hb.size) (Nat.le_trans hhi' hb.size) hs hys)
  have HR := Lib.hid (h.more (Nat.zero_le _) hhi)
  have HY := Lib.hid (hy.more (Nat.zero_le _) hhi')
  have HSM := Lib.hid (fun k m hkm => hs.put (x := (nm, ys, vl)) hys k m (by omega) hkm)
  have HB := Lib.hid hb2
  have HP := Lib.hid (show insOne befP keyT ts (nm, ys, vl) = ts.take (atK ts (nm, ys)) ++ (nm, ys, vl) :: ts.drop (if hasK ts (nm, ys) then atK ts (nm, ys) + 1 else atK ts (nm, ys)) from hp1)
  generalize insOne befP keyT ts (nm, ys, vl) = RES at *
  generalize atK ts (nm, ys) = AT at *
  generalize hasK ts (nm, ys) = HAS at *
  clear h hy hs hys hb1 hb2 hp1 hp2
  go_enter Tryz.func54, Tryz.ntmps54
  go_wp2_with fail
  
  
  
  
  /-BRANCH-/
  refine (HAT.out _ HB.out).mono ?_
  rintro e1 w1 ⟨rfl, hb1⟩
  have hw2 : w.heap.size + 2 ≤ w1.heap.size := by have := hb1.size; simp at this; omega
  have hw1 : w.heap.size ≤ w1.heap.size := by omega
  have B11 := Lib.hid (B1.out.below hb1 (by simp; omega))
  have B21 := Lib.hid (B2.out.below hb1 (by simp))
  have HB1 := Lib.hid (HB.out.trans (hb1.mono HB.out.size))
  have hl1 : w.heap.size < w1.heap.size := by omega
  have HR1 := Lib.hid (RowG.keep HR.out fun b _ q => HB1.out.block b q)
  have HR1A := Lib.hid (RowG.keep HR1.out fun b _ q => ((Below.refl w1.heap.size w1).alloc (Nat.le_refl _) (.cells #[] 32)).block b (by omega))
  have f1 := B11.out.cell
  clear hb1 HB HAT
  cases HAS with
  | false =>
    have i1 : ¬ (120 : Int) ≤ (ts.length : Int) := by omega
    have hkM : AT ≤ ts.length := by omega
    have HPM := Lib.hid (show RES = ts.take AT ++ (nm, ys, vl) :: ts.drop (AT) from HP.out)
    go_wp2_with (at_builtin; refine wpList_app_rdG (s := shNode) rfl (.tmp 29) (.tmp 33) 24 rfl Tryz.underlying24 rfl (by decide) (by decide) infoNode _ w1.heap.size 0 w.heap.size _ [] (ts.take AT) A AT c rfl (RdRow.nil_ (lit0_own w1 w1.heap.size (Nat.le_refl _))) rfl (by rw [List.length_take]; omega) (HR1A.out.take AT) (by rw [List.length_take, List.length_nil]; omega) hw1 (by simp) ?_)
    intro v2 w2 hr2 hb2
    have hr2 : RdRow shNode 32 w2 w1.heap.size 0 w.heap.size v2 (ts.take AT) := hr2
    have hs2 : w1.heap.size ≤ w2.heap.size := Nat.le_trans (by simp) hb2.size
    have HB2 := Lib.hid (((Below.refl w1.heap.size w1).alloc (Nat.le_refl _) (.cells #[] 32)).trans hb2)
    have HR2 := Lib.hid hr2
    have hba := (Below.refl w2.heap.size w2).alloc (Nat.le_refl _) (.cells #[.string nm, .slice B ys.length d, .string vl] 32)
    have HR2A := Lib.hid (hr2.below hba (by omega))
    have HN2 := Lib.hid (show ∀ (j : Nat) (u : Value), ([.string nm, .slice B ys.length d, .string vl] : List Value)[j]? = some u → (w2.alloc (.cells #[.string nm, .slice B ys.length d, .string vl] 32)).cell? ⟨w2.heap.size, 0 + j, none⟩ = some u from fun j u hj => by rw [Nat.zero_add]; exact ((Blk.new w2 32 #[.string nm, .slice B ys.length d, .string vl]).cell j).trans (by simpa using hj))
    have HE2 := Lib.hid (show ∀ j, j < [(nm, ys, vl)].length → shNode.R (w2.alloc (.cells #[.string nm, .slice B ys.length d, .string vl] 32)) 0 w.heap.size (elemAt shNode.k [.string nm, .slice B ys.length d, .string vl] j) ([(nm, ys, vl)].getD j shNode.d) from fun j hj => by
      obtain rfl : j = 0 := by simpa using hj
      exact shNode.R_below (strR_shNode (x := (nm, ys, vl)) (((HY.out.below HB1.out (Nat.le_refl _)).below HB2.out hw1))) hba (by omega))
    have HB2A := Lib.hid (HB2.out.trans (hba.mono hs2))
    have hz2 : (w2.alloc (.cells #[.string nm, .slice B ys.length d, .string vl] 32)).heap.size = w2.heap.size + 1 := by simp
    clear hr2 hb2 hba f1
    go_wp2_with (at_builtin; refine wpList_app_rd (s := shNode) rfl (.tmp 35) (.tmp 40) 24 rfl Tryz.underlying24 rfl (by decide) (by decide) infoNode _ w1.heap.size 0 w.heap.size _ (ts.take AT) [(nm, ys, vl)] w2.heap.size 0 1 [.string nm, .slice B ys.length d, .string vl] rfl HR2A.out rfl rfl HN2.out (by simp [Value.oneCell']) HE2.out (by rw [List.length_take]; simp; omega) hw1 (by rw [hz2]; omega) ?_)
    intro v3 w3 hr3 hb3
    have hs3 : w1.heap.size ≤ w3.heap.size := Nat.le_trans (by rw [hz2]; omega) hb3.size
    have HB3 := Lib.hid (HB2A.out.trans hb3)
    have HR3 := Lib.hid hr3
    have f1 := (B11.out.below HB3.out hl1).cell
    clear hr3 hb3 hz2
    go_upto_region 8 with fail
    have hLL : (ts.take AT ++ [(nm, ys, vl)] ++ ts.drop (AT)) = RES := by rw [HPM.out, List.append_assoc]; rfl
    have HLL := Lib.hid hLL
    have HSL := Lib.hid (show SmT RES by rw [HPM.out]; exact HSM.out AT (AT) (by omega))
    have hlq : (ts.take AT ++ [(nm, ys, vl)]).length + (ts.drop (AT)).length ≤ 1000000000 := by rw [List.length_append, List.length_take, List.length_drop]; simp; omega
    clear hLL
    rcases hA with ⟨rfl, hn0, hc0⟩ | ⟨b, off, rfl⟩
    · have hat0 : AT = 0 := by omega
      subst hc0
      have ja : (AT : Int) = 0 := by omega
      have jn : ts.length = 0 := hn0
      go_wp2_with (at_builtin; refine wpList_app_rdG (s := shNode) rfl (.tmp 45) (.tmp 49) 24 rfl Tryz.underlying24 rfl (by decide) (by decide) infoNode _ w1.heap.size 0 w.heap.size _ (ts.take AT ++ [(nm, ys, vl)]) (ts.drop (AT)) _ _ _ rfl HR3.out rfl (by rw [List.length_drop]; first | done | omega) (by first | exact HRD.out | exact fun hp => absurd hp (by rw [List.length_drop]; omega)) hlq hw1 hs3 ?_)
      intro v4 w4 hr4 hb4
      first | rw [show ts.take AT ++ (nm, ys, vl) :: ts.drop (AT) = RES from HPM.out.symm] at hr4 | rw [show (nm, ys, vl) :: ts = RES by rw [HPM.out, hat0]; rfl] at hr4
      have hs4 : w1.heap.size ≤ w4.heap.size := Nat.le_trans hs3 hb4.size
      have HB4 := Lib.hid (HB3.out.trans hb4)
      obtain ⟨A4, c4, rfl, hg4, -⟩ := hr4.row (Nat.zero_le _) (by omega)
      have HG4 := Lib.hid hg4
      clear hr4 hb4 hg4 f1
      go_wp2_with fail
      refine (l03Own_any A4 c4 0 w4.heap.size RES w4 HG4.out (Nat.le_refl _) HSL.out).mono ?_
      rintro e5 w5 ⟨⟨B5, d5, rfl, ho5⟩, hb5⟩
      have HB5 := Lib.hid (HB4.out.trans (hb5.mono hs4))
      have HO5 := Lib.hid ho5
      have B25 := Lib.hid (B21.out.below HB5.out (by omega))
      have f2 := B25.out.cell
      have z2 := B25.out.frozen
      have hs5 := hb5.size
      clear ho5 hb5
      go_wp2_with fail
      refine bodyPost_ret (v := .tuple #[.agg #[.slice B5 RES.length d5], .int .i64 0]) (by simp [results, Tryz.results54, go_sem, f2]) rfl ⟨⟨B5, d5, rfl, ?_⟩, ?_⟩
      · exact ((show Own shTree w5 w4.heap.size w5.heap.size [.slice B5 RES.length d5] RES from HO5.out).setCell (by dsimp only; omega) _).more (by omega) (by simp [World.setCell])
      · exact (HB1.out.trans (HB5.out.mono hw1)).setCell (by dsimp only; omega) _
    · have HRD := Lib.hid (show RowG shNode w3 0 w.heap.size (some ⟨b, off + (AT) * 3, none⟩) (ts.drop (AT)) from RowG.drop (RowG.keep HR1.out fun b _ q => HB3.out.block b (by omega)) (AT))
      by_cases hMc : AT < c
      · have j1 : (AT : Int) < (c : Int) := by omega
        go_wp2_with (at_builtin; refine wpList_app_rdG (s := shNode) rfl (.tmp 45) (.tmp 49) 24 rfl Tryz.underlying24 rfl (by decide) (by decide) infoNode _ w1.heap.size 0 w.heap.size _ (ts.take AT ++ [(nm, ys, vl)]) (ts.drop (AT)) _ _ _ rfl HR3.out rfl (by rw [List.length_drop]; first | done | omega) (by first | exact HRD.out | exact fun hp => absurd hp (by rw [List.length_drop]; omega)) hlq hw1 hs3 ?_)
        intro v4 w4 hr4 hb4
        first | rw [show ts.take AT ++ (nm, ys, vl) :: ts.drop (AT) = RES from HPM.out.symm] at hr4 | rw [show (nm, ys, vl) :: ts = RES by rw [HPM.out, hat0]; rfl] at hr4
        have hs4 : w1.heap.size ≤ w4.heap.size := Nat.le_trans hs3 hb4.size
        have HB4 := Lib.hid (HB3.out.trans hb4)
        obtain ⟨A4, c4, rfl, hg4, -⟩ := hr4.row (Nat.zero_le _) (by omega)
        have HG4 := Lib.hid hg4
        clear hr4 hb4 hg4 f1
        go_wp2_with fail
        refine (l03Own_any A4 c4 0 w4.heap.size RES w4 HG4.out (Nat.le_refl _) HSL.out).mono ?_
        rintro e5 w5 ⟨⟨B5, d5, rfl, ho5⟩, hb5⟩
        have HB5 := Lib.hid (HB4.out.trans (hb5.mono hs4))
        have HO5 := Lib.hid ho5
        have B25 := Lib.hid (B21.out.below HB5.out (by omega))
        have f2 := B25.out.cell
        have z2 := B25.out.frozen
        have hs5 := hb5.size
        clear ho5 hb5
        go_wp2_with fail
        refine bodyPost_ret (v := .tuple #[.agg #[.slice B5 RES.length d5], .int .i64 0]) (by simp [results, Tryz.results54, go_sem, f2]) rfl ⟨⟨B5, d5, rfl, ?_⟩, ?_⟩
        · exact ((show Own shTree w5 w4.heap.size w5.heap.size [.slice B5 RES.length d5] RES from HO5.out).setCell (by dsimp only; omega) _).more (by omega) (by simp [World.setCell])
        · exact (HB1.out.trans (HB5.out.mono hw1)).setCell (by dsimp only; omega) _
      · have j1 : ¬ (AT : Int) < (c : Int) := by omega
        go_wp2_with (at_builtin; refine wpList_app_rdG (s := shNode) rfl (.tmp 45) (.tmp 49) 24 rfl Tryz.underlying24 rfl (by decide) (by decide) infoNode _ w1.heap.size 0 w.heap.size _ (ts.take AT ++ [(nm, ys, vl)]) (ts.drop (AT)) _ _ _ rfl HR3.out rfl (by rw [List.length_drop]; first | done | omega) (by first | exact HRD.out | exact fun hp => absurd hp (by rw [List.length_drop]; omega)) hlq hw1 hs3 ?_)
        intro v4 w4 hr4 hb4
        first | rw [show ts.take AT ++ (nm, ys, vl) :: ts.drop (AT) = RES from HPM.out.symm] at hr4 | rw [show (nm, ys, vl) :: ts = RES by rw [HPM.out, hat0]; rfl] at hr4
        have hs4 : w1.heap.size ≤ w4.heap.size := Nat.le_trans hs3 hb4.size
        have HB4 := Lib.hid (HB3.out.trans hb4)
        obtain ⟨A4, c4, rfl, hg4, -⟩ := hr4.row (Nat.zero_le _) (by omega)
        have HG4 := Lib.hid hg4
        clear hr4 hb4 hg4 f1
        go_wp2_with fail
        refine (l03Own_any A4 c4 0 w4.heap.size RES w4 HG4.out (Nat.le_refl _) HSL.out).mono ?_
        rintro e5 w5 ⟨⟨B5, d5, rfl, ho5⟩, hb5⟩
        have HB5 := Lib.hid (HB4.out.trans (hb5.mono hs4))
        have HO5 := Lib.hid ho5
        have B25 := Lib.hid (B21.out.below HB5.out (by omega))
        have f2 := B25.out.cell
        have z2 := B25.out.frozen
        have hs5 := hb5.size
        clear ho5 hb5
        go_wp2_with fail
        refine bodyPost_ret (v := .tuple #[.agg #[.slice B5 RES.length d5], .int .i64 0]) (by simp [results, Tryz.results54, go_sem, f2]) rfl ⟨⟨B5, d5, rfl, ?_⟩, ?_⟩
        · exact ((show Own shTree w5 w4.heap.size w5.heap.size [.slice B5 RES.length d5] RES from HO5.out).setCell (by dsimp only; omega) _).more (by omega) (by simp [World.setCell])
        · exact (HB1.out.trans (HB5.out.mono hw1)).setCell (by dsimp only; omega) _
  | true =>
    have hkM : AT + 1 ≤ ts.length := by have := hk2 rfl; omega
    have HPM := Lib.hid (show RES = ts.take AT ++ (nm, ys, vl) :: ts.drop (AT + 1) from HP.out)
    go_wp2_with (at_builtin; refine wpList_app_rdG (s := shNode) rfl (.tmp 29) (.tmp 33) 24 rfl Tryz.underlying24 rfl (by decide) (by decide) infoNode _ w1.heap.size 0 w.heap.size _ [] (ts.take AT) A AT c rfl (RdRow.nil_ (lit0_own w1 w1.heap.size (Nat.le_refl _))) rfl (by rw [List.length_take]; omega) (HR1A.out.take AT) (by rw [List.length_take, List.length_nil]; omega) hw1 (by simp) ?_)
    intro v2 w2 hr2 hb2
    have hr2 : RdRow shNode 32 w2 w1.heap.size 0 w.heap.size v2 (ts.take AT) := hr2
    have hs2 : w1.heap.size ≤ w2.heap.size := Nat.le_trans (by simp) hb2.size
    have HB2 := Lib.hid (((Below.refl w1.heap.size w1).alloc (Nat.le_refl _) (.cells #[] 32)).trans hb2)
    have HR2 := Lib.hid hr2
    have hba := (Below.refl w2.heap.size w2).alloc (Nat.le_refl _) (.cells #[.string nm, .slice B ys.length d, .string vl] 32)
    have HR2A := Lib.hid (hr2.below hba (by omega))
    have HN2 := Lib.hid (show ∀ (j : Nat) (u : Value), ([.string nm, .slice B ys.length d, .string vl] : List Value)[j]? = some u → (w2.alloc (.cells #[.string nm, .slice B ys.length d, .string vl] 32)).cell? ⟨w2.heap.size, 0 + j, none⟩ = some u from fun j u hj => by rw [Nat.zero_add]; exact ((Blk.new w2 32 #[.string nm, .slice B ys.length d, .string vl]).cell j).trans (by simpa using hj))
    have HE2 := Lib.hid (show ∀ j, j < [(nm, ys, vl)].length → shNode.R (w2.alloc (.cells #[.string nm, .slice B ys.length d, .string vl] 32)) 0 w.heap.size (elemAt shNode.k [.string nm, .slice B ys.length d, .string vl] j) ([(nm, ys, vl)].getD j shNode.d) from fun j hj => by
      obtain rfl : j = 0 := by simpa using hj
      exact shNode.R_below (strR_shNode (x := (nm, ys, vl)) (((HY.out.below HB1.out (Nat.le_refl _)).below HB2.out hw1))) hba (by omega))
    have HB2A := Lib.hid (HB2.out.trans (hba.mono hs2))
    have hz2 : (w2.alloc (.cells #[.string nm, .slice B ys.length d, .string vl] 32)).heap.size = w2.heap.size + 1 := by simp
    clear hr2 hb2 hba f1
    go_wp2_with (at_builtin; refine wpList_app_rd (s := shNode) rfl (.tmp 35) (.tmp 40) 24 rfl Tryz.underlying24 rfl (by decide) (by decide) infoNode _ w1.heap.size 0 w.heap.size _ (ts.take AT) [(nm, ys, vl)] w2.heap.size 0 1 [.string nm, .slice B ys.length d, .string vl] rfl HR2A.out rfl rfl HN2.out (by simp [Value.oneCell']) HE2.out (by rw [List.length_take]; simp; omega) hw1 (by rw [hz2]; omega) ?_)
    intro v3 w3 hr3 hb3
    have hs3 : w1.heap.size ≤ w3.heap.size := Nat.le_trans (by rw [hz2]; omega) hb3.size
    have HB3 := Lib.hid (HB2A.out.trans hb3)
    have HR3 := Lib.hid hr3
    have f1 := (B11.out.below HB3.out hl1).cell
    clear hr3 hb3 hz2
    go_upto_region 8 with fail
    have hLL : (ts.take AT ++ [(nm, ys, vl)] ++ ts.drop (AT + 1)) = RES := by rw [HPM.out, List.append_assoc]; rfl
    have HLL := Lib.hid hLL
    have HSL := Lib.hid (show SmT RES by rw [HPM.out]; exact HSM.out AT (AT + 1) (by omega))
    have hlq : (ts.take AT ++ [(nm, ys, vl)]).length + (ts.drop (AT + 1)).length ≤ 1000000000 := by rw [List.length_append, List.length_take, List.length_drop]; simp; omega
    clear hLL
    rcases hA with ⟨rfl, hn0, hc0⟩ | ⟨b, off, rfl⟩
    · exact absurd hkM (by omega)
    · have HRD := Lib.hid (show RowG shNode w3 0 w.heap.size (some ⟨b, off + (AT + 1) * 3, none⟩) (ts.drop (AT + 1)) from RowG.drop (RowG.keep HR1.out fun b _ q => HB3.out.block b (by omega)) (AT + 1))
      by_cases hMc : AT + 1 < c
      · have j1 : ((AT : Int) + 1 : Int) < (c : Int) := by omega
        go_wp2_with (at_builtin; refine wpList_app_rdG (s := shNode) rfl (.tmp 45) (.tmp 49) 24 rfl Tryz.underlying24 rfl (by decide) (by decide) infoNode _ w1.heap.size 0 w.heap.size _ (ts.take AT ++ [(nm, ys, vl)]) (ts.drop (AT + 1)) _ _ _ rfl HR3.out rfl (by rw [List.length_drop]; first | done | omega) (by first | exact HRD.out | exact fun hp => absurd hp (by rw [List.length_drop]; omega)) hlq hw1 hs3 ?_)
        intro v4 w4 hr4 hb4
        first | rw [show ts.take AT ++ (nm, ys, vl) :: ts.drop (AT + 1) = RES from HPM.out.symm] at hr4
        have hs4 : w1.heap.size ≤ w4.heap.size := Nat.le_trans hs3 hb4.size
        have HB4 := Lib.hid (HB3.out.trans hb4)
        obtain ⟨A4, c4, rfl, hg4, -⟩ := hr4.row (Nat.zero_le _) (by omega)
        have HG4 := Lib.hid hg4
        clear hr4 hb4 hg4 f1
        go_wp2_with fail
        refine (l03Own_any A4 c4 0 w4.heap.size RES w4 HG4.out (Nat.le_refl _) HSL.out).mono ?_
        rintro e5 w5 ⟨⟨B5, d5, rfl, ho5⟩, hb5⟩
        have HB5 := Lib.hid (HB4.out.trans (hb5.mono hs4))
        have HO5 := Lib.hid ho5
        have B25 := Lib.hid (B21.out.below HB5.out (by omega))
        have f2 := B25.out.cell
        have z2 := B25.out.frozen
        have hs5 := hb5.size
        clear ho5 hb5
        go_wp2_with fail
        refine bodyPost_ret (v := .tuple #[.agg #[.slice B5 RES.length d5], .int .i64 0]) (by simp [results, Tryz.results54, go_sem, f2]) rfl ⟨⟨B5, d5, rfl, ?_⟩, ?_⟩
        · exact ((show Own shTree w5 w4.heap.size w5.heap.size [.slice B5 RES.length d5] RES from HO5.out).setCell (by dsimp only; omega) _).more (by omega) (by simp [World.setCell])
        · exact (HB1.out.trans (HB5.out.mono hw1)).setCell (by dsimp only; omega) _
      · have j1 : ¬ ((AT : Int) + 1 : Int) < (c : Int) := by omega
        go_wp2_with (at_builtin; refine wpList_app_rdG (s := shNode) rfl (.tmp 45) (.tmp 49) 24 rfl Tryz.underlying24 rfl (by decide) (by decide) infoNode _ w1.heap.size 0 w.heap.size _ (ts.take AT ++ [(nm, ys, vl)]) (ts.drop (AT + 1)) _ _ _ rfl HR3.out rfl (by rw [List.length_drop]; first | done | omega) (by first | exact HRD.out | exact fun hp => absurd hp (by rw [List.length_drop]; omega)) hlq hw1 hs3 ?_)
        intro v4 w4 hr4 hb4
        first | rw [show ts.take AT ++ (nm, ys, vl) :: ts.drop (AT + 1) = RES from HPM.out.symm] at hr4
        have hs4 : w1.heap.size ≤ w4.heap.size := Nat.le_trans hs3 hb4.size
        have HB4 := Lib.hid (HB3.out.trans hb4)
        obtain ⟨A4, c4, rfl, hg4, -⟩ := hr4.row (Nat.zero_le _) (by omega)
        have HG4 := Lib.hid hg4
        clear hr4 hb4 hg4 f1
        go_wp2_with fail
        refine (l03Own_any A4 c4 0 w4.heap.size RES w4 HG4.out (Nat.le_refl _) HSL.out).mono ?_
        rintro e5 w5 ⟨⟨B5, d5, rfl, ho5⟩, hb5⟩
        have HB5 := Lib.hid (HB4.out.trans (hb5.mono hs4))
        have HO5 := Lib.hid ho5
        have B25 := Lib.hid (B21.out.below HB5.out (by omega))
        have f2 := B25.out.cell
        have z2 := B25.out.frozen
        have hs5 := hb5.size
        clear ho5 hb5
        go_wp2_with fail
        refine bodyPost_ret (v := .tuple #[.agg #[.slice B5 RES.length d5], .int .i64 0]) (by simp [results, Tryz.results54, go_sem, f2]) rfl ⟨⟨B5, d5, rfl, ?_⟩, ?_⟩
        · exact ((show Own shTree w5 w4.heap.size w5.heap.size [.slice B5 RES.length d5] RES from HO5.out).setCell (by dsimp only; omega) _).more (by omega) (by simp [World.setCell])
        · exact (HB1.out.trans (HB5.out.mono hw1)).setCell (by dsimp only; omega) _

end Go.Proofs.YtfibjcaidnofmaaGreatDoor
