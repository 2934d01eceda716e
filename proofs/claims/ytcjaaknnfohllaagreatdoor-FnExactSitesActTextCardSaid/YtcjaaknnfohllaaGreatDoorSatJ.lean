/- The program's words of an operation walked: jobWords. -/
import Derived.Test.YtcjaaknnfohllaaGreatDoorSatI
namespace Go.Proofs.YtcjaaknnfohllaaGreatDoor
open Go.RowKit

set_option maxHeartbeats 8000000 in
set_option maxRecDepth 100000 in
theorem jobWords_any (x : Act) (v : Value) (lo hi : Nat) (w : World) (hx : ActR w lo hi v x) (hhi : hi ≤ w.heap.size) (hE : EnvIn w) (h1 : x.args.length ≤ 8) (h2 : x.input.length ≤ 8) (h3 : ∀ y ∈ x.args, y.size ≤ 64) (h4 : ∀ y ∈ x.input, y.size ≤ 64) :
    Calls Tryz.prog 87 #[v] w fun e w' => (∃ v', e = .returned v' ∧ OwnStrs w' w.heap.size 9 v' (jobW x)) ∧ Below w.heap.size w w' := by
  obtain ⟨A, c, B, d, C, e, rfl, hA, hBr, hC⟩ := hx
  have hbo := (Below.refl w.heap.size w).alloc (Nat.le_refl _) (.cells #[.int .i64 x.k, .int .i64 x.a, .string x.r, .string x.l, .slice A x.args.length c, .slice B x.input.length d, .slice C x.keep.length e] 30)
  have hsz : (w.alloc (.cells #[.int .i64 x.k, .int .i64 x.a, .string x.r, .string x.l, .slice A x.args.length c, .slice B x.input.length d, .slice C x.keep.length e] 30)).heap.size = w.heap.size + 1 := by simp
  have HBK := Lib.hid (Blk.new w 30 #[.int .i64 x.k, .int .i64 x.a, .string x.r, .string x.l, .slice A x.args.length c, .slice B x.input.length d, .slice C x.keep.length e])
  have HA := Lib.hid (hA.below hbo hhi)
  have HB := Lib.hid (hBr.below hbo hhi)
  have HE := Lib.hid (hE.below hbo)
  have HD := Lib.hid hbo
  have HAX := Lib.hid (fun k (h : k < x.args.length) => h3 (x.args.getD k ByteArray.empty) (by rw [List.getD_eq_getElem?_getD, List.getElem?_eq_getElem h]; exact List.getElem_mem _))
  have HBX := Lib.hid (fun k (h : k < x.input.length) => h4 (x.input.getD k ByteArray.empty) (by rw [List.getD_eq_getElem?_getD, List.getElem?_eq_getElem h]; exact List.getElem_mem _))
  have HTA := Lib.hid (fun k (h : k < x.args.length) => map_take_more x.args k h)
  have HTB := Lib.hid (fun k (h : k < x.input.length) => map_take_more x.input k h)
  have HJW := Lib.hid (show jobW x = (x.r :: x.l :: x.args.map plainW) ++ inW x.input from rfl)
  have c1 := HBK.out.cell
  clear hA hBr hC hbo hE h3 h4
  go_enter Tryz.func87, Tryz.ntmps87
  go_upto_region 2 with fail
  generalize w.alloc (.cells #[.int .i64 x.k, .int .i64 x.a, .string x.r, .string x.l, .slice A x.args.length c, .slice B x.input.length d, .slice C x.keep.length e] 30) = w0 at *
  have hlt0 : w.heap.size < w0.heap.size := by omega
  have HO0 := Lib.hid (show OwnStrs (w0.alloc (.cells #[.string x.r, .string x.l] 9)) w0.heap.size 9 (.slice (some ⟨w.heap.size + 1, 0, none⟩) 2 2) [x.r, x.l] from by
    rw [← hsz]
    exact OwnR.lit_ (enc := Value.string) w0 w0.heap.size 9 [x.r, x.l] (by show 2 ≤ _; omega) (Nat.le_refl _))
  have HW0 := Lib.hid ((Below.refl w0.heap.size w0).alloc (Nat.le_refl _) (.cells #[.string x.r, .string x.l] 9))
  have c1 := (HBK.out.below HW0.out hlt0).cell
  go_wp2_with fail
  go_loopw [3, 16] (fun v i wr => ∃ j : Nat, j ≤ x.args.length ∧ i = .int .i64 j ∧ OwnStrs wr w0.heap.size 9 v (x.r :: x.l :: (x.args.take j).map plainW) ∧ Below w0.heap.size w0 wr) (fun _ i _ => x.args.length - (intOf i).toNat)
  case atStart => exact ⟨0, Nat.zero_le _, rfl, HO0.out, HW0.out⟩
  case round =>
    obtain ⟨j, hj, rfl, hown, hbr⟩ := hrel
    have hszr := hbr.size
    have HBR := Lib.hid hbr
    have hAr := HA.out.below hbr (by omega)
    have hll : (x.r :: x.l :: (x.args.take j).map plainW).length ≤ 50 := by
      rw [List.length_cons, List.length_cons, List.length_map, List.length_take]; omega
    have cr := (HBK.out.below hbr hlt0).cell
    clear hbr c1
    by_cases hlt : j < x.args.length
    · obtain ⟨b, off, rfl, _, hbh, hcell⟩ := hAr.at_ hlt
      have i1 : (j : Int) < (x.args.length : Int) := by omega
      have i0 : (0 : Int) ≤ (j : Int) := by omega
      have HN := Lib.hid (HTA.out j hlt)
      have hx1 := HAX.out j hlt
      generalize x.args.getD j ByteArray.empty = X at *
      generalize (x.args.take j).map plainW = Lj at *
      have HP := Lib.hid (fun W h => plain_any X (by omega) W h)
      go_wp2_with fail
      refine (HP.out _ (HE.out.below HBR.out)).mono ?_; rintro e1 w1 ⟨rfl, hb1⟩
      have hs1 : w0.heap.size ≤ w1.heap.size := Nat.le_trans hszr hb1.size
      have hown1 := hown.below hb1
      have HB1 := Lib.hid (HBR.out.trans (hb1.mono hszr))
      have hpw : (⟨(plainP X.data.toList).toArray⟩ : ByteArray) = plainW X := rfl
      rw [hpw]
      generalize plainW X = P at *
      clear hb1 hown hpw
      go_wp2_with (first
        | fail
        | (at_builtin; refine wpList_app1 (enc := Value.string) rfl (.tmp 20) (.tmp 23) 22 9 rfl Tryz.underlying22 rfl (by omega) (fun _ => rfl) infoTxt w1 w0.heap.size _ _ P rfl hown1 rfl (by omega) hs1 ?_; intro v3 w3 hown3 hb3))
      go_roundw
      case rel => exact ⟨j + 1, by omega, by go_num, by rw [HN.out]; exact hown3, HB1.out.trans hb3⟩
      case measure => simp [intOf]; omega
    · have i1 : ¬ (j : Int) < (x.args.length : Int) := by omega
      obtain rfl : j = x.args.length := by omega
      rw [List.take_length] at hown hll
      have HJ1 := Lib.hid HJW.out
      generalize (x.r :: x.l :: x.args.map plainW) = L1 at *
      by_cases h0 : x.input.length = 0
      · have z0 : ¬ (0 : Int) < (x.input.length : Int) := by omega
        have hin : x.input = [] := List.eq_nil_of_length_eq_zero h0
        have HFIN := Lib.hid (show jobW x = L1 ++ x.input.map plainW by rw [HJ1.out, hin]; rfl)
        have HO2 := Lib.hid hown
        have HW2 := Lib.hid HBR.out
        generalize hL2 : L1 = L2 at *
        clear h0 hin hown hL2
        go_wp2_with fail
        go_loopw [3, 36] (fun v i wr => ∃ j : Nat, j ≤ x.input.length ∧ i = .int .i64 j ∧ OwnStrs wr w0.heap.size 9 v (L2 ++ (x.input.take j).map plainW) ∧ Below w0.heap.size w0 wr) (fun _ i _ => x.input.length - (intOf i).toNat)
        case atStart => exact ⟨0, Nat.zero_le _, rfl, by rw [List.take_zero, List.map_nil, List.append_nil]; exact HO2.out, HW2.out⟩
        case round =>
          obtain ⟨q, hq, rfl, hownq, hbq⟩ := hrel
          have hszq := hbq.size
          have HBQ := Lib.hid hbq
          have hBq := HB.out.below hbq (by omega)
          have hllq : (L2 ++ (x.input.take q).map plainW).length ≤ 100 := by
            rw [List.length_append, List.length_map, List.length_take]; omega
          clear hbq
          by_cases hlq : q < x.input.length
          · omega
          · have i1 : ¬ (q : Int) < (x.input.length : Int) := by omega
            obtain rfl : q = x.input.length := by omega
            go_wp2_with fail
            go_ret
            exact ⟨⟨_, rfl, by have h := hownq.mono (show w.heap.size ≤ w0.heap.size by omega); rw [List.take_length] at h; rw [HFIN.out]; exact h⟩, HD.out.trans (HBQ.out.mono (by omega))⟩
      · have z0 : (0 : Int) < (x.input.length : Int) := by omega
        have HFIN0 := Lib.hid (show jobW x = (L1 ++ [wIn]) ++ x.input.map plainW by
          rw [HJ1.out]
          unfold inW
          rw [if_neg (by intro e; rw [e] at h0; exact h0 rfl)]
          simp)
        clear h0
        go_upto_region 9 with (first
          | fail
          | (at_builtin; refine wpList_app1 (enc := Value.string) rfl (.tmp 30) (.tmp 31) 22 9 rfl Tryz.underlying22 rfl (by omega) (fun _ => rfl) infoTxt wr w0.heap.size _ _ wIn rfl hown rfl (by omega) hszr ?_; intro v4 w4 hown4 hb4))
        have hl2 : (L1 ++ [wIn]).length ≤ 60 := by rw [List.length_append, List.length_singleton]; omega
        have HFIN := HFIN0
        have HO2 := Lib.hid hown4
        have HW2 := Lib.hid (HBR.out.trans hb4)
        have cq := (HBK.out.below HW2.out hlt0).cell
        generalize L1 ++ [wIn] = L2 at *
        clear hown4 hown cr HFIN0
        go_wp2_with fail
        go_loopw [3, 36] (fun v i wr => ∃ j : Nat, j ≤ x.input.length ∧ i = .int .i64 j ∧ OwnStrs wr w0.heap.size 9 v (L2 ++ (x.input.take j).map plainW) ∧ Below w0.heap.size w0 wr) (fun _ i _ => x.input.length - (intOf i).toNat)
        case atStart => exact ⟨0, Nat.zero_le _, rfl, by rw [List.take_zero, List.map_nil, List.append_nil]; exact HO2.out, HW2.out⟩
        case round =>
          obtain ⟨q, hq, rfl, hownq, hbq⟩ := hrel
          have hszq := hbq.size
          have HBQ := Lib.hid hbq
          have hBq := HB.out.below hbq (by omega)
          have hllq : (L2 ++ (x.input.take q).map plainW).length ≤ 100 := by
            rw [List.length_append, List.length_map, List.length_take]; omega
          clear hbq
          by_cases hlq : q < x.input.length
          · obtain ⟨b, off, rfl, _, hbh, hcell⟩ := hBq.at_ hlq
            have i1 : (q : Int) < (x.input.length : Int) := by omega
            have i0 : (0 : Int) ≤ (q : Int) := by omega
            have HN := Lib.hid (HTB.out q hlq)
            have hx1 := HBX.out q hlq
            generalize x.input.getD q ByteArray.empty = X at *
            generalize (x.input.take q).map plainW = Lq at *
            have HP := Lib.hid (fun W h => plain_any X (by omega) W h)
            go_wp2_with fail
            refine (HP.out _ (HE.out.below HBQ.out)).mono ?_; rintro e5 w5 ⟨rfl, hb5⟩
            have hs5 : w0.heap.size ≤ w5.heap.size := Nat.le_trans hszq hb5.size
            have hown5 := hownq.below hb5
            have HB5 := Lib.hid (HBQ.out.trans (hb5.mono hszq))
            have hpw : (⟨(plainP X.data.toList).toArray⟩ : ByteArray) = plainW X := rfl
            rw [hpw]
            generalize plainW X = P at *
            clear hb5 hownq hpw
            go_wp2_with (first
              | fail
              | (at_builtin; refine wpList_app1 (enc := Value.string) rfl (.tmp 40) (.tmp 43) 22 9 rfl Tryz.underlying22 rfl (by omega) (fun _ => rfl) infoTxt w5 w0.heap.size _ _ P rfl hown5 rfl (by omega) hs5 ?_; intro v6 w6 hown6 hb6))
            go_roundw
            case rel => exact ⟨q + 1, by omega, by go_num, by rw [HN.out, ← List.append_assoc]; exact hown6, HB5.out.trans hb6⟩
            case measure => simp [intOf]; omega
          · have i1 : ¬ (q : Int) < (x.input.length : Int) := by omega
            obtain rfl : q = x.input.length := by omega
            go_wp2_with fail
            go_ret
            exact ⟨⟨_, rfl, by have h := hownq.mono (show w.heap.size ≤ w0.heap.size by omega); rw [List.take_length] at h; rw [HFIN.out]; exact h⟩, HD.out.trans (HBQ.out.mono (by omega))⟩
end Go.Proofs.YtcjaaknnfohllaaGreatDoor
