/- The reference's words of an operation of a site walked: l34Main. -/
import Derived.Test.YtcjaaknnfohllaaGreatDoorSatT
namespace Go.Proofs.YtcjaaknnfohllaaGreatDoor
open Go.RowKit

theorem keepB_facts {l : List Int} (h : keepB l = true) : l.length ≤ 400 ∧ ∀ j, j < l.length → 0 ≤ l.getD j 0 := by
  unfold keepB at h
  simp only [Bool.and_eq_true, decide_eq_true_eq] at h
  obtain ⟨⟨h1, h2⟩, h3⟩ := h
  refine ⟨h1, fun j => ?_⟩
  induction j with
  | zero => intro hj; rcases h3 with h3 | h3 <;> omega
  | succ j ih =>
    intro hj
    have := ih (by omega)
    unfold riseTo at h2
    have h4 := (List.all_eq_true.1 h2) j (List.mem_range.2 (by omega))
    rw [decide_eq_true_eq] at h4
    omega

set_option maxHeartbeats 4000000 in
set_option maxRecDepth 100000 in
theorem l34Main_job (a : Int) (r l : ByteArray) (xargs xin : List ByteArray) (nk : Nat) (A B C : Option Addr) (c d e lo hi : Nat) (w : World)
    (hA : StrR w lo hi A xargs.length xargs) (hB : StrR w lo hi B xin.length xin) (hhi : hi ≤ w.heap.size) (h1 : xargs.length ≤ 8) (h2 : xin.length ≤ 8) (h3 : ∀ y ∈ xargs, y.size ≤ 64) (h4 : ∀ y ∈ xin, y.size ≤ 64) :
    Calls Tryz.prog 80 #[.agg #[.int .i64 1, .int .i64 a, .string r, .string l, .slice A xargs.length c, .slice B xin.length d, .slice C nk e]] w fun e w' => (∃ v, e = .returned v ∧ OwnStrs w' w.heap.size 9 v (if (xargs.map plainW).all noSp && (xin.map plainW).all noSp then wJob :: r :: l :: (xargs.map plainW ++ inW xin) else [])) ∧ Below w.heap.size w w' := by
  have hbo := (Below.refl w.heap.size w).alloc (Nat.le_refl _) (.cells #[.int .i64 1, .int .i64 a, .string r, .string l, .slice A xargs.length c, .slice B xin.length d, .slice C nk e] 30)
  have hsz : (w.alloc (.cells #[.int .i64 1, .int .i64 a, .string r, .string l, .slice A xargs.length c, .slice B xin.length d, .slice C nk e] 30)).heap.size = w.heap.size + 1 := by simp
  have HBK := Lib.hid (Blk.new w 30 #[.int .i64 1, .int .i64 a, .string r, .string l, .slice A xargs.length c, .slice B xin.length d, .slice C nk e])
  have HPA := Lib.hid (fun W h hw => l34Plains_any A xargs.length c lo hi xargs W h hw (by omega) h3)
  have HPB := Lib.hid (fun W h hw => l34Plains_any B xin.length d lo hi xin W h hw (by omega) h4)
  have HIN := Lib.hid (show inW xin = if xin.map plainW = [] then [] else wIn :: xin.map plainW by
    unfold inW
    by_cases h : xin = []
    · subst h; rfl
    · rw [if_neg h, if_neg (fun e => h (List.map_eq_nil_iff.1 e))])
  have hPA : (xargs.map plainW).length ≤ 8 := by rw [List.length_map]; exact h1
  have hPB : (xin.map plainW).length ≤ 8 := by rw [List.length_map]; exact h2
  have HA1 := Lib.hid (hA.below hbo hhi)
  have HB1 := Lib.hid (hB.below hbo hhi)
  have HD := Lib.hid hbo
  rw [HIN.out]
  generalize (xargs.map plainW).all noSp = okA at *
  generalize (xin.map plainW).all noSp = okB at *
  generalize xargs.map plainW = PA at *
  generalize xin.map plainW = PB at *
  generalize hT : (if PB = [] then [] else wIn :: PB) = T at *
  have HT := Lib.hid hT
  clear hA hB h3 h4 hbo HIN hT
  have c1 := HBK.out.cell
  go_enter Tryz.func80, Tryz.ntmps80
  go_wp2_with fail
  generalize w.alloc (.cells #[.int .i64 1, .int .i64 a, .string r, .string l, .slice A xargs.length c, .slice B xin.length d, .slice C nk e] 30) = w0 at *
  have hlt0 : w.heap.size < w0.heap.size := by omega
  refine (HPA.out _ HA1.out (by omega)).mono ?_; rintro e1 w1 ⟨⟨v1, rfl, hv1⟩, hb1⟩
  have hs1 := hb1.size
  have HV1 := Lib.hid hv1
  have B1 := HBK.out.below hb1 (by omega)
  have c2 := B1.cell
  have HBK1 := Lib.hid B1
  have HB2 := Lib.hid (HB1.out.below hb1 (by omega))
  have HD1 := Lib.hid (HD.out.trans (hb1.mono (by omega)))
  clear hb1 B1 c1 HBK hv1
  go_wp2_with fail
  refine (HPB.out _ HB2.out (by omega)).mono ?_; rintro e2 w2 ⟨⟨v2, rfl, hv2⟩, hb2⟩
  have hs2 := hb2.size
  have HV2 := Lib.hid hv2
  have B2 := HBK1.out.below hb2 (by omega)
  have c3 := B2.cell
  have HBK2 := Lib.hid B2
  have HW2 := Lib.hid hb2
  have HD2 := Lib.hid (HD1.out.trans (hb2.mono (by omega)))
  have hw2 : w.heap.size ≤ w2.heap.size := by omega
  have HN0 := Lib.hid (OwnR.none_ (enc := Value.string) w2 w.heap.size 9 hw2)
  clear hb2 B2 c2 HBK1 hv2
  cases okA
  · go_wp2_with fail
    go_ret
    exact ⟨⟨_, rfl, HN0.out⟩, HD2.out.alloc hw2 _⟩
  · have hv1 := HV1.out rfl
    cases okB
    · go_wp2_with fail
      go_ret
      exact ⟨⟨_, rfl, HN0.out⟩, HD2.out.alloc hw2 _⟩
    · have hv2 := HV2.out rfl
      obtain ⟨A1, cc1, rfl⟩ := hv1.1
      obtain ⟨A2, cc2, rfl⟩ := hv2.1
      have HWA := Lib.hid (show Below w2.heap.size w2 (w2.alloc (.cells #[.string wJob, .string r, .string l] 9)) from (Below.refl _ _).alloc (Nat.le_refl _) _)
      have hr1 := ((OwnR.reads (d := ByteArray.empty) hv1).below HW2.out (Nat.le_refl _)).below HWA.out hs2
      have hr2 := (OwnR.reads (d := ByteArray.empty) hv2).below HWA.out (Nat.le_refl _)
      have hlit : OwnStrs (w2.alloc (.cells #[.string wJob, .string r, .string l] 9)) w2.heap.size 9 (.slice (some ⟨w2.heap.size, 0, none⟩) 3 3) [wJob, r, l] := OwnR.lit_ w2 w2.heap.size 9 [wJob, r, l] (by show 3 ≤ _; omega) (Nat.le_refl _)
      have hwa : w2.heap.size ≤ (w2.alloc (.cells #[.string wJob, .string r, .string l] 9)).heap.size := HWA.out.size
      clear HV1 HV2 hv1 hv2
      by_cases h0 : PB = []
      · have z0 : ¬ (0 : Int) < (PB.length : Int) := by rw [h0]; decide
        have HT0 := Lib.hid (show T = [] by rw [← HT.out, if_pos h0])
        clear h0
        go_wp2_with (first
          | fail
          | (at_builtin; refine wpList_appR (enc := Value.string) (d := ByteArray.empty) rfl (.tmp 37) (.tmp 38) 22 9 rfl Tryz.underlying22 rfl (by omega) (fun _ => rfl) infoTxt _ w2.heap.size _ _ PA rfl hlit A1 cc1 _ _ rfl hr1 (by simp; omega) hwa ?_; intro v3 w3 hown3 hb3))
        go_ret
        exact ⟨⟨_, rfl, by rw [HT0.out, List.append_nil]; exact hown3.mono hw2⟩, HD2.out.trans ((HWA.out.trans hb3).mono hw2)⟩
      · have HT0 := Lib.hid (show T = wIn :: PB by rw [← HT.out, if_neg h0])
        have hp : 0 < PB.length := List.length_pos_iff.2 h0
        have z0 : (0 : Int) < (PB.length : Int) := by omega
        clear h0
        go_wp2_with (first
          | fail
          | (at_builtin; refine wpList_appR (enc := Value.string) (d := ByteArray.empty) rfl (.tmp 37) (.tmp 38) 22 9 rfl Tryz.underlying22 rfl (by omega) (fun _ => rfl) infoTxt _ w2.heap.size _ _ PA rfl hlit A1 cc1 _ _ rfl hr1 (by simp; omega) hwa ?_; intro v3 w3 hown3 hb3; have hs3 : w2.heap.size ≤ w3.heap.size := Nat.le_trans hwa hb3.size; have hr3 := hr2.below hb3 (Nat.le_refl _); have hl3 : ([wJob, r, l] ++ PA).length ≤ 100 := (by simp; omega); generalize hL3 : [wJob, r, l] ++ PA = L3 at *; have HL3 := Lib.hid hL3; clear hL3)
          | (at_builtin; refine wpList_app1 (enc := Value.string) rfl (.tmp 43) (.tmp 44) 22 9 rfl Tryz.underlying22 rfl (by omega) (fun _ => rfl) infoTxt w3 w2.heap.size _ _ wIn rfl hown3 rfl (by omega) hs3 ?_; intro v4 w4 hown4 hb4; have hs4 := Nat.le_trans hs3 hb4.size; have hr4 := hr3.below hb4 (Nat.le_refl _))
          | (at_builtin; refine wpList_appR (enc := Value.string) (d := ByteArray.empty) rfl (.tmp 45) (.tmp 46) 22 9 rfl Tryz.underlying22 rfl (by omega) (fun _ => rfl) infoTxt _ w2.heap.size _ _ PB rfl hown4 A2 cc2 _ _ rfl hr4 (by simp; omega) hs4 ?_; intro v5 w5 hown5 hb5))
        go_ret
        have hfin : OwnStrs w5 w.heap.size 9 v5 (wJob :: r :: l :: (PA ++ T)) := by
          rw [HT0.out, show wJob :: r :: l :: (PA ++ wIn :: PB) = L3 ++ [wIn] ++ PB by rw [← HL3.out]; simp]
          exact hown5.mono hw2
        exact ⟨⟨_, rfl, hfin⟩, HD2.out.trans (((HWA.out.trans hb3).trans (hb4.trans hb5)).mono hw2)⟩
end Go.Proofs.YtcjaaknnfohllaaGreatDoor
