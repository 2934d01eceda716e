/- The program's plain forms walked: plain, long, PlainText. -/
import Derived.Test.YtfibjcaidnofmaaGreatDoorJoinEXAo
namespace Go.Proofs.YtfibjcaidnofmaaGreatDoor
open Go.RowKit

/-- The forms joined so far: one more. -/
theorem join_more (fs : List ByteArray) (F : List UInt8) (i : Nat) (hi : i = 0 ↔ fs = []) : Lib.join ((fs ++ [(⟨F.toArray⟩ : ByteArray)]).map (·.data.toList)) [95] = Lib.join (fs.map (·.data.toList)) [95] ++ (if i = 0 then [] else [95]) ++ F := by
  by_cases h : i = 0
  · obtain rfl := hi.1 h
    rw [if_pos h]
    show Lib.join [F] [95] = Lib.join [] [95] ++ [] ++ F
    rw [join_one]
    rfl
  · have hne : fs ≠ [] := fun e => h (hi.2 e)
    rw [if_neg h, List.map_append]
    show Lib.join (fs.map (·.data.toList) ++ [F]) [95] = _
    rw [join_snoc _ _ _ (by intro e; exact hne (List.map_eq_nil_iff.1 e)), List.append_assoc]

set_option maxHeartbeats 8000000 in
set_option maxRecDepth 100000 in
theorem plain_any (t : ByteArray) (ht : t.size ≤ 4096) (w : World) (hE : EnvIn w) : Calls Tryz.prog 76 #[.string t] w fun e w' => e = .returned (.string ⟨(plainP t.data.toList).toArray⟩) ∧ Below w.heap.size w w' := by
  have HC := Lib.hid (implIsCanon_any t (by omega) w hE.1)
  have HE := Lib.hid hE; clear hE
  cases hcan : canonB t.data.toList
  · rw [hcan] at HC
    by_cases h0 : t.size = 0
    · obtain rfl : t = ⟨#[]⟩ := ByteArray.ext (Array.eq_empty_of_size_eq_zero h0)
      have HR := Lib.hid (show plainP (⟨#[]⟩ : ByteArray).data.toList = quoteP (⟨#[]⟩ : ByteArray).data.toList by unfold plainP; rw [hcan]; rfl)
      have HQ := Lib.hid (fun W h => quoteText_any ⟨#[]⟩ (by decide) W h)
      rw [HR.out]
      generalize quoteP (⟨#[]⟩ : ByteArray).data.toList = R at *
      clear hcan HR
      go_enter Tryz.func76, Tryz.ntmps76
      go_wp2_with fail
      refine HC.out.mono ?_; rintro e1 w1 ⟨rfl, hb1⟩
      have HB1 := Lib.hid hb1; clear hb1
      go_wp2_with fail
      refine (HQ.out _ (HE.out.below HB1.out)).mono ?_; rintro e2 w2 ⟨rfl, hb2⟩
      go_wp2_with fail
      go_ret
      exact ⟨rfl, HB1.out.trans (hb2.mono HB1.out.size)⟩
    · have he := bytes_full t h0
      have hR := plainP_runs hcan (by intro e; rw [← len_list, e] at h0; exact h0 rfl)
      have HR := Lib.hid hR
      generalize plainP t.data.toList = R at *
      clear hR hcan
      have HSH := Lib.hid (fun c W => printable_any c W)
      go_enter Tryz.func76, Tryz.ntmps76
      go_wp2_with fail
      refine HC.out.mono ?_; rintro e1 w1 ⟨rfl, hb1⟩
      clear HC
      have hown0 : OwnStrs (w1.alloc (.cells #[] 9)) w.heap.size 9 (.slice (some ⟨w1.heap.size, 0, none⟩) 0 0) [] := OwnR.none_ _ _ _ hb1.size
      have HB0 := Lib.hid (show Below w.heap.size w (w1.alloc (.cells #[] 9)) from hb1.alloc hb1.size _)
      have hsz : w.heap.size ≤ (w1.alloc (.cells #[] 9)).heap.size := HB0.out.size
      clear hb1
      go_wp2_with fail
      go_loopw [3, 4] (fun v i wr => ∃ (k : Nat) (fs : List ByteArray), k ≤ t.size ∧ i = .int .i64 k ∧ OwnStrs wr w.heap.size 9 v fs ∧ fs.length ≤ k ∧ (k = 0 ↔ fs = []) ∧ (Lib.join (fs.map (·.data.toList)) [95]).length ≤ 10 * k ∧ partB t.data.toList k (Lib.join (fs.map (·.data.toList)) [95]) ∧ Below w.heap.size w wr) (fun _ i _ => t.size - (intOf i).toNat)
      case atStart => exact ⟨0, [], Nat.zero_le _, rfl, hown0, Nat.zero_le _, Iff.intro (fun _ => rfl) (fun _ => rfl), Nat.zero_le _, by unfold partB; rw [if_pos rfl]; rfl, HB0.out⟩
      case round =>
        obtain ⟨i, fs, hi, rfl, hown, hfl, hfi, hbl, hpb, hbw⟩ := hrel
        have HBW := Lib.hid hbw; have HPB := Lib.hid hpb; have HFI := Lib.hid hfi
        clear hbw hpb hown0 hfi
        by_cases hlt : i < t.size
        · have i1 : (i : Int) < (t.size : Int) := by omega
          have i0 : (0 : Int) ≤ (i : Int) := by omega
          have hdi : t.data.toList.drop i = t[i] :: t.data.toList.drop (i + 1) := List.drop_eq_getElem_cons (by rw [len_list]; exact hlt)
          have HDI := Lib.hid hdi
          have hsh : ∀ k, (t.data.toList.drop i)[k]? = t.data.toList[i + k]? := fun k => by rw [List.getElem?_drop]
          have HSL := Lib.hid hsh
          clear hdi hsh
          go_upto_block 2 with fail
          go_cut [5] (fun v wk => ∃ k : Nat, i < k ∧ k ≤ t.size ∧ v = .int .i64 k ∧ runOf (t[i] :: t.data.toList.drop (i + 1)) = (t[i] :: t.data.toList.drop (i + 1)).take (k - i) ∧ runRest (t[i] :: t.data.toList.drop (i + 1)) = (t[i] :: t.data.toList.drop (i + 1)).drop (k - i) ∧ Below wr.heap.size wr wk)
          case first =>
            go_wp2_with fail
            go_loopw [5] (fun v wk => ∃ k : Nat, i < k ∧ k ≤ t.size ∧ v = .int .i64 k ∧ (∀ x ∈ (t[i] :: t.data.toList.drop (i + 1)).take (k - i), showsC x = showsC t[i]) ∧ Below wr.heap.size wr wk) (fun v _ => t.size - (intOf v).toNat)
            case atStart => exact ⟨i + 1, Nat.lt_succ_self _, hlt, by go_num, (fun x h => by rw [Nat.add_sub_cancel_left] at h; simp at h; rw [h]), Below.refl _ _⟩
            case round =>
              obtain ⟨k, hik, hk, rfl, hall, hbk⟩ := hrel
              have HALL := Lib.hid hall; have HBK := Lib.hid hbk.drew
              clear hall hbk
              have hln : (t[i] :: t.data.toList.drop (i + 1)).length = t.size - i := by rw [← HDI.out, List.length_drop, len_list]
              have HLN := Lib.hid hln; clear hln
              by_cases hkt : k < t.size
              · have k1 : (k : Int) < (t.size : Int) := by omega
                have k0 : (0 : Int) ≤ (k : Int) := by omega
                have hg : (t[i] :: t.data.toList.drop (i + 1))[k - i]? = some t[k] := by
                  rw [← HDI.out, HSL.out, show i + (k - i) = k by omega]; exact get_list t k hkt
                have HG := Lib.hid hg; clear hg
                by_cases hse : showsC t[k] = showsC t[i]
                · have qs : (showsC t[k] == showsC t[i]) = true := by rw [hse]; exact beq_self_eq_true _
                  have HNX := Lib.hid (show ∀ x ∈ (t[i] :: t.data.toList.drop (i + 1)).take (k + 1 - i), showsC x = showsC t[i] from fun x hx => by
                    rw [show k + 1 - i = (k - i) + 1 by omega, take_snoc' _ _ _ HG.out] at hx
                    rcases List.mem_append.1 hx with hx | hx
                    · exact HALL.out x hx
                    · rw [List.mem_singleton.1 hx]; exact hse)
                  clear hse
                  go_wp2_with fail
                  refine AnyT.region (fun _ => false) (fun _ => True) (by kernel_rfl) trivial (fun hHeld => ?_)
                  ((refine AnyT.takeAny 0 19 ?_ rfl (by kernel_rfl) (by kernel_rfl) (by kernel_rfl) rfl rfl (fun _ _ _ _ h => h) rfl ?_ (by assumption) ?_); rotate_left; (intro w; go_simp; (try (with_reducible rfl))); simp only [Act.put, List.setIfInBounds_toArray, List.set_cons_zero, List.set_cons_succ])
                  ((refine AnyT.takeAny 1 20 ?_ rfl (by kernel_rfl) (by kernel_rfl) (by kernel_rfl) rfl rfl (fun _ _ _ _ h => h) rfl ?_ (by assumption) ?_); rotate_left; (intro w; go_simp; (try (with_reducible rfl))); simp only [Act.put, List.setIfInBounds_toArray, List.set_cons_zero, List.set_cons_succ])
                  ((refine AnyT.takeAny 2 21 ?_ rfl (by kernel_rfl) (by kernel_rfl) (by kernel_rfl) rfl rfl (fun _ _ _ _ h => h) rfl ?_ (by assumption) ?_); rotate_left; (intro w; go_simp; (try (with_reducible rfl))); simp only [Act.put, List.setIfInBounds_toArray, List.set_cons_zero, List.set_cons_succ])
                  ((refine AnyT.takeAny 3 22 ?_ rfl (by kernel_rfl) (by kernel_rfl) (by kernel_rfl) rfl rfl (fun _ _ _ _ h => h) rfl ?_ (by assumption) ?_); rotate_left; (intro w; go_simp; (try (with_reducible rfl))); simp only [Act.put, List.setIfInBounds_toArray, List.set_cons_zero, List.set_cons_succ])
                  ((refine AnyT.takeAny 4 23 ?_ rfl (by kernel_rfl) (by kernel_rfl) (by kernel_rfl) rfl rfl (fun _ _ _ _ h => h) rfl ?_ (by assumption) ?_); rotate_left; (intro w; go_simp; (try (with_reducible rfl))); simp only [Act.put, List.setIfInBounds_toArray, List.set_cons_zero, List.set_cons_succ])
                  ((refine AnyT.takeAny 5 24 ?_ rfl (by kernel_rfl) (by kernel_rfl) (by kernel_rfl) rfl rfl (fun _ _ _ _ h => h) rfl ?_ (by assumption) ?_); rotate_left; (intro w; go_simp; (try (with_reducible rfl))); simp only [Act.put, List.setIfInBounds_toArray, List.set_cons_zero, List.set_cons_succ])
                  ((refine AnyT.takeAny 6 25 ?_ rfl (by kernel_rfl) (by kernel_rfl) (by kernel_rfl) rfl rfl (fun _ _ _ _ h => h) rfl ?_ (by assumption) ?_); rotate_left; (intro w; go_simp; (try (with_reducible rfl))); simp only [Act.put, List.setIfInBounds_toArray, List.set_cons_zero, List.set_cons_succ])
                  ((refine AnyT.takeAny 7 26 ?_ rfl (by kernel_rfl) (by kernel_rfl) (by kernel_rfl) rfl rfl (fun _ _ _ _ h => h) rfl ?_ (by assumption) ?_); rotate_left; (intro w; go_simp; (try (with_reducible rfl))); simp only [Act.put, List.setIfInBounds_toArray, List.set_cons_zero, List.set_cons_succ])
                  ((refine AnyT.takeAny 9 28 ?_ rfl (by kernel_rfl) (by kernel_rfl) (by kernel_rfl) rfl rfl (fun _ _ _ _ h => h) rfl ?_ (by assumption) ?_); rotate_left; (intro w; go_simp; (try (with_reducible rfl))); simp only [Act.put, List.setIfInBounds_toArray, List.set_cons_zero, List.set_cons_succ])
                  ((refine AnyT.takeAny 10 29 ?_ rfl (by kernel_rfl) (by kernel_rfl) (by kernel_rfl) rfl rfl (fun _ _ _ _ h => h) rfl ?_ (by assumption) ?_); rotate_left; (intro w; go_simp; (try (with_reducible rfl))); simp only [Act.put, List.setIfInBounds_toArray, List.set_cons_zero, List.set_cons_succ])
                  ((refine AnyT.takeAny 11 30 ?_ rfl (by kernel_rfl) (by kernel_rfl) (by kernel_rfl) rfl rfl (fun _ _ _ _ h => h) rfl ?_ (by assumption) ?_); rotate_left; (intro w; go_simp; (try (with_reducible rfl))); simp only [Act.put, List.setIfInBounds_toArray, List.set_cons_zero, List.set_cons_succ])
                  ((refine AnyT.one (i := 8) (by kernel_rfl) rfl (fun K hK => ?_)))
                  go_simp
                  refine (HSH.out _ _).mono ?_
                  rintro e5 w5 ⟨rfl, rfl⟩
                  refine hK.out _ _ trivial (fun hHeld => ?_)
                  clear hK K
                  (try simp only [Act.put, List.setIfInBounds_toArray, List.set_cons_zero, List.set_cons_succ])
                  ((refine AnyT.one (i := 12) (by kernel_rfl) rfl (fun K hK => ?_)))
                  go_simp
                  refine (HSH.out _ _).mono ?_
                  rintro e6 w6 ⟨rfl, rfl⟩
                  refine hK.out _ _ trivial (fun hHeld => ?_)
                  clear hK K
                  (try simp only [Act.put, List.setIfInBounds_toArray, List.set_cons_zero, List.set_cons_succ])
                  ((refine AnyT.takeAny 13 32 ?_ rfl (by kernel_rfl) (by kernel_rfl) (by kernel_rfl) rfl rfl (fun _ _ _ _ h => h) rfl ?_ (by assumption) ?_); rotate_left; (intro w; go_simp; (try (with_reducible rfl))); simp only [Act.put, List.setIfInBounds_toArray, List.set_cons_zero, List.set_cons_succ])
                  ((refine AnyT.takeAny 14 33 ?_ rfl (by kernel_rfl) (by kernel_rfl) (by kernel_rfl) rfl rfl (fun _ _ _ _ h => h) rfl ?_ (by assumption) ?_); rotate_left; (intro w; go_simp; (try (with_reducible rfl))); simp only [Act.put, List.setIfInBounds_toArray, List.set_cons_zero, List.set_cons_succ])
                  refine AnyT.done (by kernel_rfl) ?_ _
                  go_wp2_with fail
                  go_roundw
                  case rel => exact ⟨k + 1, by omega, by omega, by go_num, HNX.out, HBK.out⟩
                  case measure => simp [intOf]; omega
                · have qs : (showsC t[k] == showsC t[i]) = false := by rw [beq_eq_false_iff_ne]; exact hse
                  have HEX := Lib.hid (run_exit t[i] (t.data.toList.drop (i + 1)) (k - i) (by rw [HLN.out]; omega) HALL.out (fun x hx => by rw [HG.out] at hx; injection hx with hx; rw [← hx]; exact hse))
                  clear hse
                  go_wp2_with fail
                  refine AnyT.region (fun _ => false) (fun _ => True) (by kernel_rfl) trivial (fun hHeld => ?_)
                  ((refine AnyT.takeAny 0 19 ?_ rfl (by kernel_rfl) (by kernel_rfl) (by kernel_rfl) rfl rfl (fun _ _ _ _ h => h) rfl ?_ (by assumption) ?_); rotate_left; (intro w; go_simp; (try (with_reducible rfl))); simp only [Act.put, List.setIfInBounds_toArray, List.set_cons_zero, List.set_cons_succ])
                  ((refine AnyT.takeAny 1 20 ?_ rfl (by kernel_rfl) (by kernel_rfl) (by kernel_rfl) rfl rfl (fun _ _ _ _ h => h) rfl ?_ (by assumption) ?_); rotate_left; (intro w; go_simp; (try (with_reducible rfl))); simp only [Act.put, List.setIfInBounds_toArray, List.set_cons_zero, List.set_cons_succ])
                  ((refine AnyT.takeAny 2 21 ?_ rfl (by kernel_rfl) (by kernel_rfl) (by kernel_rfl) rfl rfl (fun _ _ _ _ h => h) rfl ?_ (by assumption) ?_); rotate_left; (intro w; go_simp; (try (with_reducible rfl))); simp only [Act.put, List.setIfInBounds_toArray, List.set_cons_zero, List.set_cons_succ])
                  ((refine AnyT.takeAny 3 22 ?_ rfl (by kernel_rfl) (by kernel_rfl) (by kernel_rfl) rfl rfl (fun _ _ _ _ h => h) rfl ?_ (by assumption) ?_); rotate_left; (intro w; go_simp; (try (with_reducible rfl))); simp only [Act.put, List.setIfInBounds_toArray, List.set_cons_zero, List.set_cons_succ])
                  ((refine AnyT.takeAny 4 23 ?_ rfl (by kernel_rfl) (by kernel_rfl) (by kernel_rfl) rfl rfl (fun _ _ _ _ h => h) rfl ?_ (by assumption) ?_); rotate_left; (intro w; go_simp; (try (with_reducible rfl))); simp only [Act.put, List.setIfInBounds_toArray, List.set_cons_zero, List.set_cons_succ])
                  ((refine AnyT.takeAny 5 24 ?_ rfl (by kernel_rfl) (by kernel_rfl) (by kernel_rfl) rfl rfl (fun _ _ _ _ h => h) rfl ?_ (by assumption) ?_); rotate_left; (intro w; go_simp; (try (with_reducible rfl))); simp only [Act.put, List.setIfInBounds_toArray, List.set_cons_zero, List.set_cons_succ])
                  ((refine AnyT.takeAny 6 25 ?_ rfl (by kernel_rfl) (by kernel_rfl) (by kernel_rfl) rfl rfl (fun _ _ _ _ h => h) rfl ?_ (by assumption) ?_); rotate_left; (intro w; go_simp; (try (with_reducible rfl))); simp only [Act.put, List.setIfInBounds_toArray, List.set_cons_zero, List.set_cons_succ])
                  ((refine AnyT.takeAny 7 26 ?_ rfl (by kernel_rfl) (by kernel_rfl) (by kernel_rfl) rfl rfl (fun _ _ _ _ h => h) rfl ?_ (by assumption) ?_); rotate_left; (intro w; go_simp; (try (with_reducible rfl))); simp only [Act.put, List.setIfInBounds_toArray, List.set_cons_zero, List.set_cons_succ])
                  ((refine AnyT.takeAny 9 28 ?_ rfl (by kernel_rfl) (by kernel_rfl) (by kernel_rfl) rfl rfl (fun _ _ _ _ h => h) rfl ?_ (by assumption) ?_); rotate_left; (intro w; go_simp; (try (with_reducible rfl))); simp only [Act.put, List.setIfInBounds_toArray, List.set_cons_zero, List.set_cons_succ])
                  ((refine AnyT.takeAny 10 29 ?_ rfl (by kernel_rfl) (by kernel_rfl) (by kernel_rfl) rfl rfl (fun _ _ _ _ h => h) rfl ?_ (by assumption) ?_); rotate_left; (intro w; go_simp; (try (with_reducible rfl))); simp only [Act.put, List.setIfInBounds_toArray, List.set_cons_zero, List.set_cons_succ])
                  ((refine AnyT.takeAny 11 30 ?_ rfl (by kernel_rfl) (by kernel_rfl) (by kernel_rfl) rfl rfl (fun _ _ _ _ h => h) rfl ?_ (by assumption) ?_); rotate_left; (intro w; go_simp; (try (with_reducible rfl))); simp only [Act.put, List.setIfInBounds_toArray, List.set_cons_zero, List.set_cons_succ])
                  ((refine AnyT.one (i := 8) (by kernel_rfl) rfl (fun K hK => ?_)))
                  go_simp
                  refine (HSH.out _ _).mono ?_
                  rintro e5 w5 ⟨rfl, rfl⟩
                  refine hK.out _ _ trivial (fun hHeld => ?_)
                  clear hK K
                  (try simp only [Act.put, List.setIfInBounds_toArray, List.set_cons_zero, List.set_cons_succ])
                  ((refine AnyT.one (i := 12) (by kernel_rfl) rfl (fun K hK => ?_)))
                  go_simp
                  refine (HSH.out _ _).mono ?_
                  rintro e6 w6 ⟨rfl, rfl⟩
                  refine hK.out _ _ trivial (fun hHeld => ?_)
                  clear hK K
                  (try simp only [Act.put, List.setIfInBounds_toArray, List.set_cons_zero, List.set_cons_succ])
                  ((refine AnyT.takeAny 13 32 ?_ rfl (by kernel_rfl) (by kernel_rfl) (by kernel_rfl) rfl rfl (fun _ _ _ _ h => h) rfl ?_ (by assumption) ?_); rotate_left; (intro w; go_simp; (try (with_reducible rfl))); simp only [Act.put, List.setIfInBounds_toArray, List.set_cons_zero, List.set_cons_succ])
                  ((refine AnyT.takeAny 14 33 ?_ rfl (by kernel_rfl) (by kernel_rfl) (by kernel_rfl) rfl rfl (fun _ _ _ _ h => h) rfl ?_ (by assumption) ?_); rotate_left; (intro w; go_simp; (try (with_reducible rfl))); simp only [Act.put, List.setIfInBounds_toArray, List.set_cons_zero, List.set_cons_succ])
                  refine AnyT.done (by kernel_rfl) ?_ _
                  go_wp2_with fail
                  go_meet
                  case rel => exact ⟨k, hik, hk, rfl, HEX.out.1, HEX.out.2, HBK.out⟩
              · have k1 : ¬ (k : Int) < (t.size : Int) := by omega
                have kd : decide ((k : Int) < (t.size : Int)) = false := decide_eq_false k1
                have kd' : decide (k < t.size) = false := decide_eq_false hkt
                have HEX := Lib.hid (run_exit t[i] (t.data.toList.drop (i + 1)) (k - i) (by rw [HLN.out]; omega) HALL.out (fun x hx => by rw [List.getElem?_eq_none (by rw [HLN.out]; omega)] at hx; cases hx))
                go_wp2_with fail
                refine AnyT.region (fun _ => false) (fun _ => True) (by kernel_rfl) trivial (fun hHeld => ?_)
                ((refine AnyT.takeAny 0 19 ?_ rfl (by kernel_rfl) (by kernel_rfl) (by kernel_rfl) rfl rfl (fun _ _ _ _ h => h) rfl ?_ (by assumption) ?_); rotate_left; (intro w; go_simp; (try (with_reducible rfl))); simp only [Act.put, List.setIfInBounds_toArray, List.set_cons_zero, List.set_cons_succ])
                ((refine AnyT.takeAny 1 20 ?_ rfl (by kernel_rfl) (by kernel_rfl) (by kernel_rfl) rfl rfl (fun _ _ _ _ h => h) rfl ?_ (by assumption) ?_); rotate_left; (intro w; go_simp; (try (with_reducible rfl))); simp only [Act.put, List.setIfInBounds_toArray, List.set_cons_zero, List.set_cons_succ])
                ((refine AnyT.takeAny 2 21 ?_ rfl (by kernel_rfl) (by kernel_rfl) (by kernel_rfl) rfl rfl (fun _ _ _ _ h => h) rfl ?_ (by assumption) ?_); rotate_left; (intro w; go_simp; (try (with_reducible rfl))); simp only [Act.put, List.setIfInBounds_toArray, List.set_cons_zero, List.set_cons_succ])
                ((refine AnyT.takeAny 3 22 ?_ rfl (by kernel_rfl) (by kernel_rfl) (by kernel_rfl) rfl rfl (fun _ _ _ _ h => h) rfl ?_ (by assumption) ?_); rotate_left; (intro w; go_simp; (try (with_reducible rfl))); simp only [Act.put, List.setIfInBounds_toArray, List.set_cons_zero, List.set_cons_succ])
                ((refine AnyT.takeAny 4 23 ?_ rfl (by kernel_rfl) (by kernel_rfl) (by kernel_rfl) rfl rfl (fun _ _ _ _ h => h) rfl ?_ (by assumption) ?_); rotate_left; (intro w; go_simp; (try (with_reducible rfl))); simp only [Act.put, List.setIfInBounds_toArray, List.set_cons_zero, List.set_cons_succ])
                ((refine AnyT.skip 5 24 rfl (by kernel_rfl) (by kernel_rfl) (by kernel_rfl) rfl rfl (fun _ _ _ _ h => h) rfl (by assumption) ?_); simp only [Act.put, List.setIfInBounds_toArray, List.set_cons_zero, List.set_cons_succ])
                ((refine AnyT.skip 6 25 rfl (by kernel_rfl) (by kernel_rfl) (by kernel_rfl) rfl rfl (fun _ _ _ _ h => h) rfl (by assumption) ?_); simp only [Act.put, List.setIfInBounds_toArray, List.set_cons_zero, List.set_cons_succ])
                ((refine AnyT.skip 7 26 rfl (by kernel_rfl) (by kernel_rfl) (by kernel_rfl) rfl rfl (fun _ _ _ _ h => h) rfl (by assumption) ?_); simp only [Act.put, List.setIfInBounds_toArray, List.set_cons_zero, List.set_cons_succ])
                ((refine AnyT.skip 8 27 rfl (by kernel_rfl) (by kernel_rfl) (by kernel_rfl) rfl rfl (fun _ _ _ _ h => h) rfl (by assumption) ?_); simp only [Act.put, List.setIfInBounds_toArray, List.set_cons_zero, List.set_cons_succ])
                ((refine AnyT.skip 9 28 rfl (by kernel_rfl) (by kernel_rfl) (by kernel_rfl) rfl rfl (fun _ _ _ _ h => h) rfl (by assumption) ?_); simp only [Act.put, List.setIfInBounds_toArray, List.set_cons_zero, List.set_cons_succ])
                ((refine AnyT.skip 10 29 rfl (by kernel_rfl) (by kernel_rfl) (by kernel_rfl) rfl rfl (fun _ _ _ _ h => h) rfl (by assumption) ?_); simp only [Act.put, List.setIfInBounds_toArray, List.set_cons_zero, List.set_cons_succ])
                ((refine AnyT.skip 11 30 rfl (by kernel_rfl) (by kernel_rfl) (by kernel_rfl) rfl rfl (fun _ _ _ _ h => h) rfl (by assumption) ?_); simp only [Act.put, List.setIfInBounds_toArray, List.set_cons_zero, List.set_cons_succ])
                ((refine AnyT.skip 12 31 rfl (by kernel_rfl) (by kernel_rfl) (by kernel_rfl) rfl rfl (fun _ _ _ _ h => h) rfl (by assumption) ?_); simp only [Act.put, List.setIfInBounds_toArray, List.set_cons_zero, List.set_cons_succ])
                ((refine AnyT.skip 13 32 rfl (by kernel_rfl) (by kernel_rfl) (by kernel_rfl) rfl rfl (fun _ _ _ _ h => h) rfl (by assumption) ?_); simp only [Act.put, List.setIfInBounds_toArray, List.set_cons_zero, List.set_cons_succ])
                ((refine AnyT.takeAny 14 33 ?_ rfl (by kernel_rfl) (by kernel_rfl) (by kernel_rfl) rfl rfl (fun _ _ _ _ h => h) rfl ?_ (by assumption) ?_); rotate_left; (intro w; go_simp; (try (with_reducible rfl))); simp only [Act.put, List.setIfInBounds_toArray, List.set_cons_zero, List.set_cons_succ])
                refine AnyT.done (by kernel_rfl) ?_ _
                go_wp2_with fail
                go_meet
                case rel => exact ⟨k, hik, hk, rfl, HEX.out.1, HEX.out.2, HBK.out⟩
          case rest =>
            obtain ⟨k, hik, hk, rfl, hro, hrr, hbk⟩ := hcut
            have hown2 := hown.below hbk
            have hsub : (t.extract i k).size = k - i := by rw [ByteArray.size_extract]; omega
            have hfol := formP_len (t.extract i k).data.toList
            rw [len_list, hsub] at hfol
            have hst := partB_step HPB.out HDI.out hik ⟨hro, hrr⟩
            rw [← HDI.out, ← extract_list] at hst
            have HBK := Lib.hid (HBW.out.trans (hbk.mono HBW.out.size))
            have HP := Lib.hid (runForm_any (t.extract i k) (by omega) (by omega) wc (HE.out.below HBK.out))
            have hbs := HBK.out.size
            clear hbk hown hro hrr
            have k0 : (0 : Int) ≤ (k : Int) := by omega
            have k1 : (k : Int) ≤ (t.size : Int) := by omega
            have k2 : (i : Int) ≤ (k : Int) := by omega
            generalize formP (t.extract i k).data.toList = F at *
            rw [← join_more fs F i HFI.out] at hst
            have HST := Lib.hid hst
            have hjl := congrArg List.length (join_more fs F i HFI.out)
            rw [List.length_append, List.length_append] at hjl
            have h95 : (if i = 0 then [] else [95] : List UInt8).length ≤ 1 := by split <;> simp
            have HJL := Lib.hid (show (Lib.join ((fs ++ [(⟨F.toArray⟩ : ByteArray)]).map (·.data.toList)) [95]).length ≤ 10 * k by omega)
            have hfs2 : fs.length ≤ 1000000 := by omega
            clear hst hjl h95
            go_wp2_with fail
            refine HP.out.mono ?_; rintro e2 w2 ⟨rfl, hb2⟩; have hown3 := hown2.below hb2; have hs2 := Nat.le_trans hbs hb2.size
            go_wp2_with (first
              | fail
              | (at_builtin; refine wpList_app1 (enc := Value.string) rfl (.tmp 36) (.tmp 42) 29 9 rfl Tryz.underlying29 rfl (by omega) (fun _ => rfl) infoTxt w2 w.heap.size _ fs ⟨F.toArray⟩ rfl hown3 rfl (by omega) hs2 ?_; intro v3 w3 hown4 hb3))
            go_roundw
            case rel => exact ⟨k, _, hk, rfl, hown4, by rw [List.length_append]; simp only [List.length_cons, List.length_nil]; omega, Iff.intro (fun e => by omega) (fun e => by simp at e), HJL.out, HST.out, HBK.out.trans ((hb2.mono hbs).trans hb3)⟩
            case measure => simp [intOf]; omega
        · have i1 : ¬ (i : Int) < (t.size : Int) := by omega
          have HFE := Lib.hid (partB_end HPB.out (show i = t.data.toList.length by rw [len_list]; omega) (by omega))
          have HJ := Lib.hid (join_own hown (by omega) ⟨#[95]⟩ (by show (Lib.join (fs.map (·.data.toList)) [95]).length ≤ _; omega))
          have HJN := Lib.hid (show Lib.join (fs.map (·.data.toList)) (⟨#[95]⟩ : ByteArray).data.toList = R by rw [HR.out, ← HFE.out])
          clear hown
          go_wp2_with fail
          refine HJ.out.mono ?_; rintro e2 w2 ⟨rfl, hb2⟩
          rw [HJN.out]
          go_wp2_with fail
          go_ret
          exact ⟨rfl, HBW.out.trans (hb2.mono HBW.out.size)⟩
  · rw [hcan] at HC
    have HR := Lib.hid (show plainP t.data.toList = t.data.toList by unfold plainP; rw [hcan]; rfl)
    rw [HR.out]
    clear hcan
    go_enter Tryz.func76, Tryz.ntmps76
    go_wp2_with fail
    refine HC.out.mono ?_; rintro e1 w1 ⟨rfl, hb1⟩
    go_wp2_with fail
    go_ret
    exact ⟨rfl, hb1⟩

theorem longB_pays (w : World) : PredAt Tryz.prog 127 #[] Value.string (fun x : ByteArray => decide (64 < x.size)) w := by
  intro W x hb
  unfold FnGives
  by_cases h : 64 < x.size
  · go_enter Tryz.func127, Tryz.ntmps127
    go_wp2
    go_ret
    exact ⟨by simp [h]; omega, 0, rfl⟩
  · go_enter Tryz.func127, Tryz.ntmps127
    go_wp2
    go_ret
    exact ⟨by simp [h]; omega, 0, rfl⟩

set_option maxHeartbeats 4000000 in
theorem long_one (b : Nat) (t : ByteArray) (c : Nat) (w : World) (hc : w.cell? ⟨b, 0, none⟩ = some (.string t)) :
    Calls Tryz.prog 75 #[.slice (some ⟨b, 0, none⟩) 1 c] w fun e w' => e = .returned (.bool (decide (64 < t.size))) ∧ ∃ q, w' = w.drewN q := by
  have HC := Lib.hid (fun (W : World) (hW : W.cell? ⟨b, 0, none⟩ = some (.string t)) =>
    Tryz.slices_ContainsFunc Value.string (fun x : ByteArray => decide (64 < x.size)) 127 #[] (enters_of Tryz.func127 (by kernel_rfl) rfl) b 0 1 c [t] W (longB_pays W) (Nat.le_refl _) (by omega)
      (fun j hj => by
        have hj' : j < 1 := hj
        obtain rfl : j = 0 := by omega
        rw [hW]; rfl))
  have HH := Lib.hid hc; clear hc
  go_enter Tryz.func75, Tryz.ntmps75
  go_wp2_with fail
  refine (HC.out _ HH.out).mono ?_
  rintro e w1 ⟨rfl, q, rfl⟩
  go_wp2_with fail
  go_ret
  exact ⟨by simp, q, rfl⟩

set_option maxHeartbeats 4000000 in
theorem implPlainText_any (t : ByteArray) (w : World) (hE : EnvIn w) : Calls Tryz.prog 25 #[.string t] w fun e w' => e = .returned (.string ⟨(if 64 < t.size then [] else plainP t.data.toList).toArray⟩) ∧ Below w.heap.size w w' := by
  have HE := Lib.hid hE; clear hE
  have HL := Lib.hid (fun b c W h => long_one b t c W h)
  have HB := Lib.hid (show Below w.heap.size w (w.alloc (.cells #[.string t] 9)) from (Below.refl _ _).alloc (Nat.le_refl _) _)
  by_cases h : 64 < t.size
  · rw [if_pos h]
    rw [decide_eq_true h] at HL
    clear h
    go_enter Tryz.func25, Tryz.ntmps25
    go_wp2_with fail
    refine (HL.out _ _ _ (cell_of_row _ _ _ _ _ _ (heap_alloc_new _ _))).mono ?_
    rintro e1 w1 ⟨rfl, q, rfl⟩
    go_wp2_with fail
    go_ret
    exact ⟨rfl, HB.out.trans (by exact (below_drewN' _ q).mono HB.out.size)⟩
  · rw [if_neg h]
    rw [decide_eq_false h] at HL
    have HP := Lib.hid (fun W hW => plain_any t (by omega) W hW)
    clear h
    generalize plainP t.data.toList = R at *
    go_enter Tryz.func25, Tryz.ntmps25
    go_wp2_with fail
    refine (HL.out _ _ _ (cell_of_row _ _ _ _ _ _ (heap_alloc_new _ _))).mono ?_
    rintro e1 w1 ⟨rfl, q, rfl⟩
    have HB2 := Lib.hid (HB.out.trans ((below_drewN' _ q).mono HB.out.size))
    go_wp2_with fail
    refine (HP.out _ (HE.out.below HB2.out)).mono ?_; rintro e1 w1 ⟨rfl, hb1⟩
    go_wp2_with fail
    go_ret
    exact ⟨rfl, HB2.out.trans (hb1.mono HB2.out.size)⟩
end Go.Proofs.YtfibjcaidnofmaaGreatDoor

