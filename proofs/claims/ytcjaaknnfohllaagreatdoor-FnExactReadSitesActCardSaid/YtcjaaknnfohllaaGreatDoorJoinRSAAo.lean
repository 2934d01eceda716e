/- The program's plain forms walked: plain, long, PlainText. -/
import Derived.Test.YtcjaaknnfohllaaGreatDoorJoinRSAAi
import Derived.Test.YtcjaaknnfohllaaGreatDoorJoinRSAAn
import Derived.Lib.FieldsP
namespace Go.Proofs.YtcjaaknnfohllaaGreatDoor
open Go.RowKit

/-- The forms joined so far: one more. -/
theorem join_more (fs : List ByteArray) (F : List UInt8) (i : Nat) (hi : i = 0 ↔ fs = []) : Lib.join ((fs ++ [(⟨F.toArray⟩ : ByteArray)]).map (·.data.toList)) [95] = Lib.join (fs.map (·.data.toList)) [95] ++ (if i = 0 then [] else [95]) ++ F := by
  by_cases h : i = 0
  · obtain rfl := hi.1 h
    rw [if_pos h]
    show Lib.join [F] [95] = Lib.join [] [95] ++ [] ++ F
    rw [join_one]
    rfl
  · have hne : fs ≠ [] := fun e => h (hi.2 e)
    rw [if_neg h, List.map_append]
    show Lib.join (fs.map (·.data.toList) ++ [F]) [95] = _
    rw [join_snoc _ _ _ (by intro e; exact hne (List.map_eq_nil_iff.1 e)), List.append_assoc]

set_option maxHeartbeats 8000000 in
set_option maxRecDepth 100000 in
theorem plain_any (t : ByteArray) (ht : t.size ≤ 4096) (w : World) (hE : EnvIn w) : Calls Tryz.prog 150 #[.string t] w fun e w' => e = .returned (.string ⟨(plainP t.data.toList).toArray⟩) ∧ Below w.heap.size w w' := by
  have HC := Lib.hid (implIsCanon_any t (by omega) w hE.1)
  have HE := Lib.hid hE; clear hE
  cases hcan : canonB t.data.toList
  · rw [hcan] at HC
    by_cases h0 : t.size = 0
    · obtain rfl : t = ⟨#[]⟩ := ByteArray.ext (Array.eq_empty_of_size_eq_zero h0)
      have HR := Lib.hid (show plainP (⟨#[]⟩ : ByteArray).data.toList = quoteP (⟨#[]⟩ : ByteArray).data.toList by unfold plainP; rw [hcan]; rfl)
      have HQ := Lib.hid (fun W h => quoteText_any ⟨#[]⟩ (by decide) W h)
      rw [HR.out]
      generalize quoteP (⟨#[]⟩ : ByteArray).data.toList = R at *
      clear hcan HR
      go_enter Tryz.func150, Tryz.ntmps150
      go_wp2_with fail
      refine HC.out.mono ?_; rintro e1 w1 ⟨rfl, hb1⟩
      have HB1 := Lib.hid hb1; clear hb1
      go_wp2_with fail
      refine (HQ.out _ (HE.out.below HB1.out)).mono ?_; rintro e2 w2 ⟨rfl, hb2⟩
      go_wp2_with fail
      go_ret
      exact ⟨rfl, HB1.out.trans (hb2.mono HB1.out.size)⟩
    · have he := bytes_full t h0
      have hR := plainP_runs hcan (by intro e; rw [← len_list, e] at h0; exact h0 rfl)
      have HR := Lib.hid hR
      generalize plainP t.data.toList = R at *
      clear hR hcan
      have HSH := Lib.hid (fun c W => printable_any c W)
      go_enter Tryz.func150, Tryz.ntmps150
      go_wp2_with fail
      refine HC.out.mono ?_; rintro e1 w1 ⟨rfl, hb1⟩
      clear HC
      have hown0 : OwnStrs (w1.alloc (.cells #[] 9)) w.heap.size 9 (.slice (some ⟨w1.heap.size, 0, none⟩) 0 0) [] := OwnR.none_ _ _ _ hb1.size
      have HB0 := Lib.hid (show Below w.heap.size w (w1.alloc (.cells #[] 9)) from hb1.alloc hb1.size _)
      have hsz : w.heap.size ≤ (w1.alloc (.cells #[] 9)).heap.size := HB0.out.size
      clear hb1
      go_wp2_with fail
      go_loopw [3, 4] (fun v i wr => ∃ (k : Nat) (fs : List ByteArray), k ≤ t.size ∧ i = .int .i64 k ∧ OwnStrs wr w.heap.size 9 v fs ∧ fs.length ≤ k ∧ (k = 0 ↔ fs = []) ∧ (Lib.join (fs.map (·.data.toList)) [95]).length ≤ 10 * k ∧ partB t.data.toList k (Lib.join (fs.map (·.data.toList)) [95]) ∧ Below w.heap.size w wr) (fun _ i _ => t.size - (intOf i).toNat)
      case atStart => exact ⟨0, [], Nat.zero_le _, rfl, hown0, Nat.zero_le _, Iff.intro (fun _ => rfl) (fun _ => rfl), Nat.zero_le _, by unfold partB; rw [if_pos rfl]; rfl, HB0.out⟩
      case round =>
        obtain ⟨i, fs, hi, rfl, hown, hfl, hfi, hbl, hpb, hbw⟩ := hrel
        have HBW := Lib.hid hbw; have HPB := Lib.hid hpb; have HFI := Lib.hid hfi
        clear hbw hpb hown0 hfi
        by_cases hlt : i < t.size
        · have i1 : (i : Int) < (t.size : Int) := by omega
          have i0 : (0 : Int) ≤ (i : Int) := by omega
          have hdi : t.data.toList.drop i = t[i] :: t.data.toList.drop (i + 1) := List.drop_eq_getElem_cons (by rw [len_list]; exact hlt)
          have HDI := Lib.hid hdi
          have hsh : ∀ k, (t.data.toList.drop i)[k]? = t.data.toList[i + k]? := fun k => by rw [List.getElem?_drop]
          have HSL := Lib.hid hsh
          clear hdi hsh
          go_upto_block 2 with fail
          go_cut [5] (fun v wk => ∃ k : Nat, i < k ∧ k ≤ t.size ∧ v = .int .i64 k ∧ runOf (t[i] :: t.data.toList.drop (i + 1)) = (t[i] :: t.data.toList.drop (i + 1)).take (k - i) ∧ runRest (t[i] :: t.data.toList.drop (i + 1)) = (t[i] :: t.data.toList.drop (i + 1)).drop (k - i) ∧ Below wr.heap.size wr wk)
          case first =>
            go_wp2_with fail
            go_loopw [5] (fun v wk => ∃ k : Nat, i < k ∧ k ≤ t.size ∧ v = .int .i64 k ∧ (∀ x ∈ (t[i] :: t.data.toList.drop (i + 1)).take (k - i), showsC x = showsC t[i]) ∧ Below wr.heap.size wr wk) (fun v _ => t.size - (intOf v).toNat)
            case atStart => exact ⟨i + 1, Nat.lt_succ_self _, hlt, by go_num, (fun x h => by rw [Nat.add_sub_cancel_left] at h; simp at h; rw [h]), Below.refl _ _⟩
            case round =>
              obtain ⟨k, hik, hk, rfl, hall, hbk⟩ := hrel
              have HALL := Lib.hid hall; have HBK := Lib.hid hbk.drew
              clear hall hbk
              have hln : (t[i] :: t.data.toList.drop (i + 1)).length = t.size - i := by rw [← HDI.out, List.length_drop, len_list]
              have HLN := Lib.hid hln; clear hln
              by_cases hkt : k < t.size
              · have k1 : (k : Int) < (t.size : Int) := by omega
                have k0 : (0 : Int) ≤ (k : Int) := by omega
                have hg : (t[i] :: t.data.toList.drop (i + 1))[k - i]? = some t[k] := by
                  rw [← HDI.out, HSL.out, show i + (k - i) = k by omega]; exact get_list t k hkt
                have HG := Lib.hid hg; clear hg
                by_cases hse : showsC t[k] = showsC t[i]
                · have qs : (showsC t[k] == showsC t[i]) = true := by rw [hse]; exact beq_self_eq_true _
                  have HNX := Lib.hid (show ∀ x ∈ (t[i] :: t.data.toList.drop (i + 1)).take (k + 1 - i), showsC x = showsC t[i] from fun x hx => by
                    rw [show k + 1 - i = (k - i) + 1 by omega, take_snoc' _ _ _ HG.out] at hx
                    rcases List.mem_append.1 hx with hx | hx
                    · exact HALL.out x hx
                    · rw [List.mem_singleton.1 hx]; exact hse)
                  clear hse
                  go_wp2_with fail
                  refine AnyT.region (fun _ => false) (fun _ => True) (by kernel_rfl) trivial (fun hHeld => ?_)
                  ((refine AnyT.takeAny 0 19 ?_ rfl (by kernel_rfl) (by kernel_rfl) (by kernel_rfl) rfl rfl (fun _ _ _ _ h => h) rfl ?_ (by assumption) ?_); rotate_left; (intro w; go_simp; (try (with_reducible rfl))); simp only [Act.put, List.setIfInBounds_toArray, List.set_cons_zero, List.set_cons_succ])
                  ((refine AnyT.takeAny 1 20 ?_ rfl (by kernel_rfl) (by kernel_rfl) (by kernel_rfl) rfl rfl (fun _ _ _ _ h => h) rfl ?_ (by assumption) ?_); rotate_left; (intro w; go_simp; (try (with_reducible rfl))); simp only [Act.put, List.setIfInBounds_toArray, List.set_cons_zero, List.set_cons_succ])
                  ((refine AnyT.takeAny 2 21 ?_ rfl (by kernel_rfl) (by kernel_rfl) (by kernel_rfl) rfl rfl (fun _ _ _ _ h => h) rfl ?_ (by assumption) ?_); rotate_left; (intro w; go_simp; (try (with_reducible rfl))); simp only [Act.put, List.setIfInBounds_toArray, List.set_cons_zero, List.set_cons_succ])
                  ((refine AnyT.takeAny 3 22 ?_ rfl (by kernel_rfl) (by kernel_rfl) (by kernel_rfl) rfl rfl (fun _ _ _ _ h => h) rfl ?_ (by assumption) ?_); rotate_left; (intro w; go_simp; (try (with_reducible rfl))); simp only [Act.put, List.setIfInBounds_toArray, List.set_cons_zero, List.set_cons_succ])
                  ((refine AnyT.takeAny 4 23 ?_ rfl (by kernel_rfl) (by kernel_rfl) (by kernel_rfl) rfl rfl (fun _ _ _ _ h => h) rfl ?_ (by assumption) ?_); rotate_left; (intro w; go_simp; (try (with_reducible rfl))); simp only [Act.put, List.setIfInBounds_toArray, List.set_cons_zero, List.set_cons_succ])
                  ((refine AnyT.takeAny 5 24 ?_ rfl (by kernel_rfl) (by kernel_rfl) (by kernel_rfl) rfl rfl (fun _ _ _ _ h => h) rfl ?_ (by assumption) ?_); rotate_left; (intro w; go_simp; (try (with_reducible rfl))); simp only [Act.put, List.setIfInBounds_toArray, List.set_cons_zero, List.set_cons_succ])
                  ((refine AnyT.takeAny 6 25 ?_ rfl (by kernel_rfl) (by kernel_rfl) (by kernel_rfl) rfl rfl (fun _ _ _ _ h => h) rfl ?_ (by assumption) ?_); rotate_left; (intro w; go_simp; (try (with_reducible rfl))); simp only [Act.put, List.setIfInBounds_toArray, List.set_cons_zero, List.set_cons_succ])
                  ((refine AnyT.takeAny 7 26 ?_ rfl (by kernel_rfl) (by kernel_rfl) (by kernel_rfl) rfl rfl (fun _ _ _ _ h => h) rfl ?_ (by assumption) ?_); rotate_left; (intro w; go_simp; (try (with_reducible rfl))); simp only [Act.put, List.setIfInBounds_toArray, List.set_cons_zero, List.set_cons_succ])
                  ((refine AnyT.takeAny 9 28 ?_ rfl (by kernel_rfl) (by kernel_rfl) (by kernel_rfl) rfl rfl (fun _ _ _ _ h => h) rfl ?_ (by assumption) ?_); rotate_left; (intro w; go_simp; (try (with_reducible rfl))); simp only [Act.put, List.setIfInBounds_toArray, List.set_cons_zero, List.set_cons_succ])
                  ((refine AnyT.takeAny 10 29 ?_ rfl (by kernel_rfl) (by kernel_rfl) (by kernel_rfl) rfl rfl (fun _ _ _ _ h => h) rfl ?_ (by assumption) ?_); rotate_left; (intro w; go_simp; (try (with_reducible rfl))); simp only [Act.put, List.setIfInBounds_toArray, List.set_cons_zero, List.set_cons_succ])
                  ((refine AnyT.takeAny 11 30 ?_ rfl (by kernel_rfl) (by kernel_rfl) (by kernel_rfl) rfl rfl (fun _ _ _ _ h => h) rfl ?_ (by assumption) ?_); rotate_left; (intro w; go_simp; (try (with_reducible rfl))); simp only [Act.put, List.setIfInBounds_toArray, List.set_cons_zero, List.set_cons_succ])
                  ((refine AnyT.one (i := 8) (by kernel_rfl) rfl (fun K hK => ?_)))
                  go_simp
                  refine (HSH.out _ _).mono ?_
                  rintro e5 w5 ⟨rfl, rfl⟩
                  refine hK.out _ _ trivial (fun hHeld => ?_)
                  clear hK K
                  (try simp only [Act.put, List.setIfInBounds_toArray, List.set_cons_zero, List.set_cons_succ])
                  ((refine AnyT.one (i := 12) (by kernel_rfl) rfl (fun K hK => ?_)))
                  go_simp
                  refine (HSH.out _ _).mono ?_
                  rintro e6 w6 ⟨rfl, rfl⟩
                  refine hK.out _ _ trivial (fun hHeld => ?_)
                  clear hK K
                  (try simp only [Act.put, List.setIfInBounds_toArray, List.set_cons_zero, List.set_cons_succ])
                  ((refine AnyT.takeAny 13 32 ?_ rfl (by kernel_rfl) (by kernel_rfl) (by kernel_rfl) rfl rfl (fun _ _ _ _ h => h) rfl ?_ (by assumption) ?_); rotate_left; (intro w; go_simp; (try (with_reducible rfl))); simp only [Act.put, List.setIfInBounds_toArray, List.set_cons_zero, List.set_cons_succ])
                  ((refine AnyT.takeAny 14 33 ?_ rfl (by kernel_rfl) (by kernel_rfl) (by kernel_rfl) rfl rfl (fun _ _ _ _ h => h) rfl ?_ (by assumption) ?_); rotate_left; (intro w; go_simp; (try (with_reducible rfl))); simp only [Act.put, List.setIfInBounds_toArray, List.set_cons_zero, List.set_cons_succ])
                  refine AnyT.done (by kernel_rfl) ?_ _
                  go_wp2_with fail
                  go_roundw
                  case rel => exact ⟨k + 1, by omega, by omega, by go_num, HNX.out, HBK.out⟩
                  case measure => simp [intOf]; omega
                · have qs : (showsC t[k] == showsC t[i]) = false := by rw [beq_eq_false_iff_ne]; exact hse
                  have HEX := Lib.hid (run_exit t[i] (t.data.toList.drop (i + 1)) (k - i) (by rw [HLN.out]; omega) HALL.out (fun x hx => by rw [HG.out] at hx; injection hx with hx; rw [← hx]; exact hse))
                  clear hse
                  go_wp2_with fail
                  refine AnyT.region (fun _ => false) (fun _ => True) (by kernel_rfl) trivial (fun hHeld => ?_)
                  ((refine AnyT.takeAny 0 19 ?_ rfl (by kernel_rfl) (by kernel_rfl) (by kernel_rfl) rfl rfl (fun _ _ _ _ h => h) rfl ?_ (by assumption) ?_); rotate_left; (intro w; go_simp; (try (with_reducible rfl))); simp only [Act.put, List.setIfInBounds_toArray, List.set_cons_zero, List.set_cons_succ])
                  ((refine AnyT.takeAny 1 20 ?_ rfl (by kernel_rfl) (by kernel_rfl) (by kernel_rfl) rfl rfl (fun _ _ _ _ h => h) rfl ?_ (by assumption) ?_); rotate_left; (intro w; go_simp; (try (with_reducible rfl))); simp only [Act.put, List.setIfInBounds_toArray, List.set_cons_zero, List.set_cons_succ])
                  ((refine AnyT.takeAny 2 21 ?_ rfl (by kernel_rfl) (by kernel_rfl) (by kernel_rfl) rfl rfl (fun _ _ _ _ h => h) rfl ?_ (by assumption) ?_); rotate_left; (intro w; go_simp; (try (with_reducible rfl))); simp only [Act.put, List.setIfInBounds_toArray, List.set_cons_zero, List.set_cons_succ])
                  ((refine AnyT.takeAny 3 22 ?_ rfl (by kernel_rfl) (by kernel_rfl) (by kernel_rfl) rfl rfl (fun _ _ _ _ h => h) rfl ?_ (by assumption) ?_); rotate_left; (intro w; go_simp; (try (with_reducible rfl))); simp only [Act.put, List.setIfInBounds_toArray, List.set_cons_zero, List.set_cons_succ])
                  ((refine AnyT.takeAny 4 23 ?_ rfl (by kernel_rfl) (by kernel_rfl) (by kernel_rfl) rfl rfl (fun _ _ _ _ h => h) rfl ?_ (by assumption) ?_); rotate_left; (intro w; go_simp; (try (with_reducible rfl))); simp only [Act.put, List.setIfInBounds_toArray, List.set_cons_zero, List.set_cons_succ])
                  ((refine AnyT.takeAny 5 24 ?_ rfl (by kernel_rfl) (by kernel_rfl) (by kernel_rfl) rfl rfl (fun _ _ _ _ h => h) rfl ?_ (by assumption) ?_); rotate_left; (intro w; go_simp; (try (with_reducible rfl))); simp only [Act.put, List.setIfInBounds_toArray, List.set_cons_zero, List.set_cons_succ])
                  ((refine AnyT.takeAny 6 25 ?_ rfl (by kernel_rfl) (by kernel_rfl) (by kernel_rfl) rfl rfl (fun _ _ _ _ h => h) rfl ?_ (by assumption) ?_); rotate_left; (intro w; go_simp; (try (with_reducible rfl))); simp only [Act.put, List.setIfInBounds_toArray, List.set_cons_zero, List.set_cons_succ])
                  ((refine AnyT.takeAny 7 26 ?_ rfl (by kernel_rfl) (by kernel_rfl) (by kernel_rfl) rfl rfl (fun _ _ _ _ h => h) rfl ?_ (by assumption) ?_); rotate_left; (intro w; go_simp; (try (with_reducible rfl))); simp only [Act.put, List.setIfInBounds_toArray, List.set_cons_zero, List.set_cons_succ])
                  ((refine AnyT.takeAny 9 28 ?_ rfl (by kernel_rfl) (by kernel_rfl) (by kernel_rfl) rfl rfl (fun _ _ _ _ h => h) rfl ?_ (by assumption) ?_); rotate_left; (intro w; go_simp; (try (with_reducible rfl))); simp only [Act.put, List.setIfInBounds_toArray, List.set_cons_zero, List.set_cons_succ])
                  ((refine AnyT.takeAny 10 29 ?_ rfl (by kernel_rfl) (by kernel_rfl) (by kernel_rfl) rfl rfl (fun _ _ _ _ h => h) rfl ?_ (by assumption) ?_); rotate_left; (intro w; go_simp; (try (with_reducible rfl))); simp only [Act.put, List.setIfInBounds_toArray, List.set_cons_zero, List.set_cons_succ])
                  ((refine AnyT.takeAny 11 30 ?_ rfl (by kernel_rfl) (by kernel_rfl) (by kernel_rfl) rfl rfl (fun _ _ _ _ h => h) rfl ?_ (by assumption) ?_); rotate_left; (intro w; go_simp; (try (with_reducible rfl))); simp only [Act.put, List.setIfInBounds_toArray, List.set_cons_zero, List.set_cons_succ])
                  ((refine AnyT.one (i := 8) (by kernel_rfl) rfl (fun K hK => ?_)))
                  go_simp
                  refine (HSH.out _ _).mono ?_
                  rintro e5 w5 ⟨rfl, rfl⟩
                  refine hK.out _ _ trivial (fun hHeld => ?_)
                  clear hK K
                  (try simp only [Act.put, List.setIfInBounds_toArray, List.set_cons_zero, List.set_cons_succ])
                  ((refine AnyT.one (i := 12) (by kernel_rfl) rfl (fun K hK => ?_)))
                  go_simp
                  refine (HSH.out _ _).mono ?_
                  rintro e6 w6 ⟨rfl, rfl⟩
                  refine hK.out _ _ trivial (fun hHeld => ?_)
                  clear hK K
                  (try simp only [Act.put, List.setIfInBounds_toArray, List.set_cons_zero, List.set_cons_succ])
                  ((refine AnyT.takeAny 13 32 ?_ rfl (by kernel_rfl) (by kernel_rfl) (by kernel_rfl) rfl rfl (fun _ _ _ _ h => h) rfl ?_ (by assumption) ?_); rotate_left; (intro w; go_simp; (try (with_reducible rfl))); simp only [Act.put, List.setIfInBounds_toArray, List.set_cons_zero, List.set_cons_succ])
                  ((refine AnyT.takeAny 14 33 ?_ rfl (by kernel_rfl) (by kernel_rfl) (by kernel_rfl) rfl rfl (fun _ _ _ _ h => h) rfl ?_ (by assumption) ?_); rotate_left; (intro w; go_simp; (try (with_reducible rfl))); simp only [Act.put, List.setIfInBounds_toArray, List.set_cons_zero, List.set_cons_succ])
                  refine AnyT.done (by kernel_rfl) ?_ _
                  go_wp2_with fail
                  go_meet
                  case rel => exact ⟨k, hik, hk, rfl, HEX.out.1, HEX.out.2, HBK.out⟩
              · have k1 : ¬ (k : Int) < (t.size : Int) := by omega
                have kd : decide ((k : Int) < (t.size : Int)) = false := decide_eq_false k1
                have kd' : decide (k < t.size) = false := decide_eq_false hkt
                have HEX := Lib.hid (run_exit t[i] (t.data.toList.drop (i + 1)) (k - i) (by rw [HLN.out]; omega) HALL.out (fun x hx => by rw [List.getElem?_eq_none (by rw [HLN.out]; omega)] at hx; cases hx))
                go_wp2_with fail
                refine AnyT.region (fun _ => false) (fun _ => True) (by kernel_rfl) trivial (fun hHeld => ?_)
                ((refine AnyT.takeAny 0 19 ?_ rfl (by kernel_rfl) (by kernel_rfl) (by kernel_rfl) rfl rfl (fun _ _ _ _ h => h) rfl ?_ (by assumption) ?_); rotate_left; (intro w; go_simp; (try (with_reducible rfl))); simp only [Act.put, List.setIfInBounds_toArray, List.set_cons_zero, List.set_cons_succ])
                ((refine AnyT.takeAny 1 20 ?_ rfl (by kernel_rfl) (by kernel_rfl) (by kernel_rfl) rfl rfl (fun _ _ _ _ h => h) rfl ?_ (by assumption) ?_); rotate_left; (intro w; go_simp; (try (with_reducible rfl))); simp only [Act.put, List.setIfInBounds_toArray, List.set_cons_zero, List.set_cons_succ])
                ((refine AnyT.takeAny 2 21 ?_ rfl (by kernel_rfl) (by kernel_rfl) (by kernel_rfl) rfl rfl (fun _ _ _ _ h => h) rfl ?_ (by assumption) ?_); rotate_left; (intro w; go_simp; (try (with_reducible rfl))); simp only [Act.put, List.setIfInBounds_toArray, List.set_cons_zero, List.set_cons_succ])
                ((refine AnyT.takeAny 3 22 ?_ rfl (by kernel_rfl) (by kernel_rfl) (by kernel_rfl) rfl rfl (fun _ _ _ _ h => h) rfl ?_ (by assumption) ?_); rotate_left; (intro w; go_simp; (try (with_reducible rfl))); simp only [Act.put, List.setIfInBounds_toArray, List.set_cons_zero, List.set_cons_succ])
                ((refine AnyT.takeAny 4 23 ?_ rfl (by kernel_rfl) (by kernel_rfl) (by kernel_rfl) rfl rfl (fun _ _ _ _ h => h) rfl ?_ (by assumption) ?_); rotate_left; (intro w; go_simp; (try (with_reducible rfl))); simp only [Act.put, List.setIfInBounds_toArray, List.set_cons_zero, List.set_cons_succ])
                ((refine AnyT.skip 5 24 rfl (by kernel_rfl) (by kernel_rfl) (by kernel_rfl) rfl rfl (fun _ _ _ _ h => h) rfl (by assumption) ?_); simp only [Act.put, List.setIfInBounds_toArray, List.set_cons_zero, List.set_cons_succ])
                ((refine AnyT.skip 6 25 rfl (by kernel_rfl) (by kernel_rfl) (by kernel_rfl) rfl rfl (fun _ _ _ _ h => h) rfl (by assumption) ?_); simp only [Act.put, List.setIfInBounds_toArray, List.set_cons_zero, List.set_cons_succ])
                ((refine AnyT.skip 7 26 rfl (by kernel_rfl) (by kernel_rfl) (by kernel_rfl) rfl rfl (fun _ _ _ _ h => h) rfl (by assumption) ?_); simp only [Act.put, List.setIfInBounds_toArray, List.set_cons_zero, List.set_cons_succ])
                ((refine AnyT.skip 8 27 rfl (by kernel_rfl) (by kernel_rfl) (by kernel_rfl) rfl rfl (fun _ _ _ _ h => h) rfl (by assumption) ?_); simp only [Act.put, List.setIfInBounds_toArray, List.set_cons_zero, List.set_cons_succ])
                ((refine AnyT.skip 9 28 rfl (by kernel_rfl) (by kernel_rfl) (by kernel_rfl) rfl rfl (fun _ _ _ _ h => h) rfl (by assumption) ?_); simp only [Act.put, List.setIfInBounds_toArray, List.set_cons_zero, List.set_cons_succ])
                ((refine AnyT.skip 10 29 rfl (by kernel_rfl) (by kernel_rfl) (by kernel_rfl) rfl rfl (fun _ _ _ _ h => h) rfl (by assumption) ?_); simp only [Act.put, List.setIfInBounds_toArray, List.set_cons_zero, List.set_cons_succ])
                ((refine AnyT.skip 11 30 rfl (by kernel_rfl) (by kernel_rfl) (by kernel_rfl) rfl rfl (fun _ _ _ _ h => h) rfl (by assumption) ?_); simp only [Act.put, List.setIfInBounds_toArray, List.set_cons_zero, List.set_cons_succ])
                ((refine AnyT.skip 12 31 rfl (by kernel_rfl) (by kernel_rfl) (by kernel_rfl) rfl rfl (fun _ _ _ _ h => h) rfl (by assumption) ?_); simp only [Act.put, List.setIfInBounds_toArray, List.set_cons_zero, List.set_cons_succ])
                ((refine AnyT.skip 13 32 rfl (by kernel_rfl) (by kernel_rfl) (by kernel_rfl) rfl rfl (fun _ _ _ _ h => h) rfl (by assumption) ?_); simp only [Act.put, List.setIfInBounds_toArray, List.set_cons_zero, List.set_cons_succ])
                ((refine AnyT.takeAny 14 33 ?_ rfl (by kernel_rfl) (by kernel_rfl) (by kernel_rfl) rfl rfl (fun _ _ _ _ h => h) rfl ?_ (by assumption) ?_); rotate_left; (intro w; go_simp; (try (with_reducible rfl))); simp only [Act.put, List.setIfInBounds_toArray, List.set_cons_zero, List.set_cons_succ])
                refine AnyT.done (by kernel_rfl) ?_ _
                go_wp2_with fail
                go_meet
                case rel => exact ⟨k, hik, hk, rfl, HEX.out.1, HEX.out.2, HBK.out⟩
          case rest =>
            obtain ⟨k, hik, hk, rfl, hro, hrr, hbk⟩ := hcut
            have hown2 := hown.below hbk
            have hsub : (t.extract i k).size = k - i := by rw [ByteArray.size_extract]; omega
            have hfol := formP_len (t.extract i k).data.toList
            rw [len_list, hsub] at hfol
            have hst := partB_step HPB.out HDI.out hik ⟨hro, hrr⟩
            rw [← HDI.out, ← extract_list] at hst
            have HBK := Lib.hid (HBW.out.trans (hbk.mono HBW.out.size))
            have HP := Lib.hid (runForm_any (t.extract i k) (by omega) (by omega) wc (HE.out.below HBK.out))
            have hbs := HBK.out.size
            clear hbk hown hro hrr
            have k0 : (0 : Int) ≤ (k : Int) := by omega
            have k1 : (k : Int) ≤ (t.size : Int) := by omega
            have k2 : (i : Int) ≤ (k : Int) := by omega
            generalize formP (t.extract i k).data.toList = F at *
            rw [← join_more fs F i HFI.out] at hst
            have HST := Lib.hid hst
            have hjl := congrArg List.length (join_more fs F i HFI.out)
            rw [List.length_append, List.length_append] at hjl
            have h95 : (if i = 0 then [] else [95] : List UInt8).length ≤ 1 := by split <;> simp
            have HJL := Lib.hid (show (Lib.join ((fs ++ [(⟨F.toArray⟩ : ByteArray)]).map (·.data.toList)) [95]).length ≤ 10 * k by omega)
            have hfs2 : fs.length ≤ 1000000 := by omega
            clear hst hjl h95
            go_wp2_with fail
            refine HP.out.mono ?_; rintro e2 w2 ⟨rfl, hb2⟩; have hown3 := hown2.below hb2; have hs2 := Nat.le_trans hbs hb2.size
            go_wp2_with (first
              | fail
              | (at_builtin; refine wpList_app1 (enc := Value.string) rfl (.tmp 36) (.tmp 42) 22 9 rfl Tryz.underlying22 rfl (by omega) (fun _ => rfl) infoTxt w2 w.heap.size _ fs ⟨F.toArray⟩ rfl hown3 rfl (by omega) hs2 ?_; intro v3 w3 hown4 hb3))
            go_roundw
            case rel => exact ⟨k, _, hk, rfl, hown4, by rw [List.length_append]; simp only [List.length_cons, List.length_nil]; omega, Iff.intro (fun e => by omega) (fun e => by simp at e), HJL.out, HST.out, HBK.out.trans ((hb2.mono hbs).trans hb3)⟩
            case measure => simp [intOf]; omega
        · have i1 : ¬ (i : Int) < (t.size : Int) := by omega
          have HFE := Lib.hid (partB_end HPB.out (show i = t.data.toList.length by rw [len_list]; omega) (by omega))
          have HJ := Lib.hid (join_own hown (by omega) ⟨#[95]⟩ (by show (Lib.join (fs.map (·.data.toList)) [95]).length ≤ _; omega))
          have HJN := Lib.hid (show Lib.join (fs.map (·.data.toList)) (⟨#[95]⟩ : ByteArray).data.toList = R by rw [HR.out, ← HFE.out])
          clear hown
          go_wp2_with fail
          refine HJ.out.mono ?_; rintro e2 w2 ⟨rfl, hb2⟩
          rw [HJN.out]
          go_wp2_with fail
          go_ret
          exact ⟨rfl, HBW.out.trans (hb2.mono HBW.out.size)⟩
  · rw [hcan] at HC
    have HR := Lib.hid (show plainP t.data.toList = t.data.toList by unfold plainP; rw [hcan]; rfl)
    rw [HR.out]
    clear hcan
    go_enter Tryz.func150, Tryz.ntmps150
    go_wp2_with fail
    refine HC.out.mono ?_; rintro e1 w1 ⟨rfl, hb1⟩
    go_wp2_with fail
    go_ret
    exact ⟨rfl, hb1⟩

theorem longB_pays (w : World) : PredAt Tryz.prog 193 #[] Value.string (fun x : ByteArray => decide (64 < x.size)) w := by
  intro W x hb
  unfold FnGives
  by_cases h : 64 < x.size
  · go_enter Tryz.func193, Tryz.ntmps193
    go_wp2
    go_ret
    exact ⟨by simp [h]; omega, 0, rfl⟩
  · go_enter Tryz.func193, Tryz.ntmps193
    go_wp2
    go_ret
    exact ⟨by simp [h]; omega, 0, rfl⟩

set_option maxHeartbeats 4000000 in
theorem long_one (b : Nat) (t : ByteArray) (c : Nat) (w : World) (hc : w.cell? ⟨b, 0, none⟩ = some (.string t)) :
    Calls Tryz.prog 145 #[.slice (some ⟨b, 0, none⟩) 1 c] w fun e w' => e = .returned (.bool (decide (64 < t.size))) ∧ ∃ q, w' = w.drewN q := by
  have HC := Lib.hid (fun (W : World) (hW : W.cell? ⟨b, 0, none⟩ = some (.string t)) =>
    Tryz.slices_ContainsFunc Value.string (fun x : ByteArray => decide (64 < x.size)) 193 #[] (enters_of Tryz.func193 (by kernel_rfl) rfl) b 0 1 c [t] W (longB_pays W) (Nat.le_refl _) (by omega)
      (fun j hj => by
        have hj' : j < 1 := hj
        obtain rfl : j = 0 := by omega
        rw [hW]; rfl))
  have HH := Lib.hid hc; clear hc
  go_enter Tryz.func145, Tryz.ntmps145
  go_wp2_with fail
  refine (HC.out _ HH.out).mono ?_
  rintro e w1 ⟨rfl, q, rfl⟩
  go_wp2_with fail
  go_ret
  exact ⟨by simp, q, rfl⟩

end Go.Proofs.YtcjaaknnfohllaaGreatDoor

/- ReadPlain of both walked; that they say the same. -/
namespace Go.Proofs.YtcjaaknnfohllaaGreatDoor
open Go.RowKit

theorem formP_ge (l : List UInt8) : l.length ≤ (formP l).length := by
  by_cases h : l = []
  · subst h; exact Nat.zero_le _
  · rcases formP_first l h with e | e
    · rw [e]
      have : ∀ m : List UInt8, m.length ≤ (doubled m).length := by
        intro m
        induction m with
        | nil => exact Nat.le_refl _
        | cons c m ihm =>
          unfold doubled at ihm ⊢
          rw [List.flatMap_cons, List.length_append, List.length_cons]
          have : 1 ≤ (if c = 34 then [34, 34] else [c] : List UInt8).length := by split <;> simp
          omega
      have := this l
      simp only [List.length_cons, List.length_append, List.length_nil]; omega
    · rw [e]
      have := codesTo_pos l
      simp only [List.length_cons, List.length_append, List.length_nil]; omega
theorem moreP_ge : ∀ (n : Nat) (l : List UInt8) (k : Nat), l.length ≤ n → l.length ≤ k → l.length ≤ (moreP k l).length
  | 0, l, k, h, _ => by omega
  | n + 1, l, k, hn, hk => by
    by_cases hl : l = []
    · subst hl; exact Nat.zero_le _
    · have h1 := runRest_len l hl
      have h2 := congrArg List.length (runs_split l hl)
      have h3 := moreP_ge n (runRest l) k (by omega) (by omega)
      have h4 := formP_ge (runOf l)
      rw [moreP_step k l hl hk, List.length_cons, List.length_append]
      rw [List.length_append] at h2
      omega
theorem plainP_ge (u : List UInt8) : u.length ≤ (plainP u).length := by
  cases hc : canonB u
  · by_cases h0 : u = []
    · subst h0; exact Nat.zero_le _
    · have h1 := runRest_len u h0
      have h2 := congrArg List.length (runs_split u h0)
      have h3 := moreP_ge u.length (runRest u) u.length (by omega) (by omega)
      have h4 := formP_ge (runOf u)
      rw [plainP_runs hc h0, List.length_append]
      rw [List.length_append] at h2
      omega
  · unfold plainP; rw [hc]; exact Nat.le_refl _
theorem plainP_ne (u : List UInt8) : plainP u ≠ [] := by
  intro e
  have h := plainP_ge u
  rw [e] at h
  obtain rfl := List.eq_nil_of_length_eq_zero (Nat.le_zero.1 h)
  unfold plainP at e
  rw [canonB_nil] at e
  cases e

def plainS (s : List UInt8) : List UInt8 := if 64 < s.length then [] else plainP s
/-- What both read. -/
def rdS (T : List UInt8) : List UInt8 × Bool := if 60000 < T.length then ([], false) else if plainS (tS (T.length + 1) T).1 = T ∧ T ≠ [] then ((tS (T.length + 1) T).1, true) else ([], false)
def rdI (T : List UInt8) : List UInt8 × Bool := if ¬ 64 < (sI T).1.length ∧ plainP (sI T).1 = T then ((sI T).1, true) else ([], false)
theorem rd_same (T : List UInt8) : rdS T = rdI T := by
  by_cases h : ∃ u : List UInt8, u.length ≤ 64 ∧ plainP u = T
  · obtain ⟨u, hu, hT⟩ := h
    have hne : T ≠ [] := by rw [← hT]; exact plainP_ne u
    have hl : T.length ≤ 9 * u.length + 2 := by rw [← hT]; exact plainP_len u
    have hg : u.length ≤ T.length := by rw [← hT]; exact plainP_ge u
    have ht : tS (T.length + 1) T = (u, []) := by
      have := tS_plain u [] (T.length + 1) (by omega) (fun r e => by cases e) (fun r e => by cases e) (fun c r e => by cases e)
      rw [List.append_nil, hT] at this
      exact this
    have hs : sI T = (u, []) := by
      have := sI_plain u [] (fun r e => by cases e) (fun r e => by cases e) (fun c r e => by cases e)
      rw [List.append_nil, hT] at this
      exact this
    unfold rdS rdI plainS
    rw [ht, hs]
    dsimp only
    rw [if_neg (by omega), if_neg (show ¬ 64 < u.length by omega), if_pos ⟨hT, hne⟩, if_pos ⟨by omega, hT⟩]
  · have e1 : rdS T = ([], false) := by
      unfold rdS
      split
      · rfl
      · rw [if_neg]
        rintro ⟨h1, h2⟩
        unfold plainS at h1
        split at h1
        · exact h2 h1.symm
        · rename_i h3; exact h ⟨_, by omega, h1⟩
    have e2 : rdI T = ([], false) := by
      unfold rdI
      rw [if_neg]
      rintro ⟨h1, h2⟩
      exact h ⟨_, by omega, h2⟩
    rw [e1, e2]
theorem bytes_eq (A : List UInt8) (T : ByteArray) : ((⟨A.toArray⟩ : ByteArray).toList == T.toList) = decide (A = T.data.toList) := by
  rw [Bool.eq_iff_iff, beq_iff_eq, decide_eq_true_iff, ByteArray.toList_eq, ByteArray.toList_eq]

set_option maxHeartbeats 4000000 in
set_option maxRecDepth 100000 in
theorem specReadPlain_any (T : ByteArray) (w : World) :
    Calls Tryz.prog 212 #[.string T] w fun e w' => e = .returned (.tuple #[.string ⟨(rdS T.data.toList).1.toArray⟩, .bool (rdS T.data.toList).2]) ∧ Below w.heap.size w w' := by
  by_cases hbig : 60000 < T.size
  · have hR := Lib.hid (show rdS T.data.toList = ([], false) by unfold rdS; rw [if_pos (by rw [len_list]; exact hbig)])
    rw [hR.out]
    have i1 : (60000 : Int) < (T.size : Int) := by omega
    go_enter Tryz.func212, Tryz.ntmps212
    go_wp2_with fail
    go_ret2
    exact ⟨rfl, Below.refl _ _⟩
  · have i1 : ¬ (60000 : Int) < (T.size : Int) := by omega
    have hR := Lib.hid (show rdS T.data.toList = if plainS (tS (T.size + 1) T.data.toList).1 = T.data.toList ∧ T.data.toList ≠ [] then ((tS (T.size + 1) T.data.toList).1, true) else ([], false) by unfold rdS; rw [len_list, if_neg hbig])
    generalize rdS T.data.toList = Q at *
    have BX := Blk.new w 66 #[.string T, .int .i64 ((0 : Nat) : Int)]
    have HB0 := Lib.hid ((Below.refl w.heap.size w).alloc (Nat.le_refl _) (.cells #[.string T, .int .i64 ((0 : Nat) : Int)] 66))
    have htx := textS_any w.heap.size T 0 (T.size + 1) (Nat.zero_le _) (by omega) (by omega) _ BX
    rw [List.drop_zero] at htx
    have HTX := Lib.hid htx
    clear htx BX
    generalize (tS (T.size + 1) T.data.toList).1 = s at *
    have HPT := Lib.hid (fun W => specPlainText_any ⟨s.toArray⟩ W)
    have hsz : (⟨s.toArray⟩ : ByteArray).size = s.length := List.size_toArray
    have HPS := Lib.hid (show (if 64 < (⟨s.toArray⟩ : ByteArray).size then [] else plainP (⟨s.toArray⟩ : ByteArray).data.toList) = plainS s by unfold plainS; rw [hsz])
    rw [HPS.out] at HPT
    have HEQ := Lib.hid (bytes_eq (plainS s) T)
    generalize plainS s = P at *
    clear hsz HPS
    by_cases hp : P = T.data.toList
    · have hq : ((⟨P.toArray⟩ : ByteArray).toList == T.toList) = true := by rw [HEQ.out, decide_eq_true hp]
      by_cases h0 : T.size = 0
      · have he : T.toList.isEmpty = true := by
          rw [ByteArray.toList_eq, show T.data.toList = [] from List.eq_nil_of_length_eq_zero (by rw [len_list]; exact h0)]; rfl
        have HF := Lib.hid (show Q = ([], false) by rw [hR.out, if_neg (fun h => h.2 (List.eq_nil_of_length_eq_zero (by rw [len_list]; exact h0)))])
        have HH := Lib.hid hp; have HZ := Lib.hid h0
        clear hp h0
        generalize (⟨P.toArray⟩ : ByteArray) = PB at *
        go_enter Tryz.func212, Tryz.ntmps212
        go_wp2_with fail
        refine HTX.out.mono ?_; rintro e1 w1 ⟨rfl, _, hw1, _⟩
        have HB1 := Lib.hid (HB0.out.trans (hw1.below (by simp)))
        clear hw1
        go_wp2_with fail
        refine (HPT.out _).mono ?_; rintro e2 w2 ⟨rfl, hb2⟩
        go_wp2_with fail
        go_ret2
        exact ⟨by rw [HF.out]; rfl, HB1.out.trans (hb2.mono HB1.out.size)⟩
      · have he := bytes_full T h0
        have HF := Lib.hid (show Q = (s, true) by rw [hR.out, if_pos ⟨hp, fun e => h0 (by rw [← len_list, e]; rfl)⟩])
        have HH := Lib.hid hp; have HZ := Lib.hid h0
        clear hp h0
        generalize (⟨P.toArray⟩ : ByteArray) = PB at *
        go_enter Tryz.func212, Tryz.ntmps212
        go_wp2_with fail
        refine HTX.out.mono ?_; rintro e1 w1 ⟨rfl, _, hw1, _⟩
        have HB1 := Lib.hid (HB0.out.trans (hw1.below (by simp)))
        clear hw1
        go_wp2_with fail
        refine (HPT.out _).mono ?_; rintro e2 w2 ⟨rfl, hb2⟩
        go_wp2_with fail
        go_ret2
        exact ⟨by rw [HF.out]; rfl, HB1.out.trans (hb2.mono HB1.out.size)⟩
    · have hq : ((⟨P.toArray⟩ : ByteArray).toList == T.toList) = false := by rw [HEQ.out, decide_eq_false hp]
      have HF := Lib.hid (show Q = ([], false) by rw [hR.out, if_neg (fun h => hp h.1)])
      have HH := Lib.hid hp
      clear hp
      generalize (⟨P.toArray⟩ : ByteArray) = PB at *
      go_enter Tryz.func212, Tryz.ntmps212
      go_wp2_with fail
      refine HTX.out.mono ?_; rintro e1 w1 ⟨rfl, _, hw1, _⟩
      have HB1 := Lib.hid (HB0.out.trans (hw1.below (by simp)))
      clear hw1
      go_wp2_with fail
      refine (HPT.out _).mono ?_; rintro e2 w2 ⟨rfl, hb2⟩
      go_wp2_with fail
      go_ret2
      exact ⟨by rw [HF.out]; rfl, HB1.out.trans (hb2.mono HB1.out.size)⟩

set_option maxHeartbeats 4000000 in
set_option maxRecDepth 100000 in
theorem implReadPlain_any (T : ByteArray) (hT : T.size ≤ 1048576) (w : World) (hE : EnvR w) :
    Calls Tryz.prog 213 #[.string T] w fun e w' => e = .returned (.tuple #[.string ⟨(rdI T.data.toList).1.toArray⟩, .bool (rdI T.data.toList).2]) ∧ Below w.heap.size w w' := by
  have HS := Lib.hid (scanPlain_any T hT w hE)
  have hR := Lib.hid (show rdI T.data.toList = if ¬ 64 < (sI T.data.toList).1.length ∧ plainP (sI T.data.toList).1 = T.data.toList then ((sI T.data.toList).1, true) else ([], false) from rfl)
  generalize rdI T.data.toList = Q at *
  have HE := Lib.hid hE
  clear hE
  generalize (sI T.data.toList).1 = s at *
  generalize (sI T.data.toList).2 = z at *
  have HL := Lib.hid (fun b c W h => long_one b ⟨s.toArray⟩ c W h)
  have hsz : (⟨s.toArray⟩ : ByteArray).size = s.length := List.size_toArray
  by_cases h64 : 64 < s.length
  · have hd : decide (64 < (⟨s.toArray⟩ : ByteArray).size) = true := decide_eq_true (by omega)
    rw [hd] at HL
    have HF := Lib.hid (show Q = ([], false) by rw [hR.out, if_neg (fun h => h.1 h64)])
    clear hd hsz
    go_enter Tryz.func213, Tryz.ntmps213
    go_wp2_with fail
    refine HS.out.mono ?_; rintro e1 w1 ⟨rfl, hb1, _⟩
    have HB1 := Lib.hid hb1
    have HBA := Lib.hid ((Below.refl w1.heap.size w1).alloc (Nat.le_refl _) (.cells #[.string ⟨s.toArray⟩] 9))
    clear hb1
    go_wp2_with fail
    refine (HL.out _ _ _ (cell_of_row _ _ _ _ _ _ (heap_alloc_new _ _))).mono ?_
    rintro e2 w2 ⟨rfl, q, rfl⟩
    go_wp2_with fail
    go_ret2
    exact ⟨by rw [HF.out]; rfl, HB1.out.trans ((HBA.out.trans ((below_drewN' _ q).mono HBA.out.size)).mono HB1.out.size)⟩
  · have hd : decide (64 < (⟨s.toArray⟩ : ByteArray).size) = false := decide_eq_false (by omega)
    rw [hd] at HL
    have HP := Lib.hid (fun W h => plain_any ⟨s.toArray⟩ (by omega) W h)
    have HEQ := Lib.hid (bytes_eq (plainP s) T)
    have HPX := Lib.hid (show plainP (⟨s.toArray⟩ : ByteArray).data.toList = plainP s from rfl)
    rw [HPX.out] at HP
    have HQ := Lib.hid (show Q = if plainP s = T.data.toList then (s, true) else ([], false) by
      rw [hR.out]
      by_cases h : plainP s = T.data.toList
      · rw [if_pos ⟨h64, h⟩, if_pos h]
      · rw [if_neg (fun k => h k.2), if_neg h])
    generalize plainP s = P at *
    clear hd HPX hR
    by_cases hp : P = T.data.toList
    · have hq : ((⟨P.toArray⟩ : ByteArray).toList == T.toList) = true := by rw [HEQ.out, decide_eq_true hp]
      have HF := Lib.hid (show Q = (s, true) by rw [HQ.out, if_pos hp])
      have HH := Lib.hid hp
      clear hp hsz
      generalize (⟨P.toArray⟩ : ByteArray) = PB at *
      go_enter Tryz.func213, Tryz.ntmps213
      go_wp2_with fail
      refine HS.out.mono ?_; rintro e1 w1 ⟨rfl, hb1, _⟩
      have HB1 := Lib.hid hb1
      have HBA := Lib.hid ((Below.refl w1.heap.size w1).alloc (Nat.le_refl _) (.cells #[.string ⟨s.toArray⟩] 9))
      clear hb1
      go_wp2_with fail
      refine (HL.out _ _ _ (cell_of_row _ _ _ _ _ _ (heap_alloc_new _ _))).mono ?_
      rintro e2 w2 ⟨rfl, q, rfl⟩
      have HB2 := Lib.hid (HB1.out.trans ((HBA.out.trans ((below_drewN' _ q).mono HBA.out.size)).mono HB1.out.size))
      go_wp2_with fail
      refine (HP.out _ (HE.out.1.below HB2.out)).mono ?_; rintro e3 w3 ⟨rfl, hb3⟩
      go_wp2_with fail
      go_ret2
      exact ⟨by rw [HF.out]; rfl, HB2.out.trans (hb3.mono HB2.out.size)⟩
    · have hq : ((⟨P.toArray⟩ : ByteArray).toList == T.toList) = false := by rw [HEQ.out, decide_eq_false hp]
      have HF := Lib.hid (show Q = ([], false) by rw [HQ.out, if_neg hp])
      have HH := Lib.hid hp
      clear hp hsz
      generalize (⟨P.toArray⟩ : ByteArray) = PB at *
      go_enter Tryz.func213, Tryz.ntmps213
      go_wp2_with fail
      refine HS.out.mono ?_; rintro e1 w1 ⟨rfl, hb1, _⟩
      have HB1 := Lib.hid hb1
      have HBA := Lib.hid ((Below.refl w1.heap.size w1).alloc (Nat.le_refl _) (.cells #[.string ⟨s.toArray⟩] 9))
      clear hb1
      go_wp2_with fail
      refine (HL.out _ _ _ (cell_of_row _ _ _ _ _ _ (heap_alloc_new _ _))).mono ?_
      rintro e2 w2 ⟨rfl, q, rfl⟩
      have HB2 := Lib.hid (HB1.out.trans ((HBA.out.trans ((below_drewN' _ q).mono HBA.out.size)).mono HB1.out.size))
      go_wp2_with fail
      refine (HP.out _ (HE.out.1.below HB2.out)).mono ?_; rintro e3 w3 ⟨rfl, hb3⟩
      go_wp2_with fail
      go_ret2
      exact ⟨by rw [HF.out]; rfl, HB2.out.trans (hb3.mono HB2.out.size)⟩
end Go.Proofs.YtcjaaknnfohllaaGreatDoor

/- Plain lists: the pieces of a text between blanks, the empty ones left out, are what strings.FieldsFunc gives at the predicate 'is a blank'. No program in sight. -/
namespace Go.Proofs.YtcjaaknnfohllaaGreatDoor
open Go.Lib

/-- The pieces between blanks among the first k bytes, and where the piece at hand begins. -/
def wordsTo (s : ByteArray) : Nat → List ByteArray × Nat
  | 0 => ([], 0)
  | k + 1 => if k = s.size ∨ (s.get! k).toNat = 32 then ((wordsTo s k).1 ++ [s.extract (wordsTo s k).2 k], k + 1) else wordsTo s k

/-- What is left of the pieces when the empty ones are dropped. -/
def fullOnes (l : List ByteArray) : List ByteArray := l.filter fun b => b.size != 0

def blankP (c : Nat) : Bool := c == 32

theorem wordsTo_le (s : ByteArray) : ∀ k, (wordsTo s k).2 ≤ k
  | 0 => Nat.le_refl _
  | k + 1 => by
    unfold wordsTo
    split
    · exact Nat.le_refl _
    · exact Nat.le_succ_of_le (wordsTo_le s k)

theorem wordsTo_len (s : ByteArray) : ∀ k, (wordsTo s k).1.length ≤ k
  | 0 => Nat.le_refl _
  | k + 1 => by
    have := wordsTo_len s k
    unfold wordsTo
    split
    · simp; omega
    · omega

/-- Bytes that are no blanks move nothing. -/
theorem wordsTo_skip (s : ByteArray) (k : Nat) : ∀ n, k + n ≤ s.size → (∀ j, j < n → (s.get! (k + j)).toNat ≠ 32) → wordsTo s (k + n) = wordsTo s k
  | 0, _, _ => rfl
  | n + 1, h, hb => by
    have ih := wordsTo_skip s k n (by omega) (fun j hj => hb j (by omega))
    have hs : wordsTo s ((k + n) + 1) = wordsTo s (k + n) := by
      conv => lhs; unfold wordsTo
      rw [if_neg]
      intro hc
      rcases hc with hc | hc
      · omega
      · exact hb n (by omega) hc
    exact hs.trans ih

theorem decode_facts (s : ByteArray) (i : Nat) (hi : i < s.size) :
    ((s.get! i).toNat = 32 ∧ Utf8.decode s i = (32, 1)) ∨
    ((Utf8.decode s i).1 ≠ 32 ∧ 1 ≤ (Utf8.decode s i).2 ∧ i + (Utf8.decode s i).2 ≤ s.size ∧ ∀ j, j < (Utf8.decode s i).2 → (s.get! (i + j)).toNat ≠ 32) := by
  have key : ∀ (c n : Nat), c ≠ 32 → 1 ≤ n → i + n ≤ s.size → (∀ j, j < n → (s.get! (i + j)).toNat ≠ 32) →
      ((c, n).1 ≠ 32 ∧ 1 ≤ (c, n).2 ∧ i + (c, n).2 ≤ s.size ∧ ∀ j, j < (c, n).2 → (s.get! (i + j)).toNat ≠ 32) := fun c n a b d e => ⟨a, b, d, e⟩
  unfold Utf8.decode
  simp only [Nat.add_zero]
  by_cases h0 : (s.get! i).toNat < 128
  · rw [if_pos h0]
    by_cases h1 : (s.get! i).toNat = 32
    · left; exact ⟨h1, by rw [h1]⟩
    · right
      refine key _ _ h1 (by omega) (by omega) ?_
      intro j hj
      obtain rfl : j = 0 := by omega
      exact h1
  · rw [if_neg h0]
    right
    have one : ∀ j, j < 1 → (s.get! (i + j)).toNat ≠ 32 := by
      intro j hj
      obtain rfl : j = 0 := by omega
      show (s.get! i).toNat ≠ 32
      omega
    have err : Utf8.runeError ≠ 32 := by decide
    split
    · rename_i h2
      simp only [Bool.and_eq_true, beq_iff_eq, decide_eq_true_eq] at h2
      split
      · refine key _ _ (by omega) (by omega) (by omega) ?_
        intro j hj
        have hj' : j = 0 ∨ j = 1 := by omega
        rcases hj' with rfl | rfl
        · show (s.get! i).toNat ≠ 32; omega
        · omega
      · exact key _ _ err (by omega) (by omega) one
    · split
      · rename_i h2
        simp only [Bool.and_eq_true, beq_iff_eq, decide_eq_true_eq] at h2
        split
        · rename_i h3
          simp only [Bool.and_eq_true, decide_eq_true_eq, ge_iff_le] at h3
          refine key _ _ (by omega) (by omega) (by omega) ?_
          intro j hj
          have hj' : j = 0 ∨ j = 1 ∨ j = 2 := by omega
          rcases hj' with rfl | rfl | rfl
          · show (s.get! i).toNat ≠ 32; omega
          · omega
          · omega
        · exact key _ _ err (by omega) (by omega) one
      · split
        · rename_i h2
          simp only [Bool.and_eq_true, beq_iff_eq, decide_eq_true_eq] at h2
          split
          · rename_i h3
            simp only [Bool.and_eq_true, decide_eq_true_eq, ge_iff_le] at h3
            refine key _ _ (by omega) (by omega) (by omega) ?_
            intro j hj
            have hj' : j = 0 ∨ j = 1 ∨ j = 2 ∨ j = 3 := by omega
            rcases hj' with rfl | rfl | rfl | rfl
            · show (s.get! i).toNat ≠ 32; omega
            · omega
            · omega
            · omega
          · exact key _ _ err (by omega) (by omega) one
        · exact key _ _ err (by omega) (by omega) one

theorem size_extract_pos {s : ByteArray} {a b : Nat} (h : a < b) (hb : b ≤ s.size) : ((s.extract a b).size != 0) = true := by
  simp only [ByteArray.size_extract, bne_iff_ne, ne_eq]
  omega

theorem size_extract_none (s : ByteArray) (a : Nat) : ((s.extract a a).size != 0) = false := by
  simp only [ByteArray.size_extract, bne_eq_false_iff_eq]
  omega

theorem fullOnes_snoc (l : List ByteArray) (b : ByteArray) : fullOnes (l ++ [b]) = if (b.size != 0) = true then fullOnes l ++ [b] else fullOnes l := by
  unfold fullOnes
  rw [List.filter_append]
  by_cases h : (b.size != 0) = true
  · rw [if_pos h]; simp [List.filter_cons, h]
  · rw [if_neg h]
    simp only [Bool.not_eq_true] at h
    simp [List.filter_cons, h]

/-- What one pass over the runes holds at a rune's beginning. -/
def SpanRel (s : ByteArray) (pos : Nat) (st : Option Nat) (acc : List (Nat × Nat)) : Prop :=
  (acc.map fun x => s.extract x.1 x.2) = fullOnes (wordsTo s pos).1 ∧
  (match st with
   | none => (wordsTo s pos).2 = pos
   | some a => (wordsTo s pos).2 = a ∧ a < pos)

theorem spans_rel (s : ByteArray) : ∀ (f pos : Nat) (st : Option Nat) (acc : List (Nat × Nat)), s.size ≤ pos + f → pos ≤ s.size → SpanRel s pos st acc →
    SpanRel s s.size (spansFromP blankP s f pos st acc).2 (spansFromP blankP s f pos st acc).1
  | 0, pos, st, acc, hf, hp, h => by
    obtain rfl : pos = s.size := by omega
    exact h
  | f + 1, pos, st, acc, hf, hp, h => by
    unfold spansFromP
    by_cases hlt : pos < s.size
    · rw [if_pos hlt]
      rcases decode_facts s pos hlt with ⟨hb, hd⟩ | ⟨hc, hn, hle, hj⟩
      · rw [hd]
        have hp1 : blankP 32 = true := rfl
        simp only [hp1, if_true]
        have hw : wordsTo s (pos + 1) = ((wordsTo s pos).1 ++ [s.extract (wordsTo s pos).2 pos], pos + 1) := by
          conv => lhs; unfold wordsTo
          rw [if_pos (Or.inr hb)]
        cases st with
        | none =>
          refine spans_rel s f (pos + 1) none acc (by omega) (by omega) ⟨?_, ?_⟩
          · rw [hw, fullOnes_snoc, h.2, size_extract_none]
            exact h.1
          · rw [hw]
        | some a =>
          refine spans_rel s f (pos + 1) none (acc ++ [(a, pos)]) (by omega) (by omega) ⟨?_, ?_⟩
          · rw [hw, fullOnes_snoc, h.2.1, if_pos (size_extract_pos h.2.2 hp), List.map_append, h.1]
            rfl
          · rw [hw]
      · have hp0 : blankP (Utf8.decode s pos).1 = false := by
          unfold blankP
          rw [beq_eq_false_iff_ne]
          exact hc
        rw [hp0]
        simp only [Bool.false_eq_true, if_false]
        have hw := wordsTo_skip s pos (Utf8.decode s pos).2 hle hj
        cases st with
        | none =>
          refine spans_rel s f _ (some pos) acc (by omega) hle ⟨?_, ?_⟩
          · rw [hw]; exact h.1
          · show _ ∧ _
            rw [hw]; exact ⟨h.2, by omega⟩
        | some a =>
          refine spans_rel s f _ (some a) acc (by omega) hle ⟨?_, ?_⟩
          · rw [hw]; exact h.1
          · show _ ∧ _
            rw [hw]; exact ⟨h.2.1, by have := h.2.2; omega⟩
    · rw [if_neg hlt]
      obtain rfl : pos = s.size := by omega
      exact h

/-- THE PLAIN LAW: dropping the empty pieces between blanks gives the fields. -/
theorem words_fields (s : ByteArray) : goFieldsP blankP s = fullOnes (wordsTo s (s.size + 1)).1 := by
  have h := spans_rel s s.size 0 none [] (by omega) (by omega) ⟨rfl, rfl⟩
  unfold goFieldsP spansOfP closeSpans
  have hw : wordsTo s (s.size + 1) = ((wordsTo s s.size).1 ++ [s.extract (wordsTo s s.size).2 s.size], s.size + 1) := by
    conv => lhs; unfold wordsTo
    rw [if_pos (Or.inl rfl)]
  generalize spansFromP blankP s s.size 0 none [] = r at *
  obtain ⟨acc, st⟩ := r
  rw [hw, fullOnes_snoc]
  cases st with
  | none =>
    have h2 : (wordsTo s s.size).2 = s.size := h.2
    rw [h2, size_extract_none]
    exact h.1
  | some a =>
    have h2 : (wordsTo s s.size).2 = a ∧ a < s.size := h.2
    rw [h2.1, if_pos (size_extract_pos h2.2 (Nat.le_refl _))]
    show List.map _ (acc ++ [(a, s.size)]) = _
    rw [List.map_append, h.1]
    rfl

end Go.Proofs.YtcjaaknnfohllaaGreatDoor
