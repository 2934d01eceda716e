/- The reference's words of an operation walked: l34Plains. -/
import Derived.Test.YtcjaaknnfohllaaGreatDoorSatS
import Derived.Test.YtcjaaknnfohllaaGreatDoorNodS
namespace Go.Proofs.YtcjaaknnfohllaaGreatDoor
open Go.RowKit

theorem noSp_false {s : ByteArray} {q : Nat} (h : q < s.size) (e : s[q] = 32) : noSp s = false := by
  unfold noSp
  rw [List.all_eq_false]
  refine ⟨s[q], ?_, by rw [e]; decide⟩
  have : s.data.toList[q]'(by rw [len_list]; exact h) = s[q] := rfl
  rw [← this]
  exact List.getElem_mem _
theorem noSp_true {s : ByteArray} (h : ∀ c ∈ s.data.toList.take s.size, c ≠ 32) : noSp s = true := by
  rw [List.take_of_length_le (by rw [len_list]; exact Nat.le_refl _)] at h
  unfold noSp
  rw [List.all_eq_true]
  exact fun c hc => by rw [bne_iff_ne]; exact h c hc
theorem take_byte {s : ByteArray} {q : Nat} (h : q < s.size) : s.data.toList.take (q + 1) = s.data.toList.take q ++ [s[q]] := by
  rw [take_one_more s.data.toList 0 q (by rw [len_list]; exact h)]
  congr 2
  rw [List.getD_eq_getElem?_getD, List.getElem?_eq_getElem (by rw [len_list]; exact h)]
  rfl
theorem map_take_more (xs : List ByteArray) (k : Nat) (h : k < xs.length) : (xs.take (k + 1)).map plainW = (xs.take k).map plainW ++ [plainW (xs.getD k ByteArray.empty)] := by
  rw [take_one_more xs ByteArray.empty k h, List.map_append]; rfl
theorem all_plain_false (xs : List ByteArray) (k : Nat) (h : k < xs.length) (hf : noSp (plainW (xs.getD k ByteArray.empty)) = false) : (xs.map plainW).all noSp = false := by
  rw [List.all_eq_false]
  refine ⟨_, List.mem_map.2 ⟨xs.getD k ByteArray.empty, ?_, rfl⟩, by rw [hf]; decide⟩
  rw [List.getD_eq_getElem?_getD, List.getElem?_eq_getElem h]
  exact List.getElem_mem _

set_option maxHeartbeats 4000000 in
set_option maxRecDepth 100000 in
theorem l34Plains_any (A : Option Addr) (n c lo hi : Nat) (xs : List ByteArray) (w : World) (ha : StrR w lo hi A n xs) (hhi : hi ≤ w.heap.size) (hn : n ≤ 100) (hb : ∀ x ∈ xs, x.size ≤ 64) :
    Calls Tryz.prog 142 #[.slice A n c] w fun e w' => (∃ v, e = .returned (.tuple #[v, .bool ((xs.map plainW).all noSp)]) ∧ ((xs.map plainW).all noSp = true → OwnStrs w' w.heap.size 9 v (xs.map plainW))) ∧ Below w.heap.size w w' := by
  have HL := Lib.hid ha.1
  have HTK := Lib.hid (fun k (h : k < n) => map_take_more xs k (by rw [ha.1]; exact h))
  have HAF := Lib.hid (fun k (h : k < n) => all_plain_false xs k (by rw [ha.1]; exact h))
  have HFULL := Lib.hid (show (xs.take n).map plainW = xs.map plainW by rw [List.take_of_length_le (by rw [ha.1]; exact Nat.le_refl _)])
  have HBX := Lib.hid (fun k (h : k < n) => hb (xs.getD k ByteArray.empty) (by rw [List.getD_eq_getElem?_getD, List.getElem?_eq_getElem (by rw [ha.1]; exact h)]; exact List.getElem_mem _))
  have hown0 : OwnStrs (w.alloc (.cells #[] 9)) w.heap.size 9 (.slice (some ⟨w.heap.size, 0, none⟩) 0 0) [] := OwnR.none_ _ _ _ (Nat.le_refl _)
  have HO := Lib.hid hown0
  have HB0 := Lib.hid ((Below.refl w.heap.size w).alloc (Nat.le_refl _) (.cells #[] 9))
  have HA := Lib.hid ha
  generalize hok : (xs.map plainW).all noSp = ok at *
  have HOK := Lib.hid hok
  clear ha hb hown0 hok
  go_enter Tryz.func142, Tryz.ntmps142
  go_wp2_with fail
  go_loopw [4, 5] (fun v i wr => ∃ k : Nat, k ≤ n ∧ i = .int .i64 k ∧ OwnStrs wr w.heap.size 9 v ((xs.take k).map plainW) ∧ ((xs.take k).map plainW).all noSp = true ∧ Below w.heap.size w wr) (fun _ i _ => n - (intOf i).toNat)
  case atStart => exact ⟨0, Nat.zero_le _, rfl, HO.out, rfl, HB0.out⟩
  case round =>
    obtain ⟨k, hk, rfl, hown, hall, hbr⟩ := hrel
    have hsz := hbr.size
    have HBR := Lib.hid hbr
    have hAr := HA.out.below hbr hhi
    have HALL := Lib.hid hall
    have hlen : ((xs.take k).map plainW).length ≤ 100 := by rw [List.length_map, List.length_take]; omega
    clear hbr hall
    by_cases hlt : k < n
    · obtain ⟨b, off, rfl, _, hbh, hcell⟩ := hAr.at_ hlt
      have i1 : (k : Int) < (n : Int) := by omega
      have i0 : (0 : Int) ≤ (k : Int) := by omega
      have hx1 := HBX.out k hlt
      have HN := Lib.hid (HTK.out k hlt)
      have HF := Lib.hid (HAF.out k hlt)
      generalize (xs.take k).map plainW = L at *
      generalize xs.getD k ByteArray.empty = X at *
      have HP := Lib.hid (fun W => l22Plain_any X (by omega) W)
      have hPs := plainW_size X
      go_wp2_with fail
      refine (HP.out _).mono ?_; rintro e1 w1 ⟨rfl, hb1⟩
      have hpw : (⟨(plainP X.data.toList).toArray⟩ : ByteArray) = plainW X := rfl
      rw [hpw]
      have hs1 : w.heap.size ≤ w1.heap.size := Nat.le_trans hsz hb1.size
      have hown1 := hown.below hb1
      have HB1 := Lib.hid (HBR.out.trans (hb1.mono hsz))
      generalize plainW X = P at *
      clear hpw hb1 hown
      go_wp2_with fail
      go_loop [7] (fun j => ∃ q : Nat, q ≤ P.size ∧ j = .int .i64 q ∧ ∀ c ∈ P.data.toList.take q, c ≠ 32) (fun j => P.size - (intOf j).toNat)
      case atStart => exact ⟨0, Nat.zero_le _, rfl, fun c hc => by simp at hc⟩
      case round =>
        obtain ⟨q, hq, rfl, hq32⟩ := hrel
        have HQ := Lib.hid hq32
        clear hq32
        by_cases hql : q < P.size
        · have q1 : (q : Int) < (P.size : Int) := by omega
          have q0 : (0 : Int) ≤ (q : Int) := by omega
          by_cases h32 : P[q] = 32
          · have c32 : ((P[q].toNat : Int) == 32) = true := by rw [h32]; rfl
            have HR := Lib.hid (HF.out (noSp_false hql h32))
            clear h32
            go_wp2_with fail
            go_ret2
            obtain rfl : ok = false := HR.out
            exact ⟨⟨_, rfl, fun h => by cases h⟩, HB1.out⟩
          · have c32 : ((P[q].toNat : Int) == 32) = false := by
              rw [beq_eq_false_iff_ne]
              intro e
              exact h32 (u8_eq (by have : P[q].toNat = 32 := (by omega); rw [this]; rfl))
            have HNX := Lib.hid (show ∀ c ∈ P.data.toList.take (q + 1), c ≠ 32 from fun c hc => by
              rw [take_byte hql] at hc
              rcases List.mem_append.1 hc with hc | hc
              · exact HQ.out c hc
              · rw [List.mem_singleton.1 hc]; exact h32)
            clear h32
            go_wp2_with fail
            go_round
            case rel => exact ⟨q + 1, by omega, by go_num, HNX.out⟩
            case measure => simp [intOf]; omega
        · have q1 : ¬ (q : Int) < (P.size : Int) := by omega
          obtain rfl : q = P.size := by omega
          have HNS := Lib.hid (noSp_true HQ.out)
          go_wp2_with (first
            | fail
            | (at_builtin; refine wpList_app1 (enc := Value.string) rfl (.tmp 31) (.tmp 33) 22 9 rfl Tryz.underlying22 rfl (by omega) (fun _ => rfl) infoTxt w1 w.heap.size _ _ P rfl hown1 rfl (by omega) hs1 ?_; intro v3 w3 hown3 hb3))
          go_roundw
          case rel => exact ⟨k + 1, by omega, by go_num, by rw [HN.out]; exact hown3, by rw [HN.out, List.all_append, HALL.out, List.all_cons, HNS.out]; rfl, HB1.out.trans hb3⟩
          case measure => simp [intOf]; omega
    · have i1 : ¬ (k : Int) < (n : Int) := by omega
      obtain rfl : k = n := by omega
      go_wp2_with fail
      go_ret2
      obtain rfl : ok = true := by rw [← HOK.out, ← HFULL.out, HALL.out]
      exact ⟨⟨_, rfl, fun _ => by rw [← HFULL.out]; exact hown⟩, HBR.out⟩
end Go.Proofs.YtcjaaknnfohllaaGreatDoor
