/- The reference's words of an operation walked: decimals, joined words, plain forms without spaces. -/
import Derived.Test.YtcjaaknnfohllaaGreatDoorSatP
import Derived.Test.YtcjaaknnfohllaaGreatDoorByt
import Derived.Test.YtcjaaknnfohllaaGreatDoorQuoS
namespace Go.Proofs.YtcjaaknnfohllaaGreatDoor
open Go.RowKit

theorem decW_nat (c : Nat) : decW (c : Int) = decT c := by
  unfold decW decT Lib.itoa
  rw [if_neg (by omega), Int.toNat_natCast]
theorem decW_neg (c : Nat) (h : 0 < c) : decW (-(c : Int)) = (⟨#[45]⟩ : ByteArray) ++ decT c := by
  unfold decW decT Lib.itoa
  rw [if_pos (by omega), mk_app1, Int.natAbs_neg, Int.natAbs_natCast]
theorem decW_size (n : Int) (h1 : -9223372036854775807 ≤ n) (h2 : n ≤ 9223372036854775807) : (decW n).size ≤ 20 := by
  by_cases h : n < 0
  · obtain ⟨c, rfl⟩ : ∃ c : Nat, n = -(c : Int) := ⟨n.natAbs, by omega⟩
    have := decT_size 18 c (by omega)
    rw [decW_neg c (by omega), ByteArray.size_append]
    show 1 + _ ≤ _; omega
  · obtain ⟨c, rfl⟩ : ∃ c : Nat, n = (c : Int) := ⟨n.toNat, by omega⟩
    have := decT_size 18 c (by omega)
    rw [decW_nat]; omega

set_option maxHeartbeats 4000000 in
theorem decS_any (n : Int) (h1 : -9223372036854775807 ≤ n) (h2 : n ≤ 9223372036854775807) (w : World) : Calls Tryz.prog 81 #[.int .i64 n] w fun e w' => e = .returned (.string (decW n)) ∧ Below w.heap.size w w' := by
  by_cases h : n < 0
  · obtain ⟨c, rfl⟩ : ∃ c : Nat, n = -(c : Int) := ⟨n.natAbs, by omega⟩
    have HI := Lib.hid (l21Below_any c (by omega) w)
    have HR := Lib.hid (decW_neg c (by omega))
    have hsz := decT_size 18 c (by omega)
    go_enter Tryz.func81, Tryz.ntmps81
    go_wp2_with fail
    refine HI.out.mono ?_
    rintro e1 w1 ⟨rfl, hb1⟩
    have HB := Lib.hid hb1; clear hb1
    go_wp2_with fail
    go_ret
    exact ⟨by rw [HR.out]; rfl, HB.out⟩
  · obtain ⟨c, rfl⟩ : ∃ c : Nat, n = (c : Int) := ⟨n.toNat, by omega⟩
    rw [decW_nat]
    exact l21Dec_any c (by omega) w

set_option maxHeartbeats 4000000 in
set_option maxRecDepth 100000 in
theorem l34Join_any (A : Option Addr) (n c lo hi : Nat) (xs : List ByteArray) (w : World) (ha : StrR w lo hi A n xs) (hhi : hi ≤ w.heap.size) (hn : n ≤ 1000) (hb : ∀ x ∈ xs, x.size ≤ 1000) :
    Calls Tryz.prog 28 #[.slice A n c] w fun e w' => e = .returned (.string ⟨(joinW xs).toArray⟩) ∧ Below w.heap.size w w' := by
  have HL := Lib.hid ha.1
  have HLEN := Lib.hid (fun k (h : k ≤ n) => joinW_len xs hb k (by rw [ha.1]; exact h))
  have HTK := Lib.hid (fun k (h : k < n) => joinW_take xs k (by rw [ha.1]; exact h))
  have HALL := Lib.hid (show joinW (xs.take n) = joinW xs by rw [List.take_of_length_le (by rw [ha.1]; exact Nat.le_refl _)])
  have HBX := Lib.hid (fun k (h : k < n) => hb (xs.getD k ByteArray.empty) (by rw [List.getD_eq_getElem?_getD, List.getElem?_eq_getElem (by rw [ha.1]; exact h)]; exact List.getElem_mem _))
  have hown0 : OwnR encB (w.alloc (.cells #[] 5)) w.heap.size 5 (.slice (some ⟨w.heap.size, 0, none⟩) 0 0) [] := OwnR.none_ _ _ _ (Nat.le_refl _)
  have HO := Lib.hid hown0
  have HB0 := Lib.hid ((Below.refl w.heap.size w).alloc (Nat.le_refl _) (.cells #[] 5))
  have HA := Lib.hid ha
  clear ha hb hown0
  go_enter Tryz.func28, Tryz.ntmps28
  go_wp2_with fail
  go_loopw [3, 4] (fun v i wr => ∃ k : Nat, k ≤ n ∧ i = .int .i64 k ∧ OwnR encB wr w.heap.size 5 v (joinW (xs.take k)) ∧ Below w.heap.size w wr) (fun _ i _ => n - (intOf i).toNat)
  case atStart => exact ⟨0, Nat.zero_le _, rfl, HO.out, HB0.out⟩
  case round =>
    obtain ⟨k, hk, rfl, hown, hbr⟩ := hrel
    have hlk := HLEN.out k hk
    have hsz := hbr.size
    have HBR := Lib.hid hbr
    have hAr := HA.out.below hbr hhi
    clear hbr
    by_cases hlt : k < n
    · obtain ⟨b, off, rfl, _, hbh, hcell⟩ := hAr.at_ hlt
      have i1 : (k : Int) < (n : Int) := by omega
      have i0 : (0 : Int) ≤ (k : Int) := by omega
      have hx1 := HBX.out k hlt
      have HN := Lib.hid (HTK.out k hlt)
      generalize xs.getD k ByteArray.empty = X at *
      by_cases h0 : k = 0
      · have g0 : ¬ (0 : Int) < (k : Int) := by omega
        rw [if_pos h0, List.nil_append] at HN
        have HK0 := Lib.hid h0
        have hown' : OwnR encB wr w.heap.size 5 u3 [] := by
          have := hown
          rw [h0] at this
          exact this
        clear h0 hown hlk
        go_wp2_with (first
          | fail
          | (at_builtin; refine wpList_appS rfl (.tmp 17) (.tmp 21) rfl wr w.heap.size _ [] X rfl hown' rfl (by simp) (by omega) hsz ?_; intro v3 w3 hown3 hb3))
        go_roundw
        case rel => exact ⟨k + 1, by omega, by go_num, by rw [HN.out]; exact hown3, HBR.out.trans hb3⟩
        case measure => simp [intOf]; omega
      · have g0 : (0 : Int) < (k : Int) := by omega
        rw [if_neg h0] at HN
        clear h0
        generalize joinW (xs.take k) = L at *
        go_wp2_with (first
          | fail
          | (at_builtin; refine wpList_app1 (enc := encB) rfl (.tmp 14) (.tmp 15) 102 5 rfl Tryz.underlying102 rfl (by omega) (fun _ => rfl) infoByte wr w.heap.size _ L (32 : UInt8) rfl hown rfl (by omega) hsz ?_; intro v2 w2 hown2 hb2; have hs2 := Nat.le_trans hsz hb2.size; have hln2 : (L ++ [(32 : UInt8)]).length ≤ 2000000 := (by rw [List.length_append, List.length_singleton]; omega); have hc2 := hb2.cell (p := ⟨b, off + k, none⟩) (by show b < _; omega))
          | (at_builtin; refine wpList_appS rfl (.tmp 17) (.tmp 21) rfl w2 w.heap.size _ _ X rfl hown2 rfl (by omega) (by omega) hs2 ?_; intro v3 w3 hown3 hb3))
        go_roundw
        case rel => exact ⟨k + 1, by omega, by go_num, by rw [HN.out]; exact hown3, HBR.out.trans (hb2.trans hb3)⟩
        case measure => simp [intOf]; omega
    · have i1 : ¬ (k : Int) < (n : Int) := by omega
      obtain rfl : k = n := by omega
      have hcv := convert_own hown
      go_wp2_with fail
      go_ret
      exact ⟨by rw [← HALL.out]; rfl, HBR.out⟩
end Go.Proofs.YtcjaaknnfohllaaGreatDoor
