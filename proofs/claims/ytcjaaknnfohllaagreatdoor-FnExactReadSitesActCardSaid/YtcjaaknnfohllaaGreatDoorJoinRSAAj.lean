/- The reference's words of an operation walked: decimals, joined words, plain forms without spaces. -/
import Derived.Test.YtcjaaknnfohllaaGreatDoorJoinRSAAi
import Derived.Test.YtcjaaknnfohllaaGreatDoorJoinRSAAg
import Derived.Test.YtcjaaknnfohllaaGreatDoorJoinRSAAh
namespace Go.Proofs.YtcjaaknnfohllaaGreatDoor
open Go.RowKit

theorem decW_nat (c : Nat) : decW (c : Int) = decT c := by
  unfold decW decT Lib.itoa
  rw [if_neg (by omega), Int.toNat_natCast]
theorem decW_neg (c : Nat) (h : 0 < c) : decW (-(c : Int)) = (⟨#[45]⟩ : ByteArray) ++ decT c := by
  unfold decW decT Lib.itoa
  rw [if_pos (by omega), mk_app1, Int.natAbs_neg, Int.natAbs_natCast]
theorem decW_size (n : Int) (h1 : -9223372036854775807 ≤ n) (h2 : n ≤ 9223372036854775807) : (decW n).size ≤ 20 := by
  by_cases h : n < 0
  · obtain ⟨c, rfl⟩ : ∃ c : Nat, n = -(c : Int) := ⟨n.natAbs, by omega⟩
    have := decT_size 18 c (by omega)
    rw [decW_neg c (by omega), ByteArray.size_append]
    show 1 + _ ≤ _; omega
  · obtain ⟨c, rfl⟩ : ∃ c : Nat, n = (c : Int) := ⟨n.toNat, by omega⟩
    have := decT_size 18 c (by omega)
    rw [decW_nat]; omega

set_option maxHeartbeats 4000000 in
theorem decS_any (n : Int) (h1 : -9223372036854775807 ≤ n) (h2 : n ≤ 9223372036854775807) (w : World) : Calls Tryz.prog 81 #[.int .i64 n] w fun e w' => e = .returned (.string (decW n)) ∧ Below w.heap.size w w' := by
  by_cases h : n < 0
  · obtain ⟨c, rfl⟩ : ∃ c : Nat, n = -(c : Int) := ⟨n.natAbs, by omega⟩
    have HI := Lib.hid (l21Below_any c (by omega) w)
    have HR := Lib.hid (decW_neg c (by omega))
    have hsz := decT_size 18 c (by omega)
    go_enter Tryz.func81, Tryz.ntmps81
    go_wp2_with fail
    refine HI.out.mono ?_
    rintro e1 w1 ⟨rfl, hb1⟩
    have HB := Lib.hid hb1; clear hb1
    go_wp2_with fail
    go_ret
    exact ⟨by rw [HR.out]; rfl, HB.out⟩
  · obtain ⟨c, rfl⟩ : ∃ c : Nat, n = (c : Int) := ⟨n.toNat, by omega⟩
    rw [decW_nat]
    exact l21Dec_any c (by omega) w

set_option maxHeartbeats 4000000 in
set_option maxRecDepth 100000 in
theorem l34Join_any (A : Option Addr) (n c lo hi : Nat) (xs : List ByteArray) (w : World) (ha : StrR w lo hi A n xs) (hhi : hi ≤ w.heap.size) (hn : n ≤ 1000) (hb : ∀ x ∈ xs, x.size ≤ 1000) :
    Calls Tryz.prog 28 #[.slice A n c] w fun e w' => e = .returned (.string ⟨(joinW xs).toArray⟩) ∧ Below w.heap.size w w' := by
  have HL := Lib.hid ha.1
  have HLEN := Lib.hid (fun k (h : k ≤ n) => joinW_len xs hb k (by rw [ha.1]; exact h))
  have HTK := Lib.hid (fun k (h : k < n) => joinW_take xs k (by rw [ha.1]; exact h))
  have HALL := Lib.hid (show joinW (xs.take n) = joinW xs by rw [List.take_of_length_le (by rw [ha.1]; exact Nat.le_refl _)])
  have HBX := Lib.hid (fun k (h : k < n) => hb (xs.getD k ByteArray.empty) (by rw [List.getD_eq_getElem?_getD, List.getElem?_eq_getElem (by rw [ha.1]; exact h)]; exact List.getElem_mem _))
  have hown0 : OwnR encB (w.alloc (.cells #[] 5)) w.heap.size 5 (.slice (some ⟨w.heap.size, 0, none⟩) 0 0) [] := OwnR.none_ _ _ _ (Nat.le_refl _)
  have HO := Lib.hid hown0
  have HB0 := Lib.hid ((Below.refl w.heap.size w).alloc (Nat.le_refl _) (.cells #[] 5))
  have HA := Lib.hid ha
  clear ha hb hown0
  go_enter Tryz.func28, Tryz.ntmps28
  go_wp2_with fail
  go_loopw [3, 4] (fun v i wr => ∃ k : Nat, k ≤ n ∧ i = .int .i64 k ∧ OwnR encB wr w.heap.size 5 v (joinW (xs.take k)) ∧ Below w.heap.size w wr) (fun _ i _ => n - (intOf i).toNat)
  case atStart => exact ⟨0, Nat.zero_le _, rfl, HO.out, HB0.out⟩
  case round =>
    obtain ⟨k, hk, rfl, hown, hbr⟩ := hrel
    have hlk := HLEN.out k hk
    have hsz := hbr.size
    have HBR := Lib.hid hbr
    have hAr := HA.out.below hbr hhi
    clear hbr
    by_cases hlt : k < n
    · obtain ⟨b, off, rfl, _, hbh, hcell⟩ := hAr.at_ hlt
      have i1 : (k : Int) < (n : Int) := by omega
      have i0 : (0 : Int) ≤ (k : Int) := by omega
      have hx1 := HBX.out k hlt
      have HN := Lib.hid (HTK.out k hlt)
      generalize xs.getD k ByteArray.empty = X at *
      by_cases h0 : k = 0
      · have g0 : ¬ (0 : Int) < (k : Int) := by omega
        rw [if_pos h0, List.nil_append] at HN
        have HK0 := Lib.hid h0
        have hown' : OwnR encB wr w.heap.size 5 u3 [] := by
          have := hown
          rw [h0] at this
          exact this
        clear h0 hown hlk
        go_wp2_with (first
          | fail
          | (at_builtin; refine wpList_appS rfl (.tmp 17) (.tmp 21) rfl wr w.heap.size _ [] X rfl hown' rfl (by simp) (by omega) hsz ?_; intro v3 w3 hown3 hb3))
        go_roundw
        case rel => exact ⟨k + 1, by omega, by go_num, by rw [HN.out]; exact hown3, HBR.out.trans hb3⟩
        case measure => simp [intOf]; omega
      · have g0 : (0 : Int) < (k : Int) := by omega
        rw [if_neg h0] at HN
        clear h0
        generalize joinW (xs.take k) = L at *
        go_wp2_with (first
          | fail
          | (at_builtin; refine wpList_app1 (enc := encB) rfl (.tmp 14) (.tmp 15) 102 5 rfl Tryz.underlying102 rfl (by omega) (fun _ => rfl) infoByte wr w.heap.size _ L (32 : UInt8) rfl hown rfl (by omega) hsz ?_; intro v2 w2 hown2 hb2; have hs2 := Nat.le_trans hsz hb2.size; have hln2 : (L ++ [(32 : UInt8)]).length ≤ 2000000 := (by rw [List.length_append, List.length_singleton]; omega); have hc2 := hb2.cell (p := ⟨b, off + k, none⟩) (by show b < _; omega))
          | (at_builtin; refine wpList_appS rfl (.tmp 17) (.tmp 21) rfl w2 w.heap.size _ _ X rfl hown2 rfl (by omega) (by omega) hs2 ?_; intro v3 w3 hown3 hb3))
        go_roundw
        case rel => exact ⟨k + 1, by omega, by go_num, by rw [HN.out]; exact hown3, HBR.out.trans (hb2.trans hb3)⟩
        case measure => simp [intOf]; omega
    · have i1 : ¬ (k : Int) < (n : Int) := by omega
      obtain rfl : k = n := by omega
      have hcv := convert_own hown
      go_wp2_with fail
      go_ret
      exact ⟨by rw [← HALL.out]; rfl, HBR.out⟩
end Go.Proofs.YtcjaaknnfohllaaGreatDoor

/- The reference's words of an operation walked: l34Plains. -/
namespace Go.Proofs.YtcjaaknnfohllaaGreatDoor
open Go.RowKit

theorem noSp_false {s : ByteArray} {q : Nat} (h : q < s.size) (e : s[q] = 32) : noSp s = false := by
  unfold noSp
  rw [List.all_eq_false]
  refine ⟨s[q], ?_, by rw [e]; decide⟩
  have : s.data.toList[q]'(by rw [len_list]; exact h) = s[q] := rfl
  rw [← this]
  exact List.getElem_mem _
theorem noSp_true {s : ByteArray} (h : ∀ c ∈ s.data.toList.take s.size, c ≠ 32) : noSp s = true := by
  rw [List.take_of_length_le (by rw [len_list]; exact Nat.le_refl _)] at h
  unfold noSp
  rw [List.all_eq_true]
  exact fun c hc => by rw [bne_iff_ne]; exact h c hc
theorem take_byte {s : ByteArray} {q : Nat} (h : q < s.size) : s.data.toList.take (q + 1) = s.data.toList.take q ++ [s[q]] := by
  rw [take_one_more s.data.toList 0 q (by rw [len_list]; exact h)]
  congr 2
  rw [List.getD_eq_getElem?_getD, List.getElem?_eq_getElem (by rw [len_list]; exact h)]
  rfl
theorem map_take_more (xs : List ByteArray) (k : Nat) (h : k < xs.length) : (xs.take (k + 1)).map plainW = (xs.take k).map plainW ++ [plainW (xs.getD k ByteArray.empty)] := by
  rw [take_one_more xs ByteArray.empty k h, List.map_append]; rfl
theorem all_plain_false (xs : List ByteArray) (k : Nat) (h : k < xs.length) (hf : noSp (plainW (xs.getD k ByteArray.empty)) = false) : (xs.map plainW).all noSp = false := by
  rw [List.all_eq_false]
  refine ⟨_, List.mem_map.2 ⟨xs.getD k ByteArray.empty, ?_, rfl⟩, by rw [hf]; decide⟩
  rw [List.getD_eq_getElem?_getD, List.getElem?_eq_getElem h]
  exact List.getElem_mem _

set_option maxHeartbeats 4000000 in
set_option maxRecDepth 100000 in
theorem l34Plains_any (A : Option Addr) (n c lo hi : Nat) (xs : List ByteArray) (w : World) (ha : StrR w lo hi A n xs) (hhi : hi ≤ w.heap.size) (hn : n ≤ 100) (hb : ∀ x ∈ xs, x.size ≤ 64) :
    Calls Tryz.prog 142 #[.slice A n c] w fun e w' => (∃ v, e = .returned (.tuple #[v, .bool ((xs.map plainW).all noSp)]) ∧ ((xs.map plainW).all noSp = true → OwnStrs w' w.heap.size 9 v (xs.map plainW))) ∧ Below w.heap.size w w' := by
  have HL := Lib.hid ha.1
  have HTK := Lib.hid (fun k (h : k < n) => map_take_more xs k (by rw [ha.1]; exact h))
  have HAF := Lib.hid (fun k (h : k < n) => all_plain_false xs k (by rw [ha.1]; exact h))
  have HFULL := Lib.hid (show (xs.take n).map plainW = xs.map plainW by rw [List.take_of_length_le (by rw [ha.1]; exact Nat.le_refl _)])
  have HBX := Lib.hid (fun k (h : k < n) => hb (xs.getD k ByteArray.empty) (by rw [List.getD_eq_getElem?_getD, List.getElem?_eq_getElem (by rw [ha.1]; exact h)]; exact List.getElem_mem _))
  have hown0 : OwnStrs (w.alloc (.cells #[] 9)) w.heap.size 9 (.slice (some ⟨w.heap.size, 0, none⟩) 0 0) [] := OwnR.none_ _ _ _ (Nat.le_refl _)
  have HO := Lib.hid hown0
  have HB0 := Lib.hid ((Below.refl w.heap.size w).alloc (Nat.le_refl _) (.cells #[] 9))
  have HA := Lib.hid ha
  generalize hok : (xs.map plainW).all noSp = ok at *
  have HOK := Lib.hid hok
  clear ha hb hown0 hok
  go_enter Tryz.func142, Tryz.ntmps142
  go_wp2_with fail
  go_loopw [4, 5] (fun v i wr => ∃ k : Nat, k ≤ n ∧ i = .int .i64 k ∧ OwnStrs wr w.heap.size 9 v ((xs.take k).map plainW) ∧ ((xs.take k).map plainW).all noSp = true ∧ Below w.heap.size w wr) (fun _ i _ => n - (intOf i).toNat)
  case atStart => exact ⟨0, Nat.zero_le _, rfl, HO.out, rfl, HB0.out⟩
  case round =>
    obtain ⟨k, hk, rfl, hown, hall, hbr⟩ := hrel
    have hsz := hbr.size
    have HBR := Lib.hid hbr
    have hAr := HA.out.below hbr hhi
    have HALL := Lib.hid hall
    have hlen : ((xs.take k).map plainW).length ≤ 100 := by rw [List.length_map, List.length_take]; omega
    clear hbr hall
    by_cases hlt : k < n
    · obtain ⟨b, off, rfl, _, hbh, hcell⟩ := hAr.at_ hlt
      have i1 : (k : Int) < (n : Int) := by omega
      have i0 : (0 : Int) ≤ (k : Int) := by omega
      have hx1 := HBX.out k hlt
      have HN := Lib.hid (HTK.out k hlt)
      have HF := Lib.hid (HAF.out k hlt)
      generalize (xs.take k).map plainW = L at *
      generalize xs.getD k ByteArray.empty = X at *
      have HP := Lib.hid (fun W => l22Plain_any X (by omega) W)
      have hPs := plainW_size X
      go_wp2_with fail
      refine (HP.out _).mono ?_; rintro e1 w1 ⟨rfl, hb1⟩
      have hpw : (⟨(plainP X.data.toList).toArray⟩ : ByteArray) = plainW X := rfl
      rw [hpw]
      have hs1 : w.heap.size ≤ w1.heap.size := Nat.le_trans hsz hb1.size
      have hown1 := hown.below hb1
      have HB1 := Lib.hid (HBR.out.trans (hb1.mono hsz))
      generalize plainW X = P at *
      clear hpw hb1 hown
      go_wp2_with fail
      go_loop [7] (fun j => ∃ q : Nat, q ≤ P.size ∧ j = .int .i64 q ∧ ∀ c ∈ P.data.toList.take q, c ≠ 32) (fun j => P.size - (intOf j).toNat)
      case atStart => exact ⟨0, Nat.zero_le _, rfl, fun c hc => by simp at hc⟩
      case round =>
        obtain ⟨q, hq, rfl, hq32⟩ := hrel
        have HQ := Lib.hid hq32
        clear hq32
        by_cases hql : q < P.size
        · have q1 : (q : Int) < (P.size : Int) := by omega
          have q0 : (0 : Int) ≤ (q : Int) := by omega
          by_cases h32 : P[q] = 32
          · have c32 : ((P[q].toNat : Int) == 32) = true := by rw [h32]; rfl
            have HR := Lib.hid (HF.out (noSp_false hql h32))
            clear h32
            go_wp2_with fail
            go_ret2
            obtain rfl : ok = false := HR.out
            exact ⟨⟨_, rfl, fun h => by cases h⟩, HB1.out⟩
          · have c32 : ((P[q].toNat : Int) == 32) = false := by
              rw [beq_eq_false_iff_ne]
              intro e
              exact h32 (u8_eq (by have : P[q].toNat = 32 := (by omega); rw [this]; rfl))
            have HNX := Lib.hid (show ∀ c ∈ P.data.toList.take (q + 1), c ≠ 32 from fun c hc => by
              rw [take_byte hql] at hc
              rcases List.mem_append.1 hc with hc | hc
              · exact HQ.out c hc
              · rw [List.mem_singleton.1 hc]; exact h32)
            clear h32
            go_wp2_with fail
            go_round
            case rel => exact ⟨q + 1, by omega, by go_num, HNX.out⟩
            case measure => simp [intOf]; omega
        · have q1 : ¬ (q : Int) < (P.size : Int) := by omega
          obtain rfl : q = P.size := by omega
          have HNS := Lib.hid (noSp_true HQ.out)
          go_wp2_with (first
            | fail
            | (at_builtin; refine wpList_app1 (enc := Value.string) rfl (.tmp 31) (.tmp 33) 22 9 rfl Tryz.underlying22 rfl (by omega) (fun _ => rfl) infoTxt w1 w.heap.size _ _ P rfl hown1 rfl (by omega) hs1 ?_; intro v3 w3 hown3 hb3))
          go_roundw
          case rel => exact ⟨k + 1, by omega, by go_num, by rw [HN.out]; exact hown3, by rw [HN.out, List.all_append, HALL.out, List.all_cons, HNS.out]; rfl, HB1.out.trans hb3⟩
          case measure => simp [intOf]; omega
    · have i1 : ¬ (k : Int) < (n : Int) := by omega
      obtain rfl : k = n := by omega
      go_wp2_with fail
      go_ret2
      obtain rfl : ok = true := by rw [← HOK.out, ← HFULL.out, HALL.out]
      exact ⟨⟨_, rfl, fun _ => by rw [← HFULL.out]; exact hown⟩, HBR.out⟩
end Go.Proofs.YtcjaaknnfohllaaGreatDoor

/- The reference's words of an operation of a site walked: l34Main. -/
namespace Go.Proofs.YtcjaaknnfohllaaGreatDoor
open Go.RowKit

theorem keepB_facts {l : List Int} (h : keepB l = true) : l.length ≤ 400 ∧ ∀ j, j < l.length → 0 ≤ l.getD j 0 := by
  unfold keepB at h
  simp only [Bool.and_eq_true, decide_eq_true_eq] at h
  obtain ⟨⟨h1, h2⟩, h3⟩ := h
  refine ⟨h1, fun j => ?_⟩
  induction j with
  | zero => intro hj; rcases h3 with h3 | h3 <;> omega
  | succ j ih =>
    intro hj
    have := ih (by omega)
    unfold riseTo at h2
    have h4 := (List.all_eq_true.1 h2) j (List.mem_range.2 (by omega))
    rw [decide_eq_true_eq] at h4
    omega

set_option maxHeartbeats 4000000 in
set_option maxRecDepth 100000 in
theorem l34Main_job (a : Int) (r l : ByteArray) (xargs xin : List ByteArray) (nk : Nat) (A B C : Option Addr) (c d e lo hi : Nat) (w : World)
    (hA : StrR w lo hi A xargs.length xargs) (hB : StrR w lo hi B xin.length xin) (hhi : hi ≤ w.heap.size) (h1 : xargs.length ≤ 8) (h2 : xin.length ≤ 8) (h3 : ∀ y ∈ xargs, y.size ≤ 64) (h4 : ∀ y ∈ xin, y.size ≤ 64) :
    Calls Tryz.prog 80 #[.agg #[.int .i64 1, .int .i64 a, .string r, .string l, .slice A xargs.length c, .slice B xin.length d, .slice C nk e]] w fun e w' => (∃ v, e = .returned v ∧ OwnStrs w' w.heap.size 9 v (if (xargs.map plainW).all noSp && (xin.map plainW).all noSp then wJob :: r :: l :: (xargs.map plainW ++ inW xin) else [])) ∧ Below w.heap.size w w' := by
  have hbo := (Below.refl w.heap.size w).alloc (Nat.le_refl _) (.cells #[.int .i64 1, .int .i64 a, .string r, .string l, .slice A xargs.length c, .slice B xin.length d, .slice C nk e] 30)
  have hsz : (w.alloc (.cells #[.int .i64 1, .int .i64 a, .string r, .string l, .slice A xargs.length c, .slice B xin.length d, .slice C nk e] 30)).heap.size = w.heap.size + 1 := by simp
  have HBK := Lib.hid (Blk.new w 30 #[.int .i64 1, .int .i64 a, .string r, .string l, .slice A xargs.length c, .slice B xin.length d, .slice C nk e])
  have HPA := Lib.hid (fun W h hw => l34Plains_any A xargs.length c lo hi xargs W h hw (by omega) h3)
  have HPB := Lib.hid (fun W h hw => l34Plains_any B xin.length d lo hi xin W h hw (by omega) h4)
  have HIN := Lib.hid (show inW xin = if xin.map plainW = [] then [] else wIn :: xin.map plainW by
    unfold inW
    by_cases h : xin = []
    · subst h; rfl
    · rw [if_neg h, if_neg (fun e => h (List.map_eq_nil_iff.1 e))])
  have hPA : (xargs.map plainW).length ≤ 8 := by rw [List.length_map]; exact h1
  have hPB : (xin.map plainW).length ≤ 8 := by rw [List.length_map]; exact h2
  have HA1 := Lib.hid (hA.below hbo hhi)
  have HB1 := Lib.hid (hB.below hbo hhi)
  have HD := Lib.hid hbo
  rw [HIN.out]
  generalize (xargs.map plainW).all noSp = okA at *
  generalize (xin.map plainW).all noSp = okB at *
  generalize xargs.map plainW = PA at *
  generalize xin.map plainW = PB at *
  generalize hT : (if PB = [] then [] else wIn :: PB) = T at *
  have HT := Lib.hid hT
  clear hA hB h3 h4 hbo HIN hT
  have c1 := HBK.out.cell
  go_enter Tryz.func80, Tryz.ntmps80
  go_wp2_with fail
  generalize w.alloc (.cells #[.int .i64 1, .int .i64 a, .string r, .string l, .slice A xargs.length c, .slice B xin.length d, .slice C nk e] 30) = w0 at *
  have hlt0 : w.heap.size < w0.heap.size := by omega
  refine (HPA.out _ HA1.out (by omega)).mono ?_; rintro e1 w1 ⟨⟨v1, rfl, hv1⟩, hb1⟩
  have hs1 := hb1.size
  have HV1 := Lib.hid hv1
  have B1 := HBK.out.below hb1 (by omega)
  have c2 := B1.cell
  have HBK1 := Lib.hid B1
  have HB2 := Lib.hid (HB1.out.below hb1 (by omega))
  have HD1 := Lib.hid (HD.out.trans (hb1.mono (by omega)))
  clear hb1 B1 c1 HBK hv1
  go_wp2_with fail
  refine (HPB.out _ HB2.out (by omega)).mono ?_; rintro e2 w2 ⟨⟨v2, rfl, hv2⟩, hb2⟩
  have hs2 := hb2.size
  have HV2 := Lib.hid hv2
  have B2 := HBK1.out.below hb2 (by omega)
  have c3 := B2.cell
  have HBK2 := Lib.hid B2
  have HW2 := Lib.hid hb2
  have HD2 := Lib.hid (HD1.out.trans (hb2.mono (by omega)))
  have hw2 : w.heap.size ≤ w2.heap.size := by omega
  have HN0 := Lib.hid (OwnR.none_ (enc := Value.string) w2 w.heap.size 9 hw2)
  clear hb2 B2 c2 HBK1 hv2
  cases okA
  · go_wp2_with fail
    go_ret
    exact ⟨⟨_, rfl, HN0.out⟩, HD2.out.alloc hw2 _⟩
  · have hv1 := HV1.out rfl
    cases okB
    · go_wp2_with fail
      go_ret
      exact ⟨⟨_, rfl, HN0.out⟩, HD2.out.alloc hw2 _⟩
    · have hv2 := HV2.out rfl
      obtain ⟨A1, cc1, rfl⟩ := hv1.1
      obtain ⟨A2, cc2, rfl⟩ := hv2.1
      have HWA := Lib.hid (show Below w2.heap.size w2 (w2.alloc (.cells #[.string wJob, .string r, .string l] 9)) from (Below.refl _ _).alloc (Nat.le_refl _) _)
      have hr1 := ((OwnR.reads (d := ByteArray.empty) hv1).below HW2.out (Nat.le_refl _)).below HWA.out hs2
      have hr2 := (OwnR.reads (d := ByteArray.empty) hv2).below HWA.out (Nat.le_refl _)
      have hlit : OwnStrs (w2.alloc (.cells #[.string wJob, .string r, .string l] 9)) w2.heap.size 9 (.slice (some ⟨w2.heap.size, 0, none⟩) 3 3) [wJob, r, l] := OwnR.lit_ w2 w2.heap.size 9 [wJob, r, l] (by show 3 ≤ _; omega) (Nat.le_refl _)
      have hwa : w2.heap.size ≤ (w2.alloc (.cells #[.string wJob, .string r, .string l] 9)).heap.size := HWA.out.size
      clear HV1 HV2 hv1 hv2
      by_cases h0 : PB = []
      · have z0 : ¬ (0 : Int) < (PB.length : Int) := by rw [h0]; decide
        have HT0 := Lib.hid (show T = [] by rw [← HT.out, if_pos h0])
        clear h0
        go_wp2_with (first
          | fail
          | (at_builtin; refine wpList_appR (enc := Value.string) (d := ByteArray.empty) rfl (.tmp 37) (.tmp 38) 22 9 rfl Tryz.underlying22 rfl (by omega) (fun _ => rfl) infoTxt _ w2.heap.size _ _ PA rfl hlit A1 cc1 _ _ rfl hr1 (by simp; omega) hwa ?_; intro v3 w3 hown3 hb3))
        go_ret
        exact ⟨⟨_, rfl, by rw [HT0.out, List.append_nil]; exact hown3.mono hw2⟩, HD2.out.trans ((HWA.out.trans hb3).mono hw2)⟩
      · have HT0 := Lib.hid (show T = wIn :: PB by rw [← HT.out, if_neg h0])
        have hp : 0 < PB.length := List.length_pos_iff.2 h0
        have z0 : (0 : Int) < (PB.length : Int) := by omega
        clear h0
        go_wp2_with (first
          | fail
          | (at_builtin; refine wpList_appR (enc := Value.string) (d := ByteArray.empty) rfl (.tmp 37) (.tmp 38) 22 9 rfl Tryz.underlying22 rfl (by omega) (fun _ => rfl) infoTxt _ w2.heap.size _ _ PA rfl hlit A1 cc1 _ _ rfl hr1 (by simp; omega) hwa ?_; intro v3 w3 hown3 hb3; have hs3 : w2.heap.size ≤ w3.heap.size := Nat.le_trans hwa hb3.size; have hr3 := hr2.below hb3 (Nat.le_refl _); have hl3 : ([wJob, r, l] ++ PA).length ≤ 100 := (by simp; omega); generalize hL3 : [wJob, r, l] ++ PA = L3 at *; have HL3 := Lib.hid hL3; clear hL3)
          | (at_builtin; refine wpList_app1 (enc := Value.string) rfl (.tmp 43) (.tmp 44) 22 9 rfl Tryz.underlying22 rfl (by omega) (fun _ => rfl) infoTxt w3 w2.heap.size _ _ wIn rfl hown3 rfl (by omega) hs3 ?_; intro v4 w4 hown4 hb4; have hs4 := Nat.le_trans hs3 hb4.size; have hr4 := hr3.below hb4 (Nat.le_refl _))
          | (at_builtin; refine wpList_appR (enc := Value.string) (d := ByteArray.empty) rfl (.tmp 45) (.tmp 46) 22 9 rfl Tryz.underlying22 rfl (by omega) (fun _ => rfl) infoTxt _ w2.heap.size _ _ PB rfl hown4 A2 cc2 _ _ rfl hr4 (by simp; omega) hs4 ?_; intro v5 w5 hown5 hb5))
        go_ret
        have hfin : OwnStrs w5 w.heap.size 9 v5 (wJob :: r :: l :: (PA ++ T)) := by
          rw [HT0.out, show wJob :: r :: l :: (PA ++ wIn :: PB) = L3 ++ [wIn] ++ PB by rw [← HL3.out]; simp]
          exact hown5.mono hw2
        exact ⟨⟨_, rfl, hfin⟩, HD2.out.trans (((HWA.out.trans hb3).trans (hb4.trans hb5)).mono hw2)⟩
end Go.Proofs.YtcjaaknnfohllaaGreatDoor
