/- The reference's reader walked: more, quoted, digits, codes. -/
import Derived.Test.YtfibjcaidnofmaaGreatDoorJoinITAp
import Derived.Test.YtfibjcaidnofmaaGreatDoorJoinITAe
import Derived.Test.YtfibjcaidnofmaaGreatDoorJoinITAf
import Derived.Test.YtfibjcaidnofmaaGreatDoorJoinITAi
import Derived.StillTailTactics
import Derived.Test.YtfibjcaidnofmaaGreatDoorJoinITAd
namespace Go.Proofs.YtfibjcaidnofmaaGreatDoor
open Go.RowKit

theorem within_set (w : World) (B o : Nat) (u : Value) : Within B (B + 1) w (w.setCell ⟨B, o, none⟩ u) :=
  ⟨rfl, rfl, rfl, by simp, fun k _ hd => Below.heap_setCell w ⟨B, o, none⟩ u k (show k ≠ B by omega)⟩
theorem within_drew (w : World) (lo hi : Nat) : Within lo hi w w.drew := Within.of_below (below_drewN' w 1)
theorem within_refl (w : World) (lo hi : Nat) : Within lo hi w w := Within.of_below (Below.refl _ _)

/-- A reader of the text T that stands at place p, in block B. -/
abbrev RdAt (w : World) (B : Nat) (T : ByteArray) (p : Nat) : Prop := Blk w B 128 #[.string T, .int .i64 (p : Int)]

theorem pre_eq (s p : List UInt8) (_ : p.length ≤ s.length) : p.isPrefixOf s = (s.take p.length == p) := by
  rw [Bool.eq_iff_iff, List.isPrefixOf_iff_prefix, beq_iff_eq]
  constructor
  · intro h1; exact (List.prefix_iff_eq_take.1 h1).symm
  · intro h1; exact List.prefix_iff_eq_take.2 h1.symm
theorem pre_long (s p : List UInt8) (h : s.length < p.length) : p.isPrefixOf s = false := by
  rw [← Bool.not_eq_true, List.isPrefixOf_iff_prefix]
  intro h1
  have := h1.length_le
  omega

set_option maxHeartbeats 1000000 in
theorem l16Starts_any (s p : ByteArray) (_ : s.size ≤ 1048576) (hp : p.size ≤ 1048576) (w : World) : Calls Tryz.prog 109 #[.string s, .string p] w fun e w' => e = .returned (.bool (p.data.toList.isPrefixOf s.data.toList)) ∧ w = w' := by
  by_cases h : p.size ≤ s.size
  · have i1 : (p.size : Int) ≤ (s.size : Int) := by omega
    have i0 : (0 : Int) ≤ (p.size : Int) := by omega
    have HR := Lib.hid (show p.data.toList.isPrefixOf s.data.toList = ((s.extract 0 p.size).toList == p.toList) by
      rw [pre_eq _ _ (by rw [Array.length_toList, Array.length_toList]; exact h), ByteArray.toList_eq, ByteArray.toList_eq, bytes_pop]
      rw [Array.length_toList]; rfl)
    go_enter Tryz.func109, Tryz.ntmps109
    go_wp2_with fail
    go_ret
    exact ⟨by rw [HR.out]; rfl, rfl⟩
  · have i1 : ¬ (p.size : Int) ≤ (s.size : Int) := by omega
    have HR := Lib.hid (pre_long s.data.toList p.data.toList (by rw [Array.length_toList, Array.length_toList]; show s.size < p.size; omega))
    rw [HR.out]
    go_enter Tryz.func109, Tryz.ntmps109
    go_wp2_with fail
    go_ret
    exact ⟨rfl, rfl⟩

theorem drop_ext (T : ByteArray) (p : Nat) : (T.extract p T.size).data.toList = T.data.toList.drop p := by
  rw [ByteArray.data_extract, Array.toList_extract, List.extract_eq_take_drop, List.take_of_length_le]
  rw [List.length_drop, Array.length_toList]; exact Nat.le_refl _

set_option maxHeartbeats 4000000 in
theorem more_any (B : Nat) (T p : ByteArray) (a : Nat) (ha : a ≤ T.size) (hT : T.size ≤ 1048576) (hp : p.size ≤ 8) (w : World) (hB : RdAt w B T a) :
    Calls Tryz.prog 110 #[.pointer (some ⟨B, 0, none⟩), .string p] w fun e w' => e = .returned (.bool (p.data.toList.isPrefixOf (T.data.toList.drop a))) ∧ RdAt w' B T (if p.data.toList.isPrefixOf (T.data.toList.drop a) then a + p.size else a) ∧ Within B (B + 1) w w' := by
  have HS := Lib.hid (fun W => l16Starts_any (T.extract a T.size) p (by rw [ByteArray.size_extract]; omega) (by omega) W)
  have HD := Lib.hid (drop_ext T a)
  rw [HD.out] at HS
  have i0 : (0 : Int) ≤ (a : Int) := by omega
  have i1 : (a : Int) ≤ (T.size : Int) := by omega
  have HB := Lib.hid hB
  have HBd : RdAt w.drew B T a := hB
  have f := HBd.cell
  have z := HBd.frozen
  clear hB
  cases hc : p.data.toList.isPrefixOf (T.data.toList.drop a)
  · rw [hc] at HS
    clear hc
    go_enter Tryz.func110, Tryz.ntmps110
    go_wp2_with fail
    go_region_held3 (fun w' => ∀ i, w'.cell? ⟨B, i, none⟩ = (#[.string T, .int .i64 (a : Int)] : Array Value)[i]?)
      (first | exact HB.out.cell | exact f)
      (first | (go_at_call 109; refine (HS.out _).mono ?_; rintro e5 w5 ⟨rfl, rfl⟩))
    go_wp2_with fail
    go_ret
    exact ⟨rfl, HBd, within_drew _ _ _⟩
  · rw [hc] at HS
    clear hc
    go_enter Tryz.func110, Tryz.ntmps110
    go_wp2_with fail
    go_region_held3 (fun w' => ∀ i, w'.cell? ⟨B, i, none⟩ = (#[.string T, .int .i64 (a : Int)] : Array Value)[i]?)
      (first | exact HB.out.cell | exact f)
      (first | (go_at_call 109; refine (HS.out _).mono ?_; rintro e5 w5 ⟨rfl, rfl⟩))
    go_wp2_with fail
    go_ret
    exact ⟨rfl, HBd.set_ 1 _, (within_drew _ _ _).trans (within_set _ _ _ _)⟩

theorem OwnR.within {α : Type} {enc : α → Value} {w w' : World} {base lo hi : Nat} {t : TypeId} {v : Value} {xs : List α} (h : OwnR enc w base t v xs) (hw : Within lo hi w w') (hb : hi ≤ base) : OwnR enc w' base t v xs := by
  refine ⟨h.1, h.2.1, ?_⟩
  rcases h.2.2 with h2 | ⟨g, cap, cur, h1, hg, hc, r⟩
  · exact .inl h2
  · have hlt : g < w.heap.size := by
      rcases Nat.lt_or_ge g w.heap.size with h' | h'
      · exact h'
      · rw [Array.getElem?_eq_none h'] at hc; cases hc
    exact .inr ⟨g, cap, cur, h1, hg, (hw.block g hlt (.inr (by omega))).trans hc, r⟩
theorem Within.low {lo hi : Nat} {w w1 w2 : World} (h : Within lo hi w w1) (hb : Below w.heap.size w1 w2) : Within lo hi w w2 :=
  ⟨hb.os.trans h.os, hb.tape.trans h.tape, hb.output.trans h.output, Nat.le_trans h.size hb.size, fun k hk hd => (hb.block k hk).trans (h.block k hk hd)⟩
theorem Blk.within {w w' : World} {g lo hi : Nat} {t : TypeId} {cs : Array Value} (h : Blk w g t cs) (hw : Within lo hi w w') (hg : g < lo ∨ hi ≤ g) : Blk w' g t cs := (hw.block g h.lt hg).trans h

/-- Where the reader in block B stands. -/
def standsAt (w : World) (B : Nat) : Nat := match w.cell? ⟨B, 1, none⟩ with
  | some (.int _ n) => n.toNat
  | _ => 0
theorem standsAt_rd {w : World} {B : Nat} {T : ByteArray} {k : Nat} (h : RdAt w B T k) : standsAt w B = k := by
  unfold standsAt
  rw [h.cell 1]
  rfl
theorem drop_at (T : ByteArray) (k : Nat) (h : k < T.size) : T.data.toList.drop k = T[k] :: T.data.toList.drop (k + 1) := List.drop_eq_getElem_cons (by simpa using h)
theorem drop_len (T : ByteArray) (k : Nat) (r : List UInt8) (hk : k ≤ T.size) (h : T.data.toList.drop k = r) : k = T.size - r.length := by
  rw [← h, List.length_drop, Array.length_toList]
  show k = T.size - (T.size - k)
  omega
theorem one_pre (c : UInt8) (l : List UInt8) : [c].isPrefixOf l = true ↔ ∃ r, l = c :: r := by
  rw [List.isPrefixOf_iff_prefix]
  constructor
  · rintro ⟨r, e⟩; exact ⟨r, e.symm⟩
  · rintro ⟨r, e⟩; exact ⟨r, e.symm⟩

set_option maxHeartbeats 8000000 in
set_option maxRecDepth 100000 in
theorem quotedS_any (B : Nat) (T : ByteArray) (a : Nat) (ha : a ≤ T.size) (hT : T.size ≤ 1048576) (w : World) (hB : RdAt w B T a) :
    Calls Tryz.prog 159 #[.pointer (some ⟨B, 0, none⟩)] w fun e w' => e = .returned (.string ⟨(qS (T.data.toList.drop a)).1.toArray⟩) ∧ RdAt w' B T (T.size - (qS (T.data.toList.drop a)).2.length) ∧ Within B (B + 1) w w' := by
  have hBl := hB.lt
  have HB := Lib.hid hB
  generalize hQ : qS (T.data.toList.drop a) = Q at *
  have HQ := Lib.hid hQ; clear hQ
  go_enter Tryz.func159, Tryz.ntmps159
  go_wp2_with fail
  have hown0 : OwnR encB (w.alloc (.cells #[] 5)) w.heap.size 5 (.slice (some ⟨w.heap.size, 0, none⟩) 0 0) [] := OwnR.none_ _ _ _ (Nat.le_refl _)
  have HW0 := Lib.hid (show Within B (B + 1) w (w.alloc (.cells #[] 5)) from Within.of_below ((Below.refl _ _).alloc (Nat.le_refl _) _))
  have HB0 := Lib.hid (show RdAt (w.alloc (.cells #[] 5)) B T a from hB.alloc _)
  clear hB
  go_loopw [3] (fun v wr => ∃ (k : Nat) (b : List UInt8), k ≤ T.size ∧ RdAt wr B T k ∧ OwnR encB wr w.heap.size 5 v b ∧ b.length ≤ k ∧ b ++ (qS (T.data.toList.drop k)).1 = Q.1 ∧ (qS (T.data.toList.drop k)).2 = Q.2 ∧ Within B (B + 1) w wr) (fun _ wr => T.size - standsAt wr B)
  case atStart => exact ⟨a, [], ha, HB0.out, hown0, Nat.zero_le _, by rw [HQ.out]; rfl, by rw [HQ.out], HW0.out⟩
  case round =>
    clear hown0
    obtain ⟨k, b, hk, hR, hown, hbl, h1, h2, hw⟩ := hrel
    have H1 := Lib.hid h1; have H2 := Lib.hid h2; have HW := Lib.hid hw
    have hws := hw.size
    have HR := Lib.hid hR
    have HST := Lib.hid (standsAt_rd hR)
    clear h1 h2 hw
    have f := hR.cell
    by_cases hlt : k < T.size
    · have i1 : (k : Int) < (T.size : Int) := by omega
      have i0 : (0 : Int) ≤ (k : Int) := by omega
      have HDA := Lib.hid (drop_at T k hlt)
      go_wp2_with fail
      go_quiet (fail)
      have R1 : RdAt (wr.drewN nq) B T k := HR.out
      have own1 : OwnR encB (wr.drewN nq) w.heap.size 5 u3 b := hown
      have W1 : Within B (B + 1) w (wr.drewN nq) := HW.out.trans (Within.of_below (below_drewN' wr nq))
      have hs1 : w.heap.size ≤ (wr.drewN nq).heap.size := hws
      generalize wr.drewN nq = wa at *
      clear f hR hown
      have f := R1.cell
      go_wp2_with fail
      go_quiet (fail)
      have R2 : RdAt (wa.drewN nq) B T k := R1
      have own2 : OwnR encB (wa.drewN nq) w.heap.size 5 u3 b := own1
      have W2 : Within B (B + 1) w (wa.drewN nq) := W1.trans (Within.of_below (below_drewN' wa nq))
      have hs2 : w.heap.size ≤ (wa.drewN nq).heap.size := hs1
      generalize wa.drewN nq = wb at *
      clear f R1 own1 W1 hs1
      have f := R2.cell
      have z := R2.frozen
      have R3 := R2.set_ 1 (.int .i64 ((k : Int) + 1))
      have R3' : RdAt (wb.setCell ⟨B, 1, none⟩ (.int .i64 ((k : Int) + 1))) B T (k + 1) := R3
      have W3 := W2.trans (within_set wb B 1 (.int .i64 ((k : Int) + 1)))
      have own3 := own2.within (within_set wb B 1 (.int .i64 ((k : Int) + 1))) (by omega)
      have HR3 := Lib.hid R3'; have HW3 := Lib.hid W3; have HO3 := Lib.hid own3
      have hs3 : w.heap.size ≤ (wb.setCell ⟨B, 1, none⟩ (.int .i64 ((k : Int) + 1))).heap.size := W3.size
      clear R3 R3' W3 own3 R2 own2 W2 HR
      have hbl2 : b.length ≤ 1048576 := by omega
      by_cases h34 : T[k] = 34
      · have q34 : ((T[k].toNat : Int) == 34) = true := by rw [h34]; rfl
        have HM := Lib.hid (more_any B T ⟨#[34]⟩ (k + 1) hlt hT (by decide) _ HR3.out)
        have HE := Lib.hid h34
        cases hm : (⟨#[34]⟩ : ByteArray).data.toList.isPrefixOf (T.data.toList.drop (k + 1))
        · rw [hm, if_neg (by decide)] at HM
          have HN := Lib.hid (qS_end (T.data.toList.drop (k + 1)) (fun r e => by rw [(one_pre 34 _).2 ⟨r, e⟩] at hm; cases hm))
          clear hm h34
          go_wp2_with fail
          generalize wb.setCell ⟨B, 1, none⟩ (.int .i64 ((k : Int) + 1)) = wc at *
          refine HM.out.mono ?_; rintro e5 w5 ⟨rfl, hr5, hw5⟩
          have own5 := HO3.out.within hw5 (by omega)
          have hcv := convert_own own5
          have H1' := H1.out; have H2' := H2.out
          rw [HDA.out, HE.out, HN.out] at H1' H2'
          have HF1 := Lib.hid (show b = Q.1 by rw [← H1']; exact (List.append_nil b).symm)
          have HF2 := Lib.hid (drop_len T (k + 1) Q.2 hlt H2')
          clear H1' H2' own5
          go_wp2_with fail
          go_ret
          exact ⟨by rw [← HF1.out]; rfl, by rw [← HF2.out]; exact hr5, HW3.out.trans hw5⟩
        · rw [hm, if_pos rfl] at HM
          obtain ⟨r, hr⟩ := (one_pre 34 _).1 hm
          have hk2 : k + 1 < T.size := by
            rcases Nat.lt_or_ge (k + 1) T.size with h' | h'
            · exact h'
            · rw [List.drop_of_length_le (by rw [Array.length_toList]; exact h')] at hr; cases hr
          have hr2 : r = T.data.toList.drop (k + 2) := by
            have := drop_at T (k + 1) hk2
            rw [hr] at this
            injection this
          have HN := Lib.hid (show qS (T.data.toList.drop k) = (34 :: (qS (T.data.toList.drop (k + 2))).1, (qS (T.data.toList.drop (k + 2))).2) by rw [HDA.out, HE.out, hr, qS_two, hr2])
          clear hm h34 hr hr2
          go_wp2_with fail
          generalize wb.setCell ⟨B, 1, none⟩ (.int .i64 ((k : Int) + 1)) = wc at *
          refine HM.out.mono ?_; rintro e5 w5 ⟨rfl, hr5, hw5⟩
          have own5 := HO3.out.within hw5 (by omega)
          have hs5 := Nat.le_trans hs3 hw5.size
          have HR5 := Lib.hid (show RdAt w5 B T (k + 2) from hr5)
          have HW5 := Lib.hid (HW3.out.trans hw5)
          clear hr5 hw5
          go_wp2_with (first
            | fail
            | (at_builtin; refine wpList_app1 (enc := encB) rfl (.tmp 42) (.tmp 44) 22 5 rfl Tryz.underlying22 rfl (by omega) (fun _ => rfl) infoByte w5 w.heap.size _ b (T[k]) rfl own5 rfl (by omega) hs5 ?_; intro v6 w6 own6 hb6))
          have hr6 : RdAt w6 B T (k + 2) := HR5.out.below hb6 hBl
          go_roundw
          case rel => exact ⟨k + 2, b ++ [T[k]], by omega, hr6, own6, by rw [List.length_append]; simp only [List.length_cons, List.length_nil]; omega, by rw [← H1.out, HN.out, HE.out, List.append_assoc]; rfl, by rw [← H2.out, HN.out], HW5.out.low hb6⟩
          case measure => rw [standsAt_rd hr6, HST.out]; omega
      · have q34 : ((T[k].toNat : Int) == 34) = false := by rw [beq_eq_false_iff_ne]; exact fun e => h34 (u8_eq (by have : T[k].toNat = 34 := (by omega); rw [this]; rfl))
        have HN := Lib.hid (show qS (T.data.toList.drop k) = (T[k] :: (qS (T.data.toList.drop (k + 1))).1, (qS (T.data.toList.drop (k + 1))).2) by rw [HDA.out, qS_plain _ _ h34])
        clear h34
        go_upto_region 7 with fail
        generalize wb.setCell ⟨B, 1, none⟩ (.int .i64 ((k : Int) + 1)) = wc at *
        go_wp2_with (first
          | fail
          | (at_builtin; refine wpList_app1 (enc := encB) rfl (.tmp 42) (.tmp 44) 22 5 rfl Tryz.underlying22 rfl (by omega) (fun _ => rfl) infoByte wc w.heap.size _ b (T[k]) rfl HO3.out rfl (by omega) hs3 ?_; intro v6 w6 own6 hb6))
        have hr6 : RdAt w6 B T (k + 1) := HR3.out.below hb6 hBl
        go_roundw
        case rel => exact ⟨k + 1, b ++ [T[k]], by omega, hr6, own6, by rw [List.length_append]; simp only [List.length_cons, List.length_nil]; omega, by rw [← H1.out, HN.out, List.append_assoc]; rfl, by rw [← H2.out, HN.out], HW3.out.low hb6⟩
        case measure => rw [standsAt_rd hr6, HST.out]; omega
    · obtain rfl : k = T.size := by omega
      have i1 : ¬ (T.size : Int) < (T.size : Int) := by omega
      have hz : qS (T.data.toList.drop T.size) = ([], []) := by rw [List.drop_of_length_le (by rw [Array.length_toList]; exact Nat.le_refl _)]; unfold qS; rfl
      have H1' := H1.out; have H2' := H2.out
      rw [hz] at H1' H2'
      have HF1 := Lib.hid (show b = Q.1 by rw [← H1']; exact (List.append_nil b).symm)
      have HF2 := Lib.hid (show T.size = T.size - Q.2.length by rw [← H2']; exact (Nat.sub_zero _).symm)
      clear H1' H2' hz
      go_wp2_with fail
      go_quiet (fail)
      have own1 : OwnR encB (wr.drewN nq) w.heap.size 5 u3 b := hown
      have W1 : Within B (B + 1) w (wr.drewN nq) := HW.out.trans (Within.of_below (below_drewN' wr nq))
      have R1 : RdAt (wr.drewN nq) B T T.size := HR.out
      have hcv := convert_own own1
      go_wp2_with fail
      go_ret
      exact ⟨by rw [← HF1.out]; rfl, by rw [← HF2.out]; exact R1, W1⟩
end Go.Proofs.YtfibjcaidnofmaaGreatDoor

/- The reference's reader walked: digits, codes. -/
namespace Go.Proofs.YtfibjcaidnofmaaGreatDoor
open Go.RowKit

theorem dS_zero (n : Nat) (l : List UInt8) : dS 0 n l = (n, l) := rfl
theorem dS_nil (k n : Nat) : dS k n [] = (n, []) := by cases k <;> rfl
theorem dS_yes (k n : Nat) (c : UInt8) (l : List UInt8) (h : isDig c = true) : dS (k + 1) n (c :: l) = dS k (10 * n + dg c) l := by
  conv => lhs; unfold dS
  rw [h, if_pos rfl]
theorem dS_no (k n : Nat) (c : UInt8) (l : List UInt8) (h : isDig c = false) : dS (k + 1) n (c :: l) = (n, c :: l) := by
  conv => lhs; unfold dS
  rw [h, if_neg (by decide)]
theorem dS_bound : ∀ (k n m : Nat) (l : List UInt8), n < m → (dS k n l).1 < m * 10 ^ k
  | 0, n, m, _, h => by show n < m * 1; omega
  | k + 1, n, m, [], h => by
    show n < _
    have : m * 1 ≤ m * 10 ^ (k + 1) := Nat.mul_le_mul_left _ (Nat.pow_pos (by decide))
    omega
  | k + 1, n, m, c :: l, h => by
    cases hc : isDig c
    · rw [dS_no k n c l hc]
      show n < _
      have : m * 1 ≤ m * 10 ^ (k + 1) := Nat.mul_le_mul_left _ (Nat.pow_pos (by decide))
      omega
    · rw [dS_yes k n c l hc]
      have h9 := dg_le hc
      have := dS_bound k (10 * n + dg c) (10 * m) l (by omega)
      have e : 10 * m * 10 ^ k = m * 10 ^ (k + 1) := by rw [Nat.pow_succ, Nat.mul_comm 10 m, Nat.mul_assoc, Nat.mul_comm 10]
      omega

set_option maxHeartbeats 8000000 in
set_option maxRecDepth 100000 in
theorem digitsS_any (B : Nat) (T : ByteArray) (a : Nat) (ha : a ≤ T.size) (hT : T.size ≤ 1048576) (w : World) (hB : RdAt w B T a) :
    Calls Tryz.prog 196 #[.pointer (some ⟨B, 0, none⟩)] w fun e w' => e = .returned (.int .i64 ((dS 3 0 (T.data.toList.drop a)).1 : Int)) ∧ RdAt w' B T (T.size - (dS 3 0 (T.data.toList.drop a)).2.length) ∧ Within B (B + 1) w w' := by
  have hBl := hB.lt
  have HB := Lib.hid hB
  generalize hQ : dS 3 0 (T.data.toList.drop a) = Q at *
  have HQ := Lib.hid hQ; clear hQ hB
  go_enter Tryz.func196, Tryz.ntmps196
  go_wp2_with fail
  go_loopw [3, 4] (fun v i wr => ∃ j n p : Nat, j ≤ 3 ∧ n < 10 ^ j ∧ p ≤ T.size ∧ v = .int .i64 n ∧ i = .int .i64 j ∧ RdAt wr B T p ∧ dS (3 - j) n (T.data.toList.drop p) = Q ∧ Within B (B + 1) w wr) (fun _ i _ => 3 - (intOf i).toNat)
  case atStart => exact ⟨0, 0, a, by omega, by decide, ha, rfl, rfl, HB.out, HQ.out, within_refl _ _ _⟩
  case round =>
    obtain ⟨j, n, p, hj, hn, hp, rfl, rfl, hR, hq, hw⟩ := hrel
    have HW := Lib.hid hw; have HR := Lib.hid hR
    have hn3 : n < 1000 := Nat.lt_of_lt_of_le hn (Nat.pow_le_pow_right (by decide) hj)
    have HN := Lib.hid hn
    have f := hR.cell
    have i0 : (0 : Int) ≤ (p : Int) := by omega
    clear hw hR hn
    by_cases hj3 : j < 3
    · have j1 : (j : Int) < 3 := by omega
      have HJ := Lib.hid (show 3 - j = (3 - (j + 1)) + 1 by omega)
      rw [HJ.out] at hq
      by_cases hlt : p < T.size
      · have i1 : (p : Int) < (T.size : Int) := by omega
        rw [drop_at T p hlt] at hq
        cases hd : isDig T[p]
        · rw [dS_no _ _ _ _ hd, ← drop_at T p hlt] at hq
          have HF1 := Lib.hid (show n = Q.1 by rw [← hq])
          have HF2 := Lib.hid (drop_len T p Q.2 hp (by rw [← hq]))
          clear hq
          unfold isDig at hd
          rw [decide_eq_false_iff_not] at hd
          by_cases h48 : 48 ≤ T[p].toNat
          · have c1 : (48 : Int) ≤ (T[p].toNat : Int) := by omega
            have c2 : ¬ (T[p].toNat : Int) ≤ 57 := by omega
            clear hd
            go_wp2_with fail
            go_quiet (fail)
            have R1 : RdAt (wr.drewN nq) B T p := HR.out
            have W1 : Within B (B + 1) w (wr.drewN nq) := HW.out.trans (Within.of_below (below_drewN' wr nq))
            go_wp2_with fail
            go_ret
            exact ⟨by rw [← HF1.out]; rfl, by rw [← HF2.out]; exact R1, W1⟩
          · have c1 : ¬ (48 : Int) ≤ (T[p].toNat : Int) := by omega
            have kd : decide ((48 : Int) ≤ (T[p].toNat : Int)) = false := decide_eq_false c1
            have kd' : decide (48 ≤ T[p].toNat) = false := decide_eq_false h48
            clear hd
            go_wp2_with fail
            go_quiet (fail)
            have R1 : RdAt (wr.drewN nq) B T p := HR.out
            have W1 : Within B (B + 1) w (wr.drewN nq) := HW.out.trans (Within.of_below (below_drewN' wr nq))
            go_wp2_with fail
            go_ret
            exact ⟨by rw [← HF1.out]; rfl, by rw [← HF2.out]; exact R1, W1⟩
        · rw [dS_yes _ _ _ _ hd] at hq
          have HQ2 := Lib.hid hq
          have h9 := dg_le hd
          have hdv : ((T[p].toNat : Int) - 48) = (dg T[p] : Int) := by unfold isDig at hd; unfold dg; simp only [decide_eq_true_eq] at hd; omega
          have c1 : (48 : Int) ≤ (T[p].toNat : Int) := by unfold isDig at hd; simp only [decide_eq_true_eq] at hd; omega
          have c2 : (T[p].toNat : Int) ≤ 57 := by unfold isDig at hd; simp only [decide_eq_true_eq] at hd; omega
          clear hq hd
          have hwr : IntKind.i64.wrap (dg T[p] : Int) = (dg T[p] : Int) := IntWalk.i64_in _ (by omega)
          generalize dg T[p] = dd at *
          go_wp2_with fail
          go_quiet (fail)
          have R1 : RdAt (wr.drewN nq) B T p := HR.out
          have W1 : Within B (B + 1) w (wr.drewN nq) := HW.out.trans (Within.of_below (below_drewN' wr nq))
          generalize wr.drewN nq = wa at *
          clear f
          have f := R1.cell
          go_wp2_with fail
          go_quiet (fail)
          have R2 : RdAt (wa.drewN nq) B T p := R1
          have W2 : Within B (B + 1) w (wa.drewN nq) := W1.trans (Within.of_below (below_drewN' wa nq))
          generalize wa.drewN nq = wb at *
          clear f R1 W1
          have f := R2.cell
          have z := R2.frozen
          have HR3 := Lib.hid (show RdAt (wb.setCell ⟨B, 1, none⟩ (.int .i64 ((p : Int) + 1))) B T (p + 1) from R2.set_ 1 (.int .i64 ((p : Int) + 1)))
          have HW3 := Lib.hid (W2.trans (within_set wb B 1 (.int .i64 ((p : Int) + 1))))
          clear R2 W2
          go_wp2_with fail
          go_roundw
          case rel => exact ⟨j + 1, 10 * n + dd, p + 1, by omega, by rw [Nat.pow_succ]; have := HN.out; omega, by omega, by push_cast; rfl, by go_num, HR3.out, HQ2.out, HW3.out⟩
          case measure => simp [intOf]; omega
      · obtain rfl : p = T.size := by omega
        have i1 : ¬ (T.size : Int) < (T.size : Int) := by omega
        rw [List.drop_of_length_le (by rw [Array.length_toList]; exact Nat.le_refl _), dS_nil] at hq
        have HF1 := Lib.hid (show n = Q.1 by rw [← hq])
        have HF2 := Lib.hid (show T.size = T.size - Q.2.length by rw [← hq]; exact (Nat.sub_zero _).symm)
        clear hq
        go_wp2_with fail
        go_quiet (fail)
        have R1 : RdAt (wr.drewN nq) B T T.size := HR.out
        have W1 : Within B (B + 1) w (wr.drewN nq) := HW.out.trans (Within.of_below (below_drewN' wr nq))
        go_wp2_with fail
        go_ret
        exact ⟨by rw [← HF1.out]; rfl, by rw [← HF2.out]; exact R1, W1⟩
    · have j1 : ¬ (j : Int) < 3 := by omega
      have kd : decide ((j : Int) < 3) = false := decide_eq_false j1
      have kd' : decide (j < 3) = false := decide_eq_false hj3
      rw [show 3 - j = 0 by omega, dS_zero] at hq
      have HF1 := Lib.hid (show n = Q.1 by rw [← hq])
      have HF2 := Lib.hid (drop_len T p Q.2 hp (by rw [← hq]))
      clear hq
      go_wp2_with fail
      go_quiet (fail)
      have R1 : RdAt (wr.drewN nq) B T p := HR.out
      have W1 : Within B (B + 1) w (wr.drewN nq) := HW.out.trans (Within.of_below (below_drewN' wr nq))
      go_wp2_with fail
      go_ret
      exact ⟨by rw [← HF1.out]; rfl, by rw [← HF2.out]; exact R1, W1⟩
end Go.Proofs.YtfibjcaidnofmaaGreatDoor

/- The reference's reader walked: codes. -/
namespace Go.Proofs.YtfibjcaidnofmaaGreatDoor
open Go.RowKit

def cT (f : Nat) (l : List UInt8) : List UInt8 × List UInt8 := match l with
  | 44 :: r => cS f r
  | 41 :: r => ([], r)
  | r => ([], r)
theorem cT_comma (f : Nat) (r : List UInt8) : cT f (44 :: r) = cS f r := rfl
theorem cT_close (f : Nat) (r : List UInt8) : cT f (41 :: r) = ([], r) := rfl
theorem cT_stop (f : Nat) (l : List UInt8) (h : ∀ r, l ≠ 44 :: r) (h2 : ∀ r, l ≠ 41 :: r) : cT f l = ([], l) := by
  unfold cT
  split
  · rename_i r; exact absurd rfl (h r)
  · rename_i r; exact absurd rfl (h2 r)
  · rfl
theorem cS_step (f : Nat) (l : List UInt8) : cS (f + 1) l = (UInt8.ofNat (dS 3 0 l).1 :: (cT f (dS 3 0 l).2).1, (cT f (dS 3 0 l).2).2) := by
  by_cases h1 : ∃ r, (dS 3 0 l).2 = 44 :: r
  · obtain ⟨r, hr⟩ := h1
    rw [cS_comma f l r hr, hr, cT_comma]
  · by_cases h2 : ∃ r, (dS 3 0 l).2 = 41 :: r
    · obtain ⟨r, hr⟩ := h2
      rw [cS_close f l r hr, hr, cT_close]
    · rw [cS_stop f l (fun r e => h1 ⟨r, e⟩) (fun r e => h2 ⟨r, e⟩), cT_stop f _ (fun r e => h1 ⟨r, e⟩) (fun r e => h2 ⟨r, e⟩)]
theorem byte_mod (n : Nat) : ∃ y : UInt8, y = UInt8.ofNat n ∧ (n : Int) % 256 = (y.toNat : Int) := ⟨_, rfl, by rw [UInt8.toNat_ofNat']; rfl⟩
theorem dS_place (T : ByteArray) (p : Nat) (hp : p ≤ T.size) : ∃ q, p ≤ q ∧ q ≤ T.size ∧ T.data.toList.drop q = (dS 3 0 (T.data.toList.drop p)).2 := by
  have : ∀ (k n : Nat) (l : List UInt8), ∃ m, m ≤ l.length ∧ l.drop m = (dS k n l).2 := by
    intro k
    induction k with
    | zero => intro n l; exact ⟨0, Nat.zero_le _, rfl⟩
    | succ k ih =>
      intro n l
      cases l with
      | nil => exact ⟨0, Nat.zero_le _, by rw [dS_nil]; rfl⟩
      | cons c l =>
        cases hc : isDig c
        · exact ⟨0, Nat.zero_le _, by rw [dS_no _ _ _ _ hc]; rfl⟩
        · obtain ⟨m, h1, h2⟩ := ih (10 * n + dg c) l
          exact ⟨m + 1, by rw [List.length_cons]; omega, by rw [dS_yes _ _ _ _ hc, List.drop_succ_cons]; exact h2⟩
  obtain ⟨m, h1, h2⟩ := this 3 0 (T.data.toList.drop p)
  rw [List.length_drop, Array.length_toList] at h1
  have h1' : m ≤ T.size - p := h1
  exact ⟨p + m, by omega, by omega, by rw [← h2, List.drop_drop]⟩
theorem len_at (T : ByteArray) (p : Nat) (hp : p ≤ T.size) : T.size - (T.data.toList.drop p).length = p := by
  rw [List.length_drop, Array.length_toList]
  show T.size - (T.size - p) = p
  omega
/-- One number: where it ends, and what it is. -/
theorem digitsS_at (B : Nat) (T : ByteArray) (a : Nat) (ha : a ≤ T.size) (hT : T.size ≤ 1048576) (w : World) (hB : RdAt w B T a) :
    ∃ n q, a ≤ q ∧ q ≤ T.size ∧ n < 1000 ∧ (∀ f, cS (f + 1) (T.data.toList.drop a) = (UInt8.ofNat n :: (cT f (T.data.toList.drop q)).1, (cT f (T.data.toList.drop q)).2)) ∧
      Calls Tryz.prog 196 #[.pointer (some ⟨B, 0, none⟩)] w fun e w' => e = .returned (.int .i64 (n : Int)) ∧ RdAt w' B T q ∧ Within B (B + 1) w w' := by
  obtain ⟨q, h1, h2, h3⟩ := dS_place T a ha
  refine ⟨(dS 3 0 (T.data.toList.drop a)).1, q, h1, h2, dS_bound 3 0 1 _ (by decide), fun f => by rw [h3]; exact cS_step f _, ?_⟩
  have := digitsS_any B T a ha hT w hB
  rw [← h3, len_at T q h2] at this
  exact this
theorem OwnR.one_ {α : Type} {enc : α → Value} (w : World) (base : Nat) (t : TypeId) (y : α) (hb : base ≤ w.heap.size) : OwnR enc (w.alloc (.cells #[enc y] t)) base t (.slice (some ⟨w.heap.size, 0, none⟩) 1 1) [y] :=
  ⟨⟨_, _, rfl⟩, by simpa using World.ownsRow_lit (base := base) (e := t) (size := 1) w #[enc y] 1 hb (by unfold maxLen; omega) rfl⟩

set_option maxHeartbeats 8000000 in
set_option maxRecDepth 100000 in
theorem codesS_any (B : Nat) (T : ByteArray) (a f : Nat) (ha : a ≤ T.size) (hf : T.size - a < f) (hT : T.size ≤ 1048576) (w : World) (hB : RdAt w B T a) :
    Calls Tryz.prog 160 #[.pointer (some ⟨B, 0, none⟩)] w fun e w' => e = .returned (.string ⟨(cS f (T.data.toList.drop a)).1.toArray⟩) ∧ RdAt w' B T (T.size - (cS f (T.data.toList.drop a)).2.length) ∧ Within B (B + 1) w w' := by
  have hBl := hB.lt
  obtain ⟨f, rfl⟩ : ∃ g, f = g + 1 := ⟨f - 1, by omega⟩
  obtain ⟨n, p0, h1, hp0, hn3, hq, hd⟩ := digitsS_at B T a ha hT w hB
  have HD := Lib.hid hd
  have HQ := Lib.hid (hq f)
  have hp0f : T.size - p0 ≤ f := by omega
  obtain ⟨y, hy, hmod⟩ := byte_mod n
  rw [← hy] at HQ
  generalize cS (f + 1) (T.data.toList.drop a) = Q at *
  clear hB hq hd hy
  go_enter Tryz.func160, Tryz.ntmps160
  go_wp2_with fail
  refine HD.out.mono ?_; rintro e1 w1 ⟨rfl, hr1, hw1⟩
  have own1 : OwnR encB (w1.alloc (.cells #[encB y] 5)) w.heap.size 5 (.slice (some ⟨w1.heap.size, 0, none⟩) 1 1) [y] := OwnR.one_ _ _ _ _ hw1.size
  have HR1 := Lib.hid (show RdAt (w1.alloc (.cells #[encB y] 5)) B T p0 from hr1.alloc _)
  have HW1 := Lib.hid (show Within B (B + 1) w (w1.alloc (.cells #[encB y] 5)) from hw1.trans (Within.of_below ((Below.refl _ _).alloc (Nat.le_refl _) _)))
  have HO1 := Lib.hid own1
  clear own1 hr1 hw1
  go_upto_block 0 with fail
  rw [hmod]
  go_cut [3, 4] (fun _ v wr => ∃ (p : Nat) (b : List UInt8), p ≤ T.size ∧ RdAt wr B T p ∧ OwnR encB wr w.heap.size 5 v b ∧ b.length ≤ p + 1 ∧ (∀ r, T.data.toList.drop p ≠ 44 :: r) ∧ b ++ (cT f (T.data.toList.drop p)).1 = Q.1 ∧ (cT f (T.data.toList.drop p)).2 = Q.2 ∧ Within B (B + 1) w wr)
  case first =>
    go_wp2_with fail
    go_loopw [3, 4] (fun _ v wr => ∃ (p g : Nat) (b : List UInt8), p ≤ T.size ∧ T.size - p ≤ g ∧ RdAt wr B T p ∧ OwnR encB wr w.heap.size 5 v b ∧ b.length ≤ p + 1 ∧ b ++ (cT g (T.data.toList.drop p)).1 = Q.1 ∧ (cT g (T.data.toList.drop p)).2 = Q.2 ∧ Within B (B + 1) w wr) (fun _ _ wr => T.size - standsAt wr B)
    case atStart => exact ⟨p0, f, [y], hp0, hp0f, HR1.out, HO1.out, by simp, by rw [HQ.out]; rfl, by rw [HQ.out], HW1.out⟩
    case round =>
      obtain ⟨p, g, b, hp, hg, hR, hown, hbl, h1, h2, hw⟩ := hrel
      have H1 := Lib.hid h1; have H2 := Lib.hid h2; have HW := Lib.hid hw; have HR := Lib.hid hR
      have hws := hw.size
      have HST := Lib.hid (standsAt_rd hR)
      have HM := Lib.hid (more_any B T ⟨#[44]⟩ p hp hT (by decide) wr hR)
      clear h1 h2 hw hR
      cases hm : (⟨#[44]⟩ : ByteArray).data.toList.isPrefixOf (T.data.toList.drop p)
      · rw [hm, if_neg (by decide)] at HM
        have HNC := Lib.hid (show ∀ r, T.data.toList.drop p ≠ 44 :: r from fun r e => by rw [(one_pre 44 _).2 ⟨r, e⟩] at hm; cases hm)
        clear hm
        go_wp2_with fail
        refine HM.out.mono ?_; rintro e5 w5 ⟨rfl, hr5, hw5⟩
        have own5 := hown.within hw5 (by omega)
        have hW5 := HW.out.trans hw5
        have hcf : cT f (T.data.toList.drop p) = cT g (T.data.toList.drop p) := by
          by_cases h41 : ∃ r, T.data.toList.drop p = 41 :: r
          · obtain ⟨r, hr⟩ := h41; rw [hr]; rfl
          · rw [cT_stop f _ HNC.out (fun r e => h41 ⟨r, e⟩), cT_stop g _ HNC.out (fun r e => h41 ⟨r, e⟩)]
        have HCF := Lib.hid hcf
        clear hcf hw5
        go_wp2_with fail
        go_meet
        case rel => exact ⟨p, b, hp, hr5, own5, hbl, HNC.out, by rw [HCF.out]; exact H1.out, by rw [HCF.out]; exact H2.out, hW5⟩
      · rw [hm, if_pos rfl] at HM
        obtain ⟨r, hr⟩ := (one_pre 44 _).1 hm
        have hp2 : p < T.size := by
          rcases Nat.lt_or_ge p T.size with h' | h'
          · exact h'
          · rw [List.drop_of_length_le (by rw [Array.length_toList]; exact h')] at hr; cases hr
        have hr2 : T.data.toList.drop p = 44 :: T.data.toList.drop (p + 1) := by
          have := drop_at T p hp2
          rw [hr] at this ⊢
          injection this with e1 e2
          rw [e2]
        obtain ⟨g, rfl⟩ : ∃ h, g = h + 1 := ⟨g - 1, by omega⟩
        have HDR := Lib.hid hr2
        clear hm hr hr2
        go_wp2_with fail
        refine HM.out.mono ?_; rintro e5 w5 ⟨rfl, hr5, hw5⟩
        have hr5' : RdAt w5 B T (p + 1) := hr5
        have own5 := hown.within hw5 (by omega)
        have hW5 := HW.out.trans hw5
        obtain ⟨m, q, hq1, hq2, hm3, hqc, hdd⟩ := digitsS_at B T (p + 1) hp2 hT w5 hr5'
        obtain ⟨z, hz, hmod2⟩ := byte_mod m
        have HDD := Lib.hid hdd
        have HQC := Lib.hid (hqc g)
        rw [← hz] at HQC
        clear hqc hdd hr5 hr5' hw5 hz HM
        go_wp2_with fail
        refine HDD.out.mono ?_; rintro e6 w6 ⟨rfl, hr6, hw6⟩
        have own6 := own5.within hw6 (by omega)
        have hW6 := hW5.trans hw6
        have hs6 := hW6.size
        go_wp2_with (first
          | fail
          | (at_builtin; refine wpList_app1 (enc := encB) rfl (.tmp 14) (.tmp 17) 22 5 rfl Tryz.underlying22 rfl (by omega) (fun _ => rfl) infoByte w6 w.heap.size _ b z rfl own6 rfl (by omega) hs6 ?_; intro v7 w7 own7 hb7))
        have hr7 : RdAt w7 B T q := hr6.below hb7 hBl
        go_roundw
        case rel => exact ⟨q, g, b ++ [z], hq2, by omega, hr7, own7, by rw [List.length_append]; simp only [List.length_cons, List.length_nil]; omega, by rw [← H1.out, HDR.out, cT_comma, HQC.out, List.append_assoc]; rfl, by rw [← H2.out, HDR.out, cT_comma, HQC.out], hW6.low hb7⟩
        case measure => rw [standsAt_rd hr7, HST.out]; omega
  case rest =>
    obtain ⟨p, b, hp, hR, hown, hbl, hnc, h1, h2, hw⟩ := hcut
    have HM := Lib.hid (more_any B T ⟨#[41]⟩ p hp hT (by decide) wc hR)
    have HW := Lib.hid hw
    have HNC := Lib.hid hnc
    have H1 := Lib.hid h1; have H2 := Lib.hid h2
    clear h1 h2 hw hR hnc
    cases hm : (⟨#[41]⟩ : ByteArray).data.toList.isPrefixOf (T.data.toList.drop p)
    · rw [hm, if_neg (by decide)] at HM
      have hst := cT_stop f (T.data.toList.drop p) HNC.out (fun r e => by rw [(one_pre 41 _).2 ⟨r, e⟩] at hm; cases hm)
      have H1' := H1.out; have H2' := H2.out
      rw [hst] at H1' H2'
      have HF1 := Lib.hid (show b = Q.1 by rw [← H1']; exact (List.append_nil b).symm)
      have HF2 := Lib.hid (drop_len T p Q.2 hp H2')
      clear hm hst H1' H2'
      go_wp2_with fail
      refine HM.out.mono ?_; rintro e5 w5 ⟨rfl, hr5, hw5⟩
      have hcv := convert_own (hown.within hw5 (by omega))
      have hW5 := HW.out.trans hw5
      go_wp2_with fail
      go_ret
      exact ⟨by rw [← HF1.out]; rfl, by rw [← HF2.out]; exact hr5, hW5⟩
    · rw [hm, if_pos rfl] at HM
      obtain ⟨r, hr⟩ := (one_pre 41 _).1 hm
      have hp2 : p < T.size := by
        rcases Nat.lt_or_ge p T.size with h' | h'
        · exact h'
        · rw [List.drop_of_length_le (by rw [Array.length_toList]; exact h')] at hr; cases hr
      have hr2 : r = T.data.toList.drop (p + 1) := by
        have := drop_at T p hp2
        rw [hr] at this
        injection this
      have H1' := H1.out; have H2' := H2.out
      rw [hr, cT_close] at H1' H2'
      have HF1 := Lib.hid (show b = Q.1 by rw [← H1']; exact (List.append_nil b).symm)
      have HF2 := Lib.hid (drop_len T (p + 1) Q.2 hp2 (by rw [← H2', ← hr2]))
      clear hm hr hr2 H1' H2'
      go_wp2_with fail
      refine HM.out.mono ?_; rintro e5 w5 ⟨rfl, hr5, hw5⟩
      have hcv := convert_own (hown.within hw5 (by omega))
      have hW5 := HW.out.trans hw5
      go_wp2_with fail
      go_ret
      exact ⟨by rw [← HF1.out]; rfl, by rw [← HF2.out]; exact hr5, hW5⟩
end Go.Proofs.YtfibjcaidnofmaaGreatDoor
