/- The reference's reader walked: more, quoted, digits, codes. -/
import Derived.Test.YtcjaaknnfohllaaGreatDoorScnP
import Derived.Test.YtcjaaknnfohllaaGreatDoorByt
import Derived.Test.YtcjaaknnfohllaaGreatDoorLaw
import Derived.Test.YtcjaaknnfohllaaGreatDoorRegion
import Derived.StillTailTactics
namespace Go.Proofs.YtcjaaknnfohllaaGreatDoor
open Go.RowKit

theorem within_set (w : World) (B o : Nat) (u : Value) : Within B (B + 1) w (w.setCell ⟨B, o, none⟩ u) :=
  ⟨rfl, rfl, rfl, by simp, fun k _ hd => Below.heap_setCell w ⟨B, o, none⟩ u k (show k ≠ B by omega)⟩
theorem within_drew (w : World) (lo hi : Nat) : Within lo hi w w.drew := Within.of_below (below_drewN' w 1)
theorem within_refl (w : World) (lo hi : Nat) : Within lo hi w w := Within.of_below (Below.refl _ _)

/-- A reader of the text T that stands at place p, in block B. -/
abbrev RdAt (w : World) (B : Nat) (T : ByteArray) (p : Nat) : Prop := Blk w B 66 #[.string T, .int .i64 (p : Int)]

theorem pre_eq (s p : List UInt8) (h : p.length ≤ s.length) : p.isPrefixOf s = (s.take p.length == p) := by
  rw [Bool.eq_iff_iff, List.isPrefixOf_iff_prefix, beq_iff_eq]
  constructor
  · intro h1; exact (List.prefix_iff_eq_take.1 h1).symm
  · intro h1; exact List.prefix_iff_eq_take.2 h1.symm
theorem pre_long (s p : List UInt8) (h : s.length < p.length) : p.isPrefixOf s = false := by
  rw [← Bool.not_eq_true, List.isPrefixOf_iff_prefix]
  intro h1
  have := h1.length_le
  omega

set_option maxHeartbeats 1000000 in
theorem l16Starts_any (s p : ByteArray) (hs : s.size ≤ 1048576) (hp : p.size ≤ 1048576) (w : World) : Calls Tryz.prog 95 #[.string s, .string p] w fun e w' => e = .returned (.bool (p.data.toList.isPrefixOf s.data.toList)) ∧ w = w' := by
  by_cases h : p.size ≤ s.size
  · have i1 : (p.size : Int) ≤ (s.size : Int) := by omega
    have i0 : (0 : Int) ≤ (p.size : Int) := by omega
    have HR := Lib.hid (show p.data.toList.isPrefixOf s.data.toList = ((s.extract 0 p.size).toList == p.toList) by
      rw [pre_eq _ _ (by rw [Array.length_toList, Array.length_toList]; exact h), ByteArray.toList_eq, ByteArray.toList_eq, bytes_pop]
      rw [Array.length_toList]; rfl)
    go_enter Tryz.func95, Tryz.ntmps95
    go_wp2_with fail
    go_ret
    exact ⟨by rw [HR.out]; rfl, rfl⟩
  · have i1 : ¬ (p.size : Int) ≤ (s.size : Int) := by omega
    have HR := Lib.hid (pre_long s.data.toList p.data.toList (by rw [Array.length_toList, Array.length_toList]; show s.size < p.size; omega))
    rw [HR.out]
    go_enter Tryz.func95, Tryz.ntmps95
    go_wp2_with fail
    go_ret
    exact ⟨rfl, rfl⟩

theorem drop_ext (T : ByteArray) (p : Nat) : (T.extract p T.size).data.toList = T.data.toList.drop p := by
  rw [ByteArray.data_extract, Array.toList_extract, List.extract_eq_take_drop, List.take_of_length_le]
  rw [List.length_drop, Array.length_toList]; exact Nat.le_refl _

set_option maxHeartbeats 4000000 in
theorem more_any (B : Nat) (T p : ByteArray) (a : Nat) (ha : a ≤ T.size) (hT : T.size ≤ 1048576) (hp : p.size ≤ 8) (w : World) (hB : RdAt w B T a) :
    Calls Tryz.prog 40 #[.pointer (some ⟨B, 0, none⟩), .string p] w fun e w' => e = .returned (.bool (p.data.toList.isPrefixOf (T.data.toList.drop a))) ∧ RdAt w' B T (if p.data.toList.isPrefixOf (T.data.toList.drop a) then a + p.size else a) ∧ Within B (B + 1) w w' := by
  have HS := Lib.hid (fun W => l16Starts_any (T.extract a T.size) p (by rw [ByteArray.size_extract]; omega) (by omega) W)
  have HD := Lib.hid (drop_ext T a)
  rw [HD.out] at HS
  have i0 : (0 : Int) ≤ (a : Int) := by omega
  have i1 : (a : Int) ≤ (T.size : Int) := by omega
  have HB := Lib.hid hB
  have HBd : RdAt w.drew B T a := hB
  have f := HBd.cell
  have z := HBd.frozen
  clear hB
  cases hc : p.data.toList.isPrefixOf (T.data.toList.drop a)
  · rw [hc] at HS
    clear hc
    go_enter Tryz.func40, Tryz.ntmps40
    go_wp2_with fail
    go_region_held3 (fun w' => ∀ i, w'.cell? ⟨B, i, none⟩ = (#[.string T, .int .i64 (a : Int)] : Array Value)[i]?)
      (first | exact HB.out.cell | exact f)
      (first | (go_at_call 95; refine (HS.out _).mono ?_; rintro e5 w5 ⟨rfl, rfl⟩))
    go_wp2_with fail
    go_ret
    exact ⟨rfl, HBd, within_drew _ _ _⟩
  · rw [hc] at HS
    clear hc
    go_enter Tryz.func40, Tryz.ntmps40
    go_wp2_with fail
    go_region_held3 (fun w' => ∀ i, w'.cell? ⟨B, i, none⟩ = (#[.string T, .int .i64 (a : Int)] : Array Value)[i]?)
      (first | exact HB.out.cell | exact f)
      (first | (go_at_call 95; refine (HS.out _).mono ?_; rintro e5 w5 ⟨rfl, rfl⟩))
    go_wp2_with fail
    go_ret
    exact ⟨rfl, HBd.set_ 1 _, (within_drew _ _ _).trans (within_set _ _ _ _)⟩

theorem OwnR.within {α : Type} {enc : α → Value} {w w' : World} {base lo hi : Nat} {t : TypeId} {v : Value} {xs : List α} (h : OwnR enc w base t v xs) (hw : Within lo hi w w') (hb : hi ≤ base) : OwnR enc w' base t v xs := by
  refine ⟨h.1, h.2.1, ?_⟩
  rcases h.2.2 with h2 | ⟨g, cap, cur, h1, hg, hc, r⟩
  · exact .inl h2
  · have hlt : g < w.heap.size := by
      rcases Nat.lt_or_ge g w.heap.size with h' | h'
      · exact h'
      · rw [Array.getElem?_eq_none h'] at hc; cases hc
    exact .inr ⟨g, cap, cur, h1, hg, (hw.block g hlt (.inr (by omega))).trans hc, r⟩
theorem Within.low {lo hi : Nat} {w w1 w2 : World} (h : Within lo hi w w1) (hb : Below w.heap.size w1 w2) : Within lo hi w w2 :=
  ⟨hb.os.trans h.os, hb.tape.trans h.tape, hb.output.trans h.output, Nat.le_trans h.size hb.size, fun k hk hd => (hb.block k hk).trans (h.block k hk hd)⟩
theorem Blk.within {w w' : World} {g lo hi : Nat} {t : TypeId} {cs : Array Value} (h : Blk w g t cs) (hw : Within lo hi w w') (hg : g < lo ∨ hi ≤ g) : Blk w' g t cs := (hw.block g h.lt hg).trans h

/-- Where the reader in block B stands. -/
def standsAt (w : World) (B : Nat) : Nat := match w.cell? ⟨B, 1, none⟩ with
  | some (.int _ n) => n.toNat
  | _ => 0
theorem standsAt_rd {w : World} {B : Nat} {T : ByteArray} {k : Nat} (h : RdAt w B T k) : standsAt w B = k := by
  unfold standsAt
  rw [h.cell 1]
  rfl
theorem drop_at (T : ByteArray) (k : Nat) (h : k < T.size) : T.data.toList.drop k = T[k] :: T.data.toList.drop (k + 1) := List.drop_eq_getElem_cons (by simpa using h)
theorem drop_len (T : ByteArray) (k : Nat) (r : List UInt8) (hk : k ≤ T.size) (h : T.data.toList.drop k = r) : k = T.size - r.length := by
  rw [← h, List.length_drop, Array.length_toList]
  show k = T.size - (T.size - k)
  omega
theorem one_pre (c : UInt8) (l : List UInt8) : [c].isPrefixOf l = true ↔ ∃ r, l = c :: r := by
  rw [List.isPrefixOf_iff_prefix]
  constructor
  · rintro ⟨r, e⟩; exact ⟨r, e.symm⟩
  · rintro ⟨r, e⟩; exact ⟨r, e.symm⟩

set_option maxHeartbeats 8000000 in
set_option maxRecDepth 100000 in
theorem quotedS_any (B : Nat) (T : ByteArray) (a : Nat) (ha : a ≤ T.size) (hT : T.size ≤ 1048576) (w : World) (hB : RdAt w B T a) :
    Calls Tryz.prog 96 #[.pointer (some ⟨B, 0, none⟩)] w fun e w' => e = .returned (.string ⟨(qS (T.data.toList.drop a)).1.toArray⟩) ∧ RdAt w' B T (T.size - (qS (T.data.toList.drop a)).2.length) ∧ Within B (B + 1) w w' := by
  have hBl := hB.lt
  have HB := Lib.hid hB
  generalize hQ : qS (T.data.toList.drop a) = Q at *
  have HQ := Lib.hid hQ; clear hQ
  go_enter Tryz.func96, Tryz.ntmps96
  go_wp2_with fail
  have hown0 : OwnR encB (w.alloc (.cells #[] 5)) w.heap.size 5 (.slice (some ⟨w.heap.size, 0, none⟩) 0 0) [] := OwnR.none_ _ _ _ (Nat.le_refl _)
  have HW0 := Lib.hid (show Within B (B + 1) w (w.alloc (.cells #[] 5)) from Within.of_below ((Below.refl _ _).alloc (Nat.le_refl _) _))
  have HB0 := Lib.hid (show RdAt (w.alloc (.cells #[] 5)) B T a from hB.alloc _)
  clear hB
  go_loopw [3] (fun v wr => ∃ (k : Nat) (b : List UInt8), k ≤ T.size ∧ RdAt wr B T k ∧ OwnR encB wr w.heap.size 5 v b ∧ b.length ≤ k ∧ b ++ (qS (T.data.toList.drop k)).1 = Q.1 ∧ (qS (T.data.toList.drop k)).2 = Q.2 ∧ Within B (B + 1) w wr) (fun _ wr => T.size - standsAt wr B)
  case atStart => exact ⟨a, [], ha, HB0.out, hown0, Nat.zero_le _, by rw [HQ.out]; rfl, by rw [HQ.out], HW0.out⟩
  case round =>
    clear hown0
    obtain ⟨k, b, hk, hR, hown, hbl, h1, h2, hw⟩ := hrel
    have H1 := Lib.hid h1; have H2 := Lib.hid h2; have HW := Lib.hid hw
    have hws := hw.size
    have HR := Lib.hid hR
    have HST := Lib.hid (standsAt_rd hR)
    clear h1 h2 hw
    have f := hR.cell
    by_cases hlt : k < T.size
    · have i1 : (k : Int) < (T.size : Int) := by omega
      have i0 : (0 : Int) ≤ (k : Int) := by omega
      have HDA := Lib.hid (drop_at T k hlt)
      go_wp2_with fail
      go_quiet (fail)
      have R1 : RdAt (wr.drewN nq) B T k := HR.out
      have own1 : OwnR encB (wr.drewN nq) w.heap.size 5 u3 b := hown
      have W1 : Within B (B + 1) w (wr.drewN nq) := HW.out.trans (Within.of_below (below_drewN' wr nq))
      have hs1 : w.heap.size ≤ (wr.drewN nq).heap.size := hws
      generalize wr.drewN nq = wa at *
      clear f hR hown
      have f := R1.cell
      go_wp2_with fail
      go_quiet (fail)
      have R2 : RdAt (wa.drewN nq) B T k := R1
      have own2 : OwnR encB (wa.drewN nq) w.heap.size 5 u3 b := own1
      have W2 : Within B (B + 1) w (wa.drewN nq) := W1.trans (Within.of_below (below_drewN' wa nq))
      have hs2 : w.heap.size ≤ (wa.drewN nq).heap.size := hs1
      generalize wa.drewN nq = wb at *
      clear f R1 own1 W1 hs1
      have f := R2.cell
      have z := R2.frozen
      have R3 := R2.set_ 1 (.int .i64 ((k : Int) + 1))
      have R3' : RdAt (wb.setCell ⟨B, 1, none⟩ (.int .i64 ((k : Int) + 1))) B T (k + 1) := R3
      have W3 := W2.trans (within_set wb B 1 (.int .i64 ((k : Int) + 1)))
      have own3 := own2.within (within_set wb B 1 (.int .i64 ((k : Int) + 1))) (by omega)
      have HR3 := Lib.hid R3'; have HW3 := Lib.hid W3; have HO3 := Lib.hid own3
      have hs3 : w.heap.size ≤ (wb.setCell ⟨B, 1, none⟩ (.int .i64 ((k : Int) + 1))).heap.size := W3.size
      clear R3 R3' W3 own3 R2 own2 W2 HR
      have hbl2 : b.length ≤ 1048576 := by omega
      by_cases h34 : T[k] = 34
      · have q34 : ((T[k].toNat : Int) == 34) = true := by rw [h34]; rfl
        have HM := Lib.hid (more_any B T ⟨#[34]⟩ (k + 1) hlt hT (by decide) _ HR3.out)
        have HE := Lib.hid h34
        cases hm : (⟨#[34]⟩ : ByteArray).data.toList.isPrefixOf (T.data.toList.drop (k + 1))
        · rw [hm, if_neg (by decide)] at HM
          have HN := Lib.hid (qS_end (T.data.toList.drop (k + 1)) (fun r e => by rw [(one_pre 34 _).2 ⟨r, e⟩] at hm; cases hm))
          clear hm h34
          go_wp2_with fail
          generalize wb.setCell ⟨B, 1, none⟩ (.int .i64 ((k : Int) + 1)) = wc at *
          refine HM.out.mono ?_; rintro e5 w5 ⟨rfl, hr5, hw5⟩
          have own5 := HO3.out.within hw5 (by omega)
          have hcv := convert_own own5
          have H1' := H1.out; have H2' := H2.out
          rw [HDA.out, HE.out, HN.out] at H1' H2'
          have HF1 := Lib.hid (show b = Q.1 by rw [← H1']; exact (List.append_nil b).symm)
          have HF2 := Lib.hid (drop_len T (k + 1) Q.2 hlt H2')
          clear H1' H2' own5
          go_wp2_with fail
          go_ret
          exact ⟨by rw [← HF1.out]; rfl, by rw [← HF2.out]; exact hr5, HW3.out.trans hw5⟩
        · rw [hm, if_pos rfl] at HM
          obtain ⟨r, hr⟩ := (one_pre 34 _).1 hm
          have hk2 : k + 1 < T.size := by
            rcases Nat.lt_or_ge (k + 1) T.size with h' | h'
            · exact h'
            · rw [List.drop_of_length_le (by rw [Array.length_toList]; exact h')] at hr; cases hr
          have hr2 : r = T.data.toList.drop (k + 2) := by
            have := drop_at T (k + 1) hk2
            rw [hr] at this
            injection this
          have HN := Lib.hid (show qS (T.data.toList.drop k) = (34 :: (qS (T.data.toList.drop (k + 2))).1, (qS (T.data.toList.drop (k + 2))).2) by rw [HDA.out, HE.out, hr, qS_two, hr2])
          clear hm h34 hr hr2
          go_wp2_with fail
          generalize wb.setCell ⟨B, 1, none⟩ (.int .i64 ((k : Int) + 1)) = wc at *
          refine HM.out.mono ?_; rintro e5 w5 ⟨rfl, hr5, hw5⟩
          have own5 := HO3.out.within hw5 (by omega)
          have hs5 := Nat.le_trans hs3 hw5.size
          have HR5 := Lib.hid (show RdAt w5 B T (k + 2) from hr5)
          have HW5 := Lib.hid (HW3.out.trans hw5)
          clear hr5 hw5
          go_wp2_with (first
            | fail
            | (at_builtin; refine wpList_app1 (enc := encB) rfl (.tmp 42) (.tmp 44) 102 5 rfl Tryz.underlying102 rfl (by omega) (fun _ => rfl) infoByte w5 w.heap.size _ b (T[k]) rfl own5 rfl (by omega) hs5 ?_; intro v6 w6 own6 hb6))
          have hr6 : RdAt w6 B T (k + 2) := HR5.out.below hb6 hBl
          go_roundw
          case rel => exact ⟨k + 2, b ++ [T[k]], by omega, hr6, own6, by rw [List.length_append]; simp only [List.length_cons, List.length_nil]; omega, by rw [← H1.out, HN.out, HE.out, List.append_assoc]; rfl, by rw [← H2.out, HN.out], HW5.out.low hb6⟩
          case measure => rw [standsAt_rd hr6, HST.out]; omega
      · have q34 : ((T[k].toNat : Int) == 34) = false := by rw [beq_eq_false_iff_ne]; exact fun e => h34 (u8_eq (by have : T[k].toNat = 34 := (by omega); rw [this]; rfl))
        have HN := Lib.hid (show qS (T.data.toList.drop k) = (T[k] :: (qS (T.data.toList.drop (k + 1))).1, (qS (T.data.toList.drop (k + 1))).2) by rw [HDA.out, qS_plain _ _ h34])
        clear h34
        go_upto_region 7 with fail
        generalize wb.setCell ⟨B, 1, none⟩ (.int .i64 ((k : Int) + 1)) = wc at *
        go_wp2_with (first
          | fail
          | (at_builtin; refine wpList_app1 (enc := encB) rfl (.tmp 42) (.tmp 44) 102 5 rfl Tryz.underlying102 rfl (by omega) (fun _ => rfl) infoByte wc w.heap.size _ b (T[k]) rfl HO3.out rfl (by omega) hs3 ?_; intro v6 w6 own6 hb6))
        have hr6 : RdAt w6 B T (k + 1) := HR3.out.below hb6 hBl
        go_roundw
        case rel => exact ⟨k + 1, b ++ [T[k]], by omega, hr6, own6, by rw [List.length_append]; simp only [List.length_cons, List.length_nil]; omega, by rw [← H1.out, HN.out, List.append_assoc]; rfl, by rw [← H2.out, HN.out], HW3.out.low hb6⟩
        case measure => rw [standsAt_rd hr6, HST.out]; omega
    · obtain rfl : k = T.size := by omega
      have i1 : ¬ (T.size : Int) < (T.size : Int) := by omega
      have hz : qS (T.data.toList.drop T.size) = ([], []) := by rw [List.drop_of_length_le (by rw [Array.length_toList]; exact Nat.le_refl _)]; unfold qS; rfl
      have H1' := H1.out; have H2' := H2.out
      rw [hz] at H1' H2'
      have HF1 := Lib.hid (show b = Q.1 by rw [← H1']; exact (List.append_nil b).symm)
      have HF2 := Lib.hid (show T.size = T.size - Q.2.length by rw [← H2']; exact (Nat.sub_zero _).symm)
      clear H1' H2' hz
      go_wp2_with fail
      go_quiet (fail)
      have own1 : OwnR encB (wr.drewN nq) w.heap.size 5 u3 b := hown
      have W1 : Within B (B + 1) w (wr.drewN nq) := HW.out.trans (Within.of_below (below_drewN' wr nq))
      have R1 : RdAt (wr.drewN nq) B T T.size := HR.out
      have hcv := convert_own own1
      go_wp2_with fail
      go_ret
      exact ⟨by rw [← HF1.out]; rfl, by rw [← HF2.out]; exact R1, W1⟩
end Go.Proofs.YtcjaaknnfohllaaGreatDoor
