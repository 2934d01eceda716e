/- The reference's ReadLine walked. -/
import Derived.Test.YtfibjcaidnofmaaGreatDoorJoinEXAx
import Derived.Test.YtfibjcaidnofmaaGreatDoorJoinEXAs
import Derived.Test.YtfibjcaidnofmaaGreatDoorShelfL
import Derived.Test.YtfibjcaidnofmaaGreatDoorJoinEXAa
import Derived.Lib.MapLaws
import Derived.Lib.SpaceUEq
import Derived.Lib.QuoteLoop
import Derived.Laws.RangeAny
import Derived.Laws.Runes
import Derived.WalkMore
import Derived.Lib.OthersKept
import Derived.Deep.LoopGhost
import Derived.Test.YtfibjcaidnofmaaGreatDoorJoinEXAi
import Derived.Test.YtfibjcaidnofmaaGreatDoorJoinEXAy
namespace Go.Proofs.YtfibjcaidnofmaaGreatDoor
open Go.RowKit

end Go.Proofs.YtfibjcaidnofmaaGreatDoor

/- strings.IndexAny(s, "(=") at every text s, valid or not. -/
namespace Go.Proofs.YtfibjcaidnofmaaGreatDoor
open Go.RowKit

theorem toByte_list (s : ByteArray) (i : Nat) (h : i < s.size) : s.data.toList[i]? = some (s.get! i) := by
  rw [Array.getElem?_toList, Array.getElem?_eq_getElem (show i < s.data.size from h)]
  unfold ByteArray.get!
  simp [getElem!_pos s.data i h]
/-- A rune that does not begin with an ASCII byte: no ASCII byte stands in it; its number. -/
theorem far_rune (s : ByteArray) (i : Nat) (hi : i < s.size) (h : 128 ≤ (s.get! i).toNat) :
    128 ≤ (Utf8.decode s i).1 ∧ (Utf8.decode s i).1 ≤ 1114111 ∧ 1 ≤ (Utf8.decode s i).2 ∧ i + (Utf8.decode s i).2 ≤ s.size ∧ ∀ j, i ≤ j → j < i + (Utf8.decode s i).2 → 128 ≤ (s.get! j).toNat := by
  rw [Lib.decode_at]
  have h1 := Lib.decodeN_conts (s.size - i) (s.get! i).toNat (s.get! (i + 1)).toNat (s.get! (i + 2)).toNat (s.get! (i + 3)).toNat
  have h2 := Lib.decodeN_shape (s.size - i) (s.get! i).toNat (s.get! (i + 1)).toNat (s.get! (i + 2)).toNat (s.get! (i + 3)).toNat
  have h3 := Lib.decodeN_width_le (s.size - i) (s.get! i).toNat (s.get! (i + 1)).toNat (s.get! (i + 2)).toNat (s.get! (i + 3)).toNat (by omega)
  generalize hq : Lib.decodeN (s.size - i) (s.get! i).toNat (s.get! (i + 1)).toNat (s.get! (i + 2)).toNat (s.get! (i + 3)).toNat = Q at *
  obtain ⟨r, k⟩ := Q
  simp only [Prod.mk.injEq] at h1 h2 h3 ⊢
  have hr : 128 ≤ r ∧ r ≤ 1114111 ∧ 1 ≤ k := by
    rcases h2 with ⟨a, _⟩ | ⟨_, _, _, a, e, f⟩ | ⟨_, _, _, _, a, b, e, f⟩ | ⟨_, _, _, _, _, a, b, e, f⟩ | ⟨e, f⟩
    · omega
    · refine ⟨by omega, by omega, by omega⟩
    · refine ⟨by omega, by omega, by omega⟩
    · refine ⟨by omega, by omega, by omega⟩
    · omega
  refine ⟨hr.1, hr.2.1, hr.2.2, by omega, fun j hj1 hj2 => ?_⟩
  have hk : j = i ∨ j = i + 1 ∨ j = i + 2 ∨ j = i + 3 := by omega
  rcases hk with rfl | rfl | rfl | rfl
  · exact h
  · have := (h1.1 (by omega)).1; omega
  · have := (h1.2.1 (by omega)).1; omega
  · have := (h1.2.2.1 (by omega)).1; omega

theorem valid_same (r : Int) (h : Lib.validRune r = true) : Utf8.valid r = true := by
  unfold Lib.validRune at h
  unfold Utf8.valid
  simp only [Bool.or_eq_true, Bool.and_eq_true, decide_eq_true_eq] at *
  omega

set_option maxHeartbeats 4000000 in
set_option maxRecDepth 100000 in
theorem indexRune_far (r : Int) (h : 128 ≤ r) (hr : r ≤ 1114111) (w : World) : Calls Tryz.prog 86 #[.string ⟨#[40, 61]⟩, .int .i32 r] w fun e w' => e = .returned (.int .i64 (-1)) ∧ Below w.heap.size w w' := by
  have k1 : (0 : Int) ≤ r := by omega
  have k2 : ¬ r < 128 := by omega
  have HV := Lib.hid (fun W => Any.utf8_ValidRune { Tryz.lays152 with } r W)
  by_cases h3 : r = 65533
  · subst h3
    have hn0 : ∀ ty (w : World), (Instr.next (.pointer (some ⟨w.heap.size, 0, none⟩)) true ty).run Tryz.prog (w.iter ⟨#[40, 61]⟩ 0) = .ok (.tuple #[.bool true, .int .i64 0, .int .i32 40]) (w.iter ⟨#[40, 61]⟩ 1) := fun ty w => run_next_ascii (P := Tryz.prog) w ⟨#[40, 61]⟩ 0 ty (by decide) (by decide)
    have hn1 : ∀ ty (w : World), (Instr.next (.pointer (some ⟨w.heap.size, 0, none⟩)) true ty).run Tryz.prog (w.iter ⟨#[40, 61]⟩ 1) = .ok (.tuple #[.bool true, .int .i64 1, .int .i32 61]) (w.iter ⟨#[40, 61]⟩ 2) := fun ty w => run_next_ascii (P := Tryz.prog) w ⟨#[40, 61]⟩ 1 ty (by decide) (by decide)
    have hn2 := fun ty (w : World) => run_next_end (P := Tryz.prog) w ⟨#[40, 61]⟩ 2 ty (by decide)
    clear k1 k2
    go_enter Tryz.func86, Tryz.ntmps86
    go_wp2_with fail
    go_loopg [5, 6] 2 (fun g _ _ wx => ∃ i : Nat, i + g = 2 ∧ wx = w.iter ⟨#[40, 61]⟩ i)
    case atStart => exact ⟨0, rfl, rfl⟩
    case round =>
      obtain ⟨i, hig, rfl⟩ := hrel
      cases gk with
      | zero =>
        obtain rfl : i = 2 := by omega
        clear hn0 hn1 hig
        go_wp2_with fail
        go_ret
        exact ⟨rfl, (Below.refl _ _).alloc (Nat.le_refl _) _⟩
      | succ g =>
        rcases (show i = 0 ∨ i = 1 by omega) with rfl | rfl
        · clear hn1 hn2
          have HG := Lib.hid hig
          clear hig
          go_wp2_with fail
          go_roundg g
          case measure => omega
          case rel => exact ⟨1, by have := HG.out; omega, rfl⟩
        · clear hn0 hn2
          have HG := Lib.hid hig
          clear hig
          go_wp2_with fail
          go_roundg g
          case measure => omega
          case rel => exact ⟨2, by have := HG.out; omega, rfl⟩
  · have k3 : (r == 65533) = false := by rw [beq_eq_false_iff_ne]; exact h3
    cases hv : Lib.validRune r
    · rw [hv] at HV
      go_enter Tryz.func86, Tryz.ntmps86
      go_wp2_with fail
      refine (HV.out _).mono ?_; rintro e1 w1 ⟨rfl, rfl⟩
      go_wp2_with fail
      go_ret
      exact ⟨rfl, Below.refl _ _⟩
    · rw [hv] at HV
      obtain ⟨e1, e2, e3⟩ := encode_facts r (valid_same r hv) h
      have hcv : ∀ w : World, (convert 21 9 (.int .i32 r)).run Tryz.prog w = .ok (.string (Utf8.encode r)) w := fun w => run_convert_int_string (P := Tryz.prog) w 21 9 .i32 r (by kernel_rfl) Tryz.underlying9
      have hib : ∀ (c : Int) (W : World), Calls Tryz.prog 103 #[.string ((⟨#[40, 61]⟩ : ByteArray).extract 2 (⟨#[40, 61]⟩ : ByteArray).size), .int .u8 c] W fun e w' => e = .returned (.int .i64 (-1)) ∧ w' = W := fun c W => Any.strings_IndexByte { Tryz.lays152 with } ⟨#[]⟩ c W
      have hc2 : ((⟨#[40, 61]⟩ : ByteArray).size : Int) = 2 := rfl
      have hcn : (⟨#[40, 61]⟩ : ByteArray).size = 2 := rfl
      have hb1 : ∀ h, ((⟨#[40, 61]⟩ : ByteArray)[1]'h).toNat = 61 := fun _ => rfl
      generalize (⟨#[40, 61]⟩ : ByteArray) = C at *
      have HIB := Lib.hid hib
      have HB1 := Lib.hid hb1
      have HCN := Lib.hid hcn
      have hw2 : IntKind.i64.wrap 2 = 2 := by decide
      have c12 : (1 : Int) < (C.size : Int) := by omega
      have c22 : (2 : Int) ≤ (C.size : Int) := by omega
      have c22n : 2 ≤ C.size := by omega
      have cd : decide ((2 : Int) ≤ (C.size : Int)) = true := decide_eq_true c22
      have cdn : decide (2 ≤ C.size) = true := decide_eq_true c22n
      have HC2 := Lib.hid hc2
      clear hib hb1 hcn hc2
      generalize Utf8.encode r = E at *
      have E3 := Lib.hid e3
      have E1 := Lib.hid e1
      have E2 := Lib.hid e2
      clear hv e3
      by_cases h2 : E.size = 2
      · have h5 := E3.out (by omega)
        have g1 : E[1]'(by omega) = E[E.size - 1]'(by omega) := by congr 1; omega
        rw [← g1] at h5
        have hcs : 1 < C.size := by rw [HCN.out]; decide
        have b1 := HB1.out hcs
        rw [g1] at h5
        have q61 : (((C[1]'hcs).toNat : Int) != ((E[E.size - 1]'(by omega)).toNat : Int)) = true := by rw [bne_iff_ne, b1]; omega
        clear b1
        have s1 : (1 : Int) < (E.size : Int) := by omega
        have l2 : (E.size : Int) - 1 = 1 := by omega
        have i1 : (1 : Int) < 2 := by decide
        go_enter Tryz.func86, Tryz.ntmps86
        go_wp2_with fail
        refine (HV.out _).mono ?_; rintro e1 w1 ⟨rfl, rfl⟩
        go_wp2_with fail
        refine wp_scope_straight ?_
        go_wp2_with fail
        go_loopw [9, 10] (fun v u wr => v = .int .i64 1 ∧ u = .int .i64 0 ∧ wr = w1) (fun _ _ _ => 0)
        case atStart => exact ⟨rfl, rfl, rfl⟩
        case round =>
          obtain ⟨rfl, rfl, rfl⟩ := hrel
          go_wp2_with fail
          refine wp_scope_straight ?_
          go_wp2_with fail
          go_quiet (fail)
          go_wp2_with fail
          clear q61
          go_region_held3 (fun w' => Below wr.heap.size wr w') (first | exact below_drewN' _ _ | exact (below_drewN' wr nq).drew | assumption) (first | (go_at_call 103; refine (HIB.out _ _).mono ?_; rintro e5 w5 ⟨rfl, rfl⟩))
          go_wp2_with fail
          repeat (rw [Exit.noGoto_ret]; try go_simp)
          show Exit.inBlock 2 (Exit.noGoto (Exit.inBlock 0 _)) Exit.ret _ _
          simp only [Exit.inBlock, Exit.noGoto]
          go_ret
          exact ⟨rfl, by first | exact below_drewN' _ _ | exact (below_drewN' _ _).drew | assumption⟩
      · have h3 : 3 ≤ E.size := by omega
        have s1 : (2 : Int) ≤ (E.size : Int) - 1 := by omega
        have s2 : ¬ (E.size : Int) - 1 < (C.size : Int) := by have := HC2.out; omega
        go_enter Tryz.func86, Tryz.ntmps86
        go_wp2_with fail
        refine (HV.out _).mono ?_; rintro e1 w1 ⟨rfl, rfl⟩
        go_wp2_with fail
        refine wp_scope_straight ?_
        go_wp2_with fail
        go_loopw [9, 10] (fun v u wr => v = .int .i64 ((E.size : Int) - 1) ∧ u = .int .i64 0 ∧ wr = w1) (fun _ _ _ => 0)
        case atStart => exact ⟨rfl, rfl, rfl⟩
        case round =>
          obtain ⟨rfl, rfl, rfl⟩ := hrel
          go_wp2_with fail
          repeat (rw [Exit.noGoto_ret]; go_simp)
          go_ret
          exact ⟨rfl, Below.refl _ _⟩

theorem iterAt_size (w : World) (k : Nat) (s : ByteArray) (p : Nat) : (w.iterAt k s p).heap.size = w.heap.size := by simp [World.iterAt]
theorem below_iterAt {w0 w : World} {k : Nat} (s : ByteArray) (p : Nat) (h : Below w0.heap.size w0 w) (hk : w0.heap.size ≤ k) : Below w0.heap.size w0 (w.iterAt k s p) :=
  h.trans ⟨rfl, rfl, rfl, by rw [iterAt_size]; exact Nat.le_refl _, fun b hb => by
    show (w.heap.setIfInBounds k _)[b]? = _
    rw [Array.getElem?_setIfInBounds_ne (by omega)]⟩
theorem iter_below {w w' : World} {k : Nat} {s : ByteArray} {p : Nat} (h : w.heap[k]? = some (.stringIter s p)) (hb : Below w.heap.size w w') : w'.heap[k]? = some (.stringIter s p) :=
  (hb.block k (Array.getElem?_eq_some_iff.1 h).1).trans h
theorem far_no (s : ByteArray) (i k : Nat) (hno : Lib.NoAny s.data.toList [40, 61] i) (hk : i + k ≤ s.size) (hf : ∀ j, i ≤ j → j < i + k → 128 ≤ (s.get! j).toNat) : Lib.NoAny s.data.toList [40, 61] (i + k) := by
  intro j b hj hb
  by_cases hji : j < i
  · exact hno j b hji hb
  · have h1 := hf j (by omega) hj
    rw [toByte_list s j (by omega)] at hb
    injection hb with hb
    rw [← hb]
    generalize s.get! j = c at *
    have e1 : c ≠ 40 := fun e => by rw [e] at h1; revert h1; decide
    have e2 : c ≠ 61 := fun e => by rw [e] at h1; revert h1; decide
    simp [e1, e2]

set_option maxHeartbeats 4000000 in
set_option maxRecDepth 100000 in
theorem indexAny_short (s : ByteArray) (h8 : s.size ≤ 8) (w : World) : Calls Tryz.prog 33 #[.string s, .string ⟨#[40, 61]⟩] w fun e w' => e = .returned (.int .i64 (Lib.indexAny s.data.toList [40, 61])) ∧ Below w.heap.size w w' := by
  have h8z : decide ((8 : Int) < (s.size : Int)) = false := decide_eq_false (by omega)
  have HU := Lib.hid (fun W => Any.strings_shouldUseASCIISet { Tryz.lays153 with } (s.size : Int) W)
  rw [h8z] at HU
  have HRF := Lib.hid (fun r h1 h2 W => indexRune_far r h1 h2 W)
  have HRA := Lib.hid (fun r h1 h2 W => Tryz.strings_IndexRune_ascii ⟨#[40, 61]⟩ r W h1 h2)
  have HB0 := Lib.hid ((Below.refl w.heap.size w).alloc (Nat.le_refl _) (.stringIter s 0))
  have HI0 := Lib.hid (show (w.iter s 0).heap[w.heap.size]? = some (.stringIter s 0) from World.iter_heap w s 0)
  clear h8z
  go_enter Tryz.func33, Tryz.ntmps33
  go_wp2_with fail
  refine (HU.out _).mono ?_; rintro e1 w1 ⟨rfl, rfl⟩
  go_wp2_with fail
  go_loopg [9, 10] s.size (fun g _ _ wx => ∃ i : Nat, i + g = s.size ∧ wx.heap[w1.heap.size]? = some (.stringIter s i) ∧ Below w1.heap.size w1 wx ∧ Lib.NoAny s.data.toList [40, 61] i)
  case atStart => exact ⟨0, by omega, HI0.out, HB0.out, Lib.NoAny.zero _ _⟩
  case round =>
    obtain ⟨i, hig, hit, hbl, hno⟩ := hrel
    have HN := Lib.hid hno; have HBL := Lib.hid hbl; have HIT := Lib.hid hit
    clear hno hbl
    by_cases hi : i < s.size
    · obtain ⟨g, rfl⟩ : ∃ g, gk = g + 1 := ⟨gk - 1, by omega⟩
      have HG := Lib.hid hig; clear hig
      by_cases ha : (s.get! i).toNat < 128
      · have hg : s.get! i = s[i]'hi := by unfold ByteArray.get!; simp [getElem!_pos s.data i hi]; rfl
        have hxl := toByte_list s i hi
        rw [hg] at ha hxl
        have hnx := fun ty => Lib.run_next_ascii_at (P := Tryz.prog) wr w1.heap.size s i ty hit hi ha
        have HIW := Lib.hid (Lib.iterAt_heap wr w1.heap.size s i (i + 1) hit)
        have HBW := Lib.hid (below_iterAt s (i + 1) HBL.out (Nat.le_refl _))
        generalize hX : s[i]'hi = X at *
        have HXL := Lib.hid hxl
        have hcon := Lib.contains_iff_indexByte [40, 61] X
        have hback : ((X.toNat : Int)).toNat.toUInt8 = X := by simp
        have hrx := fun W => HRA.out (X.toNat : Int) (by omega) (by omega) W
        rw [hback] at hrx
        have HRX := Lib.hid hrx
        clear hit hg hX hxl hback hrx HRA
        cases hin : ([40, 61] : List UInt8).contains X
        · rw [hin] at hcon
          have hlt : ¬ ((0 : Int) ≤ Lib.indexByte [40, 61] X) := of_decide_eq_false hcon.symm
          have HIN := Lib.hid hin
          clear hcon hin
          go_wp2_with fail
          refine (HRX.out _).mono ?_; rintro e5 w5 ⟨rfl, rfl⟩
          go_wp2_with fail
          go_roundg g
          case measure => omega
          case rel => exact ⟨i + 1, by have := HG.out; omega, HIW.out, HBW.out, HN.out.succ HXL.out HIN.out⟩
        · rw [hin] at hcon
          have hge : (0 : Int) ≤ Lib.indexByte [40, 61] X := of_decide_eq_true hcon.symm
          have HF := Lib.hid (Lib.indexAny_hit HN.out HXL.out hin)
          clear hcon hin
          go_wp2_with fail
          refine (HRX.out _).mono ?_; rintro e5 w5 ⟨rfl, rfl⟩
          go_wp2_with fail
          go_ret
          exact ⟨by rw [HF.out]; rfl, HBW.out⟩
      · obtain ⟨f1, f2, f3, f4, f5⟩ := far_rune s i hi (by omega)
        have hnx := fun ty => Lib.run_next_any_at (P := Tryz.prog) wr w1.heap.size s i ty hit hi
        have HIW := Lib.hid (Lib.iterAt_heap wr w1.heap.size s i (i + (Utf8.decode s i).2) hit)
        have HBW := Lib.hid (below_iterAt s (i + (Utf8.decode s i).2) HBL.out (Nat.le_refl _))
        have HNW := Lib.hid (far_no s i (Utf8.decode s i).2 HN.out f4 f5)
        generalize (Utf8.decode s i).1 = R at *
        generalize (Utf8.decode s i).2 = K at *
        have HRX := Lib.hid (fun W => HRF.out (R : Int) (by omega) (by omega) W)
        clear hit f5 ha
        go_wp2_with fail
        refine (HRX.out _).mono ?_; rintro e5 w5 ⟨rfl, hb5⟩
        have HI5 := Lib.hid (iter_below HIW.out hb5)
        have HB5 := Lib.hid (HBW.out.trans (hb5.mono HBW.out.size))
        clear hb5
        go_wp2_with fail
        go_roundg (s.size - (i + K))
        case measure => have := HG.out; omega
        case rel => exact ⟨i + K, by omega, HI5.out, HB5.out, HNW.out⟩
    · have hi' : i = s.size := by omega
      have hnx := fun ty => Lib.run_next_end_at (P := Tryz.prog) wr w1.heap.size s i ty hit hi
      have HF := Lib.hid (Lib.indexAny_none (chars := [40, 61]) (by rw [← Lib.size_eq, ← hi']; exact HN.out))
      clear hit
      go_wp2_with fail
      go_ret
      exact ⟨by rw [HF.out]; rfl, HBL.out⟩
theorem indexAny_eq (s : ByteArray) (hs : s.size ≤ 1048576) (w : World) : Calls Tryz.prog 33 #[.string s, .string ⟨#[40, 61]⟩] w fun e w' => e = .returned (.int .i64 (Lib.indexAny s.data.toList [40, 61])) ∧ Below w.heap.size w w' := by
  by_cases h8 : 8 < s.size
  · have hz : (Tryz.prog.info? 115).map (fun i => (i.zero, i.size)) = some (some (.agg (Array.replicate 256 (.bool false))), 256) := by kernel_rfl
    refine (Tryz.strings_IndexAny_long (zero_of_info hz).1 s ⟨#[40, 61]⟩ w (by decide) h8 (by omega) (by decide) (fun j b hj => ?_)).mono ?_
    · match j, hj with
      | 0, hj => simp at hj; rw [← hj]; decide
      | 1, hj => simp at hj; rw [← hj]; decide
      | j + 2, hj => simp at hj
    · rintro e1 w1 ⟨rfl, rfl⟩
      exact ⟨rfl, ((Below.refl _ _).alloc (Nat.le_refl _) _).alloc (by simp) _⟩
  · exact indexAny_short s (by omega) w
end Go.Proofs.YtfibjcaidnofmaaGreatDoor

/- A tree's text, read again: plain. What may be shown; lines in any order. -/
namespace Go.Proofs.YtfibjcaidnofmaaGreatDoor

/-! ### All of it may be shown -/
theorem shows_of {c : UInt8} (h1 : 32 ≤ c.toNat) (h2 : c.toNat ≤ 126) : showsC c = true := by unfold showsC; rw [decide_eq_true_eq]; exact ⟨h1, h2⟩
theorem shows_dig {c : UInt8} (h : isDig c = true) : showsC c = true := by
  unfold isDig at h; rw [decide_eq_true_eq] at h
  exact shows_of (by omega) (by omega)
theorem shows_num {c : UInt8} (h : numCh c = true) : showsC c = true := by
  unfold numCh at h
  rcases Bool.or_eq_true_iff.1 h with h | h
  · rcases Bool.or_eq_true_iff.1 h with h | h
    · exact shows_dig h
    · obtain rfl : c = 45 := by simpa using h
      rfl
  · obtain rfl : c = 46 := by simpa using h
    rfl
theorem shows_join {L : List (List UInt8)} {d : UInt8} (hd : showsC d = true) (h : ∀ l ∈ L, ∀ c ∈ l, showsC c = true) : ∀ c ∈ Go.Lib.join L [d], showsC c = true := by
  cases L with
  | nil => intro c hc; cases hc
  | cons x xs =>
    rw [join_cons]
    intro c hc
    rcases List.mem_append.1 hc with hc | hc
    · exact h x (List.mem_cons_self ..) c hc
    · obtain ⟨l, hl, hc⟩ := List.mem_flatten.1 hc
      obtain ⟨y, hy, rfl⟩ := List.mem_map.1 hl
      rcases List.mem_append.1 hc with hc | hc
      · rw [List.mem_singleton.1 hc]; exact hd
      · exact h y (List.mem_cons_of_mem _ hy) c hc
theorem runOf_same {l : List UInt8} : ∀ c ∈ runOf l, ∀ x, l.head? = some x → showsC c = showsC x := by
  cases l with
  | nil => intro c hc; cases hc
  | cons a l =>
    intro c hc x hx
    obtain rfl : a = x := by simpa using hx
    rcases List.mem_cons.1 hc with rfl | hc
    · rfl
    · have := mem_takeWhile_dig _ l c hc
      simpa using this
theorem runsP_run : ∀ (k : Nat) (l : List UInt8), ∀ r ∈ runsP k l, ∃ l', r = runOf l'
  | 0, l, r, h => by cases h
  | k + 1, [], r, h => by cases h
  | k + 1, c :: l, r, h => by
    rcases List.mem_cons.1 h with rfl | h
    · exact ⟨_, rfl⟩
    · exact runsP_run k _ r h
theorem shows_form (l : List UInt8) : ∀ c ∈ formP (runOf l), showsC c = true := by
  cases l with
  | nil => intro c hc; cases hc
  | cons a l =>
    have hrun : runOf (a :: l) = a :: l.takeWhile (fun x => showsC x == showsC a) := rfl
    have hsame : ∀ c ∈ runOf (a :: l), showsC c = showsC a := fun c hc => runOf_same c hc a rfl
    rw [hrun] at hsame ⊢
    intro c hc
    have hc : c ∈ (if showsC a then quoteP (a :: l.takeWhile (fun x => showsC x == showsC a)) else codesP (a :: l.takeWhile (fun x => showsC x == showsC a))) := hc
    split at hc
    · rename_i ha
      unfold quoteP at hc
      rcases List.mem_cons.1 hc with rfl | hc
      · rfl
      rcases List.mem_append.1 hc with hc | hc
      · obtain ⟨y, hy, hc⟩ := List.mem_flatMap.1 hc
        split at hc
        · simp at hc; rw [hc]; rfl
        · rw [List.mem_singleton.1 hc, hsame y hy, ha]
      · rw [List.mem_singleton.1 hc]; rfl
    · unfold codesP at hc
      rcases List.mem_cons.1 hc with rfl | hc
      · rfl
      rcases List.mem_cons.1 hc with rfl | hc
      · rfl
      rcases List.mem_cons.1 hc with rfl | hc
      · rfl
      rcases List.mem_append.1 hc with hc | hc
      · refine shows_join (d := 44) rfl (fun l' hl' c hc => ?_) c hc
        obtain ⟨y, _, rfl⟩ := List.mem_map.1 hl'
        exact shows_dig (decDigits_dig _ c hc)
      · rw [List.mem_singleton.1 hc]; rfl
theorem shows_plain (l : List UInt8) : ∀ c ∈ plainP l, showsC c = true := by
  intro c hc
  unfold plainP at hc
  split at hc
  · rename_i h
    unfold canonB at h
    rw [decide_eq_true_eq] at h
    rw [← h] at hc
    exact shows_num (numText_ch _ c hc)
  · split at hc
    · simp at hc; rw [hc]; rfl
    · refine shows_join (d := 95) rfl (fun l' hl' c hc => ?_) c hc
      obtain ⟨r, hr, rfl⟩ := List.mem_map.1 hl'
      obtain ⟨l2, rfl⟩ := runsP_run _ _ r hr
      exact shows_form l2 c hc
theorem shows_name (s : ByteArray) (h : nameB s = true) : ∀ c ∈ s.data.toList, showsC c = true := by
  unfold nameB at h
  simp only [Bool.and_eq_true, decide_eq_true_eq] at h
  have h2 := h.2
  unfold nameTo at h2
  intro c hc
  obtain ⟨j, hj, e⟩ := List.getElem_of_mem hc
  have hjs : j < s.size := by simpa using hj
  have h3 := (List.all_eq_true.1 h2) j (List.mem_range.2 hjs)
  have hg : s.get! j = c := by
    have : s.get! j = s.data.toList[j] := by
      unfold ByteArray.get!
      simp [getElem!_pos s.data j (by simpa using hjs)]
    rw [this, e]
  rw [hg] at h3
  unfold nameCh letterB digitB at h3
  simp only [Bool.or_eq_true, Bool.and_eq_true, decide_eq_true_eq] at h3
  exact shows_of (by omega) (by omega)
theorem shows_line (x : Nod) (h : nodB x = true) : ∀ c ∈ lineT x, showsC c = true := by
  have hn : nameB x.name = true := by
    unfold nodB at h
    simp only [Bool.and_eq_true] at h
    exact h.1.1
  intro c hc
  unfold lineT at hc
  rcases List.mem_cons.1 hc with rfl | hc
  · rfl
  rcases List.mem_append.1 hc with hc | hc
  · exact shows_name _ hn c hc
  rcases List.mem_append.1 hc with hc | hc
  · unfold subsT at hc
    split at hc
    · cases hc
    · rcases List.mem_cons.1 hc with rfl | hc
      · rfl
      rcases List.mem_append.1 hc with hc | hc
      · refine shows_join (d := 44) rfl (fun l' hl' c hc => ?_) c hc
        obtain ⟨y, _, rfl⟩ := List.mem_map.1 hl'
        exact shows_plain _ c hc
      · rw [List.mem_singleton.1 hc]; rfl
  · rcases List.mem_cons.1 hc with rfl | hc
    · rfl
    · exact shows_plain _ c hc
theorem line_no10 (x : Nod) (h : nodB x = true) : ∀ c ∈ lineT x, c ≠ 10 := fun c hc e => by
  have := shows_line x h c hc
  subst e; revert this; decide
theorem rdlI_line (x : Nod) (h : nodB x = true) : rdlI (lineT x) = some x := by
  unfold rdlI
  rw [rlI_line x h]
  show (if nodeLineP x = lineT x ∧ lineT x ≠ [] then some x else none) = _
  rw [if_pos ⟨by unfold nodeLineP; rw [if_pos h], by unfold lineT; simp⟩]

/-! ### Lines in any order -/
def headL (n : Nat) : List UInt8 := [110, 111, 100, 101, 115, 32] ++ Lib.decDigits n
def bodyT (ns : List Nod) : List UInt8 := (ns.map fun x => lineT x ++ [10]).flatten
def textT (n : Nat) (ns : List Nod) : List UInt8 := headL n ++ 10 :: bodyT ns
theorem linesTo_text (ns : List Nod) : linesTo ns ns.length = textT ns.length ns := by
  unfold linesTo headT textT headL bodyT
  rw [List.take_length]
  simp
theorem headL_no10 (n : Nat) : ∀ c ∈ headL n, c ≠ 10 := by
  intro c hc
  unfold headL at hc
  rcases List.mem_append.1 hc with hc | hc
  · intro e; subst e; revert hc; decide
  · have h1 := decDigits_dig _ c hc
    intro e; subst e; revert h1; decide
theorem many_head (n : Nat) (h : n ≤ 120) : manyP (headL n) = n := by
  unfold manyP headL
  have hp : nodesW.isPrefixOf ([110, 111, 100, 101, 115, 32] ++ Lib.decDigits n) = true := List.isPrefixOf_iff_prefix.2 ⟨_, rfl⟩
  rw [if_pos hp]
  show manyD (Lib.decDigits n) = n
  unfold manyD
  have hl := decDigits_len 2 n (by omega)
  have hv : valFrom 0 (Lib.decDigits n) = n := decDigits_val n
  rw [if_pos ⟨List.length_pos_iff.2 (dec_ne' _), by omega, by rw [hv]⟩, hv]
theorem linesP_body : ∀ (ns : List Nod), (∀ x ∈ ns, nodB x = true) → linesP (bodyT ns) = (ns.map lineT, [])
  | [], _ => rfl
  | x :: ns, h => by
    have hb : bodyT (x :: ns) = lineT x ++ 10 :: bodyT ns := by unfold bodyT; simp
    rw [hb, linesP_line _ _ (line_no10 x (h x (List.mem_cons_self ..))), linesP_body ns fun y hy => h y (List.mem_cons_of_mem _ hy)]
    rfl
theorem readAll_lines : ∀ (ns : List Nod), (∀ x ∈ ns, nodB x = true) → readAll (ns.map lineT) = some ns
  | [], _ => rfl
  | x :: ns, h => by
    show (rdlI (lineT x)).bind _ = _
    rw [rdlI_line x (h x (List.mem_cons_self ..)), Option.bind_some, readAll_lines ns fun y hy => h y (List.mem_cons_of_mem _ hy)]
    rfl
theorem body_len (ns : List Nod) (h : ∀ x ∈ ns, nodB x = true) : (bodyT ns).length ≤ 2001 * ns.length := by
  induction ns with
  | nil => exact Nat.zero_le _
  | cons x ns ih =>
    have hb : bodyT (x :: ns) = lineT x ++ 10 :: bodyT ns := by unfold bodyT; simp
    have h1 := ih fun y hy => h y (List.mem_cons_of_mem _ hy)
    have h2 := lineT_len x (h x (List.mem_cons_self ..))
    rw [hb, List.length_append, List.length_cons, List.length_cons]
    omega
/-- THE LAW: whatever the lines' order, the tree is read. -/
theorem import_text {ns ms : List Nod} (ht : treB ns = true) (hp : ms.Perm ns) (hl : ns.length ≤ 25) : importP (textT ns.length ms) = (0, ns) := by
  have hn : ∀ x ∈ ns, nodB x = true := fun x hx => by
    obtain ⟨k, hk, e⟩ := List.getElem_of_mem hx
    have := treB_nod ht k hk
    rw [List.getD_eq_getElem?_getD, List.getElem?_eq_getElem hk] at this
    rw [← e]; exact this
  have hm : ∀ x ∈ ms, nodB x = true := fun x hx => hn x (hp.subset hx)
  have hlen : (textT ns.length ms).length ≤ 60000 := by
    have h1 := body_len ms hm
    have h2 := headT_len ns.length (by omega)
    have h3 : (headL ns.length).length + 1 = (headT ns.length).length := by unfold headL headT; simp
    have h4 := hp.length_eq
    unfold textT
    rw [List.length_append, List.length_cons]
    omega
  have hlines : linesP (textT ns.length ms) = (headL ns.length :: ms.map lineT, []) := by
    unfold textT
    rw [linesP_line _ _ (headL_no10 _), linesP_body ms hm]
  have hmany := many_head ns.length (by omega)
  have hrise := (treB_rises hn (by omega)).1 ht
  obtain ⟨q1, q2⟩ := import_sort (P := ns) (ns := ms) hp.symm (hrise.imp fun {a b} hab => by
    cases h : befP (keyN b) (keyN a) with
    | false => rfl
    | true => exact absurd (sto_befP.swo.trans _ _ _ hab h) (by rw [sto_befP.swo.irrefl]; exact Bool.false_ne_true)) hm (by have := hp.length_eq; omega)
  unfold importP
  rw [if_neg (by omega), hlines]
  show (if 120 < manyP (headL ns.length) then _ else _) = _
  rw [hmany, if_neg (by omega), if_neg (by rw [List.length_map, hp.length_eq]; simp), readAll_lines ms hm]
  show (if (insN ms).2 then _ else _) = _
  rw [ht] at q1
  have hb : (insN ms).2 = false := by cases h : (insN ms).2 with | false => rfl | true => rw [h] at q1; cases q1
  rw [hb, if_neg Bool.false_ne_true, ← q2 hb]

end Go.Proofs.YtfibjcaidnofmaaGreatDoor
