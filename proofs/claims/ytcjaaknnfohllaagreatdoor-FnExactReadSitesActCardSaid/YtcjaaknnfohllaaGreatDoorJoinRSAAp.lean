/- strings.IndexAny(s, "(=") at every text s, valid or not. -/
import Derived.Test.YtcjaaknnfohllaaGreatDoorShelfL
import Derived.Test.YtcjaaknnfohllaaGreatDoorJoinRSAAa
import Derived.Lib.MapLaws
import Derived.Lib.SpaceUEq
import Derived.Lib.QuoteLoop
import Derived.Laws.RangeAny
import Derived.Laws.Runes
import Derived.WalkMore
import Derived.Lib.OthersKept
import Derived.Deep.LoopGhost
import Derived.Test.YtcjaaknnfohllaaGreatDoorJoinRSAAf
import Derived.Test.YtcjaaknnfohllaaGreatDoorJoinRSAAi
import Derived.Test.YtcjaaknnfohllaaGreatDoorJoinRSAAo
import Derived.Test.YtcjaaknnfohllaaGreatDoorJoinRSAAk
import Derived.Test.YtcjaaknnfohllaaGreatDoorJoinRSAAg
import Derived.Lib.AtoiAllCases
import Derived.Lib.ParseIntBTie
namespace Go.Proofs.YtcjaaknnfohllaaGreatDoor
open Go.RowKit

theorem toByte_list (s : ByteArray) (i : Nat) (h : i < s.size) : s.data.toList[i]? = some (s.get! i) := by
  rw [Array.getElem?_toList, Array.getElem?_eq_getElem (show i < s.data.size from h)]
  unfold ByteArray.get!
  simp [getElem!_pos s.data i h]
/-- A rune that does not begin with an ASCII byte: no ASCII byte stands in it; its number. -/
theorem far_rune (s : ByteArray) (i : Nat) (hi : i < s.size) (h : 128 ≤ (s.get! i).toNat) :
    128 ≤ (Utf8.decode s i).1 ∧ (Utf8.decode s i).1 ≤ 1114111 ∧ 1 ≤ (Utf8.decode s i).2 ∧ i + (Utf8.decode s i).2 ≤ s.size ∧ ∀ j, i ≤ j → j < i + (Utf8.decode s i).2 → 128 ≤ (s.get! j).toNat := by
  rw [Lib.decode_at]
  have h1 := Lib.decodeN_conts (s.size - i) (s.get! i).toNat (s.get! (i + 1)).toNat (s.get! (i + 2)).toNat (s.get! (i + 3)).toNat
  have h2 := Lib.decodeN_shape (s.size - i) (s.get! i).toNat (s.get! (i + 1)).toNat (s.get! (i + 2)).toNat (s.get! (i + 3)).toNat
  have h3 := Lib.decodeN_width_le (s.size - i) (s.get! i).toNat (s.get! (i + 1)).toNat (s.get! (i + 2)).toNat (s.get! (i + 3)).toNat (by omega)
  generalize hq : Lib.decodeN (s.size - i) (s.get! i).toNat (s.get! (i + 1)).toNat (s.get! (i + 2)).toNat (s.get! (i + 3)).toNat = Q at *
  obtain ⟨r, k⟩ := Q
  simp only [Prod.mk.injEq] at h1 h2 h3 ⊢
  have hr : 128 ≤ r ∧ r ≤ 1114111 ∧ 1 ≤ k := by
    rcases h2 with ⟨a, _⟩ | ⟨_, _, _, a, e, f⟩ | ⟨_, _, _, _, a, b, e, f⟩ | ⟨_, _, _, _, _, a, b, e, f⟩ | ⟨e, f⟩
    · omega
    · refine ⟨by omega, by omega, by omega⟩
    · refine ⟨by omega, by omega, by omega⟩
    · refine ⟨by omega, by omega, by omega⟩
    · omega
  refine ⟨hr.1, hr.2.1, hr.2.2, by omega, fun j hj1 hj2 => ?_⟩
  have hk : j = i ∨ j = i + 1 ∨ j = i + 2 ∨ j = i + 3 := by omega
  rcases hk with rfl | rfl | rfl | rfl
  · exact h
  · have := (h1.1 (by omega)).1; omega
  · have := (h1.2.1 (by omega)).1; omega
  · have := (h1.2.2.1 (by omega)).1; omega

theorem valid_same (r : Int) (h : Lib.validRune r = true) : Utf8.valid r = true := by
  unfold Lib.validRune at h
  unfold Utf8.valid
  simp only [Bool.or_eq_true, Bool.and_eq_true, decide_eq_true_eq] at *
  omega

set_option maxHeartbeats 4000000 in
set_option maxRecDepth 100000 in
theorem indexRune_far (r : Int) (h : 128 ≤ r) (hr : r ≤ 1114111) (w : World) : Calls Tryz.prog 101 #[.string ⟨#[40, 61]⟩, .int .i32 r] w fun e w' => e = .returned (.int .i64 (-1)) ∧ Below w.heap.size w w' := by
  have k1 : (0 : Int) ≤ r := by omega
  have k2 : ¬ r < 128 := by omega
  have HV := Lib.hid (fun W => Any.utf8_ValidRune { Tryz.lays152 with } r W)
  by_cases h3 : r = 65533
  · subst h3
    have hn0 : ∀ ty (w : World), (Instr.next (.pointer (some ⟨w.heap.size, 0, none⟩)) true ty).run Tryz.prog (w.iter ⟨#[40, 61]⟩ 0) = .ok (.tuple #[.bool true, .int .i64 0, .int .i32 40]) (w.iter ⟨#[40, 61]⟩ 1) := fun ty w => run_next_ascii (P := Tryz.prog) w ⟨#[40, 61]⟩ 0 ty (by decide) (by decide)
    have hn1 : ∀ ty (w : World), (Instr.next (.pointer (some ⟨w.heap.size, 0, none⟩)) true ty).run Tryz.prog (w.iter ⟨#[40, 61]⟩ 1) = .ok (.tuple #[.bool true, .int .i64 1, .int .i32 61]) (w.iter ⟨#[40, 61]⟩ 2) := fun ty w => run_next_ascii (P := Tryz.prog) w ⟨#[40, 61]⟩ 1 ty (by decide) (by decide)
    have hn2 := fun ty (w : World) => run_next_end (P := Tryz.prog) w ⟨#[40, 61]⟩ 2 ty (by decide)
    clear k1 k2
    go_enter Tryz.func101, Tryz.ntmps101
    go_wp2_with fail
    go_loopg [5, 6] 2 (fun g _ _ wx => ∃ i : Nat, i + g = 2 ∧ wx = w.iter ⟨#[40, 61]⟩ i)
    case atStart => exact ⟨0, rfl, rfl⟩
    case round =>
      obtain ⟨i, hig, rfl⟩ := hrel
      cases gk with
      | zero =>
        obtain rfl : i = 2 := by omega
        clear hn0 hn1 hig
        go_wp2_with fail
        go_ret
        exact ⟨rfl, (Below.refl _ _).alloc (Nat.le_refl _) _⟩
      | succ g =>
        rcases (show i = 0 ∨ i = 1 by omega) with rfl | rfl
        · clear hn1 hn2
          have HG := Lib.hid hig
          clear hig
          go_wp2_with fail
          go_roundg g
          case measure => omega
          case rel => exact ⟨1, by have := HG.out; omega, rfl⟩
        · clear hn0 hn2
          have HG := Lib.hid hig
          clear hig
          go_wp2_with fail
          go_roundg g
          case measure => omega
          case rel => exact ⟨2, by have := HG.out; omega, rfl⟩
  · have k3 : (r == 65533) = false := by rw [beq_eq_false_iff_ne]; exact h3
    cases hv : Lib.validRune r
    · rw [hv] at HV
      go_enter Tryz.func101, Tryz.ntmps101
      go_wp2_with fail
      refine (HV.out _).mono ?_; rintro e1 w1 ⟨rfl, rfl⟩
      go_wp2_with fail
      go_ret
      exact ⟨rfl, Below.refl _ _⟩
    · rw [hv] at HV
      obtain ⟨e1, e2, e3⟩ := encode_facts r (valid_same r hv) h
      have hcv : ∀ w : World, (convert 21 9 (.int .i32 r)).run Tryz.prog w = .ok (.string (Utf8.encode r)) w := fun w => run_convert_int_string (P := Tryz.prog) w 21 9 .i32 r (by kernel_rfl) Tryz.underlying9
      have hib : ∀ (c : Int) (W : World), Calls Tryz.prog 131 #[.string ((⟨#[40, 61]⟩ : ByteArray).extract 2 (⟨#[40, 61]⟩ : ByteArray).size), .int .u8 c] W fun e w' => e = .returned (.int .i64 (-1)) ∧ w' = W := fun c W => Any.strings_IndexByte { Tryz.lays152 with } ⟨#[]⟩ c W
      have hc2 : ((⟨#[40, 61]⟩ : ByteArray).size : Int) = 2 := rfl
      have hcn : (⟨#[40, 61]⟩ : ByteArray).size = 2 := rfl
      have hb1 : ∀ h, ((⟨#[40, 61]⟩ : ByteArray)[1]'h).toNat = 61 := fun _ => rfl
      generalize (⟨#[40, 61]⟩ : ByteArray) = C at *
      have HIB := Lib.hid hib
      have HB1 := Lib.hid hb1
      have HCN := Lib.hid hcn
      have hw2 : IntKind.i64.wrap 2 = 2 := by decide
      have c12 : (1 : Int) < (C.size : Int) := by omega
      have c22 : (2 : Int) ≤ (C.size : Int) := by omega
      have c22n : 2 ≤ C.size := by omega
      have cd : decide ((2 : Int) ≤ (C.size : Int)) = true := decide_eq_true c22
      have cdn : decide (2 ≤ C.size) = true := decide_eq_true c22n
      have HC2 := Lib.hid hc2
      clear hib hb1 hcn hc2
      generalize Utf8.encode r = E at *
      have E3 := Lib.hid e3
      have E1 := Lib.hid e1
      have E2 := Lib.hid e2
      clear hv e3
      by_cases h2 : E.size = 2
      · have h5 := E3.out (by omega)
        have g1 : E[1]'(by omega) = E[E.size - 1]'(by omega) := by congr 1; omega
        rw [← g1] at h5
        have hcs : 1 < C.size := by rw [HCN.out]; decide
        have b1 := HB1.out hcs
        rw [g1] at h5
        have q61 : (((C[1]'hcs).toNat : Int) != ((E[E.size - 1]'(by omega)).toNat : Int)) = true := by rw [bne_iff_ne, b1]; omega
        clear b1
        have s1 : (1 : Int) < (E.size : Int) := by omega
        have l2 : (E.size : Int) - 1 = 1 := by omega
        have i1 : (1 : Int) < 2 := by decide
        go_enter Tryz.func101, Tryz.ntmps101
        go_wp2_with fail
        refine (HV.out _).mono ?_; rintro e1 w1 ⟨rfl, rfl⟩
        go_wp2_with fail
        refine wp_scope_straight ?_
        go_wp2_with fail
        go_loopw [9, 10] (fun v u wr => v = .int .i64 1 ∧ u = .int .i64 0 ∧ wr = w1) (fun _ _ _ => 0)
        case atStart => exact ⟨rfl, rfl, rfl⟩
        case round =>
          obtain ⟨rfl, rfl, rfl⟩ := hrel
          go_wp2_with fail
          refine wp_scope_straight ?_
          go_wp2_with fail
          go_quiet (fail)
          go_wp2_with fail
          clear q61
          go_region_held3 (fun w' => Below wr.heap.size wr w') (first | exact below_drewN' _ _ | exact (below_drewN' wr nq).drew | assumption) (first | (go_at_call 131; refine (HIB.out _ _).mono ?_; rintro e5 w5 ⟨rfl, rfl⟩))
          go_wp2_with fail
          repeat (rw [Exit.noGoto_ret]; try go_simp)
          show Exit.inBlock 2 (Exit.noGoto (Exit.inBlock 0 _)) Exit.ret _ _
          simp only [Exit.inBlock, Exit.noGoto]
          go_ret
          exact ⟨rfl, by first | exact below_drewN' _ _ | exact (below_drewN' _ _).drew | assumption⟩
      · have h3 : 3 ≤ E.size := by omega
        have s1 : (2 : Int) ≤ (E.size : Int) - 1 := by omega
        have s2 : ¬ (E.size : Int) - 1 < (C.size : Int) := by have := HC2.out; omega
        go_enter Tryz.func101, Tryz.ntmps101
        go_wp2_with fail
        refine (HV.out _).mono ?_; rintro e1 w1 ⟨rfl, rfl⟩
        go_wp2_with fail
        refine wp_scope_straight ?_
        go_wp2_with fail
        go_loopw [9, 10] (fun v u wr => v = .int .i64 ((E.size : Int) - 1) ∧ u = .int .i64 0 ∧ wr = w1) (fun _ _ _ => 0)
        case atStart => exact ⟨rfl, rfl, rfl⟩
        case round =>
          obtain ⟨rfl, rfl, rfl⟩ := hrel
          go_wp2_with fail
          repeat (rw [Exit.noGoto_ret]; go_simp)
          go_ret
          exact ⟨rfl, Below.refl _ _⟩

theorem iterAt_size (w : World) (k : Nat) (s : ByteArray) (p : Nat) : (w.iterAt k s p).heap.size = w.heap.size := by simp [World.iterAt]
theorem below_iterAt {w0 w : World} {k : Nat} (s : ByteArray) (p : Nat) (h : Below w0.heap.size w0 w) (hk : w0.heap.size ≤ k) : Below w0.heap.size w0 (w.iterAt k s p) :=
  h.trans ⟨rfl, rfl, rfl, by rw [iterAt_size]; exact Nat.le_refl _, fun b hb => by
    show (w.heap.setIfInBounds k _)[b]? = _
    rw [Array.getElem?_setIfInBounds_ne (by omega)]⟩
theorem iter_below {w w' : World} {k : Nat} {s : ByteArray} {p : Nat} (h : w.heap[k]? = some (.stringIter s p)) (hb : Below w.heap.size w w') : w'.heap[k]? = some (.stringIter s p) :=
  (hb.block k (Array.getElem?_eq_some_iff.1 h).1).trans h
theorem far_no (s : ByteArray) (i k : Nat) (hno : Lib.NoAny s.data.toList [40, 61] i) (hk : i + k ≤ s.size) (hf : ∀ j, i ≤ j → j < i + k → 128 ≤ (s.get! j).toNat) : Lib.NoAny s.data.toList [40, 61] (i + k) := by
  intro j b hj hb
  by_cases hji : j < i
  · exact hno j b hji hb
  · have h1 := hf j (by omega) hj
    rw [toByte_list s j (by omega)] at hb
    injection hb with hb
    rw [← hb]
    generalize s.get! j = c at *
    have e1 : c ≠ 40 := fun e => by rw [e] at h1; revert h1; decide
    have e2 : c ≠ 61 := fun e => by rw [e] at h1; revert h1; decide
    simp [e1, e2]

set_option maxHeartbeats 4000000 in
set_option maxRecDepth 100000 in
theorem indexAny_short (s : ByteArray) (h8 : s.size ≤ 8) (w : World) : Calls Tryz.prog 44 #[.string s, .string ⟨#[40, 61]⟩] w fun e w' => e = .returned (.int .i64 (Lib.indexAny s.data.toList [40, 61])) ∧ Below w.heap.size w w' := by
  have h8z : decide ((8 : Int) < (s.size : Int)) = false := decide_eq_false (by omega)
  have HU := Lib.hid (fun W => Any.strings_shouldUseASCIISet { Tryz.lays153 with } (s.size : Int) W)
  rw [h8z] at HU
  have HRF := Lib.hid (fun r h1 h2 W => indexRune_far r h1 h2 W)
  have HRA := Lib.hid (fun r h1 h2 W => Tryz.strings_IndexRune_ascii ⟨#[40, 61]⟩ r W h1 h2)
  have HB0 := Lib.hid ((Below.refl w.heap.size w).alloc (Nat.le_refl _) (.stringIter s 0))
  have HI0 := Lib.hid (show (w.iter s 0).heap[w.heap.size]? = some (.stringIter s 0) from World.iter_heap w s 0)
  clear h8z
  go_enter Tryz.func44, Tryz.ntmps44
  go_wp2_with fail
  refine (HU.out _).mono ?_; rintro e1 w1 ⟨rfl, rfl⟩
  go_wp2_with fail
  go_loopg [9, 10] s.size (fun g _ _ wx => ∃ i : Nat, i + g = s.size ∧ wx.heap[w1.heap.size]? = some (.stringIter s i) ∧ Below w1.heap.size w1 wx ∧ Lib.NoAny s.data.toList [40, 61] i)
  case atStart => exact ⟨0, by omega, HI0.out, HB0.out, Lib.NoAny.zero _ _⟩
  case round =>
    obtain ⟨i, hig, hit, hbl, hno⟩ := hrel
    have HN := Lib.hid hno; have HBL := Lib.hid hbl; have HIT := Lib.hid hit
    clear hno hbl
    by_cases hi : i < s.size
    · obtain ⟨g, rfl⟩ : ∃ g, gk = g + 1 := ⟨gk - 1, by omega⟩
      have HG := Lib.hid hig; clear hig
      by_cases ha : (s.get! i).toNat < 128
      · have hg : s.get! i = s[i]'hi := by unfold ByteArray.get!; simp [getElem!_pos s.data i hi]; rfl
        have hxl := toByte_list s i hi
        rw [hg] at ha hxl
        have hnx := fun ty => Lib.run_next_ascii_at (P := Tryz.prog) wr w1.heap.size s i ty hit hi ha
        have HIW := Lib.hid (Lib.iterAt_heap wr w1.heap.size s i (i + 1) hit)
        have HBW := Lib.hid (below_iterAt s (i + 1) HBL.out (Nat.le_refl _))
        generalize hX : s[i]'hi = X at *
        have HXL := Lib.hid hxl
        have hcon := Lib.contains_iff_indexByte [40, 61] X
        have hback : ((X.toNat : Int)).toNat.toUInt8 = X := by simp
        have hrx := fun W => HRA.out (X.toNat : Int) (by omega) (by omega) W
        rw [hback] at hrx
        have HRX := Lib.hid hrx
        clear hit hg hX hxl hback hrx HRA
        cases hin : ([40, 61] : List UInt8).contains X
        · rw [hin] at hcon
          have hlt : ¬ ((0 : Int) ≤ Lib.indexByte [40, 61] X) := of_decide_eq_false hcon.symm
          have HIN := Lib.hid hin
          clear hcon hin
          go_wp2_with fail
          refine (HRX.out _).mono ?_; rintro e5 w5 ⟨rfl, rfl⟩
          go_wp2_with fail
          go_roundg g
          case measure => omega
          case rel => exact ⟨i + 1, by have := HG.out; omega, HIW.out, HBW.out, HN.out.succ HXL.out HIN.out⟩
        · rw [hin] at hcon
          have hge : (0 : Int) ≤ Lib.indexByte [40, 61] X := of_decide_eq_true hcon.symm
          have HF := Lib.hid (Lib.indexAny_hit HN.out HXL.out hin)
          clear hcon hin
          go_wp2_with fail
          refine (HRX.out _).mono ?_; rintro e5 w5 ⟨rfl, rfl⟩
          go_wp2_with fail
          go_ret
          exact ⟨by rw [HF.out]; rfl, HBW.out⟩
      · obtain ⟨f1, f2, f3, f4, f5⟩ := far_rune s i hi (by omega)
        have hnx := fun ty => Lib.run_next_any_at (P := Tryz.prog) wr w1.heap.size s i ty hit hi
        have HIW := Lib.hid (Lib.iterAt_heap wr w1.heap.size s i (i + (Utf8.decode s i).2) hit)
        have HBW := Lib.hid (below_iterAt s (i + (Utf8.decode s i).2) HBL.out (Nat.le_refl _))
        have HNW := Lib.hid (far_no s i (Utf8.decode s i).2 HN.out f4 f5)
        generalize (Utf8.decode s i).1 = R at *
        generalize (Utf8.decode s i).2 = K at *
        have HRX := Lib.hid (fun W => HRF.out (R : Int) (by omega) (by omega) W)
        clear hit f5 ha
        go_wp2_with fail
        refine (HRX.out _).mono ?_; rintro e5 w5 ⟨rfl, hb5⟩
        have HI5 := Lib.hid (iter_below HIW.out hb5)
        have HB5 := Lib.hid (HBW.out.trans (hb5.mono HBW.out.size))
        clear hb5
        go_wp2_with fail
        go_roundg (s.size - (i + K))
        case measure => have := HG.out; omega
        case rel => exact ⟨i + K, by omega, HI5.out, HB5.out, HNW.out⟩
    · have hi' : i = s.size := by omega
      have hnx := fun ty => Lib.run_next_end_at (P := Tryz.prog) wr w1.heap.size s i ty hit hi
      have HF := Lib.hid (Lib.indexAny_none (chars := [40, 61]) (by rw [← Lib.size_eq, ← hi']; exact HN.out))
      clear hit
      go_wp2_with fail
      go_ret
      exact ⟨by rw [HF.out]; rfl, HBL.out⟩
theorem indexAny_eq (s : ByteArray) (hs : s.size ≤ 1048576) (w : World) : Calls Tryz.prog 44 #[.string s, .string ⟨#[40, 61]⟩] w fun e w' => e = .returned (.int .i64 (Lib.indexAny s.data.toList [40, 61])) ∧ Below w.heap.size w w' := by
  by_cases h8 : 8 < s.size
  · have hz : (Tryz.prog.info? 121).map (fun i => (i.zero, i.size)) = some (some (.agg (Array.replicate 256 (.bool false))), 256) := by kernel_rfl
    refine (Tryz.strings_IndexAny_long (zero_of_info hz).1 s ⟨#[40, 61]⟩ w (by decide) h8 (by omega) (by decide) (fun j b hj => ?_)).mono ?_
    · match j, hj with
      | 0, hj => simp at hj; rw [← hj]; decide
      | 1, hj => simp at hj; rw [← hj]; decide
      | j + 2, hj => simp at hj
    · rintro e1 w1 ⟨rfl, rfl⟩
      exact ⟨rfl, ((Below.refl _ _).alloc (Nat.le_refl _) _).alloc (by simp) _⟩
  · exact indexAny_short s (by omega) w
end Go.Proofs.YtcjaaknnfohllaaGreatDoor

/- Reading a node's line: what the program's reader and the reference's read; one law. -/
namespace Go.Proofs.YtcjaaknnfohllaaGreatDoor
open Go.RowKit

def nmCh (c : UInt8) : Bool := !(c == 40 || c == 61)
def dropH (c : UInt8) (l : List UInt8) : List UInt8 := match l with
  | [] => []
  | x :: r => if x = c then r else x :: r
theorem dropH_yes (c : UInt8) (r : List UInt8) : dropH c (c :: r) = r := by unfold dropH; exact if_pos rfl
theorem dropH_no (c : UInt8) (l : List UInt8) (h : ∀ r, l ≠ c :: r) : dropH c l = l := by
  unfold dropH
  split
  · rfl
  · rename_i x r
    exact if_neg (fun e => h r (by rw [e]))
def mkB (l : List UInt8) : ByteArray := ⟨l.toArray⟩
theorem mkB_data (s : ByteArray) : mkB s.data.toList = s := by
  cases s with | mk d => unfold mkB; simp
/-- The subscripts behind the bracket, as the reference reads them. -/
def subsS (F : Nat) : Nat → List UInt8 → List ByteArray × List UInt8
  | 0, l => ([], l)
  | f + 1, l => if [44].isPrefixOf (tS F l).2 then (mkB (tS F l).1 :: (subsS F f ((tS F l).2.drop 1)).1, (subsS F f ((tS F l).2.drop 1)).2) else ([mkB (tS F l).1], (tS F l).2)
/-- .. as the program reads them, at most k more. -/
def openCh (l : List UInt8) : Bool := [40].isPrefixOf l || [44].isPrefixOf l
def subsI : Nat → List UInt8 → Option (List ByteArray × List UInt8)
  | 0, l => if openCh l then none else some ([], l)
  | k + 1, l => if openCh l then (subsI k (sI (l.drop 1)).2).map (fun p => (mkB (sI (l.drop 1)).1 :: p.1, p.2)) else some ([], l)
def rlS (T : List UInt8) : Nod :=
  if [40].isPrefixOf ((dropH 94 T).dropWhile nmCh) then
    ⟨mkB ((dropH 94 T).takeWhile nmCh), (subsS (T.length + 1) (T.length + 1) (((dropH 94 T).dropWhile nmCh).drop 1)).1, mkB (tS (T.length + 1) (dropH 61 (dropH 41 (subsS (T.length + 1) (T.length + 1) (((dropH 94 T).dropWhile nmCh).drop 1)).2))).1⟩
  else ⟨mkB ((dropH 94 T).takeWhile nmCh), [], mkB (tS (T.length + 1) (dropH 61 ((dropH 94 T).dropWhile nmCh))).1⟩
def rlI (T : List UInt8) : Option Nod :=
  if (dropH 94 T).dropWhile nmCh = [] then none
  else (subsI 4 ((dropH 94 T).dropWhile nmCh)).map fun p => ⟨mkB ((dropH 94 T).takeWhile nmCh), p.1, mkB (sI (dropH 61 (dropH 41 p.2))).1⟩
def rdlS (T : List UInt8) : Option Nod := if 60000 < T.length then none else if nodeLineP (rlS T) = T ∧ T ≠ [] then some (rlS T) else none
def rdlI (T : List UInt8) : Option Nod := match rlI T with
  | none => none
  | some n => if nodeLineP n = T ∧ T ≠ [] then some n else none

theorem name_nm (s : ByteArray) (h : nameB s = true) : ∀ c ∈ s.data.toList, nmCh c = true := by
  unfold nameB at h
  simp only [Bool.and_eq_true, decide_eq_true_eq] at h
  have h2 := h.2
  unfold nameTo at h2
  intro c hc
  obtain ⟨j, hj, e⟩ := List.getElem_of_mem hc
  have hjs : j < s.size := by simpa using hj
  have h3 := (List.all_eq_true.1 h2) j (List.mem_range.2 hjs)
  have hg : s.get! j = c := by
    have : s.get! j = s.data.toList[j] := by
      unfold ByteArray.get!
      simp [getElem!_pos s.data j (by simpa using hjs)]
    rw [this, e]
  rw [hg] at h3
  unfold nmCh
  cases h40 : c == 40
  · cases h61 : c == 61
    · rfl
    · have e61 : c = 61 := by simpa using h61
      subst e61
      revert h3
      unfold nameCh letterB digitB
      simp
  · have e40 : c = 40 := by simpa using h40
    subst e40
    revert h3
    unfold nameCh letterB digitB
    simp
theorem joinT_one (a : ByteArray) : joinT [a] = plainP a.data.toList := by
  unfold joinT; exact join_one _ _
theorem joinT_two (a b : ByteArray) (L : List ByteArray) : joinT (a :: b :: L) = plainP a.data.toList ++ 44 :: joinT (b :: L) := by
  unfold joinT
  rw [List.map_cons, List.map_cons, Lib.join_cons, Lib.join_cons]
  unfold Lib.joinTail
  rw [List.map_cons, List.flatten_cons, List.append_assoc]
  rfl
theorem num_no (c : UInt8) (h : c = 44 ∨ c = 41) : ∀ (c' : UInt8) (r r' : List UInt8), c :: r' = c' :: r → numCh c' = false := by
  intro c' r r' e
  injection e with e1 _
  subst e1
  rcases h with rfl | rfl <;> decide
theorem no_head (c d : UInt8) (h : c ≠ d) (r' : List UInt8) : ∀ r, c :: r' ≠ d :: r := fun r e => by injection e with e1 _; exact h e1
theorem tS_sub (F : Nat) (a : ByteArray) (c : UInt8) (hc : c = 44 ∨ c = 41) (r : List UInt8) (hF : a.size < F) : tS F (plainP a.data.toList ++ c :: r) = (a.data.toList, c :: r) :=
  tS_plain a.data.toList (c :: r) F (by rw [len_list]; exact hF) (no_head c 34 (by rcases hc with rfl | rfl <;> decide) r) (no_head c 95 (by rcases hc with rfl | rfl <;> decide) r) (fun c' r' e => num_no c hc c' r' r e)
theorem sI_sub (a : ByteArray) (c : UInt8) (hc : c = 44 ∨ c = 41) (r : List UInt8) : sI (plainP a.data.toList ++ c :: r) = (a.data.toList, c :: r) :=
  sI_plain a.data.toList (c :: r) (no_head c 34 (by rcases hc with rfl | rfl <;> decide) r) (no_head c 95 (by rcases hc with rfl | rfl <;> decide) r) (fun c' r' e => num_no c hc c' r' r e)
theorem tS_val (F : Nat) (a : ByteArray) (hF : a.size < F) : tS F (plainP a.data.toList) = (a.data.toList, []) := by
  have h := tS_plain a.data.toList [] F (by rw [len_list]; exact hF) (fun r e => by cases e) (fun r e => by cases e) (fun c r e => by cases e)
  rw [List.append_nil] at h; exact h
theorem sI_val (a : ByteArray) : sI (plainP a.data.toList) = (a.data.toList, []) := by
  have h := sI_plain a.data.toList [] (fun r e => by cases e) (fun r e => by cases e) (fun c r e => by cases e)
  rw [List.append_nil] at h; exact h
theorem subsS_join (F : Nat) (z : List UInt8) : ∀ (L : List ByteArray) (a : ByteArray) (f : Nat), L.length < f → (∀ y ∈ a :: L, y.size < F) → subsS F f (joinT (a :: L) ++ 41 :: z) = (a :: L, 41 :: z)
  | [], a, 0, h, _ => by simp at h
  | [], a, f + 1, _, hF => by
    unfold subsS
    rw [joinT_one, tS_sub F a 41 (.inr rfl) z (hF a (List.mem_cons_self ..))]
    show (if [44].isPrefixOf (41 :: z) then _ else _) = _
    rw [if_neg (by simp [List.isPrefixOf])]
    show ([mkB a.data.toList], _) = _
    rw [mkB_data]
  | b :: L, a, 0, h, _ => by simp at h
  | b :: L, a, f + 1, h, hF => by
    have ih := subsS_join F z L b f (by simp at h ⊢; omega) (fun y hy => hF y (List.mem_cons_of_mem _ hy))
    unfold subsS
    rw [joinT_two, List.append_assoc, List.cons_append, tS_sub F a 44 (.inl rfl) _ (hF a (List.mem_cons_self ..))]
    show (if [44].isPrefixOf (44 :: (joinT (b :: L) ++ 41 :: z)) then _ else _) = _
    rw [if_pos (by simp [List.isPrefixOf])]
    show (mkB a.data.toList :: (subsS F f (joinT (b :: L) ++ 41 :: z)).1, (subsS F f (joinT (b :: L) ++ 41 :: z)).2) = _
    rw [ih, mkB_data]
theorem openCh_yes (c : UInt8) (hc : c = 40 ∨ c = 44) (r : List UInt8) : openCh (c :: r) = true := by
  unfold openCh; rcases hc with rfl | rfl <;> simp [List.isPrefixOf]
theorem openCh_no (c : UInt8) (hc : c ≠ 40) (hc2 : c ≠ 44) (r : List UInt8) : openCh (c :: r) = false := by
  unfold openCh
  simp [List.isPrefixOf]
  exact ⟨fun e => hc e.symm, fun e => hc2 e.symm⟩
theorem subsI_join (z : List UInt8) : ∀ (L : List ByteArray) (c : UInt8) (k : Nat), (c = 40 ∨ c = 44) → L ≠ [] → L.length ≤ k → subsI k (c :: (joinT L ++ 41 :: z)) = some (L, 41 :: z)
  | [], _, _, _, h, _ => absurd rfl h
  | _ :: _, _, 0, _, _, h => by simp at h
  | [a], c, k + 1, hc, _, _ => by
    unfold subsI
    rw [if_pos (openCh_yes c hc _)]
    show (subsI k (sI (joinT [a] ++ 41 :: z)).2).map _ = _
    rw [List.drop_succ_cons, List.drop_zero, joinT_one, sI_sub a 41 (.inr rfl) z]
    have h0 : subsI k (41 :: z) = some ([], 41 :: z) := by
      cases k <;> (unfold subsI; rw [if_neg (by rw [openCh_no 41 (by decide) (by decide)]; exact Bool.false_ne_true)])
    show (subsI k (41 :: z)).map _ = _
    rw [h0]
    show some ([mkB a.data.toList], _) = _
    rw [mkB_data]
  | a :: b :: L, c, k + 1, hc, _, hk => by
    have ih := subsI_join z (b :: L) 44 k (.inr rfl) (by simp) (by simp at hk ⊢; omega)
    unfold subsI
    rw [if_pos (openCh_yes c hc _), List.drop_succ_cons, List.drop_zero, joinT_two, List.append_assoc, List.cons_append, sI_sub a 44 (.inl rfl) _]
    show (subsI k (44 :: (joinT (b :: L) ++ 41 :: z))).map _ = _
    rw [ih]
    show some (mkB a.data.toList :: _, _) = _
    rw [mkB_data]

theorem line_parts (x : Nod) (h : nodB x = true) :
    dropH 94 (lineT x) = x.name.data.toList ++ (subsT x.subs ++ 61 :: plainP x.value.data.toList) ∧
    (dropH 94 (lineT x)).takeWhile nmCh = x.name.data.toList ∧ (dropH 94 (lineT x)).dropWhile nmCh = subsT x.subs ++ 61 :: plainP x.value.data.toList := by
  have h1 : dropH 94 (lineT x) = x.name.data.toList ++ (subsT x.subs ++ 61 :: plainP x.value.data.toList) := dropH_yes _ _
  have hn : ∀ c ∈ x.name.data.toList, nmCh c = true := by
    unfold nodB at h
    simp only [Bool.and_eq_true] at h
    exact name_nm _ h.1.1
  have h2 := takeWhile_all nmCh (subsT x.subs ++ 61 :: plainP x.value.data.toList) (fun c r e => by
    unfold subsT at e
    split at e
    · rw [List.nil_append] at e; injection e with e _; subst e; rfl
    · rw [List.cons_append] at e; injection e with e _; subst e; rfl) _ hn
  rw [h1]
  exact ⟨rfl, h2⟩
theorem line_sizes (x : Nod) : (∀ y ∈ x.subs, y.size < (lineT x).length + 1) ∧ x.subs.length < (lineT x).length + 1 ∧ x.value.size < (lineT x).length + 1 := by
  have hv := plainP_ge x.value.data.toList
  rw [len_list] at hv
  have hl : (lineT x).length = 1 + (x.name.data.toList.length + ((subsT x.subs).length + (1 + (plainP x.value.data.toList).length))) := by
    unfold lineT
    simp only [List.length_cons, List.length_append]; omega
  have hj : ∀ L : List ByteArray, (∀ y ∈ L, y.size ≤ (joinT L).length) ∧ L.length ≤ (joinT L).length + 1 := by
    intro L
    induction L with
    | nil => exact ⟨fun y hy => absurd hy List.not_mem_nil, Nat.zero_le _⟩
    | cons a L ih =>
      have ha := plainP_ge a.data.toList
      rw [len_list] at ha
      cases L with
      | nil =>
        rw [joinT_one]
        exact ⟨fun y hy => by rw [List.mem_singleton] at hy; subst hy; exact ha, by simp⟩
      | cons b L =>
        rw [joinT_two, List.length_append, List.length_cons]
        refine ⟨fun y hy => ?_, ?_⟩
        · rcases List.mem_cons.1 hy with rfl | hy
          · omega
          · have := ih.1 y hy; omega
        · have := ih.2; simp only [List.length_cons] at this ⊢; omega
  have hs : x.subs = [] ∨ (subsT x.subs).length = (joinT x.subs).length + 2 := by
    by_cases h0 : x.subs = []
    · exact .inl h0
    · refine .inr ?_
      unfold subsT
      rw [if_neg h0]
      simp
  rcases hs with h0 | hs
  · rw [h0]
    exact ⟨fun y hy => absurd hy List.not_mem_nil, by simp, by omega⟩
  · exact ⟨fun y hy => by have := (hj x.subs).1 y hy; omega, by have := (hj x.subs).2; omega, by omega⟩
theorem rlS_line (x : Nod) (h : nodB x = true) : rlS (lineT x) = x := by
  obtain ⟨_, h2, h3⟩ := line_parts x h
  obtain ⟨z1, z2, z3⟩ := line_sizes x
  obtain ⟨nm, L, v⟩ := x
  generalize hT : lineT ⟨nm, L, v⟩ = T at *
  unfold rlS
  rw [h2, h3]
  show (if [40].isPrefixOf (subsT L ++ 61 :: plainP v.data.toList) then _ else _) = _
  cases L with
  | nil =>
    show (if [40].isPrefixOf (61 :: plainP v.data.toList) then _ else Nod.mk (mkB nm.data.toList) [] (mkB (tS (T.length + 1) (dropH 61 (61 :: plainP v.data.toList))).1)) = _
    rw [if_neg (by simp [List.isPrefixOf]), dropH_yes, tS_val _ v z3, mkB_data, mkB_data]
  | cons a L =>
    have hsub : subsT (a :: L) ++ 61 :: plainP v.data.toList = 40 :: (joinT (a :: L) ++ 41 :: (61 :: plainP v.data.toList)) := by
      unfold subsT; rw [if_neg (by simp)]; simp
    show (if [40].isPrefixOf (subsT (a :: L) ++ 61 :: plainP v.data.toList) then Nod.mk (mkB nm.data.toList) (subsS (T.length + 1) (T.length + 1) ((subsT (a :: L) ++ 61 :: plainP v.data.toList).drop 1)).1 (mkB (tS (T.length + 1) (dropH 61 (dropH 41 (subsS (T.length + 1) (T.length + 1) ((subsT (a :: L) ++ 61 :: plainP v.data.toList).drop 1)).2))).1) else _) = _
    rw [hsub, if_pos (by simp [List.isPrefixOf]), List.drop_succ_cons, List.drop_zero, subsS_join _ _ L a _ (by have : (a :: L).length < T.length + 1 := z2; simp at this; omega) z1]
    show Nod.mk (mkB nm.data.toList) (a :: L) (mkB (tS (T.length + 1) (dropH 61 (dropH 41 (41 :: (61 :: plainP v.data.toList))))).1) = _
    rw [dropH_yes, dropH_yes, tS_val _ v z3, mkB_data, mkB_data]
theorem rlI_line (x : Nod) (h : nodB x = true) : rlI (lineT x) = some x := by
  obtain ⟨_, h2, h3⟩ := line_parts x h
  have h4 := (nodB_facts h).2.1
  obtain ⟨nm, L, v⟩ := x
  generalize hT : lineT ⟨nm, L, v⟩ = T at *
  unfold rlI
  rw [h2, h3]
  cases L with
  | nil =>
    show (if 61 :: plainP v.data.toList = [] then none else (subsI 4 (61 :: plainP v.data.toList)).map _) = _
    rw [if_neg (by simp)]
    have h0 : subsI 4 (61 :: plainP v.data.toList) = some ([], 61 :: plainP v.data.toList) := by
      unfold subsI; rw [if_neg (by rw [openCh_no 61 (by decide) (by decide)]; exact Bool.false_ne_true)]
    rw [h0]
    show some (Nod.mk (mkB nm.data.toList) [] (mkB (sI (dropH 61 (dropH 41 (61 :: plainP v.data.toList)))).1)) = _
    rw [dropH_no 41 _ (no_head 61 41 (by decide) _), dropH_yes, sI_val, mkB_data, mkB_data]
  | cons a L =>
    have hsub : subsT (a :: L) ++ 61 :: plainP v.data.toList = 40 :: (joinT (a :: L) ++ 41 :: (61 :: plainP v.data.toList)) := by
      unfold subsT; rw [if_neg (by simp)]; simp
    show (if subsT (a :: L) ++ 61 :: plainP v.data.toList = [] then none else (subsI 4 (subsT (a :: L) ++ 61 :: plainP v.data.toList)).map _) = _
    rw [hsub, if_neg (by simp), subsI_join _ (a :: L) 40 4 (.inl rfl) (by simp) h4]
    show some (Nod.mk (mkB nm.data.toList) (a :: L) (mkB (sI (dropH 61 (dropH 41 (41 :: (61 :: plainP v.data.toList))))).1)) = _
    rw [dropH_yes, dropH_yes, sI_val, mkB_data, mkB_data]
theorem line_short (x : Nod) (h : nodB x = true) : (lineT x).length ≤ 60000 := by
  have h1 := preT_len x h x.subs.length (Nat.le_refl _)
  have h2 := (nodB_facts h).2.1
  have h3 := (nodB_facts h).2.2.2
  have h4 := plainP_len x.value.data.toList
  rw [len_list] at h4
  rw [lineT_pre, List.length_append, List.length_append, List.length_append]
  split <;> simp <;> omega
theorem rdl_same (T : List UInt8) : rdlS T = rdlI T := by
  by_cases hx : ∃ x, nodB x = true ∧ lineT x = T
  · obtain ⟨x, hb, rfl⟩ := hx
    have hn : nodeLineP x = lineT x := by unfold nodeLineP; rw [if_pos hb]
    have hne : lineT x ≠ [] := by unfold lineT; simp
    unfold rdlS rdlI
    rw [if_neg (by have := line_short x hb; omega), rlS_line x hb, rlI_line x hb]
  · have hno : ∀ n, ¬ (nodeLineP n = T ∧ T ≠ []) := by
      rintro n ⟨h1, h2⟩
      unfold nodeLineP at h1
      split at h1
      · rename_i hb; exact hx ⟨n, hb, h1⟩
      · exact h2 h1.symm
    unfold rdlS rdlI
    rw [if_neg (hno _)]
    split
    · split
      · rfl
      · rename_i n _; rw [if_neg (hno n)]
    · split
      · rfl
      · rename_i n _; rw [if_neg (hno n)]
/-- What is read has a line. -/
theorem rdl_ok (T : List UInt8) (x : Nod) (h : rdlI T = some x) : nodB x = true := by
  unfold rdlI at h
  split at h
  · cases h
  · split at h
    · rename_i n _ hn
      injection h with h
      subst h
      cases hb : nodB n
      · exfalso
        unfold nodeLineP at hn
        rw [hb] at hn
        exact hn.2 hn.1.symm
      · rfl
    · cases h
end Go.Proofs.YtcjaaknnfohllaaGreatDoor

/- Reading an operation of two sites: numbers, words, what both readers guess; one law. -/
namespace Go.Proofs.YtcjaaknnfohllaaGreatDoor
open Go.RowKit

/-! ### Numbers of at most eight bytes -/
def valD (n : Nat) : List UInt8 → Nat
  | [] => n
  | c :: l => valD (if isDig c then 10 * n + dg c else n) l
def nS (x : ByteArray) : Int := if x.data.toList.head? = some 45 then -((valD 0 x.data.toList : Nat) : Int) else ((valD 0 x.data.toList : Nat) : Int)
def numS (x : ByteArray) : Int × Bool := if x.size = 0 ∨ 8 < x.size then (0, false) else (nS x, decide (decW (nS x) = x))
def numI (x : ByteArray) : Int × Bool := match Lib.atoiAll x.data.toList with
  | .ok n => if x.size ≤ 8 ∧ decW n = x then (n, true) else (0, false)
  | _ => (0, false)
theorem valD_digits : ∀ (l : List UInt8) (n : Nat), (∀ c ∈ l, isDig c = true) → valD n l = valFrom n l
  | [], _, _ => rfl
  | c :: l, n, h => by
    rw [valD, if_pos (h c (List.mem_cons_self ..)), valFrom_cons]
    exact valD_digits l _ (fun c' hc => h c' (List.mem_cons_of_mem _ hc))
theorem decW_list (n : Int) : (decW n).data.toList = Lib.itoa n := rfl
theorem decW_len (n : Int) : (decW n).size = (Lib.itoa n).length := List.size_toArray
theorem dec_ne (u : Nat) : Lib.decDigits u ≠ [] := by
  have h := decDigits_ge 0 (max u 1) (by omega)
  intro e
  by_cases h0 : u = 0
  · subst h0; rw [Lib.decDigits_one (by decide)] at e; cases e
  · rw [show max u 1 = u by omega, e] at h; simp at h
theorem dec_head (u : Nat) : ∃ c r, Lib.decDigits u = c :: r ∧ isDig c = true := by
  cases h : Lib.decDigits u with
  | nil => exact absurd h (dec_ne u)
  | cons c r => exact ⟨c, r, rfl, decDigits_dig u c (by rw [h]; exact List.mem_cons_self ..)⟩
theorem dig_no {c : UInt8} (h : isDig c = true) : c.toNat ≠ 43 ∧ c.toNat ≠ 45 := by
  unfold isDig at h
  rw [decide_eq_true_eq] at h
  omega
theorem itoa_pos (n : Int) (h : 0 ≤ n) : Lib.itoa n = Lib.decDigits n.toNat := by
  obtain ⟨u, rfl⟩ := Int.eq_ofNat_of_zero_le h
  rw [Lib.itoa_nonneg]; rfl
theorem itoa_min (n : Int) (h : n < 0) : Lib.itoa n = 45 :: Lib.decDigits n.natAbs := by
  obtain ⟨u, hu⟩ : ∃ u : Nat, n = -(u : Int) := ⟨n.natAbs, by omega⟩
  rw [hu, Lib.itoa_neg u (by omega)]
  congr 2
  omega
theorem nS_dec (n : Int) : nS (decW n) = n := by
  unfold nS
  rw [decW_list]
  by_cases h : 0 ≤ n
  · rw [itoa_pos n h]
    obtain ⟨c, r, e, hd⟩ := dec_head n.toNat
    have h45 : (Lib.decDigits n.toNat).head? ≠ some 45 := by
      rw [e]
      intro e2
      have e3 : c = 45 := Option.some.inj e2
      rw [e3] at hd
      exact absurd hd (by decide)
    rw [if_neg h45, valD_digits _ _ (decDigits_dig _), decDigits_val]
    omega
  · rw [itoa_min n (by omega)]
    rw [if_pos (show (45 :: Lib.decDigits n.natAbs).head? = some 45 from rfl)]
    have : valD 0 (45 :: Lib.decDigits n.natAbs) = valD 0 (Lib.decDigits n.natAbs) := by
      rw [valD, if_neg (by decide)]
    rw [this, valD_digits _ _ (decDigits_dig _), decDigits_val]
    omega
theorem parse_digits : ∀ (l : List UInt8) (acc : Nat), (∀ c ∈ l, isDig c = true) → valFrom acc l < 1844674407370955162 → Lib.parseUint10 acc l = .ok (valFrom acc l)
  | [], _, _, _ => rfl
  | c :: l, acc, hd, hv => by
    have hc := hd c (List.mem_cons_self ..)
    have hc2 := hc
    unfold isDig at hc2
    rw [decide_eq_true_eq] at hc2
    rw [valFrom_cons] at hv ⊢
    have hge := valFrom_ge l (10 * acc + dg c)
    have hdg : dg c = c.toNat - 48 := by unfold dg; omega
    rw [Lib.parseUint10, if_pos hc2, if_neg (by omega), if_neg (by omega), show acc * 10 + (c.toNat - 48) = 10 * acc + dg c by omega]
    exact parse_digits l _ (fun c' h => hd c' (List.mem_cons_of_mem _ h)) hv
theorem small_dec {u k : Nat} (h : (Lib.decDigits u).length ≤ k) : u < 10 ^ k := by
  rcases Nat.lt_or_ge u (10 ^ k) with h' | h'
  · exact h'
  · have := decDigits_ge k u h'; omega
theorem atoi_itoa (n : Int) (h : (Lib.itoa n).length ≤ 8) : Lib.atoiAll (Lib.itoa n) = .ok n := by
  by_cases h0 : 0 ≤ n
  · rw [itoa_pos n h0] at h ⊢
    have hs := small_dec h
    obtain ⟨c, r, e, hd⟩ := dec_head n.toNat
    have hp : Lib.parseMag (Lib.decDigits n.toNat) = .ok n.toNat := by
      unfold Lib.parseMag
      rw [if_neg (dec_ne _), parse_digits _ _ (decDigits_dig _) (by rw [decDigits_val]; omega), decDigits_val]
    rw [e] at hp ⊢
    rw [Lib.atoiAll_plain c r (dig_no hd).1 (dig_no hd).2, hp]
    unfold Lib.signless
    simp only
    rw [if_neg (by omega)]
    congr 1
    omega
  · rw [itoa_min n (by omega)] at h ⊢
    rw [List.length_cons] at h
    have hs := small_dec (u := n.natAbs) (k := 8) (by omega)
    have hp : Lib.parseMag (Lib.decDigits n.natAbs) = .ok n.natAbs := by
      unfold Lib.parseMag
      rw [if_neg (dec_ne _), parse_digits _ _ (decDigits_dig _) (by rw [decDigits_val]; omega), decDigits_val]
    rw [Lib.atoiAll_minus, hp]
    unfold Lib.signed
    simp only
    rw [if_neg (by omega)]
    congr 1
    omega
theorem itoa_ne (n : Int) : 1 ≤ (Lib.itoa n).length := by
  by_cases h0 : 0 ≤ n
  · rw [itoa_pos n h0]
    exact List.length_pos_iff.2 (dec_ne _)
  · rw [itoa_min n (by omega)]; simp
theorem numS_dec (n : Int) (h : (decW n).size ≤ 8) : numS (decW n) = (n, true) := by
  have h1 := itoa_ne n
  rw [← decW_len] at h1
  unfold numS
  rw [if_neg (by omega), nS_dec, decide_eq_true rfl]
theorem numI_dec (n : Int) (h : (decW n).size ≤ 8) : numI (decW n) = (n, true) := by
  unfold numI
  rw [decW_list, atoi_itoa n (by rw [← decW_len]; exact h)]
  exact if_pos ⟨h, rfl⟩
theorem numS_ok {x : ByteArray} (h : (numS x).2 = true) : decW (numS x).1 = x ∧ x.size ≤ 8 := by
  unfold numS at h ⊢
  split at h
  · cases h
  · rename_i h1
    rw [if_neg h1]
    exact ⟨of_decide_eq_true h, by omega⟩
theorem numI_ok {x : ByteArray} (h : (numI x).2 = true) : decW (numI x).1 = x ∧ x.size ≤ 8 := by
  unfold numI at h ⊢
  split at h
  · rename_i n hn
    split at h
    · rename_i h2
      simp only [if_pos h2]
      exact ⟨h2.2, h2.1⟩
    · cases h
  · cases h
theorem num_SI {x : ByteArray} (h : (numS x).2 = true) : numI x = numS x := by
  obtain ⟨h1, h2⟩ := numS_ok h
  have h3 := numI_dec (numS x).1 (by rw [h1]; exact h2)
  rw [h1] at h3
  rw [h3]
  exact Prod.ext rfl h.symm
theorem num_IS {x : ByteArray} (h : (numI x).2 = true) : numS x = numI x := by
  obtain ⟨h1, h2⟩ := numI_ok h
  have h3 := numS_dec (numI x).1 (by rw [h1]; exact h2)
  rw [h1] at h3
  rw [h3]
  exact Prod.ext rfl h.symm
/-- A word that is the numeral of what was read of it is a number. -/
theorem numS_same {x : ByteArray} (h : decW (numS x).1 = x) : (numS x).2 = true := by
  unfold numS at h ⊢
  split at h
  · rename_i h1
    exfalso
    have hz : (decW 0).size = 1 := by rw [decW_len, itoa_pos 0 (by decide)]; show (Lib.decDigits 0).length = 1; rw [Lib.decDigits_one (by decide)]; rfl
    have : x.size = 1 := by rw [← h]; exact hz
    omega
  · rename_i h1
    rw [if_neg h1]
    exact decide_eq_true h

/-! ### The words of a joined text -/
def wrds (s : ByteArray) : List ByteArray := fullOnes (wordsTo s (s.size + 1)).1
theorem joinW_two (a b : ByteArray) (L : List ByteArray) : joinW (a :: b :: L) = a.data.toList ++ 32 :: joinW (b :: L) := by
  unfold joinW
  rw [List.map_cons, List.map_cons, Lib.join_cons, Lib.join_cons]
  unfold Lib.joinTail
  rw [List.map_cons, List.flatten_cons, List.append_assoc]
  rfl
theorem joinW_one (a : ByteArray) : joinW [a] = a.data.toList := by unfold joinW; exact join_one _ _
theorem get_of {s : ByteArray} {A B : List UInt8} (e : s.data.toList = A ++ B) (j : Nat) (hj : j < B.length) : s.get! (A.length + j) = B[j] := by
  have hs : A.length + j < s.size := by
    have h1 := congrArg List.length e
    rw [List.length_append, Array.length_toList] at h1
    have : s.size = A.length + B.length := h1
    omega
  have h2 := toByte_list s (A.length + j) hs
  rw [e, List.getElem?_append_right (by omega), Nat.add_sub_cancel_left, List.getElem?_eq_getElem hj] at h2
  exact (Option.some.inj h2).symm
theorem ext_of {s : ByteArray} {A X B : List UInt8} (e : s.data.toList = A ++ (X ++ B)) : s.extract A.length (A.length + X.length) = mkB X := by
  rw [← mkB_data (s.extract _ _)]
  congr 1
  rw [ByteArray.data_extract, Array.toList_extract, List.extract_eq_take_drop, e, List.drop_left, Nat.add_sub_cancel_left, List.take_left]
theorem words_go (s : ByteArray) : ∀ (L : List ByteArray) (x : ByteArray) (A : List UInt8) (done : List ByteArray), s.data.toList = A ++ joinW (x :: L) → (∀ y ∈ x :: L, noSp y = true) → wordsTo s A.length = (done, A.length) → (wordsTo s (s.size + 1)).1 = done ++ x :: L
  | [], x, A, done, e, hn, hw => by
    rw [joinW_one] at e
    have hsz : s.size = A.length + x.size := by
      have h1 := congrArg List.length e
      rw [List.length_append, Array.length_toList, Array.length_toList] at h1
      exact h1
    have hx := hn x (List.mem_cons_self ..)
    have hsk := wordsTo_skip s A.length x.size (by omega) (fun j hj => by
      have hjl : j < x.data.toList.length := by rw [Array.length_toList]; exact hj
      rw [get_of e j hjl]
      have h2 := (List.all_eq_true.1 hx) _ (List.getElem_mem hjl)
      intro e32
      rw [bne_iff_ne] at h2
      exact h2 (u8_eq e32))
    have hex := ext_of (B := []) (by rw [List.append_nil]; exact e)
    have hxl : x.data.toList.length = x.size := Array.length_toList
    rw [hxl] at hex
    have hex' : s.extract A.length (A.length + x.size) = x := by
      rw [hex]; exact mkB_data x
    rw [hsz, wordsTo, if_pos (.inl hsz.symm), hsk, hw]
    show done ++ [s.extract A.length (A.length + x.size)] = _
    rw [hex']
  | y :: L, x, A, done, e, hn, hw => by
    rw [joinW_two] at e
    have hsz : s.size = A.length + (x.size + (1 + (joinW (y :: L)).length)) := by
      have h1 := congrArg List.length e
      rw [List.length_append, List.length_append, List.length_cons, Array.length_toList, Array.length_toList] at h1
      have h2 : s.size = A.length + (x.size + ((joinW (y :: L)).length + 1)) := h1
      omega
    have hx := hn x (List.mem_cons_self ..)
    have hsk := wordsTo_skip s A.length x.size (by omega) (fun j hj => by
      have hjl : j < x.data.toList.length := by rw [Array.length_toList]; exact hj
      rw [get_of e j (by rw [List.length_append]; omega), List.getElem_append_left hjl]
      have h2 := (List.all_eq_true.1 hx) _ (List.getElem_mem hjl)
      intro e32
      rw [bne_iff_ne] at h2
      exact h2 (u8_eq e32))
    have hex := ext_of e
    have hxl : x.data.toList.length = x.size := Array.length_toList
    rw [hxl] at hex
    have hex' : s.extract A.length (A.length + x.size) = x := by
      rw [hex]; exact mkB_data x
    have h32 : s.get! (A.length + x.size) = 32 := by
      have hl : x.data.toList.length = x.size := Array.length_toList
      have := get_of e x.size (by rw [List.length_append, List.length_cons]; omega)
      rw [this, List.getElem_append_right (by omega)]
      simp [hl]
    have hnext : wordsTo s (A ++ (x.data.toList ++ [32])).length = (done ++ [x], (A ++ (x.data.toList ++ [32])).length) := by
      have hl : (A ++ (x.data.toList ++ [32])).length = A.length + x.size + 1 := by
        rw [List.length_append, List.length_append, List.length_singleton, hxl]
        omega
      rw [hl, wordsTo, if_pos (.inr (by rw [h32]; rfl)), hsk, hw]
      show (done ++ [s.extract A.length (A.length + x.size)], _) = _
      rw [hex']
    have ih := words_go s L y (A ++ (x.data.toList ++ [32])) (done ++ [x]) (by rw [e]; simp) (fun z hz => hn z (List.mem_cons_of_mem _ hz)) hnext
    rw [ih, List.append_assoc]
    rfl
theorem words_join (s : ByteArray) (L : List ByteArray) (e : joinW L = s.data.toList) (hL : L ≠ []) (hn : L.all noSp = true) (hp : ∀ x ∈ L, 1 ≤ x.size) : wrds s = L := by
  cases L with
  | nil => exact absurd rfl hL
  | cons x L =>
    have h := words_go s L x [] [] (by rw [List.nil_append]; exact e.symm) (fun y hy => (List.all_eq_true.1 hn) y hy) rfl
    unfold wrds
    rw [h, List.nil_append]
    unfold fullOnes
    rw [List.filter_eq_self]
    intro y hy
    have := hp y hy
    rw [bne_iff_ne]
    omega
end Go.Proofs.YtcjaaknnfohllaaGreatDoor
