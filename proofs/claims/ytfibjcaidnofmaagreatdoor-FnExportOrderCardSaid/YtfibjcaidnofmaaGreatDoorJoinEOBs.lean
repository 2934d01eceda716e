/- A drawn tree: PutNode, l22Tree, DrawExportTree of the reference walked. -/
import Derived.Test.YtfibjcaidnofmaaGreatDoorJoinEOBr
import Derived.Test.YtfibjcaidnofmaaGreatDoorJoinEOAw
import Derived.Test.YtfibjcaidnofmaaGreatDoorShelfL
import Derived.Test.YtfibjcaidnofmaaGreatDoorJoinEOAa
import Derived.Lib.MapLaws
import Derived.Lib.SpaceUEq
import Derived.Lib.QuoteLoop
import Derived.Laws.RangeAny
import Derived.Laws.Runes
import Derived.WalkMore
import Derived.Lib.OthersKept
import Derived.Deep.LoopGhost
import Derived.Test.YtfibjcaidnofmaaGreatDoorJoinEOAj
import Derived.Test.YtfibjcaidnofmaaGreatDoorRows
import Derived.WalkKit
import Derived.ProofKit
import Derived.OpenShut
import Derived.ShutString
import Derived.Deep.Slices
import Derived.Deep.Fields
import Derived.ChangeSame
import Derived.SizedLaws
import Derived.SliceStrings
import Derived.Test.YtfibjcaidnofmaaGreatDoorJoinEOAq
import Derived.Test.YtfibjcaidnofmaaGreatDoorCards
import Derived.Test.YtfibjcaidnofmaaGreatDoorTie
import Derived.Deep.DeepHandedRow
import Derived.Lay
import Derived.Lib.LaidTab
import Derived.Lib.LaidU8
import Derived.Shelf.Vars
namespace Go.Proofs.YtfibjcaidnofmaaGreatDoor
open Go.RowKit

theorem TSm.nods {m : Nat} {ts : List TyNode} (h : TSm m ts) (hm : m ≤ 1000) : NodsSmall (ts.map nodOf) :=
  ⟨by rw [List.length_map]; have := h.1; omega, fun x hx => by
    obtain ⟨y, hy, rfl⟩ := List.mem_map.1 hx
    have h1 := h.2 y hy
    exact ⟨by have := h1.1; show y.1.size ≤ _; omega, by have := h1.2.2.2; show y.2.2.size ≤ _; omega, by have := h1.2.1; show y.2.1.length ≤ _; omega, fun z hz => by have := h1.2.2.1 z hz; omega⟩⟩
theorem treR_own {w : World} {lo hi : Nat} {A : Option Addr} {c : Nat} {ts : List TyNode} (h : shTree.R w lo hi [.slice A ts.length c] ts) : TreR w lo hi (.agg #[.slice A ts.length c]) (ts.map nodOf) :=
  ⟨A, c, by rw [List.length_map], by rw [List.length_map]; exact nodesR_of h⟩

set_option maxHeartbeats 4000000 in
set_option maxRecDepth 100000 in
theorem putNode_any (A : Option Addr) (c lo hi m : Nat) (ts : List TyNode) (nm vl : ByteArray) (B : Option Addr) (d lo' hi' : Nat) (ys : List ByteArray) (w : World) (h : Own shTree w lo hi [.slice A ts.length c] ts) (hy : StrR w lo' hi' B ys.length ys) (hhi : hi ≤ w.heap.size) (hhi' : hi' ≤ w.heap.size) (hs : TSm m ts) (hm : m < 120) (hx : NSm (nm, ys, vl)) :
    Calls Tryz.prog 80 #[.agg #[.slice A ts.length c], .string nm, .slice B ys.length d, .string vl] w fun e w' => ∃ A' c' ts' k, e = .returned (.tuple #[.agg #[.slice A' (ts' : List TyNode).length c'], .int .i64 k]) ∧ Own shTree w' w.heap.size w'.heap.size [.slice A' ts'.length c'] ts' ∧ TSm (m + 1) ts' ∧ Below w.heap.size w w' := by
  have hsT := hs.smT (by omega)
  have hb1 := (Below.refl w.heap.size w).alloc (Nat.le_refl _) (.cells #[.slice A ts.length c] 26)
  have hb2 := hb1.alloc (by simp) (.cells #[.slice none 0 0] 26)
  obtain ⟨W2, hW2⟩ : ∃ W2, W2 = (w.alloc (.cells #[.slice A ts.length c] 26)).alloc (.cells #[.slice none 0 0] 26) := ⟨_, rfl⟩
  have hz2 : W2.heap.size = w.heap.size + 2 := by rw [hW2]; simp
  have B0 := Lib.hid (show Blk W2 w.heap.size 26 #[.slice A ts.length c] from by rw [hW2]; exact (Blk.new w 26 #[.slice A ts.length c]).alloc _)
  have B1 := Lib.hid (show Blk W2 (w.heap.size + 1) 26 #[.slice none 0 0] from by
    rw [hW2]
    have := Blk.new (w.alloc (.cells #[.slice A ts.length c] 26)) 26 #[.slice none 0 0]
    rw [heap_alloc_size1] at this
    exact this)
  rw [← hW2] at hb2
  have h2 := h.below hb2 hhi
  have hy2 := hy.below hb2 hhi'
  have HB2 := Lib.hid hb2
  have HS := Lib.hid hs; have HX := Lib.hid hx
  have HT := Lib.hid (specTreeOk_any (ts.map nodOf) _ lo hi W2 (treR_own h2.reads) (by omega) (hs.nods (by omega)))
  have H2 := Lib.hid h2; have HY2 := Lib.hid hy2
  have f0 := B0.out.cell
  have hx1 : nm.size ≤ 24 := hx.1
  have hx2 : ys.length ≤ 5 := hx.2.1
  have hx4 : vl.size ≤ 65 := hx.2.2.2
  clear h hy h2 hy2 hs hx hb1 hb2
  go_enter Tryz.func80, Tryz.ntmps80
  go_upto_region 1 with fail
  rw [← hW2]
  clear hW2
  go_wp2_with fail
  refine HT.out.mono ?_
  rintro e3 w3 ⟨rfl, hb3⟩
  have HB3 := Lib.hid (HB2.out.trans (hb3.mono (by omega)))
  have H3 := Lib.hid (H2.out.below hb3 (by omega)); have HY3 := Lib.hid (HY2.out.below hb3 (by omega))
  have B03 := Lib.hid (B0.out.below hb3 B0.out.lt); have B13 := Lib.hid (B1.out.below hb3 B1.out.lt)
  have s3 := hb3.size
  clear hb3 HB2 HT H2 HY2 B0 B1 f0
  have HP := Lib.hid (specPlace_any nm B ys.length d lo' hi' ys w3 (by omega) HY3.out (by omega))
  generalize treB (ts.map nodOf) = tb at *
  generalize (nameB nm && subsB ys) = pb at *
  cases tb with
  | false =>
    have f1 := B13.out.cell; have z1 := B13.out.frozen 0
    go_wp2_with fail
    refine bodyPost_ret (v := .tuple #[.agg #[.slice none 0 0], .int .i64 1]) (by simp [results, Tryz.results80, go_sem, f1]) rfl ⟨none, 0, [], 1, rfl, Own.nil_row _ _ _, ⟨Nat.zero_le _, fun x hx => by cases hx⟩, ?_⟩
    exact HB3.out.setCell (by dsimp only; omega) _
  | true =>
    cases pb with
    | false =>
      have f1 := B13.out.cell; have z1 := B13.out.frozen 0
      go_wp2_with fail
      refine HP.out.mono ?_
      rintro e4 w4 ⟨rfl, rfl⟩
      go_wp2_with fail
      refine bodyPost_ret (v := .tuple #[.agg #[.slice none 0 0], .int .i64 1]) (by simp [results, Tryz.results80, go_sem, f1]) rfl ⟨none, 0, [], 1, rfl, Own.nil_row _ _ _, ⟨Nat.zero_le _, fun x hx => by cases hx⟩, ?_⟩
      exact HB3.out.setCell (by dsimp only; omega) _
    | true =>
      by_cases hl : 64 < vl.size
      · have i1 : (64 : Int) < (vl.size : Int) := by omega
        have f1 := B13.out.cell; have z1 := B13.out.frozen 0
        go_wp2_with fail
        refine HP.out.mono ?_
        rintro e4 w4 ⟨rfl, rfl⟩
        go_wp2_with fail
        refine bodyPost_ret (v := .tuple #[.agg #[.slice none 0 0], .int .i64 1]) (by simp [results, Tryz.results80, go_sem, f1]) rfl ⟨none, 0, [], 1, rfl, Own.nil_row _ _ _, ⟨Nat.zero_le _, fun x hx => by cases hx⟩, ?_⟩
        exact HB3.out.setCell (by dsimp only; omega) _
      · have i1 : ¬ (64 : Int) < (vl.size : Int) := by omega
        have h3 := H3.out
        obtain ⟨hlen, hc, hA⟩ := own_addr h3
        have HQ := Lib.hid (l03Put_any A c lo hi ts nm vl B d lo' hi' ys w3 (own_row h3) hc HY3.out (by omega) (by omega) hsT ⟨by omega, fun y hy' => by have := HX.out.2.2.1 y hy'; omega⟩ (by have := HS.out.1; omega) hA)
        have HI := Lib.hid (HS.out.ins HX.out)
        generalize insOne befP keyT ts (nm, ys, vl) = RES at *
        have f0 := B03.out.cell
        clear h3 hlen hc hA
        go_wp2_with fail
        refine HP.out.mono ?_
        rintro e4 w4 ⟨rfl, rfl⟩
        go_wp2_with fail
        refine HQ.out.mono ?_
        rintro e5 w5 ⟨⟨A5, c5, rfl, ho5⟩, hb5⟩
        have HO5 := Lib.hid ho5
        have HB5 := Lib.hid (HB3.out.trans (hb5.mono (by omega)))
        have hB15 := B13.out.below hb5 B13.out.lt
        have f1 := hB15.cell; have z1 := hB15.frozen 0
        have s5 := hb5.size
        clear ho5 hb5 hB15 f0
        go_wp2_with fail
        refine bodyPost_ret (v := .tuple #[.agg #[.slice A5 RES.length c5], .int .i64 0]) (by simp [results, Tryz.results80, go_sem, f1]) rfl ⟨A5, c5, RES, 0, rfl, ?_, HI.out, ?_⟩
        · exact (HO5.out.setCell (by dsimp only; omega) _).more (by omega) (by simp [World.setCell])
        · exact HB5.out.setCell (by dsimp only; omega) _

end Go.Proofs.YtfibjcaidnofmaaGreatDoor

/- strings.IndexAny(s, "(=") at every text s, valid or not. -/
namespace Go.Proofs.YtfibjcaidnofmaaGreatDoor
open Go.RowKit

theorem toByte_list (s : ByteArray) (i : Nat) (h : i < s.size) : s.data.toList[i]? = some (s.get! i) := by
  rw [Array.getElem?_toList, Array.getElem?_eq_getElem (show i < s.data.size from h)]
  unfold ByteArray.get!
  simp [getElem!_pos s.data i h]
/-- A rune that does not begin with an ASCII byte: no ASCII byte stands in it; its number. -/
theorem far_rune (s : ByteArray) (i : Nat) (hi : i < s.size) (h : 128 ≤ (s.get! i).toNat) :
    128 ≤ (Utf8.decode s i).1 ∧ (Utf8.decode s i).1 ≤ 1114111 ∧ 1 ≤ (Utf8.decode s i).2 ∧ i + (Utf8.decode s i).2 ≤ s.size ∧ ∀ j, i ≤ j → j < i + (Utf8.decode s i).2 → 128 ≤ (s.get! j).toNat := by
  rw [Lib.decode_at]
  have h1 := Lib.decodeN_conts (s.size - i) (s.get! i).toNat (s.get! (i + 1)).toNat (s.get! (i + 2)).toNat (s.get! (i + 3)).toNat
  have h2 := Lib.decodeN_shape (s.size - i) (s.get! i).toNat (s.get! (i + 1)).toNat (s.get! (i + 2)).toNat (s.get! (i + 3)).toNat
  have h3 := Lib.decodeN_width_le (s.size - i) (s.get! i).toNat (s.get! (i + 1)).toNat (s.get! (i + 2)).toNat (s.get! (i + 3)).toNat (by omega)
  generalize hq : Lib.decodeN (s.size - i) (s.get! i).toNat (s.get! (i + 1)).toNat (s.get! (i + 2)).toNat (s.get! (i + 3)).toNat = Q at *
  obtain ⟨r, k⟩ := Q
  simp only [Prod.mk.injEq] at h1 h2 h3 ⊢
  have hr : 128 ≤ r ∧ r ≤ 1114111 ∧ 1 ≤ k := by
    rcases h2 with ⟨a, _⟩ | ⟨_, _, _, a, e, f⟩ | ⟨_, _, _, _, a, b, e, f⟩ | ⟨_, _, _, _, _, a, b, e, f⟩ | ⟨e, f⟩
    · omega
    · refine ⟨by omega, by omega, by omega⟩
    · refine ⟨by omega, by omega, by omega⟩
    · refine ⟨by omega, by omega, by omega⟩
    · omega
  refine ⟨hr.1, hr.2.1, hr.2.2, by omega, fun j hj1 hj2 => ?_⟩
  have hk : j = i ∨ j = i + 1 ∨ j = i + 2 ∨ j = i + 3 := by omega
  rcases hk with rfl | rfl | rfl | rfl
  · exact h
  · have := (h1.1 (by omega)).1; omega
  · have := (h1.2.1 (by omega)).1; omega
  · have := (h1.2.2.1 (by omega)).1; omega

theorem valid_same (r : Int) (h : Lib.validRune r = true) : Utf8.valid r = true := by
  unfold Lib.validRune at h
  unfold Utf8.valid
  simp only [Bool.or_eq_true, Bool.and_eq_true, decide_eq_true_eq] at *
  omega

set_option maxHeartbeats 4000000 in
set_option maxRecDepth 100000 in
theorem indexRune_far (r : Int) (h : 128 ≤ r) (hr : r ≤ 1114111) (w : World) : Calls Tryz.prog 86 #[.string ⟨#[40, 61]⟩, .int .i32 r] w fun e w' => e = .returned (.int .i64 (-1)) ∧ Below w.heap.size w w' := by
  have k1 : (0 : Int) ≤ r := by omega
  have k2 : ¬ r < 128 := by omega
  have HV := Lib.hid (fun W => Any.utf8_ValidRune { Tryz.lays152 with } r W)
  by_cases h3 : r = 65533
  · subst h3
    have hn0 : ∀ ty (w : World), (Instr.next (.pointer (some ⟨w.heap.size, 0, none⟩)) true ty).run Tryz.prog (w.iter ⟨#[40, 61]⟩ 0) = .ok (.tuple #[.bool true, .int .i64 0, .int .i32 40]) (w.iter ⟨#[40, 61]⟩ 1) := fun ty w => run_next_ascii (P := Tryz.prog) w ⟨#[40, 61]⟩ 0 ty (by decide) (by decide)
    have hn1 : ∀ ty (w : World), (Instr.next (.pointer (some ⟨w.heap.size, 0, none⟩)) true ty).run Tryz.prog (w.iter ⟨#[40, 61]⟩ 1) = .ok (.tuple #[.bool true, .int .i64 1, .int .i32 61]) (w.iter ⟨#[40, 61]⟩ 2) := fun ty w => run_next_ascii (P := Tryz.prog) w ⟨#[40, 61]⟩ 1 ty (by decide) (by decide)
    have hn2 := fun ty (w : World) => run_next_end (P := Tryz.prog) w ⟨#[40, 61]⟩ 2 ty (by decide)
    clear k1 k2
    go_enter Tryz.func86, Tryz.ntmps86
    go_wp2_with fail
    go_loopg [5, 6] 2 (fun g _ _ wx => ∃ i : Nat, i + g = 2 ∧ wx = w.iter ⟨#[40, 61]⟩ i)
    case atStart => exact ⟨0, rfl, rfl⟩
    case round =>
      obtain ⟨i, hig, rfl⟩ := hrel
      cases gk with
      | zero =>
        obtain rfl : i = 2 := by omega
        clear hn0 hn1 hig
        go_wp2_with fail
        go_ret
        exact ⟨rfl, (Below.refl _ _).alloc (Nat.le_refl _) _⟩
      | succ g =>
        rcases (show i = 0 ∨ i = 1 by omega) with rfl | rfl
        · clear hn1 hn2
          have HG := Lib.hid hig
          clear hig
          go_wp2_with fail
          go_roundg g
          case measure => omega
          case rel => exact ⟨1, by have := HG.out; omega, rfl⟩
        · clear hn0 hn2
          have HG := Lib.hid hig
          clear hig
          go_wp2_with fail
          go_roundg g
          case measure => omega
          case rel => exact ⟨2, by have := HG.out; omega, rfl⟩
  · have k3 : (r == 65533) = false := by rw [beq_eq_false_iff_ne]; exact h3
    cases hv : Lib.validRune r
    · rw [hv] at HV
      go_enter Tryz.func86, Tryz.ntmps86
      go_wp2_with fail
      refine (HV.out _).mono ?_; rintro e1 w1 ⟨rfl, rfl⟩
      go_wp2_with fail
      go_ret
      exact ⟨rfl, Below.refl _ _⟩
    · rw [hv] at HV
      obtain ⟨e1, e2, e3⟩ := encode_facts r (valid_same r hv) h
      have hcv : ∀ w : World, (convert 21 9 (.int .i32 r)).run Tryz.prog w = .ok (.string (Utf8.encode r)) w := fun w => run_convert_int_string (P := Tryz.prog) w 21 9 .i32 r (by kernel_rfl) Tryz.underlying9
      have hib : ∀ (c : Int) (W : World), Calls Tryz.prog 103 #[.string ((⟨#[40, 61]⟩ : ByteArray).extract 2 (⟨#[40, 61]⟩ : ByteArray).size), .int .u8 c] W fun e w' => e = .returned (.int .i64 (-1)) ∧ w' = W := fun c W => Any.strings_IndexByte { Tryz.lays152 with } ⟨#[]⟩ c W
      have hc2 : ((⟨#[40, 61]⟩ : ByteArray).size : Int) = 2 := rfl
      have hcn : (⟨#[40, 61]⟩ : ByteArray).size = 2 := rfl
      have hb1 : ∀ h, ((⟨#[40, 61]⟩ : ByteArray)[1]'h).toNat = 61 := fun _ => rfl
      generalize (⟨#[40, 61]⟩ : ByteArray) = C at *
      have HIB := Lib.hid hib
      have HB1 := Lib.hid hb1
      have HCN := Lib.hid hcn
      have hw2 : IntKind.i64.wrap 2 = 2 := by decide
      have c12 : (1 : Int) < (C.size : Int) := by omega
      have c22 : (2 : Int) ≤ (C.size : Int) := by omega
      have c22n : 2 ≤ C.size := by omega
      have cd : decide ((2 : Int) ≤ (C.size : Int)) = true := decide_eq_true c22
      have cdn : decide (2 ≤ C.size) = true := decide_eq_true c22n
      have HC2 := Lib.hid hc2
      clear hib hb1 hcn hc2
      generalize Utf8.encode r = E at *
      have E3 := Lib.hid e3
      have E1 := Lib.hid e1
      have E2 := Lib.hid e2
      clear hv e3
      by_cases h2 : E.size = 2
      · have h5 := E3.out (by omega)
        have g1 : E[1]'(by omega) = E[E.size - 1]'(by omega) := by congr 1; omega
        rw [← g1] at h5
        have hcs : 1 < C.size := by rw [HCN.out]; decide
        have b1 := HB1.out hcs
        rw [g1] at h5
        have q61 : (((C[1]'hcs).toNat : Int) != ((E[E.size - 1]'(by omega)).toNat : Int)) = true := by rw [bne_iff_ne, b1]; omega
        clear b1
        have s1 : (1 : Int) < (E.size : Int) := by omega
        have l2 : (E.size : Int) - 1 = 1 := by omega
        have i1 : (1 : Int) < 2 := by decide
        go_enter Tryz.func86, Tryz.ntmps86
        go_wp2_with fail
        refine (HV.out _).mono ?_; rintro e1 w1 ⟨rfl, rfl⟩
        go_wp2_with fail
        refine wp_scope_straight ?_
        go_wp2_with fail
        go_loopw [9, 10] (fun v u wr => v = .int .i64 1 ∧ u = .int .i64 0 ∧ wr = w1) (fun _ _ _ => 0)
        case atStart => exact ⟨rfl, rfl, rfl⟩
        case round =>
          obtain ⟨rfl, rfl, rfl⟩ := hrel
          go_wp2_with fail
          refine wp_scope_straight ?_
          go_wp2_with fail
          go_quiet (fail)
          go_wp2_with fail
          clear q61
          go_region_held3 (fun w' => Below wr.heap.size wr w') (first | exact below_drewN' _ _ | exact (below_drewN' wr nq).drew | assumption) (first | (go_at_call 103; refine (HIB.out _ _).mono ?_; rintro e5 w5 ⟨rfl, rfl⟩))
          go_wp2_with fail
          repeat (rw [Exit.noGoto_ret]; try go_simp)
          show Exit.inBlock 2 (Exit.noGoto (Exit.inBlock 0 _)) Exit.ret _ _
          simp only [Exit.inBlock, Exit.noGoto]
          go_ret
          exact ⟨rfl, by first | exact below_drewN' _ _ | exact (below_drewN' _ _).drew | assumption⟩
      · have h3 : 3 ≤ E.size := by omega
        have s1 : (2 : Int) ≤ (E.size : Int) - 1 := by omega
        have s2 : ¬ (E.size : Int) - 1 < (C.size : Int) := by have := HC2.out; omega
        go_enter Tryz.func86, Tryz.ntmps86
        go_wp2_with fail
        refine (HV.out _).mono ?_; rintro e1 w1 ⟨rfl, rfl⟩
        go_wp2_with fail
        refine wp_scope_straight ?_
        go_wp2_with fail
        go_loopw [9, 10] (fun v u wr => v = .int .i64 ((E.size : Int) - 1) ∧ u = .int .i64 0 ∧ wr = w1) (fun _ _ _ => 0)
        case atStart => exact ⟨rfl, rfl, rfl⟩
        case round =>
          obtain ⟨rfl, rfl, rfl⟩ := hrel
          go_wp2_with fail
          repeat (rw [Exit.noGoto_ret]; go_simp)
          go_ret
          exact ⟨rfl, Below.refl _ _⟩

theorem iterAt_size (w : World) (k : Nat) (s : ByteArray) (p : Nat) : (w.iterAt k s p).heap.size = w.heap.size := by simp [World.iterAt]
theorem below_iterAt {w0 w : World} {k : Nat} (s : ByteArray) (p : Nat) (h : Below w0.heap.size w0 w) (hk : w0.heap.size ≤ k) : Below w0.heap.size w0 (w.iterAt k s p) :=
  h.trans ⟨rfl, rfl, rfl, by rw [iterAt_size]; exact Nat.le_refl _, fun b hb => by
    show (w.heap.setIfInBounds k _)[b]? = _
    rw [Array.getElem?_setIfInBounds_ne (by omega)]⟩
theorem iter_below {w w' : World} {k : Nat} {s : ByteArray} {p : Nat} (h : w.heap[k]? = some (.stringIter s p)) (hb : Below w.heap.size w w') : w'.heap[k]? = some (.stringIter s p) :=
  (hb.block k (Array.getElem?_eq_some_iff.1 h).1).trans h
theorem far_no (s : ByteArray) (i k : Nat) (hno : Lib.NoAny s.data.toList [40, 61] i) (hk : i + k ≤ s.size) (hf : ∀ j, i ≤ j → j < i + k → 128 ≤ (s.get! j).toNat) : Lib.NoAny s.data.toList [40, 61] (i + k) := by
  intro j b hj hb
  by_cases hji : j < i
  · exact hno j b hji hb
  · have h1 := hf j (by omega) hj
    rw [toByte_list s j (by omega)] at hb
    injection hb with hb
    rw [← hb]
    generalize s.get! j = c at *
    have e1 : c ≠ 40 := fun e => by rw [e] at h1; revert h1; decide
    have e2 : c ≠ 61 := fun e => by rw [e] at h1; revert h1; decide
    simp [e1, e2]

set_option maxHeartbeats 4000000 in
set_option maxRecDepth 100000 in
theorem indexAny_short (s : ByteArray) (h8 : s.size ≤ 8) (w : World) : Calls Tryz.prog 33 #[.string s, .string ⟨#[40, 61]⟩] w fun e w' => e = .returned (.int .i64 (Lib.indexAny s.data.toList [40, 61])) ∧ Below w.heap.size w w' := by
  have h8z : decide ((8 : Int) < (s.size : Int)) = false := decide_eq_false (by omega)
  have HU := Lib.hid (fun W => Any.strings_shouldUseASCIISet { Tryz.lays153 with } (s.size : Int) W)
  rw [h8z] at HU
  have HRF := Lib.hid (fun r h1 h2 W => indexRune_far r h1 h2 W)
  have HRA := Lib.hid (fun r h1 h2 W => Tryz.strings_IndexRune_ascii ⟨#[40, 61]⟩ r W h1 h2)
  have HB0 := Lib.hid ((Below.refl w.heap.size w).alloc (Nat.le_refl _) (.stringIter s 0))
  have HI0 := Lib.hid (show (w.iter s 0).heap[w.heap.size]? = some (.stringIter s 0) from World.iter_heap w s 0)
  clear h8z
  go_enter Tryz.func33, Tryz.ntmps33
  go_wp2_with fail
  refine (HU.out _).mono ?_; rintro e1 w1 ⟨rfl, rfl⟩
  go_wp2_with fail
  go_loopg [9, 10] s.size (fun g _ _ wx => ∃ i : Nat, i + g = s.size ∧ wx.heap[w1.heap.size]? = some (.stringIter s i) ∧ Below w1.heap.size w1 wx ∧ Lib.NoAny s.data.toList [40, 61] i)
  case atStart => exact ⟨0, by omega, HI0.out, HB0.out, Lib.NoAny.zero _ _⟩
  case round =>
    obtain ⟨i, hig, hit, hbl, hno⟩ := hrel
    have HN := Lib.hid hno; have HBL := Lib.hid hbl; have HIT := Lib.hid hit
    clear hno hbl
    by_cases hi : i < s.size
    · obtain ⟨g, rfl⟩ : ∃ g, gk = g + 1 := ⟨gk - 1, by omega⟩
      have HG := Lib.hid hig; clear hig
      by_cases ha : (s.get! i).toNat < 128
      · have hg : s.get! i = s[i]'hi := by unfold ByteArray.get!; simp [getElem!_pos s.data i hi]; rfl
        have hxl := toByte_list s i hi
        rw [hg] at ha hxl
        have hnx := fun ty => Lib.run_next_ascii_at (P := Tryz.prog) wr w1.heap.size s i ty hit hi ha
        have HIW := Lib.hid (Lib.iterAt_heap wr w1.heap.size s i (i + 1) hit)
        have HBW := Lib.hid (below_iterAt s (i + 1) HBL.out (Nat.le_refl _))
        generalize hX : s[i]'hi = X at *
        have HXL := Lib.hid hxl
        have hcon := Lib.contains_iff_indexByte [40, 61] X
        have hback : ((X.toNat : Int)).toNat.toUInt8 = X := by simp
        have hrx := fun W => HRA.out (X.toNat : Int) (by omega) (by omega) W
        rw [hback] at hrx
        have HRX := Lib.hid hrx
        clear hit hg hX hxl hback hrx HRA
        cases hin : ([40, 61] : List UInt8).contains X
        · rw [hin] at hcon
          have hlt : ¬ ((0 : Int) ≤ Lib.indexByte [40, 61] X) := of_decide_eq_false hcon.symm
          have HIN := Lib.hid hin
          clear hcon hin
          go_wp2_with fail
          refine (HRX.out _).mono ?_; rintro e5 w5 ⟨rfl, rfl⟩
          go_wp2_with fail
          go_roundg g
          case measure => omega
          case rel => exact ⟨i + 1, by have := HG.out; omega, HIW.out, HBW.out, HN.out.succ HXL.out HIN.out⟩
        · rw [hin] at hcon
          have hge : (0 : Int) ≤ Lib.indexByte [40, 61] X := of_decide_eq_true hcon.symm
          have HF := Lib.hid (Lib.indexAny_hit HN.out HXL.out hin)
          clear hcon hin
          go_wp2_with fail
          refine (HRX.out _).mono ?_; rintro e5 w5 ⟨rfl, rfl⟩
          go_wp2_with fail
          go_ret
          exact ⟨by rw [HF.out]; rfl, HBW.out⟩
      · obtain ⟨f1, f2, f3, f4, f5⟩ := far_rune s i hi (by omega)
        have hnx := fun ty => Lib.run_next_any_at (P := Tryz.prog) wr w1.heap.size s i ty hit hi
        have HIW := Lib.hid (Lib.iterAt_heap wr w1.heap.size s i (i + (Utf8.decode s i).2) hit)
        have HBW := Lib.hid (below_iterAt s (i + (Utf8.decode s i).2) HBL.out (Nat.le_refl _))
        have HNW := Lib.hid (far_no s i (Utf8.decode s i).2 HN.out f4 f5)
        generalize (Utf8.decode s i).1 = R at *
        generalize (Utf8.decode s i).2 = K at *
        have HRX := Lib.hid (fun W => HRF.out (R : Int) (by omega) (by omega) W)
        clear hit f5 ha
        go_wp2_with fail
        refine (HRX.out _).mono ?_; rintro e5 w5 ⟨rfl, hb5⟩
        have HI5 := Lib.hid (iter_below HIW.out hb5)
        have HB5 := Lib.hid (HBW.out.trans (hb5.mono HBW.out.size))
        clear hb5
        go_wp2_with fail
        go_roundg (s.size - (i + K))
        case measure => have := HG.out; omega
        case rel => exact ⟨i + K, by omega, HI5.out, HB5.out, HNW.out⟩
    · have hi' : i = s.size := by omega
      have hnx := fun ty => Lib.run_next_end_at (P := Tryz.prog) wr w1.heap.size s i ty hit hi
      have HF := Lib.hid (Lib.indexAny_none (chars := [40, 61]) (by rw [← Lib.size_eq, ← hi']; exact HN.out))
      clear hit
      go_wp2_with fail
      go_ret
      exact ⟨by rw [HF.out]; rfl, HBL.out⟩
theorem indexAny_eq (s : ByteArray) (hs : s.size ≤ 1048576) (w : World) : Calls Tryz.prog 33 #[.string s, .string ⟨#[40, 61]⟩] w fun e w' => e = .returned (.int .i64 (Lib.indexAny s.data.toList [40, 61])) ∧ Below w.heap.size w w' := by
  by_cases h8 : 8 < s.size
  · have hz : (Tryz.prog.info? 115).map (fun i => (i.zero, i.size)) = some (some (.agg (Array.replicate 256 (.bool false))), 256) := by kernel_rfl
    refine (Tryz.strings_IndexAny_long (zero_of_info hz).1 s ⟨#[40, 61]⟩ w (by decide) h8 (by omega) (by decide) (fun j b hj => ?_)).mono ?_
    · match j, hj with
      | 0, hj => simp at hj; rw [← hj]; decide
      | 1, hj => simp at hj; rw [← hj]; decide
      | j + 2, hj => simp at hj
    · rintro e1 w1 ⟨rfl, rfl⟩
      exact ⟨rfl, ((Below.refl _ _).alloc (Nat.le_refl _) _).alloc (by simp) _⟩
  · exact indexAny_short s (by omega) w
end Go.Proofs.YtfibjcaidnofmaaGreatDoor

/- From the walk of a law to its row: a law that returns true and leaves what was there as it was. -/
namespace Go.Proofs.YtfibjcaidnofmaaGreatDoor
open Go.ChangeShapes Go.WideShapes Go.ChangeAt Go.RowKit

theorem own_knob : ownKnob Tryz.prog.godebug = none := by kernel_rfl
theorem laid_out : laidOutB Tryz.prog = true := by kernel_rfl

theorem trodAll_below {H : Type} {enc : TypeId × Value → H} {P : Program} (hl : laidOutB P = true) {W W' : World} (hb : Below W.heap.size W W') :
    ∀ (ts : List TypeId) (vs : List Value) (ds : List (DataW H)) (ps : List MemPlace), (∀ t ∈ ts, P.readableRec t = true ∧ t < P.types.size) → (∀ x ∈ ps, x.block < W.heap.size) →
    DataW.TrodAll enc P W 0 (fun _ => true) true ts vs ds ps → DataW.TrodAll enc P W' 0 (fun b => decide (b < W.heap.size)) true ts vs ds ps
  | [], [], [], _, _, _, h => h
  | t :: ts, v :: vs, d :: ds, ps, hr, hlt, h => by
    obtain ⟨p, q, h1, h2, rfl⟩ := h
    exact ⟨p, q, Below.trod hl (hr t (by simp)).1 (hr t (by simp)).2 h1 hb (fun x hx => hlt x (by simp [hx])),
      trodAll_below hl hb ts vs ds q (fun t ht => hr t (by simp [ht])) (fun x hx => hlt x (by simp [hx])) h2, rfl⟩
  | [], [], _ :: _, _, _, _, h => h.elim
  | [], _ :: _, _, _, _, _, h => h.elim
  | _ :: _, [], _, _, _, _, h => h.elim
  | _ :: _, _ :: _, [], _, _, _, h => h.elim

/-- The row's end of a law. -/
theorem law_post {H : Type} {enc : TypeId × Value → H} {P : Program} {f : Func} {s : ChangeSpec} {W W' : World} {args : Array Value} {ds gs : List (DataW H)} {before : List MemPlace} {tb : TypeId}
    (hvars : s.vars = []) (hW : DataW.Whole enc P f.params.toList s.vars false W args.toList ds gs before)
    (hfn : s.fn H (ds ++ gs) = { results := [.lit (.bool true)], args := ds }) (hl : laidOutB P = true) (hr : ∀ t ∈ f.params.toList, P.readableRec t = true ∧ t < P.types.size)
    (hrt : f.resultTypes = #[tb]) (htb : P.underlying tb = some .bool) (hb : Below W.heap.size W W') :
    s.post enc P f false true false false W args (.bool true) W' := by
  have hW' := hW
  have hlt : ∀ p ∈ before, p.block < W.heap.size := fun p hp => hW.lt p hp
  obtain ⟨p, q, hA, hV, rfl, hfz, hnd⟩ := hW
  rw [hvars] at hV
  obtain ⟨rfl, rfl⟩ := trodVars_none hV
  refine ⟨ds, [], p ++ [], [], p, [], hW', ?_, ?_, ?_, hb.frame _, fun h => by cases h⟩
  · rw [hfn, hrt]
    exact trodAll_cons_mk (shut_bool htb _) trodAll_mk0
  · rw [hfn]
    exact trodAll_below hl hb _ _ _ _ hr (fun x hx => hlt x (by simp [hx])) hA
  · rw [hfn, hvars]; rfl

end Go.Proofs.YtfibjcaidnofmaaGreatDoor

/- From the row's reading of an argument to the words of Mem: texts, lists of texts, lists of numbers, structs. -/
namespace Go.Proofs.YtfibjcaidnofmaaGreatDoor
open Go.ChangeShapes Go.WideShapes Go.ChangeAt Go.RowKit

theorem block_of_cell {w : World} {a : Addr} {v : Value} (h : w.cell? a = some v) : a.block < w.heap.size ∧ a.spot = none := by
  unfold World.cell? at h
  split at h
  · rename_i c t f heq
    constructor
    · rcases Nat.lt_or_ge a.block w.heap.size with hlt | hge
      · exact hlt
      · rw [Array.getElem?_eq_none hge] at heq; cases heq
    · split at h
      · cases h
      · rename_i hs; simpa using hs
  · cases h

section
variable {H : Type} {enc : TypeId × Value → H} {P : Program} {w : World} {base : Nat} {held : Bool}

end

end Go.Proofs.YtfibjcaidnofmaaGreatDoor

/- What a tied card's list of tables gives: the table that strconv reads; what package bytealg holds. -/
namespace Go.Proofs.YtfibjcaidnofmaaGreatDoor
open Go.ChangeShapes Go.WideShapes Go.ChangeAt Go.RowKit

theorem tabIs_of_reads {P : Program} {W : World} {name : String} {k : IntKind} {zs : List Int} {g : Nat} {t e : TypeId} {n : Nat}
    (hg : P.globalNamed name = some g) (hty : (P.globals[g]?).map (·.type) = some t) (ht : P.underlying t = some (.array n e)) (he : P.underlying e = some (.int k)) (hce : P.cellsOf e = 1) (hct : P.cellsOf t = n)
    (h : Lib.VarReads P W name (Lib.tabData k zs)) : Lib.TabIs P W name k zs := by
  obtain ⟨g', t', cs, fuel, p, hg', ht', hvar, hd⟩ := h
  obtain rfl := Option.some.inj (hg.symm.trans hg')
  obtain rfl := Option.some.inj (hty.symm.trans ht')
  unfold Lib.TabIs
  rw [hvar, ← Lib.cells_of_tab ht he hce hct hd]

theorem pow10_data : (Rows.laid_internal_strconv_uint64pow10 : DataW Unit) = Lib.tabData .u64 Lib.pow10Tab := by kernel_rfl
/-- What a row's list gives. -/
theorem tabsIn_of {L : List (String × DataW Unit)} {W : World} (hp : laidMetH Tryz.prog L W ↔ laidMet Tryz.prog L W) (hm : ("internal/strconv.uint64pow10", Rows.laid_internal_strconv_uint64pow10) ∈ L) (h : laidMetH Tryz.prog L W) : TabsIn W := by
  have h' := hp.1 h
  exact tabIs_of_reads (g := 3) (t := 194) (e := 107) (n := 20) (by kernel_rfl) (by kernel_rfl) Tryz.underlying194 Tryz.underlying107 (by kernel_rfl) (by kernel_rfl)
    (by have := Lib.laidMet.reads h' hm; rw [pow10_data] at this; exact this)

theorem maxLen_of {W : World} (h : W.ShapedOpen Tryz.prog) : ∃ m, W.cell? ⟨0, 0, none⟩ = some (.int .i64 m) :=
  cell_of_shapedOpen_int (t := 3) (zero := #[.int .i64 0]) h (of_decide_eq_true (by kernel_rfl)) (by kernel_rfl) rfl (by kernel_rfl) (by kernel_rfl) Tryz.underlying3
end Go.Proofs.YtfibjcaidnofmaaGreatDoor
