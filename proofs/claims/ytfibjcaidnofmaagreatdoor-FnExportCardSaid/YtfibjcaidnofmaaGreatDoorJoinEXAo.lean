/- The program's texts of numbers walked: FormatInt, NumText, IsCanon; what the library reads of the world. -/
import Derived.Test.YtfibjcaidnofmaaGreatDoorJoinEXAk
import Derived.Lib.AppendIntMem
import Derived.Test.YtfibjcaidnofmaaGreatDoorJoinEXAl
import Derived.Lib.SplitLaws
import Derived.Test.YtfibjcaidnofmaaGreatDoorJoinEXAm
namespace Go.Proofs.YtfibjcaidnofmaaGreatDoor
open Go.RowKit

/-- The table that strconv reads. -/
def TabsIn (w : World) : Prop := Lib.TabIs Tryz.prog w "internal/strconv.uint64pow10" .u64 Lib.pow10Tab
theorem TabsIn.below {w w' : World} (h : TabsIn w) (hb : Below w.heap.size w w') : TabsIn w' := by
  unfold TabsIn Lib.TabIs World.var? at h ⊢
  cases hg : Tryz.prog.globalNamed "internal/strconv.uint64pow10" with
  | none => rw [hg] at h; cases h
  | some g =>
    rw [hg] at h
    simp only [Option.bind_some] at h ⊢
    have hlt : g < w.heap.size := by
      rcases Nat.lt_or_ge g w.heap.size with h' | h'
      · exact h'
      · rw [Array.getElem?_eq_none h'] at h; cases h
    rw [hb.block g hlt]
    exact h
/-- And what package bytealg reads. -/
def EnvIn (w : World) : Prop := TabsIn w ∧ ∃ m, w.cell? ⟨0, 0, none⟩ = some (.int .i64 m)
theorem EnvIn.below {w w' : World} (h : EnvIn w) (hb : Below w.heap.size w w') : EnvIn w' := by
  refine ⟨h.1.below hb, ?_⟩
  obtain ⟨m, hm⟩ := h.2
  have hlt : 0 < w.heap.size := by
    rcases Nat.lt_or_ge 0 w.heap.size with h' | h'
    · exact h'
    · unfold World.cell? at hm
      rw [Array.getElem?_eq_none h'] at hm; cases hm
  exact ⟨m, (hb.cell (p := ⟨0, 0, none⟩) hlt).trans hm⟩

theorem formatInt_any (k : Nat) (hk : k ≤ 9223372036854775807) (w : World) (hT : TabsIn w) : Calls Tryz.prog 204 #[.int .i64 (k : Int), .int .i64 10] w fun e w' => e = .returned (.string ⟨(Go.Lib.decDigits k).toArray⟩) ∧ Below w.heap.size w w' := by
  refine (Tryz.strconv_FormatInt_10 (k : Int) (by omega) (by omega) w hT).mono ?_
  rintro e3 w3 ⟨rfl, q, os, rfl⟩
  refine ⟨?_, Lib.below_grow w.heap.size w (Nat.le_refl _) q os⟩
  unfold Lib.itoa
  rw [if_neg (by omega), Int.toNat_natCast]

theorem mk_app (A B : List UInt8) : ((⟨A.toArray⟩ : ByteArray) ++ ⟨B.toArray⟩) = ⟨(A ++ B).toArray⟩ := ByteArray.ext (by rw [ByteArray.data_append]; simp)
theorem mk_app1 (c : UInt8) (B : List UInt8) : ((⟨#[c]⟩ : ByteArray) ++ ⟨B.toArray⟩) = ⟨(c :: B).toArray⟩ := mk_app [c] B
theorem numText_split (n : Int) (h : n ≠ 0) : numText n = (if n < 0 then [45] else []) ++ absT n.natAbs := by
  unfold numText
  rw [if_neg h]
  split <;> rfl

set_option maxHeartbeats 8000000 in
set_option maxRecDepth 100000 in
theorem numText_any (n : Int) (hn : n.natAbs ≤ maxNum) (w : World) (hT : TabsIn w) : Calls Tryz.prog 172 #[.int .i64 n] w fun e w' => e = .returned (.string ⟨(numText n).toArray⟩) ∧ Below w.heap.size w w' := by
  have HT := Lib.hid hT; clear hT
  have HI := Lib.hid (fun W => isNum_yes n hn W)
  unfold maxNum at hn
  by_cases h0 : n = 0
  · have HR := Lib.hid (show numText n = [48] by unfold numText; exact if_pos h0)
    rw [HR.out]
    subst h0
    clear HR hn
    go_enter Tryz.func172, Tryz.ntmps172
    go_wp2_with fail
    refine (HI.out _).mono ?_; rintro e1 w1 ⟨rfl, rfl⟩
    go_wp2_with fail
    go_ret
    exact ⟨rfl, Below.refl _ _⟩
  · have HR := Lib.hid (numText_split n h0)
    have q0 : (n == 0) = false := by rw [beq_eq_false_iff_ne]; exact h0
    generalize numText n = R at *
    obtain ⟨a, ha⟩ : ∃ a, a = n.natAbs := ⟨_, rfl⟩
    rw [← ha] at HR
    have ha1 : 1 ≤ a := by omega
    have ha2 : a ≤ 999999999999999999 := by omega
    go_enter Tryz.func172, Tryz.ntmps172
    go_wp2_with fail
    refine (HI.out _).mono ?_; rintro e1 w1 ⟨rfl, rfl⟩
    go_upto_if 11 with fail
    go_cut [0, 3] (fun m t wr => m = .int .i64 (a : Int) ∧ t = .string ⟨(if n < 0 then [45] else [] : List UInt8).toArray⟩ ∧ w = wr)
    case first =>
      have HAA := Lib.hid ha
      clear ha
      by_cases hneg : n < 0
      · have hna : -n = (a : Int) := by have := HAA.out; omega
        go_wp2_with fail
        go_meet
        case rel => exact ⟨by first | rfl | rw [hna] | rw [HAA.out], by rw [if_pos hneg], rfl⟩
      · have hna : n = (a : Int) := by have := HAA.out; omega
        go_wp2_with fail
        go_meet
        case rel => exact ⟨by first | rfl | rw [hna], by rw [if_neg (by omega)], rfl⟩
    case rest =>
      obtain ⟨rfl, rfl, rfl⟩ := hcut
      have hPl : (if n < 0 then [45] else [] : List UInt8).length ≤ 1 := by split <;> simp
      generalize (if n < 0 then [45] else [] : List UInt8) = P at *
      clear hn h0 q0 ha HI
      have hab : absT a = wholeT (a / 1000000) ++ fracT (a % 1000000) := rfl
      have hq : (a : Int) / 1000000 = ((a / 1000000 : Nat) : Int) := by omega
      have hqt : (a : Int).tdiv 1000000 = ((a / 1000000 : Nat) : Int) := (Int.ofNat_tdiv a 1000000).symm
      have hr : (a : Int) % 1000000 = ((a % 1000000 : Nat) : Int) := by omega
      have hrt : (a : Int).tmod 1000000 = ((a % 1000000 : Nat) : Int) := (Int.ofNat_tmod a 1000000).symm
      have hr6 : a % 1000000 < 1000000 := by omega
      have hq12 : a / 1000000 ≤ 999999999999 := by omega
      have hge : (1000000 ≤ a) ↔ (a / 1000000 ≠ 0) := by omega
      rw [hab] at HR
      generalize a / 1000000 = q at *
      generalize a % 1000000 = r at *
      clear hab
      have hwl : (wholeT q).length ≤ 13 := by unfold wholeT; split; exact Nat.zero_le _; exact decDigits_len 12 _ (by omega)
      go_upto_if 15 with fail
      go_cut [3] (fun t wr => t = .string ⟨(P ++ wholeT q).toArray⟩ ∧ Below w.heap.size w wr)
      case first =>
        by_cases h6 : 1000000 ≤ a
        · have h6' : (1000000 : Int) ≤ (a : Int) := by omega
          have hwq : wholeT q = Go.Lib.decDigits q := by unfold wholeT; rw [if_neg (hge.1 h6)]
          have HF := Lib.hid (fun W h => formatInt_any q (by omega) W h)
          rw [← hwq] at HF
          clear hwq h6 hge
          generalize wholeT q = D at *
          generalize hdd : decide ((1000000 : Int) ≤ (a : Int)) = d
          obtain rfl : d = true := by rw [← hdd]; exact decide_eq_true h6'
          clear hdd h6'
          go_wp2_with fail
          refine (HF.out _ HT.out).mono ?_; rintro e2 w2 ⟨rfl, hb2⟩
          go_wp2_with fail
          go_meet
          case rel => exact ⟨by rw [mk_app], hb2⟩
        · have h6' : ¬ (1000000 : Int) ≤ (a : Int) := by omega
          have HQ := Lib.hid (show wholeT q = [] by unfold wholeT; rw [if_pos (Decidable.not_not.1 (fun h => h6 (hge.2 h)))])
          generalize hdd : decide ((1000000 : Int) ≤ (a : Int)) = d
          obtain rfl : d = false := by rw [← hdd]; exact decide_eq_false h6'
          clear hdd h6' h6 hge
          go_wp2_with fail
          go_meet
          case rel => exact ⟨by rw [HQ.out, List.append_nil], Below.refl _ _⟩
      case rest =>
        obtain ⟨rfl, hbw⟩ := hcut
        have hTw := Lib.hid (HT.out.below hbw)
        have HBW := Lib.hid hbw
        have hbs := hbw.size
        clear hbw hge HT
        by_cases hr0 : r = 0
        · have HRR := Lib.hid (show R = P ++ wholeT q by rw [HR.out, hr0, show fracT 0 = [] from if_pos rfl, List.append_nil])
          have hr0' : ¬ (0 : Int) < (r : Int) := by omega
          clear hr0 HR
          go_wp2_with fail
          go_ret
          exact ⟨by rw [HRR.out]; rfl, HBW.out⟩
        · have hrp : (0 : Int) < (r : Int) := by omega
          have HF := Lib.hid (show ∀ W, TabsIn W → Calls Tryz.prog 204 #[.int .i64 (1000000 + (r : Int)), .int .i64 10] W fun e w' => e = .returned (.string ⟨(Go.Lib.decDigits (1000000 + r)).toArray⟩) ∧ Below W.heap.size W w' from fun W h => (Int.natCast_add 1000000 r) ▸ formatInt_any (1000000 + r) (by omega) W h)
          have hD7 := fracD_len hr6
          have HFD := Lib.hid (show fracT r = 46 :: trimZ ((Go.Lib.decDigits (1000000 + r)).drop 1) by rw [fracT_eq hr0]; rfl)
          generalize Go.Lib.decDigits (1000000 + r) = D at *
          have hd1 := bytes_drop1 D
          rw [hD7] at hd1
          have HD1 := Lib.hid hd1
          have HD1s := Lib.hid (show ((⟨D.toArray⟩ : ByteArray).extract 1 7).size ≤ 7 by have := congrArg List.length hd1; simp at this ⊢; omega)
          clear hr0 hd1
          go_wp2_with fail
          refine (HF.out _ hTw.out).mono ?_; rintro e3 w3 ⟨rfl, hb3⟩
          go_wp2_with fail
          refine (Tryz.strings_TrimRight_one _ 48 (by decide) _ ?_).mono ?_
          · have := HD1s.out; omega
          rintro e4 w4 ⟨rfl, rfl⟩
          have HX := Lib.hid (show (Go.Lib.trimRightB ((⟨D.toArray⟩ : ByteArray).extract 1 7).data.toList 48) = trimZ (D.drop 1) by rw [HD1.out]; rfl)
          rw [HX.out]
          have HBX := Lib.hid (HBW.out.trans (hb3.mono hbs))
          clear hb3 HX HD1 HD1s HF
          have hZl := trimZ_len (D.drop 1)
          rw [List.length_drop, hD7] at hZl
          generalize trimZ (D.drop 1) = Z at *
          go_wp2_with fail
          go_ret
          exact ⟨by rw [HR.out, HFD.out, ← List.append_assoc, ← mk_app, ← mk_app1]; rfl, HBX.out⟩

set_option maxHeartbeats 4000000 in
set_option maxRecDepth 100000 in
theorem implIsCanon_any (s : ByteArray) (hs : s.size ≤ 65536) (w : World) (hT : TabsIn w) : Calls Tryz.prog 128 #[.string s] w fun e w' => e = .returned (.bool (canonB s.data.toList)) ∧ Below w.heap.size w w' := by
  have HT := Lib.hid hT; clear hT
  have HO := Lib.hid (fun W => numOf_any s hs W)
  have HTX := Lib.hid (fun W h => numText_any (numOf s.data.toList) (numOf_abs s.data.toList) W h)
  have hB : canonB s.data.toList = (numText (numOf s.data.toList) == s.toList) := by
    unfold canonB
    generalize numText (numOf s.data.toList) = A
    exact bytes_beq A s
  have HR := Lib.hid hB; clear hB
  generalize hQ : canonB s.data.toList = Q at *
  clear hQ
  generalize numOf s.data.toList = n at *
  go_enter Tryz.func128, Tryz.ntmps128
  go_wp2_with fail
  refine (HO.out _).mono ?_; rintro e1 w1 ⟨rfl, hb1⟩
  have HB1 := Lib.hid hb1; clear hb1
  go_wp2_with fail
  refine (HTX.out _ (HT.out.below HB1.out)).mono ?_; rintro e1 w1 ⟨rfl, hb1⟩
  have HB2 := Lib.hid (HB1.out.trans (hb1.mono HB1.out.size)); clear hb1
  go_wp2_with fail
  go_ret
  exact ⟨by rw [HR.out]; rfl, HB2.out⟩
end Go.Proofs.YtfibjcaidnofmaaGreatDoor

/- The program's forms walked: QuoteText, runForm, plain. -/
namespace Go.Proofs.YtfibjcaidnofmaaGreatDoor
open Go.RowKit

theorem infoTxt : (Tryz.prog.info? 9).map (fun i => (i.zero, i.size, i.bytes)) = some (some (.string ⟨#[]⟩), 1, 16) := by kernel_rfl

/-- strings.Join of a row of the call's own. -/
theorem join_own {w : World} {base : Nat} {v : Value} {xs : List ByteArray} (h : OwnStrs w base 9 v xs) (hx : xs.length ≤ 1000000000) (sep : ByteArray)
    (hl : (Lib.join (xs.map (·.data.toList)) sep.data.toList).length ≤ 1000000000) :
    Calls Tryz.prog 84 #[v, .string sep] w fun e w' => e = .returned (.string ⟨(Lib.join (xs.map (·.data.toList)) sep.data.toList).toArray⟩) ∧ Below w.heap.size w w' := by
  obtain ⟨⟨A, c, rfl⟩, ho⟩ := h
  by_cases h0 : xs = []
  · subst h0
    exact (Tryz.strings_Join_none A c sep w).mono fun e w' ⟨he, hw⟩ => ⟨he, hw ▸ Below.refl _ _⟩
  · have hp := List.length_pos_iff.2 h0
    obtain ⟨b, off, rfl, _, hb, hc⟩ := (RowR.of_own (enc := Value.string) (d := ByteArray.empty) ho).2 hp
    have hcap : xs.length ≤ c := by
      rcases ho.2 with ⟨e, _⟩ | ⟨g, cap, cur, e, _, _, h3, _⟩
      · cases e
      · injection e with _ _ e3; subst e3; exact h3
    refine Tryz.strings_Join b off c xs sep w (fun j x hj => ?_) hb (by omega) hcap (by omega)
    have hj' : j < xs.length := by
      rcases Nat.lt_or_ge j xs.length with h | h
      · exact h
      · rw [List.getElem?_eq_none h] at hj; cases hj
    rw [hc j hj', List.getD_eq_getElem?_getD, hj]
    rfl

theorem itoa_any (k : Nat) (hk : k ≤ 9000000000000000000) (w : World) (hT : TabsIn w) : Calls Tryz.prog 59 #[.int .i64 (k : Int)] w fun e w' => e = .returned (.string (decT k)) ∧ Below w.heap.size w w' := by
  refine (Tryz.strconv_Itoa (k : Int) (by omega) (by omega) w hT).mono ?_
  rintro e3 w3 ⟨rfl, q, os, rfl⟩
  refine ⟨?_, Lib.below_grow w.heap.size w (Nat.le_refl _) q os⟩
  unfold Lib.itoa decT
  rw [if_neg (by omega), Int.toNat_natCast]

set_option maxHeartbeats 4000000 in
set_option maxRecDepth 100000 in
theorem quoteText_any (s : ByteArray) (hs : s.size ≤ 65536) (w : World) (hE : EnvIn w) : Calls Tryz.prog 129 #[.string s] w fun e w' => e = .returned (.string ⟨(quoteP s.data.toList).toArray⟩) ∧ Below w.heap.size w w' := by
  obtain ⟨m, hm⟩ := hE.2
  have hc : Lib.countB s ⟨#[34]⟩ ≤ s.size := Lib.countB_le _ (by decide) _ s (Nat.le_refl _)
  have HR := Lib.hid (Tryz.strings_ReplaceAll s ⟨#[34]⟩ ⟨#[34, 34]⟩ m w (by omega) hm (by decide) (by show s.size + _ * 2 ≤ _; omega))
  have HQ := Lib.hid (show quoteP s.data.toList = 34 :: (Go.Lib.replaceAll s.data.toList [34] [34, 34] ++ [34]) by rw [quoteP_eq, replaceAll_quote])
  generalize quoteP s.data.toList = Q at *
  have HX := Lib.hid (show ∀ D : List UInt8, (((⟨#[34]⟩ : ByteArray) ++ ⟨D.toArray⟩) ++ ⟨#[34]⟩) = ⟨(34 :: (D ++ [34])).toArray⟩ from fun D => by rw [mk_app1]; exact mk_app (34 :: D) [34])
  clear hc
  go_enter Tryz.func129, Tryz.ntmps129
  go_wp2_with fail
  refine HR.out.mono ?_; rintro e1 w1 ⟨rfl, hb1⟩
  have HD := Lib.hid (show Go.Lib.replaceAll s.data.toList (⟨#[34]⟩ : ByteArray).data.toList (⟨#[34, 34]⟩ : ByteArray).data.toList = Go.Lib.replaceAll s.data.toList [34] [34, 34] from rfl)
  rw [HD.out]
  have hDl := doubled_len s.data.toList
  rw [len_list, ← replaceAll_quote] at hDl
  generalize Go.Lib.replaceAll s.data.toList [34] [34, 34] = D at *
  go_wp2_with fail
  go_ret
  exact ⟨by rw [HQ.out, ← HX.out]; rfl, hb1⟩

set_option maxHeartbeats 8000000 in
set_option maxRecDepth 100000 in
theorem runForm_any (t : ByteArray) (h0 : 0 < t.size) (ht : t.size ≤ 4096) (w : World) (hE : EnvIn w) : Calls Tryz.prog 131 #[.string t] w fun e w' => e = .returned (.string ⟨(formP t.data.toList).toArray⟩) ∧ Below w.heap.size w w' := by
  have hi0 : (0 : Int) < (t.size : Int) := by omega
  have HS := Lib.hid (fun W => printable_any t[0] W)
  have HE := Lib.hid hE; clear hE
  cases hsh : showsC t[0]
  · have HF := Lib.hid (formP_codes h0 hsh)
    generalize formP t.data.toList = F at *
    rw [hsh] at HS
    clear hsh
    go_enter Tryz.func131, Tryz.ntmps131
    go_upto_region 4 with (first | fail | (refine (HS.out _).mono ?_; rintro e1 w1 ⟨rfl, rfl⟩))
    have hown0 : OwnStrs (w.alloc (.cells #[] 9)) w.heap.size 9 (.slice (some ⟨w.heap.size, 0, none⟩) 0 0) [] := OwnR.none_ _ _ _ (Nat.le_refl _)
    have HO0 := Lib.hid hown0
    have HB0 := Lib.hid (show Below w.heap.size w (w.alloc (.cells #[] 9)) from (Below.refl _ _).alloc (Nat.le_refl _) _)
    have hsz : w.heap.size ≤ (w.alloc (.cells #[] 9)).heap.size := HB0.out.size
    clear hown0
    generalize w.alloc (.cells #[] 9) = wa at *
    obtain ⟨cap1, wb, hcv, hcells, hbb, hsz2⟩ := rowBytes wa t
    have HCL := Lib.hid hcells; have HBB := Lib.hid hbb
    have hszb : wa.heap.size < wb.heap.size := by omega
    clear hcells hbb hsz2
    go_wp2_with fail
    clear hcv
    go_loopw [3, 15] (fun v i wr => ∃ (k : Nat) (ns : List ByteArray), k ≤ t.size ∧ i = .int .i64 k ∧ Grows Value.string wr wb.heap.size 9 (.slice (some ⟨w.heap.size, 0, none⟩) 0 0) v ns ∧ ns.length = k ∧ ns.map (·.data.toList) = (t.data.toList.take k).map (fun c => Lib.decDigits c.toNat) ∧ Below wb.heap.size wb wr) (fun _ i _ => t.size - (intOf i).toNat)
    case atStart => exact ⟨0, [], Nat.zero_le _, rfl, Grows.start _ _ _ _, rfl, rfl, Below.refl _ _⟩
    case round =>
      obtain ⟨k, ns, hk, rfl, hg, hnl, hns, hbr⟩ := hrel
      have HBR := Lib.hid hbr
      have hbs := hbr.size
      have HNS := Lib.hid hns
      have hbW := Lib.hid (HB0.out.trans ((HBB.out.mono hsz).trans (hbr.mono (Nat.le_trans hsz HBB.out.size))))
      clear hns
      by_cases hlt : k < t.size
      · have i1 : (k : Int) < (t.size : Int) := by omega
        have i0 : (0 : Int) ≤ (k : Int) := by omega
        have hgl := get_list t k hlt
        have hcell : wr.cell? ⟨wa.heap.size, k, none⟩ = some (.int .u8 (t[k].toNat : Int)) := (hbr.cell (p := ⟨wa.heap.size, k, none⟩) hszb).trans (HCL.out k hlt)
        have HNX := Lib.hid (show (ns ++ [decT t[k].toNat]).map (·.data.toList) = (t.data.toList.take (k + 1)).map (fun c => Lib.decDigits c.toNat) by
          rw [take_snoc' _ _ _ hgl, List.map_append, List.map_append, HNS.out]; rfl)
        have hwr : IntKind.i64.wrap (t[k].toNat : Int) = (t[k].toNat : Int) := IntWalk.i64_in _ (by have := t[k].toNat_lt; omega)
        have HD := Lib.hid (itoa_any t[k].toNat (by have := t[k].toNat_lt; omega) wr (HE.out.below hbW.out).1)
        have hnl2 : ns.length ≤ 1000000 := by omega
        clear hbr hgl
        generalize decT t[k].toNat = D at *
        go_wp2_with fail
        refine HD.out.mono ?_; rintro e2 w2 ⟨rfl, hb2⟩
        have hg2 : Grows Value.string w2 wb.heap.size 9 (.slice (some ⟨w.heap.size, 0, none⟩) 0 0) u3 ns := by
          rcases hg with hg | hg
          · exact .inl (hg.below hb2)
          · exact .inr hg
        have hs2 := Nat.le_trans hbs hb2.size
        go_wp2_with (first
          | fail
          | (at_builtin; refine wpList_app1G (enc := Value.string) rfl (.tmp 19) (.tmp 23) 29 9 rfl Tryz.underlying29 rfl (by omega) (fun _ => rfl) infoTxt w2 wb.heap.size _ _ ns D rfl hg2 rfl (by omega) hs2 ?_; intro v3 w3 hown3 hb3))
        go_roundw
        case rel => exact ⟨k + 1, _, by omega, by go_num, hown3, by rw [List.length_append, hnl]; rfl, HNX.out, HBR.out.trans ((hb2.mono hbs).trans hb3)⟩
        case measure => simp [intOf]; omega
      · have i1 : ¬ (k : Int) < (t.size : Int) := by omega
        have hk' : k = t.size := by omega
        have hjn : Lib.join (ns.map (·.data.toList)) [44] = codesTo t.data.toList := by
          rw [HNS.out, List.take_of_length_le (by rw [len_list]; omega)]; rfl
        have hcl := codesTo_len _ t.data.toList rfl
        rw [len_list] at hcl
        have hown := Grows.done hg HO0.out (HBB.out.trans (HBR.out.mono HBB.out.size)) (Nat.le_trans hsz HBB.out.size)
        have HJ := Lib.hid (join_own hown (by omega) ⟨#[44]⟩ (by show (Lib.join (ns.map (·.data.toList)) [44]).length ≤ _; rw [hjn]; omega))
        have HJN := Lib.hid (show Lib.join (ns.map (·.data.toList)) (⟨#[44]⟩ : ByteArray).data.toList = codesTo t.data.toList from hjn)
        have hbs2 := hbW.out.size
        have HX := Lib.hid (show ∀ D : List UInt8, (((⟨#[36, 67, 40]⟩ : ByteArray) ++ ⟨D.toArray⟩) ++ ⟨#[41]⟩) = ⟨(36 :: 67 :: 40 :: (D ++ [41])).toArray⟩ from fun D => by rw [show (⟨#[36, 67, 40]⟩ : ByteArray) ++ ⟨D.toArray⟩ = ⟨([36, 67, 40] ++ D).toArray⟩ from mk_app _ _]; exact mk_app ([36, 67, 40] ++ D) [41])
        clear hbr hg hjn hown
        go_wp2_with fail
        refine HJ.out.mono ?_; rintro e3 w3 ⟨rfl, hb3⟩
        rw [HJN.out]
        generalize codesTo t.data.toList = D at *
        go_wp2_with fail
        go_ret
        exact ⟨by rw [HF.out, ← HX.out]; rfl, hbW.out.trans (hb3.mono hbs2)⟩
  · have HF := Lib.hid (formP_shows h0 hsh)
    have HQ := Lib.hid (quoteText_any t (by omega) w HE.out)
    have HFQ := Lib.hid (show formP t.data.toList = quoteP t.data.toList by rw [HF.out, quoteP_eq])
    rw [HFQ.out]
    generalize quoteP t.data.toList = F at *
    rw [hsh] at HS
    clear hsh HF HFQ
    go_enter Tryz.func131, Tryz.ntmps131
    go_wp2_with fail
    refine (HS.out _).mono ?_; rintro e1 w1 ⟨rfl, rfl⟩
    go_wp2_with fail
    refine HQ.out.mono ?_; rintro e1 w1 ⟨rfl, hb1⟩
    go_wp2_with fail
    go_ret
    exact ⟨rfl, hb1⟩
end Go.Proofs.YtfibjcaidnofmaaGreatDoor

/- The program's order walked: cmp.Compare, collate, slices.CompareFunc, cmp.Or, compareLocations. -/
namespace Go.Proofs.YtfibjcaidnofmaaGreatDoor
open Go.RowKit

set_option maxHeartbeats 1000000 in
theorem nanS_any (a : ByteArray) (w : World) : Calls Tryz.prog 156 #[.string a] w fun e w' => e = .returned (.bool false) ∧ w = w' := by
  have hq : (a.toList == a.toList) = true := beq_self_eq_true _
  go_enter Tryz.func156, Tryz.ntmps156
  go_wp2_with fail
  go_ret
  exact ⟨rfl, rfl⟩
set_option maxHeartbeats 1000000 in
theorem nanI_any (a : Int) (w : World) : Calls Tryz.prog 221 #[.int .i64 a] w fun e w' => e = .returned (.bool false) ∧ w = w' := by
  have hq : (a == a) = true := beq_self_eq_true _
  have hq2 : (a != a) = false := bne_self_eq_false _
  go_enter Tryz.func221, Tryz.ntmps221
  go_wp2_with fail
  go_ret
  exact ⟨rfl, rfl⟩
set_option maxHeartbeats 2000000 in
theorem cmpStr_any (a b : ByteArray) (w : World) : Calls Tryz.prog 107 #[.string a, .string b] w fun e w' => e = .returned (.int .i64 (cmpS a b)) ∧ w = w' := by
  have HA := Lib.hid (fun W => nanS_any a W)
  have HB := Lib.hid (fun W => nanS_any b W)
  have HR := Lib.hid (show cmpS a b = (if Op.bytesLess a.toList b.toList then -1 else if (a.toList == b.toList) then 0 else 1) from rfl)
  generalize cmpS a b = R at *
  cases hl : Op.bytesLess a.toList b.toList <;> rw [hl] at HR <;> cases he : (a.toList == b.toList) <;> rw [he] at HR
  all_goals
    go_enter Tryz.func107, Tryz.ntmps107
    go_wp2_with fail
    refine (HA.out _).mono ?_; rintro e1 w1 ⟨rfl, rfl⟩
    go_wp2_with fail
    refine (HB.out _).mono ?_; rintro e1 w1 ⟨rfl, rfl⟩
    go_wp2_with fail
    go_ret
    exact ⟨by rw [HR.out]; rfl, rfl⟩
set_option maxHeartbeats 2000000 in
theorem cmpInt_any (a b : Int) (w : World) : Calls Tryz.prog 195 #[.int .i64 a, .int .i64 b] w fun e w' => e = .returned (.int .i64 (cmpI a b)) ∧ w = w' := by
  have HA := Lib.hid (fun W => nanI_any a W)
  have HB := Lib.hid (fun W => nanI_any b W)
  have HR := Lib.hid (show cmpI a b = (if a < b then -1 else if a = b then 0 else 1) from rfl)
  generalize cmpI a b = R at *
  rcases Int.lt_trichotomy a b with h | h | h
  · rw [if_pos h] at HR
    go_enter Tryz.func195, Tryz.ntmps195
    go_wp2_with fail
    refine (HA.out _).mono ?_; rintro e1 w1 ⟨rfl, rfl⟩
    go_wp2_with fail
    refine (HB.out _).mono ?_; rintro e1 w1 ⟨rfl, rfl⟩
    go_wp2_with fail
    go_ret
    exact ⟨by rw [HR.out]; rfl, rfl⟩
  · rw [if_neg (by omega), if_pos h] at HR
    subst h
    have n1 : ¬ a < a := by omega
    go_enter Tryz.func195, Tryz.ntmps195
    go_wp2_with fail
    refine (HA.out _).mono ?_; rintro e1 w1 ⟨rfl, rfl⟩
    go_wp2_with fail
    refine (HB.out _).mono ?_; rintro e1 w1 ⟨rfl, rfl⟩
    go_wp2_with fail
    go_ret
    exact ⟨by rw [HR.out]; rfl, rfl⟩
  · rw [if_neg (by omega), if_neg (by omega)] at HR
    have n1 : ¬ a < b := by omega
    go_enter Tryz.func195, Tryz.ntmps195
    go_wp2_with fail
    refine (HA.out _).mono ?_; rintro e1 w1 ⟨rfl, rfl⟩
    go_wp2_with fail
    refine (HB.out _).mono ?_; rintro e1 w1 ⟨rfl, rfl⟩
    go_wp2_with fail
    go_ret
    exact ⟨by rw [HR.out]; rfl, rfl⟩

set_option maxHeartbeats 4000000 in
theorem collate_any (a b : ByteArray) (ha : a.size ≤ 65536) (hb : b.size ≤ 65536) (w : World) (hT : TabsIn w) : Calls Tryz.prog 158 #[.string a, .string b] w fun e w' => e = .returned (.int .i64 (cmpT a b)) ∧ Below w.heap.size w w' := by
  have HT := Lib.hid hT; clear hT
  have HA := Lib.hid (fun W h => implIsCanon_any a ha W h)
  have HB := Lib.hid (fun W h => implIsCanon_any b hb W h)
  have HNA := Lib.hid (fun W => numOf_any a ha W)
  have HNB := Lib.hid (fun W => numOf_any b hb W)
  have HCI := Lib.hid (fun x y W => cmpInt_any x y W)
  have HCS := Lib.hid (fun W => cmpStr_any a b W)
  have HR := Lib.hid (show cmpT a b = (if canonB a.data.toList && canonB b.data.toList then cmpI (numOf a.data.toList) (numOf b.data.toList) else if canonB a.data.toList then -1 else if canonB b.data.toList then 1 else cmpS a b) from rfl)
  generalize cmpT a b = R at *
  generalize cmpS a b = S at *
  generalize numOf a.data.toList = m at *
  generalize numOf b.data.toList = n at *
  generalize canonB a.data.toList = p at *
  generalize canonB b.data.toList = q at *
  cases p <;> cases q
  all_goals
    go_enter Tryz.func158, Tryz.ntmps158
    go_wp2_with fail
    refine (HA.out _ HT.out).mono ?_; rintro e1 w1 ⟨rfl, hb1⟩
    have HB1 := Lib.hid hb1; clear hb1
    go_wp2_with fail
    refine (HB.out _ (HT.out.below HB1.out)).mono ?_; rintro e2 w2 ⟨rfl, hb2⟩
    have HB2 := Lib.hid (HB1.out.trans (hb2.mono HB1.out.size)); clear hb2
    go_wp2_with fail
  · refine (HCS.out _).mono ?_; rintro e3 w3 ⟨rfl, rfl⟩
    go_wp2_with fail
    go_ret
    exact ⟨by rw [HR.out]; rfl, HB2.out⟩
  · go_ret
    exact ⟨by rw [HR.out]; rfl, HB2.out⟩
  · go_ret
    exact ⟨by rw [HR.out]; rfl, HB2.out⟩
  · refine (HNA.out _).mono ?_; rintro e3 w3 ⟨rfl, hb3⟩
    have HB3 := Lib.hid (HB2.out.trans (hb3.mono HB2.out.size)); clear hb3
    go_wp2_with fail
    refine (HNB.out _).mono ?_; rintro e4 w4 ⟨rfl, hb4⟩
    have HB4 := Lib.hid (HB3.out.trans (hb4.mono HB3.out.size)); clear hb4
    go_wp2_with fail
    refine (HCI.out _ _ _).mono ?_; rintro e5 w5 ⟨rfl, rfl⟩
    go_wp2_with fail
    go_ret
    exact ⟨by rw [HR.out]; rfl, HB4.out⟩

set_option maxHeartbeats 4000000 in
theorem compareFunc_any (A B : Option Addr) (n m c d lo hi lo' hi' : Nat) (xs ys : List ByteArray) (w : World) (hT : TabsIn w) (ha : StrR w lo hi A n xs) (hb : StrR w lo' hi' B m ys) (hhi : hi ≤ w.heap.size) (hhi' : hi' ≤ w.heap.size)
    (hn : n ≤ 1048576) (hm : m ≤ 1048576) (hsx : ∀ x ∈ xs, x.size ≤ 65536) (hsy : ∀ x ∈ ys, x.size ≤ 65536) :
    Calls Tryz.prog 157 #[.slice A n c, .slice B m d, .func (.func 158) #[] #[]] w fun e w' => e = .returned (.int .i64 (cmpSubs xs ys)) ∧ Below w.heap.size w w' := by
  have HLX := Lib.hid ha.1; have HLY := Lib.hid hb.1
  have HA := Lib.hid ha; have HB := Lib.hid hb
  have HSX := Lib.hid hsx; have HSY := Lib.hid hsy
  have HTB := Lib.hid hT
  clear ha hb hsx hsy hT
  go_enter Tryz.func157, Tryz.ntmps157
  go_wp2_with fail
  go_loopw [13] (fun i wr => ∃ k : Nat, k ≤ n ∧ k ≤ m ∧ i = .int .i64 k ∧ xs.take k = ys.take k ∧ Below w.heap.size w wr) (fun i _ => n - (intOf i).toNat)
  case atStart => exact ⟨0, Nat.zero_le _, Nat.zero_le _, rfl, rfl, Below.refl _ _⟩
  case round =>
    obtain ⟨k, hkn, hkm, rfl, ht, hbr⟩ := hrel
    have HT := Lib.hid ht; clear ht
    have HBR := Lib.hid hbr
    by_cases h1 : k < n
    · have i1 : (k : Int) < (n : Int) := by omega
      have i0 : (0 : Int) ≤ (k : Int) := by omega
      obtain ⟨ba, oa, rfl, _, hba, ca⟩ := (HA.out.below hbr hhi).at_ h1
      have hk1 : k < xs.length := by rw [HLX.out]; exact h1
      by_cases h2 : k < m
      · have i2 : ¬ (m : Int) ≤ (k : Int) := by omega
        have i3 : (k : Int) < (m : Int) := by omega
        obtain ⟨bb, ob, rfl, _, hbb, cb⟩ := (HB.out.below hbr hhi').at_ h2
        have hk2 : k < ys.length := by rw [HLY.out]; exact h2
        have hX := HSX.out _ (getD_mem0 (d := ByteArray.empty) hk1)
        have hY := HSY.out _ (getD_mem0 (d := ByteArray.empty) hk2)
        have HNX := Lib.hid (fun he => take_next k xs ys HT.out hk1 hk2 he)
        have HAT := Lib.hid (fun hd => cmpSubs_at k xs ys HT.out hk1 hk2 hd)
        have HCO := Lib.hid (collate_any (xs.getD k ByteArray.empty) (ys.getD k ByteArray.empty) hX hY wr (HTB.out.below hbr))
        have HZ := Lib.hid (cmpT_zero (xs.getD k ByteArray.empty) (ys.getD k ByteArray.empty))
        clear hbr
        generalize xs.getD k ByteArray.empty = X at *
        generalize ys.getD k ByteArray.empty = Y at *
        generalize cmpT X Y = C at *
        by_cases hc : C = 0
        · have HX := Lib.hid (HNX.out (HZ.out.1 hc))
          subst hc
          go_wp2_with fail
          refine HCO.out.mono ?_; rintro e5 w5 ⟨rfl, hb5⟩
          have HB5 := Lib.hid (HBR.out.trans (hb5.mono HBR.out.size)); clear hb5
          go_wp2_with fail
          go_roundw
          case rel => exact ⟨k + 1, by omega, by omega, by go_num, HX.out, HB5.out⟩
          case measure => simp [intOf]; omega
        · have HX := Lib.hid (HAT.out hc)
          have q0 : (C == 0) = false := by rw [beq_eq_false_iff_ne]; exact hc
          have q1 : (C != 0) = true := by rw [bne, q0]; rfl
          go_wp2_with fail
          refine HCO.out.mono ?_; rintro e5 w5 ⟨rfl, hb5⟩
          have HB5 := Lib.hid (HBR.out.trans (hb5.mono HBR.out.size)); clear hb5
          go_wp2_with fail
          go_ret
          exact ⟨by rw [HX.out]; rfl, HB5.out⟩
      · have i2 : (m : Int) ≤ (k : Int) := by omega
        obtain rfl : k = m := by omega
        have HX := Lib.hid (cmpSubs_long xs ys (by have := HT.out; rw [HLY.out]; rw [this, List.take_of_length_le (by rw [HLY.out]; omega)]) (by rw [HLY.out]; exact hk1))
        go_wp2_with fail
        go_ret
        exact ⟨by rw [HX.out]; rfl, HBR.out⟩
    · have i1 : ¬ (k : Int) < (n : Int) := by omega
      obtain rfl : k = n := by omega
      have ht' := HT.out
      rw [List.take_of_length_le (by rw [HLX.out]; omega)] at ht'
      have HTX := Lib.hid ht'
      clear ht'
      by_cases h2 : k < m
      · have i2 : (k : Int) < (m : Int) := by omega
        have HX := Lib.hid (cmpSubs_short xs ys (by rw [HLX.out]; exact HTX.out) (by rw [HLX.out, HLY.out]; exact h2))
        go_wp2_with fail
        go_ret
        exact ⟨by rw [HX.out]; rfl, HBR.out⟩
      · have i2 : ¬ (k : Int) < (m : Int) := by omega
        have hxy : xs = ys := by
          have := HTX.out
          rwa [List.take_of_length_le (by rw [HLY.out]; omega)] at this
        have HX := Lib.hid (show cmpSubs xs ys = 0 by rw [hxy]; exact cmpSubs_same ys)
        clear hxy
        go_wp2_with fail
        go_ret
        exact ⟨by rw [HX.out]; rfl, HBR.out⟩

set_option maxHeartbeats 1000000 in
theorem collateLists_any (A B : Option Addr) (n m c d lo hi lo' hi' : Nat) (xs ys : List ByteArray) (w : World) (hT : TabsIn w) (ha : StrR w lo hi A n xs) (hb : StrR w lo' hi' B m ys) (hhi : hi ≤ w.heap.size) (hhi' : hi' ≤ w.heap.size)
    (hn : n ≤ 1048576) (hm : m ≤ 1048576) (hsx : ∀ x ∈ xs, x.size ≤ 65536) (hsy : ∀ x ∈ ys, x.size ≤ 65536) :
    Calls Tryz.prog 108 #[.slice A n c, .slice B m d] w fun e w' => e = .returned (.int .i64 (cmpSubs xs ys)) ∧ Below w.heap.size w w' := by
  have HC := Lib.hid (compareFunc_any A B n m c d lo hi lo' hi' xs ys w hT ha hb hhi hhi' hn hm hsx hsy)
  go_enter Tryz.func108, Tryz.ntmps108
  go_wp2_with fail
  refine HC.out.mono ?_; rintro e1 w1 ⟨rfl, hb1⟩
  go_wp2_with fail
  go_ret
  exact ⟨rfl, hb1⟩

set_option maxHeartbeats 1000000 in
theorem cmpOr_any (b c : Nat) (x y : Int) (w : World) (h0 : w.cell? ⟨b, 0, none⟩ = some (.int .i64 x)) (h1 : w.cell? ⟨b, 1, none⟩ = some (.int .i64 y)) :
    Calls Tryz.prog 106 #[.slice (some ⟨b, 0, none⟩) 2 c] w fun e w' => e = .returned (.int .i64 (if x = 0 then y else x)) ∧ w = w' := by
  by_cases hx : x = 0
  · subst hx
    rw [if_pos rfl]
    by_cases hy : y = 0
    · subst hy
      go_enter Tryz.func106, Tryz.ntmps106
      go_wp2_with fail
      go_loop [8] (fun i => ∃ k : Nat, k ≤ 2 ∧ i = .int .i64 k) (fun i => 2 - (intOf i).toNat)
      case atStart => exact ⟨0, by omega, rfl⟩
      case round =>
        obtain ⟨k, hk, rfl⟩ := hrel
        by_cases h2 : k < 2
        · have i1 : (k : Int) < 2 := by omega
          have i0 : (0 : Int) ≤ (k : Int) := by omega
          have hc : w.cell? ⟨b, 0 + k, none⟩ = some (.int .i64 0) := by
            rcases (show k = 0 ∨ k = 1 by omega) with e | e
            · subst e; exact h0
            · subst e; exact h1
          have hc' : w.cell? ⟨b, k, none⟩ = some (.int .i64 0) := by rw [Nat.zero_add] at hc; exact hc
          clear h0 h1
          go_wp2_with fail
          go_round
          case rel => exact ⟨k + 1, by omega, by go_num⟩
          case measure => simp [intOf]; omega
        · have i1 : ¬ (k : Int) < 2 := by omega
          go_wp2_with fail
          go_ret
          exact ⟨rfl, rfl⟩
    · have q1 : (y != 0) = true := by rw [bne_iff_ne]; exact hy
      go_enter Tryz.func106, Tryz.ntmps106
      go_wp2_with fail
      go_loop [8] (fun i => ∃ k : Nat, k ≤ 1 ∧ i = .int .i64 k) (fun i => 2 - (intOf i).toNat)
      case atStart => exact ⟨0, by omega, rfl⟩
      case round =>
        obtain ⟨k, hk, rfl⟩ := hrel
        have i1 : (k : Int) < 2 := by omega
        have i0 : (0 : Int) ≤ (k : Int) := by omega
        rcases (show k = 0 ∨ k = 1 by omega) with e | e
        · subst e
          go_wp2_with fail
          go_round
          case rel => exact ⟨1, by omega, by go_num⟩
          case measure => simp [intOf]
        · subst e
          go_wp2_with fail
          go_ret
          exact ⟨rfl, rfl⟩
  · have q1 : (x != 0) = true := by rw [bne_iff_ne]; exact hx
    rw [if_neg hx]
    go_enter Tryz.func106, Tryz.ntmps106
    go_wp2_with fail
    go_loop [8] (fun i => i = .int .i64 0) (fun _ => 0)
    case atStart => rfl
    case round =>
      obtain rfl := hrel
      go_wp2_with fail
      go_ret
      exact ⟨rfl, rfl⟩

set_option maxHeartbeats 1000000 in
theorem compareLocations_any (s t : ByteArray) (A B : Option Addr) (n m c d lo hi lo' hi' : Nat) (xs ys : List ByteArray) (w : World) (hT : TabsIn w) (ha : StrR w lo hi A n xs) (hb : StrR w lo' hi' B m ys) (hhi : hi ≤ w.heap.size) (hhi' : hi' ≤ w.heap.size)
    (hn : n ≤ 1048576) (hm : m ≤ 1048576) (hsx : ∀ x ∈ xs, x.size ≤ 65536) (hsy : ∀ x ∈ ys, x.size ≤ 65536) :
    Calls Tryz.prog 47 #[.string s, .slice A n c, .string t, .slice B m d] w fun e w' => e = .returned (.int .i64 (cmpLoc s xs t ys)) ∧ Below w.heap.size w w' := by
  have HC := Lib.hid (collateLists_any A B n m c d lo hi lo' hi' xs ys w hT ha hb hhi hhi' hn hm hsx hsy)
  have HS := Lib.hid (fun W => cmpStr_any s t W)
  have HR := Lib.hid (show cmpLoc s xs t ys = (if cmpS s t = 0 then cmpSubs xs ys else cmpS s t) from rfl)
  generalize cmpLoc s xs t ys = R at *
  generalize cmpS s t = p at *
  generalize cmpSubs xs ys = q at *
  clear ha hb
  go_enter Tryz.func47, Tryz.ntmps47
  go_wp2_with fail
  refine (HS.out _).mono ?_; rintro e1 w1 ⟨rfl, rfl⟩
  go_wp2_with fail
  refine HC.out.mono ?_; rintro e2 w2 ⟨rfl, hb2⟩
  have HB2 := Lib.hid hb2; clear hb2
  go_wp2_with fail
  have B2 := (Blk.new w2 3 #[.int .i64 p, .int .i64 q])
  have HB3 := Lib.hid (HB2.out.alloc HB2.out.size (.cells #[.int .i64 p, .int .i64 q] 3))
  refine (cmpOr_any _ _ p q _ (B2.cell 0) (B2.cell 1)).mono ?_; rintro e3 w3 ⟨rfl, rfl⟩
  clear B2
  rw [← HR.out]
  go_wp2_with fail
  go_ret
  exact ⟨rfl, HB3.out⟩
end Go.Proofs.YtfibjcaidnofmaaGreatDoor
