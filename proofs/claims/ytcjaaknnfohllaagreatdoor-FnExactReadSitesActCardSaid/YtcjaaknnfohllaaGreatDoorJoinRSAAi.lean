/- The reference's line of a node. -/
import Derived.Test.YtcjaaknnfohllaaGreatDoorJoinRSAAe
import Derived.Test.YtcjaaknnfohllaaGreatDoorJoinRSAAh
import Derived.Lib.SplitLaws
import Derived.Test.YtcjaaknnfohllaaGreatDoorJoinRSAAd
namespace Go.Proofs.YtcjaaknnfohllaaGreatDoor
open Go.RowKit

theorem moreP_len : ∀ (n k : Nat) (l : List UInt8), l.length ≤ n → l.length ≤ k → (moreP k l).length ≤ 9 * l.length
  | 0, k, l, hn, _ => by
    obtain rfl := List.eq_nil_of_length_eq_zero (Nat.le_zero.1 hn)
    rw [moreP_nil]; exact Nat.zero_le _
  | n + 1, k, l, hn, hk => by
    by_cases h : l = []
    · subst h; rw [moreP_nil]; exact Nat.zero_le _
    · have h1 := runRest_len l h
      have h2 := congrArg List.length (runs_split l h)
      rw [List.length_append] at h2
      have h3 := formP_len (runOf l)
      have h4 := moreP_len n k (runRest l) (by omega) (by omega)
      rw [moreP_step k l h hk, List.length_cons, List.length_append]
      omega
theorem plainP_len (l : List UInt8) : (plainP l).length ≤ 9 * l.length + 2 := by
  cases hc : canonB l
  · by_cases h : l = []
    · subst h
      unfold plainP
      rw [hc]
      exact Nat.le_refl _
    · have h1 := runRest_len l h
      have h2 := congrArg List.length (runs_split l h)
      rw [List.length_append] at h2
      have h3 := formP_len (runOf l)
      have h4 := moreP_len l.length l.length (runRest l) (by omega) (by omega)
      rw [plainP_runs hc h, List.length_append]
      omega
  · unfold plainP
    rw [hc, if_pos rfl]
    omega

def joinT (l : List ByteArray) : List UInt8 := Lib.join (l.map fun s => plainP s.data.toList) [44]
def subsT (l : List ByteArray) : List UInt8 := if l = [] then [] else 40 :: (joinT l ++ [41])
def lineT (x : Nod) : List UInt8 := 94 :: (x.name.data.toList ++ (subsT x.subs ++ 61 :: plainP x.value.data.toList))
def nodeLineP (x : Nod) : List UInt8 := if nodB x then lineT x else []
/-- What stands ahead of the subscript k. -/
def preT (x : Nod) (k : Nat) : List UInt8 := 94 :: (x.name.data.toList ++ (if k = 0 then [] else 40 :: joinT (x.subs.take k)))
theorem txt_cons (c : UInt8) (s : ByteArray) : ((⟨#[c]⟩ : ByteArray) ++ s) = ⟨(c :: s.data.toList).toArray⟩ := by
  have := mk_app1 c s.data.toList
  rw [Array.toArray_toList] at this
  exact this
theorem preT_zero (x : Nod) : preT x 0 = 94 :: x.name.data.toList := by unfold preT; rw [if_pos rfl, List.append_nil]
theorem preT_one (x : Nod) (h : 0 < x.subs.length) : preT x 1 = preT x 0 ++ [40] ++ plainP (x.subs.getD 0 ByteArray.empty).data.toList := by
  rw [preT_zero]
  unfold preT
  rw [if_neg (by omega), List.take_succ_eq_append_getElem h, List.getD_eq_getElem?_getD, List.getElem?_eq_getElem h]
  show 94 :: (_ ++ 40 :: joinT ([] ++ [_])) = _
  unfold joinT
  rw [List.nil_append, List.map_cons, List.map_nil, join_one]
  simp
theorem preT_more (x : Nod) (k : Nat) (h : k < x.subs.length) (h0 : k ≠ 0) : preT x (k + 1) = preT x k ++ [44] ++ plainP (x.subs.getD k ByteArray.empty).data.toList := by
  unfold preT
  rw [if_neg (by omega), if_neg h0, List.take_succ_eq_append_getElem h, List.getD_eq_getElem?_getD, List.getElem?_eq_getElem h]
  unfold joinT
  rw [List.map_append, List.map_cons, List.map_nil, join_snoc _ _ _ (by intro e; have := congrArg List.length e; rw [List.length_map, List.length_take, List.length_nil, Nat.min_eq_left (by omega)] at this; omega)]
  simp
theorem lineT_pre (x : Nod) : lineT x = preT x x.subs.length ++ (if x.subs.length = 0 then [] else [41]) ++ [61] ++ plainP x.value.data.toList := by
  unfold lineT subsT preT
  by_cases h : x.subs = []
  · rw [h]; simp
  · have h0 : x.subs.length ≠ 0 := fun e => h (List.eq_nil_of_length_eq_zero e)
    rw [if_neg h, if_neg h0, if_neg h0, List.take_length]
    simp
theorem nodB_facts {x : Nod} (h : nodB x = true) : x.name.size ≤ 8 ∧ x.subs.length ≤ 4 ∧ (∀ y ∈ x.subs, y.size ≤ 24) ∧ x.value.size ≤ 64 := by
  unfold nodB subsB at h
  simp only [Bool.and_eq_true, decide_eq_true_eq] at h
  obtain ⟨⟨h1, h2, h3⟩, h4⟩ := h
  refine ⟨?_, h2, fun y hy => ?_, h4⟩
  · unfold nameB at h1
    simp only [Bool.and_eq_true, decide_eq_true_eq] at h1
    exact h1.1.2
  · have := (List.all_eq_true.1 h3) y hy
    unfold subB at this
    simp only [Bool.and_eq_true, decide_eq_true_eq] at this
    exact this.2
theorem getD_mem' {α : Type} {fs : List α} {d : α} {k : Nat} (h : k < fs.length) : fs.getD k d ∈ fs := by
  rw [List.getD_eq_getElem?_getD, List.getElem?_eq_getElem h]
  exact List.getElem_mem _
theorem preT_len (x : Nod) (hb : nodB x = true) : ∀ k, k ≤ x.subs.length → (preT x k).length ≤ 9 + 300 * k
  | 0, _ => by
    have := (nodB_facts hb).1
    rw [preT_zero, List.length_cons, len_list]; omega
  | k + 1, hk => by
    have h1 := preT_len x hb k (by omega)
    have h2 := (nodB_facts hb).2.2.1 _ (getD_mem' (d := ByteArray.empty) (show k < x.subs.length by omega))
    have h3 := plainP_len (x.subs.getD k ByteArray.empty).data.toList
    rw [len_list] at h3
    by_cases h0 : k = 0
    · subst h0
      rw [preT_one x (by omega), List.length_append, List.length_append, List.length_cons, List.length_nil]; omega
    · rw [preT_more x k (by omega) h0, List.length_append, List.length_append, List.length_cons, List.length_nil]; omega

set_option maxHeartbeats 4000000 in
set_option maxRecDepth 100000 in
theorem specNodeLine_any (x : Nod) (v : Value) (lo hi : Nat) (w : World) (hx : NodR w lo hi v x) (hhi : hi ≤ w.heap.size) (hs : NodSmall x) :
    Calls Tryz.prog 42 #[v] w fun e w' => e = .returned (.string ⟨(nodeLineP x).toArray⟩) ∧ Below w.heap.size w w' := by
  obtain ⟨A, c, rfl, hA⟩ := hx
  have hbo := (Below.refl w.heap.size w).alloc (Nat.le_refl _) (.cells #[.string x.name, .slice A x.subs.length c, .string x.value] 37)
  have hsz : (w.alloc (.cells #[.string x.name, .slice A x.subs.length c, .string x.value] 37)).heap.size = w.heap.size + 1 := by simp
  have HC := Lib.hid (l03Node_any x (.agg #[.string x.name, .slice A x.subs.length c, .string x.value]) lo hi _ ⟨A, c, rfl, hA.below hbo hhi⟩ (Nat.le_trans hhi (by omega)) hs)
  have HBK := Lib.hid (Blk.new w 37 #[.string x.name, .slice A x.subs.length c, .string x.value])
  have HA := Lib.hid (hA.below hbo hhi)
  have HD := Lib.hid hbo
  obtain ⟨hs1, hs2, hs3, _⟩ := hs
  clear hA hbo
  cases hB : nodB x
  · rw [hB] at HC
    have HR := Lib.hid (show nodeLineP x = [] by unfold nodeLineP; rw [hB]; rfl)
    rw [HR.out]
    clear hB
    go_enter Tryz.func42, Tryz.ntmps42
    go_wp2_with fail
    refine HC.out.mono ?_; rintro e1 w1 ⟨rfl, hb1⟩
    go_wp2_with fail
    go_ret
    exact ⟨rfl, HD.out.trans (hb1.mono HD.out.size)⟩
  · rw [hB] at HC
    have hR : nodeLineP x = lineT x := by unfold nodeLineP; rw [hB]; rfl
    have HR := Lib.hid (hR.trans (lineT_pre x))
    clear hR
    obtain ⟨f1, f2, f3, f4⟩ := nodB_facts hB
    have HF3 := Lib.hid f3
    have HL := Lib.hid (preT_len x hB)
    have HP0 := Lib.hid (preT_zero x)
    have HPV := Lib.hid (fun W => l22Plain_any x.value (by omega) W)
    have hpv := plainP_len x.value.data.toList
    rw [len_list] at hpv
    clear hB f3
    generalize plainP x.value.data.toList = V at *
    go_enter Tryz.func42, Tryz.ntmps42
    go_wp2_with fail
    refine HC.out.mono ?_; rintro e1 w1 ⟨rfl, hb1⟩
    have hsz1 := hb1.size
    have B1 := HBK.out.below hb1 (by omega)
    have c1 := B1.cell
    have HB1 := Lib.hid B1
    have HBL := Lib.hid (HD.out.trans (hb1.mono HD.out.size))
    have HA1 := Lib.hid (HA.out.below hb1 (by omega))
    clear hb1 B1 HC HBK HA
    generalize w.alloc (.cells #[.string x.name, .slice A x.subs.length c, .string x.value] 37) = w0 at *
    go_wp2_with fail
    go_loopw [3, 4] (fun t i wr => ∃ k : Nat, k ≤ x.subs.length ∧ i = .int .i64 k ∧ t = .string ⟨(preT x k).toArray⟩ ∧ Below w1.heap.size w1 wr) (fun _ i _ => x.subs.length - (intOf i).toNat)
    case atStart => exact ⟨0, Nat.zero_le _, rfl, by rw [HP0.out, ← txt_cons], Below.refl _ _⟩
    case round =>
      obtain ⟨k, hk, rfl, rfl, hbr⟩ := hrel
      have hlk := HL.out k hk
      have hszr := hbr.size
      have B2 := HB1.out.below hbr (by omega)
      have c2 := B2.cell
      have HBR := Lib.hid hbr
      have hAr := HA1.out.below hbr (by omega)
      clear B2 c1 hbr
      by_cases hlt : k < x.subs.length
      · obtain ⟨b, off, rfl, _, _, hcell⟩ := hAr.at_ hlt
        have k1 : (k : Int) < (x.subs.length : Int) := by omega
        have hsX := HF3.out _ (getD_mem' (d := ByteArray.empty) hlt)
        have HP := Lib.hid (fun W => l22Plain_any (x.subs.getD k ByteArray.empty) (by omega) W)
        have hpl := plainP_len (x.subs.getD k ByteArray.empty).data.toList
        rw [len_list] at hpl
        by_cases h0 : k = 0
        · have q0 : ((k : Int) == 0) = true := by rw [h0]; rfl
          have HN := Lib.hid (show preT x (k + 1) = preT x k ++ [40] ++ plainP (x.subs.getD k ByteArray.empty).data.toList by rw [h0]; exact preT_one x (by omega))
          clear h0 hAr
          generalize plainP (x.subs.getD k ByteArray.empty).data.toList = F at *
          generalize x.subs.getD k ByteArray.empty = X at *
          generalize preT x k = Q at *
          go_wp2_with fail
          refine (HP.out _).mono ?_; rintro e2 w2 ⟨rfl, hb2⟩
          go_wp2_with fail
          go_roundw
          case rel => exact ⟨k + 1, by omega, by go_num, by rw [HN.out, ← mk_app, ← mk_app], HBR.out.trans (hb2.mono HBR.out.size)⟩
          case measure => simp [intOf]; omega
        · have q0 : ((k : Int) == 0) = false := by rw [beq_eq_false_iff_ne]; omega
          have HN := Lib.hid (preT_more x k hlt h0)
          clear h0 hAr
          generalize plainP (x.subs.getD k ByteArray.empty).data.toList = F at *
          generalize x.subs.getD k ByteArray.empty = X at *
          generalize preT x k = Q at *
          go_wp2_with fail
          refine (HP.out _).mono ?_; rintro e2 w2 ⟨rfl, hb2⟩
          go_wp2_with fail
          go_roundw
          case rel => exact ⟨k + 1, by omega, by go_num, by rw [HN.out, ← mk_app, ← mk_app], HBR.out.trans (hb2.mono HBR.out.size)⟩
          case measure => simp [intOf]; omega
      · have k1 : ¬ (k : Int) < (x.subs.length : Int) := by omega
        obtain rfl : k = x.subs.length := by omega
        generalize preT x x.subs.length = Q at *
        by_cases h0 : x.subs.length = 0
        · have z0 : ¬ (0 : Int) < (x.subs.length : Int) := by omega
          rw [if_pos h0, List.append_nil] at HR
          have HZ := Lib.hid h0
          clear h0
          go_wp2_with fail
          refine (HPV.out _).mono ?_; rintro e2 w2 ⟨rfl, hb2⟩
          go_wp2_with fail
          go_ret
          exact ⟨by rw [HR.out, ← mk_app, ← mk_app]; rfl, HBL.out.trans ((HBR.out.trans (hb2.mono HBR.out.size)).mono HBL.out.size)⟩
        · have z0 : (0 : Int) < (x.subs.length : Int) := by omega
          rw [if_neg h0] at HR
          clear h0
          go_wp2_with fail
          refine (HPV.out _).mono ?_; rintro e2 w2 ⟨rfl, hb2⟩
          go_wp2_with fail
          go_ret
          exact ⟨by rw [HR.out, ← mk_app, ← mk_app, ← mk_app]; rfl, HBL.out.trans ((HBR.out.trans (hb2.mono HBR.out.size)).mono HBL.out.size)⟩
end Go.Proofs.YtcjaaknnfohllaaGreatDoor

/- The program's forms walked: QuoteText, runForm, plain. -/
namespace Go.Proofs.YtcjaaknnfohllaaGreatDoor
open Go.RowKit

theorem infoTxt : (Tryz.prog.info? 9).map (fun i => (i.zero, i.size, i.bytes)) = some (some (.string ⟨#[]⟩), 1, 16) := by kernel_rfl

/-- strings.Join of a row of the call's own. -/
theorem join_own {w : World} {base : Nat} {v : Value} {xs : List ByteArray} (h : OwnStrs w base 9 v xs) (hx : xs.length ≤ 1000000000) (sep : ByteArray)
    (hl : (Lib.join (xs.map (·.data.toList)) sep.data.toList).length ≤ 1000000000) :
    Calls Tryz.prog 38 #[v, .string sep] w fun e w' => e = .returned (.string ⟨(Lib.join (xs.map (·.data.toList)) sep.data.toList).toArray⟩) ∧ Below w.heap.size w w' := by
  obtain ⟨⟨A, c, rfl⟩, ho⟩ := h
  by_cases h0 : xs = []
  · subst h0
    exact (Tryz.strings_Join_none A c sep w).mono fun e w' ⟨he, hw⟩ => ⟨he, hw ▸ Below.refl _ _⟩
  · have hp := List.length_pos_iff.2 h0
    obtain ⟨b, off, rfl, _, hb, hc⟩ := (RowR.of_own (enc := Value.string) (d := ByteArray.empty) ho).2 hp
    have hcap : xs.length ≤ c := by
      rcases ho.2 with ⟨e, _⟩ | ⟨g, cap, cur, e, _, _, h3, _⟩
      · cases e
      · injection e with _ _ e3; subst e3; exact h3
    refine Tryz.strings_Join b off c xs sep w (fun j x hj => ?_) hb (by omega) hcap (by omega)
    have hj' : j < xs.length := by
      rcases Nat.lt_or_ge j xs.length with h | h
      · exact h
      · rw [List.getElem?_eq_none h] at hj; cases hj
    rw [hc j hj', List.getD_eq_getElem?_getD, hj]
    rfl

theorem itoa_any (k : Nat) (hk : k ≤ 9000000000000000000) (w : World) (hT : TabsIn w) : Calls Tryz.prog 126 #[.int .i64 (k : Int)] w fun e w' => e = .returned (.string (decT k)) ∧ Below w.heap.size w w' := by
  refine (Tryz.strconv_Itoa (k : Int) (by omega) (by omega) w hT).mono ?_
  rintro e3 w3 ⟨rfl, q, os, rfl⟩
  refine ⟨?_, Lib.below_grow w.heap.size w (Nat.le_refl _) q os⟩
  unfold Lib.itoa decT
  rw [if_neg (by omega), Int.toNat_natCast]

set_option maxHeartbeats 4000000 in
set_option maxRecDepth 100000 in
theorem quoteText_any (s : ByteArray) (hs : s.size ≤ 65536) (w : World) (hE : EnvIn w) : Calls Tryz.prog 196 #[.string s] w fun e w' => e = .returned (.string ⟨(quoteP s.data.toList).toArray⟩) ∧ Below w.heap.size w w' := by
  obtain ⟨m, hm⟩ := hE.2
  have hc : Lib.countB s ⟨#[34]⟩ ≤ s.size := Lib.countB_le _ (by decide) _ s (Nat.le_refl _)
  have HR := Lib.hid (Tryz.strings_ReplaceAll s ⟨#[34]⟩ ⟨#[34, 34]⟩ m w (by omega) hm (by decide) (by show s.size + _ * 2 ≤ _; omega))
  have HQ := Lib.hid (show quoteP s.data.toList = 34 :: (Go.Lib.replaceAll s.data.toList [34] [34, 34] ++ [34]) by rw [quoteP_eq, replaceAll_quote])
  generalize quoteP s.data.toList = Q at *
  have HX := Lib.hid (show ∀ D : List UInt8, (((⟨#[34]⟩ : ByteArray) ++ ⟨D.toArray⟩) ++ ⟨#[34]⟩) = ⟨(34 :: (D ++ [34])).toArray⟩ from fun D => by rw [mk_app1]; exact mk_app (34 :: D) [34])
  clear hc
  go_enter Tryz.func196, Tryz.ntmps196
  go_wp2_with fail
  refine HR.out.mono ?_; rintro e1 w1 ⟨rfl, hb1⟩
  have HD := Lib.hid (show Go.Lib.replaceAll s.data.toList (⟨#[34]⟩ : ByteArray).data.toList (⟨#[34, 34]⟩ : ByteArray).data.toList = Go.Lib.replaceAll s.data.toList [34] [34, 34] from rfl)
  rw [HD.out]
  have hDl := doubled_len s.data.toList
  rw [len_list, ← replaceAll_quote] at hDl
  generalize Go.Lib.replaceAll s.data.toList [34] [34, 34] = D at *
  go_wp2_with fail
  go_ret
  exact ⟨by rw [HQ.out, ← HX.out]; rfl, hb1⟩

set_option maxHeartbeats 8000000 in
set_option maxRecDepth 100000 in
theorem runForm_any (t : ByteArray) (h0 : 0 < t.size) (ht : t.size ≤ 4096) (w : World) (hE : EnvIn w) : Calls Tryz.prog 198 #[.string t] w fun e w' => e = .returned (.string ⟨(formP t.data.toList).toArray⟩) ∧ Below w.heap.size w w' := by
  have hi0 : (0 : Int) < (t.size : Int) := by omega
  have HS := Lib.hid (fun W => printable_any t[0] W)
  have HE := Lib.hid hE; clear hE
  cases hsh : showsC t[0]
  · have HF := Lib.hid (formP_codes h0 hsh)
    generalize formP t.data.toList = F at *
    rw [hsh] at HS
    clear hsh
    go_enter Tryz.func198, Tryz.ntmps198
    go_upto_region 4 with (first | fail | (refine (HS.out _).mono ?_; rintro e1 w1 ⟨rfl, rfl⟩))
    have hown0 : OwnStrs (w.alloc (.cells #[] 9)) w.heap.size 9 (.slice (some ⟨w.heap.size, 0, none⟩) 0 0) [] := OwnR.none_ _ _ _ (Nat.le_refl _)
    have HO0 := Lib.hid hown0
    have HB0 := Lib.hid (show Below w.heap.size w (w.alloc (.cells #[] 9)) from (Below.refl _ _).alloc (Nat.le_refl _) _)
    have hsz : w.heap.size ≤ (w.alloc (.cells #[] 9)).heap.size := HB0.out.size
    clear hown0
    generalize w.alloc (.cells #[] 9) = wa at *
    obtain ⟨cap1, wb, hcv, hcells, hbb, hsz2⟩ := rowBytes wa t
    have HCL := Lib.hid hcells; have HBB := Lib.hid hbb
    have hszb : wa.heap.size < wb.heap.size := by omega
    clear hcells hbb hsz2
    go_wp2_with fail
    clear hcv
    go_loopw [3, 15] (fun v i wr => ∃ (k : Nat) (ns : List ByteArray), k ≤ t.size ∧ i = .int .i64 k ∧ Grows Value.string wr wb.heap.size 9 (.slice (some ⟨w.heap.size, 0, none⟩) 0 0) v ns ∧ ns.length = k ∧ ns.map (·.data.toList) = (t.data.toList.take k).map (fun c => Lib.decDigits c.toNat) ∧ Below wb.heap.size wb wr) (fun _ i _ => t.size - (intOf i).toNat)
    case atStart => exact ⟨0, [], Nat.zero_le _, rfl, Grows.start _ _ _ _, rfl, rfl, Below.refl _ _⟩
    case round =>
      obtain ⟨k, ns, hk, rfl, hg, hnl, hns, hbr⟩ := hrel
      have HBR := Lib.hid hbr
      have hbs := hbr.size
      have HNS := Lib.hid hns
      have hbW := Lib.hid (HB0.out.trans ((HBB.out.mono hsz).trans (hbr.mono (Nat.le_trans hsz HBB.out.size))))
      clear hns
      by_cases hlt : k < t.size
      · have i1 : (k : Int) < (t.size : Int) := by omega
        have i0 : (0 : Int) ≤ (k : Int) := by omega
        have hgl := get_list t k hlt
        have hcell : wr.cell? ⟨wa.heap.size, k, none⟩ = some (.int .u8 (t[k].toNat : Int)) := (hbr.cell (p := ⟨wa.heap.size, k, none⟩) hszb).trans (HCL.out k hlt)
        have HNX := Lib.hid (show (ns ++ [decT t[k].toNat]).map (·.data.toList) = (t.data.toList.take (k + 1)).map (fun c => Lib.decDigits c.toNat) by
          rw [take_snoc' _ _ _ hgl, List.map_append, List.map_append, HNS.out]; rfl)
        have hwr : IntKind.i64.wrap (t[k].toNat : Int) = (t[k].toNat : Int) := IntWalk.i64_in _ (by have := t[k].toNat_lt; omega)
        have HD := Lib.hid (itoa_any t[k].toNat (by have := t[k].toNat_lt; omega) wr (HE.out.below hbW.out).1)
        have hnl2 : ns.length ≤ 1000000 := by omega
        clear hbr hgl
        generalize decT t[k].toNat = D at *
        go_wp2_with fail
        refine HD.out.mono ?_; rintro e2 w2 ⟨rfl, hb2⟩
        have hg2 : Grows Value.string w2 wb.heap.size 9 (.slice (some ⟨w.heap.size, 0, none⟩) 0 0) u3 ns := by
          rcases hg with hg | hg
          · exact .inl (hg.below hb2)
          · exact .inr hg
        have hs2 := Nat.le_trans hbs hb2.size
        go_wp2_with (first
          | fail
          | (at_builtin; refine wpList_app1G (enc := Value.string) rfl (.tmp 19) (.tmp 23) 22 9 rfl Tryz.underlying22 rfl (by omega) (fun _ => rfl) infoTxt w2 wb.heap.size _ _ ns D rfl hg2 rfl (by omega) hs2 ?_; intro v3 w3 hown3 hb3))
        go_roundw
        case rel => exact ⟨k + 1, _, by omega, by go_num, hown3, by rw [List.length_append, hnl]; rfl, HNX.out, HBR.out.trans ((hb2.mono hbs).trans hb3)⟩
        case measure => simp [intOf]; omega
      · have i1 : ¬ (k : Int) < (t.size : Int) := by omega
        have hk' : k = t.size := by omega
        have hjn : Lib.join (ns.map (·.data.toList)) [44] = codesTo t.data.toList := by
          rw [HNS.out, List.take_of_length_le (by rw [len_list]; omega)]; rfl
        have hcl := codesTo_len _ t.data.toList rfl
        rw [len_list] at hcl
        have hown := Grows.done hg HO0.out (HBB.out.trans (HBR.out.mono HBB.out.size)) (Nat.le_trans hsz HBB.out.size)
        have HJ := Lib.hid (join_own hown (by omega) ⟨#[44]⟩ (by show (Lib.join (ns.map (·.data.toList)) [44]).length ≤ _; rw [hjn]; omega))
        have HJN := Lib.hid (show Lib.join (ns.map (·.data.toList)) (⟨#[44]⟩ : ByteArray).data.toList = codesTo t.data.toList from hjn)
        have hbs2 := hbW.out.size
        have HX := Lib.hid (show ∀ D : List UInt8, (((⟨#[36, 67, 40]⟩ : ByteArray) ++ ⟨D.toArray⟩) ++ ⟨#[41]⟩) = ⟨(36 :: 67 :: 40 :: (D ++ [41])).toArray⟩ from fun D => by rw [show (⟨#[36, 67, 40]⟩ : ByteArray) ++ ⟨D.toArray⟩ = ⟨([36, 67, 40] ++ D).toArray⟩ from mk_app _ _]; exact mk_app ([36, 67, 40] ++ D) [41])
        clear hbr hg hjn hown
        go_wp2_with fail
        refine HJ.out.mono ?_; rintro e3 w3 ⟨rfl, hb3⟩
        rw [HJN.out]
        generalize codesTo t.data.toList = D at *
        go_wp2_with fail
        go_ret
        exact ⟨by rw [HF.out, ← HX.out]; rfl, hbW.out.trans (hb3.mono hbs2)⟩
  · have HF := Lib.hid (formP_shows h0 hsh)
    have HQ := Lib.hid (quoteText_any t (by omega) w HE.out)
    have HFQ := Lib.hid (show formP t.data.toList = quoteP t.data.toList by rw [HF.out, quoteP_eq])
    rw [HFQ.out]
    generalize quoteP t.data.toList = F at *
    rw [hsh] at HS
    clear hsh HF HFQ
    go_enter Tryz.func198, Tryz.ntmps198
    go_wp2_with fail
    refine (HS.out _).mono ?_; rintro e1 w1 ⟨rfl, rfl⟩
    go_wp2_with fail
    refine HQ.out.mono ?_; rintro e1 w1 ⟨rfl, hb1⟩
    go_wp2_with fail
    go_ret
    exact ⟨rfl, hb1⟩
end Go.Proofs.YtcjaaknnfohllaaGreatDoor

/- The words of an operation of sites: plain forms; rows of texts that take in another row. -/
namespace Go.Proofs.YtcjaaknnfohllaaGreatDoor
open Go.RowKit

def plainW (s : ByteArray) : ByteArray := ⟨(plainP s.data.toList).toArray⟩
def decW (n : Int) : ByteArray := ⟨(Lib.itoa n).toArray⟩
def wJob : ByteArray := ⟨#[106, 111, 98]⟩
def wIn : ByteArray := ⟨#[105, 110]⟩
def wStep : ByteArray := ⟨#[115, 116, 101, 112]⟩
def wTick : ByteArray := ⟨#[116, 105, 99, 107]⟩
def wFlush : ByteArray := ⟨#[102, 108, 117, 115, 104]⟩
def wPages : ByteArray := ⟨#[112, 97, 103, 101, 115]⟩
def wCheck : ByteArray := ⟨#[99, 104, 101, 99, 107]⟩
def wCrash : ByteArray := ⟨#[99, 114, 97, 115, 104]⟩
def wShip : ByteArray := ⟨#[115, 104, 105, 112]⟩
def wArrive : ByteArray := ⟨#[97, 114, 114, 105, 118, 101]⟩
def wLose : ByteArray := ⟨#[108, 111, 115, 101]⟩
def wTwice : ByteArray := ⟨#[116, 119, 105, 99, 101]⟩
def wCopy : ByteArray := ⟨#[99, 111, 112, 121]⟩
def wSwitch : ByteArray := ⟨#[115, 119, 105, 116, 99, 104]⟩
def inW (l : List ByteArray) : List ByteArray := if l = [] then [] else wIn :: l.map plainW
def jobW (x : Act) : List ByteArray := x.r :: x.l :: (x.args.map plainW ++ inW x.input)
def mainW (x : Act) : List ByteArray :=
  if x.k = 1 then wJob :: jobW x
  else if x.k = 2 then [wStep, decW x.a]
  else if x.k = 3 then [wTick]
  else if x.k = 4 then [wFlush]
  else if x.k = 5 then [wPages, decW x.a]
  else if x.k = 6 then [wCheck]
  else wCrash :: (x.a :: x.keep).map decW
def sitesW (kind at_ : Int) (x : Act) : List ByteArray :=
  if kind = 1 then mainW x
  else if kind = 2 then [wShip]
  else if kind = 3 then [wArrive, decW at_]
  else if kind = 4 then [wLose, decW at_]
  else if kind = 5 then [wTwice, decW at_]
  else if kind = 6 then [wCopy]
  else [wSwitch]
def noSp (s : ByteArray) : Bool := s.data.toList.all (· != 32)
def joinW (l : List ByteArray) : List UInt8 := Lib.join (l.map (·.data.toList)) [32]
def sitesT (kind at_ : Int) (x : Act) : List UInt8 :=
  if sitesB kind at_ x then (if (sitesW kind at_ x).all noSp then joinW (sitesW kind at_ x) else []) else []

theorem dec_noSp (u : Nat) : ∀ c ∈ Lib.decDigits u, c ≠ 32 := fun c hc e => by
  have := decDigits_dig u c hc
  rw [e] at this
  revert this; decide
theorem decW_noSp (n : Int) : noSp (decW n) = true := by
  unfold noSp decW
  rw [List.all_eq_true]
  intro c hc
  rw [bne_iff_ne]
  have hc' : c ∈ Lib.itoa n := by simpa using hc
  unfold Lib.itoa at hc'
  split at hc'
  · rcases List.mem_cons.1 hc' with h | h
    · rw [h]; decide
    · exact dec_noSp _ c h
  · exact dec_noSp _ c hc'
theorem name_noSp (s : ByteArray) (h : nameB s = true) : noSp s = true := by
  unfold nameB at h
  simp only [Bool.and_eq_true, decide_eq_true_eq] at h
  have h2 := h.2
  unfold nameTo at h2
  unfold noSp
  rw [List.all_eq_true]
  intro c hc
  obtain ⟨j, hj, e⟩ := List.getElem_of_mem hc
  have hjs : j < s.size := by simpa using hj
  have h3 := (List.all_eq_true.1 h2) j (List.mem_range.2 hjs)
  rw [bne_iff_ne]
  intro e32
  have hg : (s.get! j).toNat = 32 := by
    have : s.get! j = s.data.toList[j] := by
      unfold ByteArray.get!
      simp [getElem!_pos s.data j (by simpa using hjs)]
    rw [this, e, e32]; rfl
  rw [hg] at h3
  revert h3
  unfold nameCh letterB digitB
  simp
theorem main_noSp (x : Act) (h1 : x.k ≠ 1) : (mainW x).all noSp = true := by
  unfold mainW
  rw [if_neg h1]
  have hd := decW_noSp x.a
  split
  · simp only [List.all_cons, List.all_nil, hd]; rfl
  · split
    · rfl
    · split
      · rfl
      · split
        · simp only [List.all_cons, List.all_nil, hd]; rfl
        · split
          · rfl
          · rw [List.all_cons, List.map_cons, List.all_cons, hd, List.all_eq_true.2 (fun y hy => by obtain ⟨z, _, e⟩ := List.mem_map.1 hy; rw [← e]; exact decW_noSp z)]
            rfl
theorem job_noSp (x : Act) (hr : nameB x.r = true) (hl : nameB x.l = true) : (wJob :: jobW x).all noSp = ((x.args.map plainW).all noSp && (x.input.map plainW).all noSp) := by
  unfold jobW inW
  rw [List.all_cons, List.all_cons, List.all_cons, name_noSp _ hr, name_noSp _ hl, List.all_append]
  show (true && (true && (true && _))) = _
  rw [Bool.true_and, Bool.true_and, Bool.true_and]
  by_cases h : x.input = []
  · rw [if_pos h, h]; rfl
  · rw [if_neg h, List.all_cons]
    show (_ && (true && _)) = _
    rw [Bool.true_and]
theorem plainW_size (s : ByteArray) : (plainW s).size ≤ 9 * s.size + 2 := by
  have := plainP_len s.data.toList
  rw [len_list] at this
  show (plainP s.data.toList).toArray.size ≤ _
  rw [List.size_toArray]; exact this

/-- append(out, xs...): a row taken in, be it empty or not. -/
theorem wpList_appR {P : Program} {α : Type} {enc : α → Value} {d : α} {ops : Array Oper} {rest : List Oper} {o : Oper} {a : Go.Act} {Q : Exit → Go.Act → World → Prop} (hgd : o.guard = none) (s x : Operand) (t e : TypeId)
    (ho : o.op = .call { callee := .builtin .append, args := #[s, x], argTypes := #[t, t] }) (ht : P.underlying t = some (.slice e))
    {z : Value} {by_ : Nat} (hzz : z.cells.size = 1) (hby : by_ ≤ 16) (hone : ∀ x : α, (enc x).oneCell' = true) (hinfo : (P.info? e).map (fun i => (i.zero, i.size, i.bytes)) = some (some z, 1, by_))
    (w : World) (base : Nat) (v : Value) (xs ys : List α) (hs : a.eval s = v) (hown : OwnR enc w base e v xs) (A : Option Addr) (c lo hi : Nat)
    (hx : a.eval x = .slice A ys.length c) (hr : RowR enc d w lo hi A ys.length ys) (hlen : xs.length + ys.length ≤ 1000000000) (hbase : base ≤ w.heap.size)
    (h : ∀ v' w', OwnR enc w' base e v' (xs ++ ys) → Below base w w' → wpList P ops Q rest (a.put o.dst v') w') : wpList P ops Q (o :: rest) a w := by
  obtain ⟨i0, hi0, hz0, hz1, hz2⟩ := info_parts hinfo
  by_cases h0 : ys = []
  · subst h0
    have hrun : (Builtin.append_ #[t, t] o.type #[v, .slice A 0 c]).run P w = .ok v w := by
      rcases hown.2.2 with ⟨rfl, hz⟩ | ⟨g, cap, cur, rfl, _, _, hnc, _⟩
      · cases A <;> simp [Builtin.append_, run_underlying ht, sizeOf, typeInfo, hi0, Builtin.lenOf, Builtin.firstCells, loadCells, loadCellsFrom]
      · cases A <;> simp [Builtin.append_, run_underlying ht, sizeOf, typeInfo, hi0, Builtin.lenOf, Builtin.firstCells, loadCells, loadCellsFrom, storeCells] <;> omega
    refine wpList_plain hgd fun K hK => ?_
    unfold Oper.wp execOp
    rw [List.length_nil] at hx
    simp only [ho, resolve, invoke, builtin, Sem.run_bind, Sem.run_pure, Result.andThen_ok, List.map_toArray, List.map_cons, List.map_nil, hs, hx, hrun]
    exact hK _ _ (h v w (by rw [List.append_nil]; exact hown) (Below.refl _ _))
  · have hp := List.length_pos_iff.2 h0
    obtain ⟨b, off, rfl, _, _, hc⟩ := hr.2 hp
    have hadd : ∀ j, (⟨b, off, none⟩ : Addr).add j = ⟨b, off + j, none⟩ := fun j => by unfold Addr.add; split <;> simp_all
    refine wpList_append_own w hgd s x t ho base e i0 _ 1 by_ ht hi0 hz0 hz1 hz2 hzz (by decide) v xs.length (xs.map enc) hs hown.2 ⟨b, off, none⟩ ys.length c (ys.map enc) hx (by rw [List.length_map, Nat.mul_one]) (fun j u hj => ?_) (fun u hu => by obtain ⟨y, _, e⟩ := List.mem_map.1 hu; rw [← e]; exact hone y) (by unfold maxLen; omega) (Nat.le_trans (Nat.mul_le_mul_left _ hby) (by omega)) hbase ?_
    · rw [List.getElem?_map] at hj
      rcases Nat.lt_or_ge j ys.length with hlt | hge
      · rw [List.getElem?_eq_getElem hlt] at hj
        injection hj with hj
        rw [hadd, hc j hlt, ← hj, List.getD_eq_getElem?_getD, List.getElem?_eq_getElem hlt]
        rfl
      · rw [List.getElem?_eq_none hge] at hj; cases hj
    · intro v' w' h1 h2 _
      have hB : Below base w w' := (Below.refl base w).grown h2 hbase (fun k hk => (hown.2.lt k hk).1)
      refine h v' w' ⟨?_, ?_⟩ hB
      · rcases h1.2 with ⟨e1, e2⟩ | ⟨g, cap, cur, e1, _⟩
        · exact ⟨none, 0, by rw [e1, List.length_append, e2]⟩
        · exact ⟨some ⟨g, 0, none⟩, cap, by rw [e1, List.length_append]⟩
      · rw [List.length_append, List.map_append]; exact h1
/-- A literal row. -/
theorem OwnR.lit_ {α : Type} {enc : α → Value} (w : World) (base : Nat) (t : TypeId) (ys : List α) (hl : ys.length ≤ 1000000) (hb : base ≤ w.heap.size) : OwnR enc (w.alloc (.cells (ys.map enc).toArray t)) base t (.slice (some ⟨w.heap.size, 0, none⟩) ys.length ys.length) ys :=
  ⟨⟨_, _, rfl⟩, by simpa using World.ownsRow_lit (base := base) (e := t) (size := 1) w (ys.map enc).toArray ys.length hb (by unfold maxLen; omega) (by simp)⟩
theorem joinW_snoc (fs : List ByteArray) (x : ByteArray) : joinW (fs ++ [x]) = (if fs = [] then [] else joinW fs ++ [32]) ++ x.data.toList := by
  unfold joinW
  by_cases h : fs = []
  · subst h; rw [if_pos rfl]; exact join_one _ _
  · rw [if_neg h, List.map_append]
    show Lib.join (fs.map (·.data.toList) ++ [x.data.toList]) [32] = _
    rw [join_snoc _ _ _ (by intro e; exact h (List.map_eq_nil_iff.1 e)), List.append_assoc]
theorem take_one_more {α : Type} (xs : List α) (d : α) (k : Nat) (h : k < xs.length) : xs.take (k + 1) = xs.take k ++ [xs.getD k d] := by
  rw [List.take_add_one, List.getElem?_eq_getElem h, List.getD_eq_getElem?_getD, List.getElem?_eq_getElem h]
  rfl
theorem joinW_take (xs : List ByteArray) (k : Nat) (h : k < xs.length) : joinW (xs.take (k + 1)) = (if k = 0 then [] else joinW (xs.take k) ++ [32]) ++ (xs.getD k ByteArray.empty).data.toList := by
  rw [take_one_more xs ByteArray.empty k h, joinW_snoc]
  by_cases h0 : k = 0
  · subst h0; rw [if_pos rfl, if_pos (by rfl)]
  · rw [if_neg h0, if_neg (by
      intro e
      have := congrArg List.length e
      rw [List.length_take, List.length_nil] at this
      omega)]
theorem joinW_len (xs : List ByteArray) (hb : ∀ x ∈ xs, x.size ≤ 1000) : ∀ k, k ≤ xs.length → (joinW (xs.take k)).length ≤ 1001 * k
  | 0, _ => Nat.le_refl _
  | k + 1, h => by
    have h1 := joinW_len xs hb k (by omega)
    have h2 := hb (xs.getD k ByteArray.empty) (by rw [List.getD_eq_getElem?_getD, List.getElem?_eq_getElem (show k < xs.length by omega)]; exact List.getElem_mem _)
    rw [joinW_take xs k (by omega), List.length_append, len_list]
    split
    · simp only [List.length_nil]; omega
    · rw [List.length_append, List.length_singleton]; omega
end Go.Proofs.YtcjaaknnfohllaaGreatDoor
