/- The reference's ReadSitesAct walked. -/
import Derived.Test.YtcjaaknnfohllaaGreatDoorJoinRSAAs
import Derived.Test.YtcjaaknnfohllaaGreatDoorJoinRSAAt
import Derived.Test.YtcjaaknnfohllaaGreatDoorJoinRSAAr
namespace Go.Proofs.YtcjaaknnfohllaaGreatDoor
open Go.RowKit

def sact0 : Int × Int × Act := (0, 0, act0)
abbrev SactIs (w : World) (lo hi : Nat) (v : Value) (g : Int × Int × Act) : Prop := SActR w lo hi v g.1 g.2.1 g.2.2
theorem SActR.zero (w : World) (lo hi : Nat) : SactIs w lo hi (.agg #[.int .i64 0, .int .i64 0, .int .i64 0, .int .i64 0, .string ⟨#[]⟩, .string ⟨#[]⟩, .slice none 0 0, .slice none 0 0, .slice none 0 0]) sact0 := ⟨none, 0, none, 0, none, 0, rfl, row_nil _ _ _, row_nil _ _ _, row_nilI _ _ _⟩
theorem wordsTo_size (s : ByteArray) : ∀ k, ∀ y ∈ (wordsTo s k).1, y.size ≤ s.size
  | 0, y, hy => by cases hy
  | k + 1, y, hy => by
    unfold wordsTo at hy
    split at hy
    · rcases List.mem_append.1 hy with h | h
      · exact wordsTo_size s k y h
      · rw [List.mem_singleton.1 h, ByteArray.size_extract]; omega
    · exact wordsTo_size s k y hy
theorem wrds_small (s : ByteArray) : (wrds s).length ≤ s.size + 1 ∧ ∀ y ∈ wrds s, y.size ≤ s.size :=
  ⟨Nat.le_trans (List.length_filter_le _ _) (wordsTo_len s _), fun y hy => wordsTo_size s _ y (List.mem_filter.1 hy).1⟩
theorem val_small {y : ByteArray} (h : okS y = true) : valS y ≤ 9223372036854775807 := by
  obtain ⟨h1, h2⟩ := numS_ok h
  rw [← h1, decW_len] at h2
  have h3 : (numS y).1 = valS y := rfl
  rw [h3] at h2
  by_cases h0 : 0 ≤ valS y
  · rw [itoa_pos _ h0] at h2
    have := small_dec h2
    omega
  · omega
theorem getD_small (xs : List ByteArray) (n k : Nat) (h : ∀ y ∈ xs, y.size ≤ n) : (xs.getD k eB).size ≤ n := by
  rw [List.getD_eq_getElem?_getD]
  rcases Nat.lt_or_ge k xs.length with h1 | h1
  · rw [List.getElem?_eq_getElem h1]; exact h _ (List.getElem_mem _)
  · rw [List.getElem?_eq_none h1]; exact Nat.zero_le _
theorem rows_small (L : List ByteArray) (n m : Nat) (hl : L.length ≤ m) (h : ∀ y ∈ L, y.size ≤ n) : (L.map rdW).length ≤ m ∧ ∀ y ∈ L.map rdW, y.size ≤ n :=
  ⟨by rw [List.length_map]; exact hl, fun y hy => by obtain ⟨z, hz, e⟩ := List.mem_map.1 hy; rw [← e]; exact Nat.le_trans (rdW_size z) (h z hz)⟩
theorem job_small (xs : List ByteArray) (hl : xs.length ≤ 1048576) (hs : ∀ y ∈ xs, y.size ≤ 1048576) : ActSmall (jobS xs) ∧ (jobS xs).keep = [] := by
  unfold jobS
  split
  · exact ⟨⟨by decide, by decide, by decide, by decide, by decide, fun y hy => absurd hy List.not_mem_nil, fun y hy => absurd hy List.not_mem_nil⟩, rfl⟩
  · have a1 := List.takeWhile_sublist (fun y => decide (y ≠ wIn)) (l := xs.drop 3)
    have a2 := List.dropWhile_sublist (fun y => decide (y ≠ wIn)) (l := xs.drop 3)
    have a3 : (xs.drop 3).Sublist xs := List.drop_sublist 3 xs
    have a4 := (List.filter_sublist (p := fun y => decide (y ≠ wIn)) (l := (xs.drop 3).dropWhile (fun y => decide (y ≠ wIn)))).trans (a2.trans a3)
    have b1 := rows_small _ 1048576 1048576 (Nat.le_trans (a1.trans a3).length_le hl) (fun y hy => hs y ((a1.trans a3).subset hy))
    have b2 := rows_small _ 1048576 1048576 (Nat.le_trans a4.length_le hl) (fun y hy => hs y (a4.subset hy))
    exact ⟨⟨getD_small xs _ 1 hs, getD_small xs _ 2 hs, b1.1, b2.1, Nat.zero_le _, b1.2, b2.2⟩, rfl⟩
theorem guess_small (xs : List ByteArray) (hl : xs.length ≤ 1048576) (hs : ∀ y ∈ xs, y.size ≤ 1048576) : ActSmall (guessS xs).2.2 ∧ KeepMax (guessS xs).2.2 := by
  have hz : ActSmall act0 ∧ KeepMax act0 := ⟨⟨by decide, by decide, by decide, by decide, by decide, fun y hy => absurd hy List.not_mem_nil, fun y hy => absurd hy List.not_mem_nil⟩, fun z hz => absurd hz List.not_mem_nil⟩
  cases hp : placeIn (xs.getD 0 eB) mainsW 0 with
  | none => rw [guess_wire xs hp]; exact hz
  | some k =>
    rw [guess_main xs k hp]
    show ActSmall (if k = 0 then jobS xs else _) ∧ KeepMax (if k = 0 then jobS xs else _)
    by_cases h0 : k = 0
    · rw [if_pos h0]
      obtain ⟨j1, j2⟩ := job_small xs hl hs
      exact ⟨j1, fun z hz => by rw [j2] at hz; cases hz⟩
    · rw [if_neg h0]
      have hk : (if k = 6 then ((xs.drop 2).filter okS).map valS else []).length ≤ 1048576 ∧ ∀ z ∈ (if k = 6 then ((xs.drop 2).filter okS).map valS else []), z ≤ 9223372036854775807 := by
        split
        · refine ⟨?_, fun z hz => ?_⟩
          · rw [List.length_map]
            have h1 := List.length_filter_le okS (xs.drop 2)
            rw [List.length_drop] at h1
            omega
          · obtain ⟨y, hy, e⟩ := List.mem_map.1 hz
            rw [← e]
            exact val_small (List.mem_filter.1 hy).2
        · exact ⟨Nat.zero_le _, fun z hz => absurd hz List.not_mem_nil⟩
      exact ⟨⟨Nat.zero_le _, Nat.zero_le _, Nat.zero_le _, Nat.zero_le _, hk.1, fun y hy => absurd hy List.not_mem_nil, fun y hy => absurd hy List.not_mem_nil⟩, hk.2⟩

set_option maxHeartbeats 8000000 in
set_option maxRecDepth 100000 in
theorem l34Read_any (s : ByteArray) (hs : s.size ≤ 6000) (w : World) :
    Calls Tryz.prog 51 #[.string s] w fun e w' => (∃ v, e = .returned (.tuple #[v, .bool (rsS s).isSome]) ∧ SactIs w' w.heap.size w'.heap.size v ((rsS s).getD sact0)) ∧ Below w.heap.size w w' := by
  have HBZ := Lib.hid (Blk.new w 32 #[.int .i64 0, .int .i64 0, .int .i64 0, .int .i64 0, .string ⟨#[]⟩, .string ⟨#[]⟩, .slice none 0 0, .slice none 0 0, .slice none 0 0])
  have hd1 := (Below.refl w.heap.size w).alloc (Nat.le_refl _) (.cells #[.int .i64 0, .int .i64 0, .int .i64 0, .int .i64 0, .string ⟨#[]⟩, .string ⟨#[]⟩, .slice none 0 0, .slice none 0 0, .slice none 0 0] 32)
  have HB1 := Lib.hid hd1
  have hs1 := own_alloc_sz w (.cells #[.int .i64 0, .int .i64 0, .int .i64 0, .int .i64 0, .string ⟨#[]⟩, .string ⟨#[]⟩, .slice none 0 0, .slice none 0 0, .slice none 0 0] 32)
  have HWD := Lib.hid (fun W => l34Words_any s W hs)
  have hw := wrds_small s
  have hgs := guess_small (wrds s) (by omega) (fun y hy => by have := hw.2 y hy; omega)
  have HRS := Lib.hid (show rsS s = if wrds s = [] then none else if sitesB (guessS (wrds s)).1 (guessS (wrds s)).2.1 (guessS (wrds s)).2.2 = true ∧ joinW (outW (sitesW (guessS (wrds s)).1 (guessS (wrds s)).2.1 (guessS (wrds s)).2.2)) = s.data.toList then some (guessS (wrds s)) else none from if_neg (by omega))
  have hwl := hw.1
  have hwd : fullOnes (wordsTo s (s.size + 1)).1 = wrds s := rfl
  rw [hwd] at HWD
  generalize rsS s = Q at *
  have HGU := Lib.hid (fun b off c lo hi W h1 h2 h3 h4 h5 => l34Guess_any b off (wrds s).length c lo hi (wrds s) W h1 h2 h3 h4 h5)
  generalize guessS (wrds s) = G at *
  generalize wrds s = L at *
  clear hw hwd hd1
  by_cases hL : L = []
  · have HF := Lib.hid (show Q = none by rw [HRS.out, if_pos hL])
    have hl0 : ((L.length : Int) == 0) = true := by rw [hL]; rfl
    have HLL := Lib.hid hL
    clear hL
    go_enter Tryz.func51, Tryz.ntmps51
    go_wp2_with fail
    refine (HWD.out _).mono ?_; rintro e2 w2 ⟨v2, rfl, hv2, hb2⟩
    obtain ⟨A2, c2, rfl⟩ := hv2.1
    have HZ2 := Lib.hid (HBZ.out.below hb2 (by omega))
    have HB2 := Lib.hid (HB1.out.trans (hb2.mono (by omega)))
    clear hb2 hv2
    have fz := HZ2.out.cell
    have zz := HZ2.out.frozen
    go_wp2_with fail
    refine bodyPost_ret (v := .tuple #[.agg #[.int .i64 0, .int .i64 0, .int .i64 0, .int .i64 0, .string ⟨#[]⟩, .string ⟨#[]⟩, .slice none 0 0, .slice none 0 0, .slice none 0 0], .bool false]) (by simp [results, Tryz.results51, go_sem, fz]) rfl ⟨?_, ?_⟩
    · rw [HF.out]
      exact ⟨_, rfl, SActR.zero _ _ _⟩
    · repeat (with_reducible refine Below.setCell ?_ (by first | exact Nat.le_refl _ | (show _ ≤ _; omega)) _)
      exact HB2.out
  · have hpos := List.length_pos_iff.2 hL
    have hl0 : ((L.length : Int) == 0) = false := by rw [beq_eq_false_iff_ne]; omega
    have HRS2 := Lib.hid (show Q = if sitesB G.1 G.2.1 G.2.2 = true ∧ joinW (outW (sitesW G.1 G.2.1 G.2.2)) = s.data.toList then some G else none by rw [HRS.out, if_neg hL])
    have HLL := Lib.hid hL
    clear hL HRS
    obtain ⟨kind, at_, x⟩ := G
    have HS := Lib.hid hgs.1; have HK := Lib.hid hgs.2
    have HOKc := Lib.hid (fun V lo hi W h1 h2 => specSitesActOk_any x kind at_ V lo hi W h1 h2 HS.out)
    have HACT := Lib.hid (fun V lo hi W h1 h2 hb => l34Act_any x kind at_ V lo hi W h1 h2 hb HK.out)
    have HSM := Lib.hid (fun (hb : sitesB kind at_ x = true) => sitesW_small hb HK.out)
    clear hgs
    cases hB : sitesB kind at_ x
    · have HF := Lib.hid (show Q = none by rw [HRS2.out, if_neg (fun h => by have := h.1; rw [hB] at this; cases this)])
      rw [hB] at HOKc
      clear hB
      go_enter Tryz.func51, Tryz.ntmps51
      go_wp2_with fail
      refine (HWD.out _).mono ?_; rintro e2 w2 ⟨v2, rfl, hv2, hb2⟩
      obtain ⟨A2, c2, rfl⟩ := hv2.1
      obtain ⟨g, rfl, hg1, hg2⟩ := own_head hv2.2 hpos
      have hcap : L.length ≤ c2 := by
        rcases hv2.2.2 with ⟨e, _⟩ | ⟨g', cap, cur, e, _, _, h3, _⟩
        · cases e
        · injection e with _ _ e3; subst e3; exact h3
      have hs2 := hb2.size
      have HRW := Lib.hid (OwnR.reads (d := ByteArray.empty) hv2)
      have HZ2 := Lib.hid (HBZ.out.below hb2 (by omega))
      have HB2 := Lib.hid (HB1.out.trans (hb2.mono (by omega)))
      clear hb2 hv2 HBZ HB1 HWD
      go_wp2_with fail
      refine (HGU.out g 0 c2 _ _ w2 HRW.out (Nat.le_refl _) (by omega) hpos hcap).mono ?_; rintro e3 w3 ⟨⟨v3, rfl, hx3⟩, hb3⟩
      obtain ⟨A, ca, B, cb, C, cc, rfl, rA, rB, rC⟩ := hx3
      have hs3 := hb3.size
      have hb4 := (Below.refl w3.heap.size w3).alloc (Nat.le_refl _) (.cells #[.int .i64 kind, .int .i64 at_, .int .i64 x.k, .int .i64 x.a, .string x.r, .string x.l, .slice A x.args.length ca, .slice B x.input.length cb, .slice C x.keep.length cc] 32)
      have HX4 := Lib.hid (show SActR (w3.alloc (.cells #[.int .i64 kind, .int .i64 at_, .int .i64 x.k, .int .i64 x.a, .string x.r, .string x.l, .slice A x.args.length ca, .slice B x.input.length cb, .slice C x.keep.length cc] 32)) w2.heap.size w3.heap.size (.agg #[.int .i64 kind, .int .i64 at_, .int .i64 x.k, .int .i64 x.a, .string x.r, .string x.l, .slice A x.args.length ca, .slice B x.input.length cb, .slice C x.keep.length cc]) kind at_ x from ⟨A, ca, B, cb, C, cc, rfl, rA.below hb4 (Nat.le_refl _), rB.below hb4 (Nat.le_refl _), rC.below hb4 (Nat.le_refl _)⟩)
      have HBK4 := Lib.hid (Blk.new w3 32 #[.int .i64 kind, .int .i64 at_, .int .i64 x.k, .int .i64 x.a, .string x.r, .string x.l, .slice A x.args.length ca, .slice B x.input.length cb, .slice C x.keep.length cc])
      have HZ4 := Lib.hid ((HZ2.out.below hb3 HZ2.out.lt).alloc (.cells #[.int .i64 kind, .int .i64 at_, .int .i64 x.k, .int .i64 x.a, .string x.r, .string x.l, .slice A x.args.length ca, .slice B x.input.length cb, .slice C x.keep.length cc] 32))
      have HB4 := Lib.hid (HB2.out.trans ((hb3.trans (hb4.mono hs3)).mono (by omega)))
      have hs4 := own_alloc_sz w3 (.cells #[.int .i64 kind, .int .i64 at_, .int .i64 x.k, .int .i64 x.a, .string x.r, .string x.l, .slice A x.args.length ca, .slice B x.input.length cb, .slice C x.keep.length cc] 32)
      clear hb3 hb4 rA rB rC HZ2 HB2 HRW HGU
      go_upto_region 5 with fail
      generalize w3.alloc (.cells #[.int .i64 kind, .int .i64 at_, .int .i64 x.k, .int .i64 x.a, .string x.r, .string x.l, .slice A x.args.length ca, .slice B x.input.length cb, .slice C x.keep.length cc] 32) = w4 at *
      generalize w3.heap.size = NB at *
      have f4 := HBK4.out.cell
      go_wp2_with fail
      refine (HOKc.out _ _ _ w4 HX4.out (by omega)).mono ?_; rintro e5 w5 ⟨rfl, hb5⟩
      have hs5 := hb5.size
      have HBK5 := Lib.hid (HBK4.out.below hb5 (by omega))
      have HX5 := Lib.hid (HX4.out.below hb5 (by omega))
      have HZ5 := Lib.hid (HZ4.out.below hb5 (by omega))
      have HB5 := Lib.hid (HB4.out.trans (hb5.mono (by omega)))
      clear hb5 f4 HBK4 HX4 HZ4 HB4
      have f5 := HBK5.out.cell
      have fz := HZ5.out.cell
      have zz := HZ5.out.frozen
      go_wp2_with fail
      refine bodyPost_ret (v := .tuple #[.agg #[.int .i64 0, .int .i64 0, .int .i64 0, .int .i64 0, .string ⟨#[]⟩, .string ⟨#[]⟩, .slice none 0 0, .slice none 0 0, .slice none 0 0], .bool false]) (by simp [results, Tryz.results51, go_sem, fz]) rfl ⟨?_, ?_⟩
      · rw [HF.out]
        exact ⟨_, rfl, SActR.zero _ _ _⟩
      · repeat (with_reducible refine Below.setCell ?_ (by first | exact Nat.le_refl _ | (show _ ≤ _; omega)) _)
        exact HB5.out
    · by_cases hT : joinW (outW (sitesW kind at_ x)) = s.data.toList
      · have HF := Lib.hid (show Q = some (kind, at_, x) by rw [HRS2.out]; exact if_pos ⟨hB, hT⟩)
        have hq : ((⟨(joinW (outW (sitesW kind at_ x))).toArray⟩ : ByteArray).toList == s.toList) = true := by rw [bytes_eq, decide_eq_true hT]
        rw [hB] at HOKc
        have HSM2 := Lib.hid (HSM.out hB)
        have HACT2 := Lib.hid (fun V lo hi W h1 h2 => HACT.out V lo hi W h1 h2 hB)
        have hout : (outW (sitesW kind at_ x)).length ≤ 500 ∧ ∀ y ∈ outW (sitesW kind at_ x), y.size ≤ 1000 := by
          unfold outW
          split
          · exact HSM2.out
          · exact ⟨Nat.zero_le _, fun y hy => absurd hy List.not_mem_nil⟩
        have HTT := Lib.hid hT
        have HOUT := Lib.hid hout.2
        have hol := hout.1
        clear hB hout hT HACT HSM
        generalize outW (sitesW kind at_ x) = OL at *
        go_enter Tryz.func51, Tryz.ntmps51
        go_wp2_with fail
        refine (HWD.out _).mono ?_; rintro e2 w2 ⟨v2, rfl, hv2, hb2⟩
        obtain ⟨A2, c2, rfl⟩ := hv2.1
        obtain ⟨g, rfl, hg1, hg2⟩ := own_head hv2.2 hpos
        have hcap : L.length ≤ c2 := by
          rcases hv2.2.2 with ⟨e, _⟩ | ⟨g', cap, cur, e, _, _, h3, _⟩
          · cases e
          · injection e with _ _ e3; subst e3; exact h3
        have hs2 := hb2.size
        have HRW := Lib.hid (OwnR.reads (d := ByteArray.empty) hv2)
        have HZ2 := Lib.hid (HBZ.out.below hb2 (by omega))
        have HB2 := Lib.hid (HB1.out.trans (hb2.mono (by omega)))
        clear hb2 hv2 HBZ HB1 HWD
        go_wp2_with fail
        refine (HGU.out g 0 c2 _ _ w2 HRW.out (Nat.le_refl _) (by omega) hpos hcap).mono ?_; rintro e3 w3 ⟨⟨v3, rfl, hx3⟩, hb3⟩
        obtain ⟨A, ca, B, cb, C, cc, rfl, rA, rB, rC⟩ := hx3
        have hs3 := hb3.size
        have hb4 := (Below.refl w3.heap.size w3).alloc (Nat.le_refl _) (.cells #[.int .i64 kind, .int .i64 at_, .int .i64 x.k, .int .i64 x.a, .string x.r, .string x.l, .slice A x.args.length ca, .slice B x.input.length cb, .slice C x.keep.length cc] 32)
        have HX4 := Lib.hid (show SActR (w3.alloc (.cells #[.int .i64 kind, .int .i64 at_, .int .i64 x.k, .int .i64 x.a, .string x.r, .string x.l, .slice A x.args.length ca, .slice B x.input.length cb, .slice C x.keep.length cc] 32)) w2.heap.size w3.heap.size (.agg #[.int .i64 kind, .int .i64 at_, .int .i64 x.k, .int .i64 x.a, .string x.r, .string x.l, .slice A x.args.length ca, .slice B x.input.length cb, .slice C x.keep.length cc]) kind at_ x from ⟨A, ca, B, cb, C, cc, rfl, rA.below hb4 (Nat.le_refl _), rB.below hb4 (Nat.le_refl _), rC.below hb4 (Nat.le_refl _)⟩)
        have HBK4 := Lib.hid (Blk.new w3 32 #[.int .i64 kind, .int .i64 at_, .int .i64 x.k, .int .i64 x.a, .string x.r, .string x.l, .slice A x.args.length ca, .slice B x.input.length cb, .slice C x.keep.length cc])
        have HZ4 := Lib.hid ((HZ2.out.below hb3 HZ2.out.lt).alloc (.cells #[.int .i64 kind, .int .i64 at_, .int .i64 x.k, .int .i64 x.a, .string x.r, .string x.l, .slice A x.args.length ca, .slice B x.input.length cb, .slice C x.keep.length cc] 32))
        have HB4 := Lib.hid (HB2.out.trans ((hb3.trans (hb4.mono hs3)).mono (by omega)))
        have hs4 := own_alloc_sz w3 (.cells #[.int .i64 kind, .int .i64 at_, .int .i64 x.k, .int .i64 x.a, .string x.r, .string x.l, .slice A x.args.length ca, .slice B x.input.length cb, .slice C x.keep.length cc] 32)
        clear hb3 hb4 rA rB rC HZ2 HB2 HRW HGU
        go_upto_region 5 with fail
        generalize w3.alloc (.cells #[.int .i64 kind, .int .i64 at_, .int .i64 x.k, .int .i64 x.a, .string x.r, .string x.l, .slice A x.args.length ca, .slice B x.input.length cb, .slice C x.keep.length cc] 32) = w4 at *
        generalize w3.heap.size = NB at *
        have f4 := HBK4.out.cell
        go_wp2_with fail
        refine (HOKc.out _ _ _ w4 HX4.out (by omega)).mono ?_; rintro e5 w5 ⟨rfl, hb5⟩
        have hs5 := hb5.size
        have HBK5 := Lib.hid (HBK4.out.below hb5 (by omega))
        have HX5 := Lib.hid (HX4.out.below hb5 (by omega))
        have HZ5 := Lib.hid (HZ4.out.below hb5 (by omega))
        have HB5 := Lib.hid (HB4.out.trans (hb5.mono (by omega)))
        clear hb5 f4 HBK4 HX4 HZ4 HB4
        have f5 := HBK5.out.cell
        go_wp2_with fail
        refine (HACT2.out _ _ _ w5 HX5.out (by omega)).mono ?_; rintro e6 w6 ⟨⟨v6, rfl, hv6⟩, hb6⟩
        obtain ⟨A6, c6, rfl⟩ := hv6.1
        have hs6 := hb6.size
        have HBK6 := Lib.hid (HBK5.out.below hb6 (by omega))
        have HX6 := Lib.hid (HX5.out.below hb6 (by omega))
        have HZ6 := Lib.hid (HZ5.out.below hb6 (by omega))
        have HB6 := Lib.hid (HB5.out.trans (hb6.mono (by omega)))
        have HJ := Lib.hid (l34Join_any A6 OL.length c6 _ _ OL w6 (OwnR.reads (d := ByteArray.empty) hv6) (Nat.le_refl _) (by omega) HOUT.out)
        generalize (⟨(joinW OL).toArray⟩ : ByteArray) = JB at *
        clear hb6 hv6 f5 HBK5 HX5 HZ5 HB5
        go_wp2_with fail
        refine HJ.out.mono ?_; rintro e7 w7 ⟨rfl, hb7⟩
        have hs7 := hb7.size
        have HBK7 := Lib.hid (HBK6.out.below hb7 (by omega))
        have HX7 := Lib.hid (HX6.out.below hb7 (by omega))
        have HZ7 := Lib.hid (HZ6.out.below hb7 (by omega))
        have HB7 := Lib.hid (HB6.out.trans (hb7.mono (by omega)))
        clear hb7 HJ HBK6 HX6 HZ6 HB6
        have f7 := HBK7.out.cell
        have fz := HZ7.out.cell
        have zz := HZ7.out.frozen
        obtain ⟨A', ca', B', cb', C', cc', hve, rA, rB, rC⟩ := HX7.out
        have hve2 := Value.agg.inj hve
        simp only [Array.mk.injEq, List.cons.injEq, Value.slice.injEq, and_true, true_and] at hve2
        obtain ⟨⟨rfl, rfl⟩, ⟨rfl, rfl⟩, ⟨rfl, rfl⟩⟩ := hve2
        have HRA := Lib.hid rA; have HRB := Lib.hid rB; have HRC := Lib.hid rC
        clear rA rB rC hve
        go_wp2_with fail
        refine bodyPost_ret (v := .tuple #[.agg #[.int .i64 kind, .int .i64 at_, .int .i64 x.k, .int .i64 x.a, .string x.r, .string x.l, .slice A x.args.length ca, .slice B x.input.length cb, .slice C x.keep.length cc], .bool true]) (by simp [results, Tryz.results51, go_sem, fz]) rfl ⟨?_, ?_⟩
        · rw [HF.out]
          exact ⟨_, rfl, A, ca, B, cb, C, cc, rfl, (by refine RowR.more (lo := (w.heap.size + 1)) (hi := w7.heap.size) ?_ (by omega) (by simp [World.setCell]); (iterate 9 (with_reducible refine RowR.set_lo ?_ (by show w.heap.size < (w.heap.size + 1); omega))); exact (HRA.out.more (by omega) (by omega))), (by refine RowR.more (lo := (w.heap.size + 1)) (hi := w7.heap.size) ?_ (by omega) (by simp [World.setCell]); (iterate 9 (with_reducible refine RowR.set_lo ?_ (by show w.heap.size < (w.heap.size + 1); omega))); exact (HRB.out.more (by omega) (by omega))), (by refine RowR.more (lo := (w.heap.size + 1)) (hi := w7.heap.size) ?_ (by omega) (by simp [World.setCell]); (iterate 9 (with_reducible refine RowR.set_lo ?_ (by show w.heap.size < (w.heap.size + 1); omega))); exact (HRC.out.more (by omega) (by omega)))⟩
        · repeat (with_reducible refine Below.setCell ?_ (by first | exact Nat.le_refl _ | (show _ ≤ _; omega)) _)
          exact HB7.out
      · have HF := Lib.hid (show Q = none by rw [HRS2.out]; exact if_neg (fun h => hT h.2))
        have hq : ((⟨(joinW (outW (sitesW kind at_ x))).toArray⟩ : ByteArray).toList == s.toList) = false := by rw [bytes_eq, decide_eq_false hT]
        rw [hB] at HOKc
        have HSM2 := Lib.hid (HSM.out hB)
        have HACT2 := Lib.hid (fun V lo hi W h1 h2 => HACT.out V lo hi W h1 h2 hB)
        have hout : (outW (sitesW kind at_ x)).length ≤ 500 ∧ ∀ y ∈ outW (sitesW kind at_ x), y.size ≤ 1000 := by
          unfold outW
          split
          · exact HSM2.out
          · exact ⟨Nat.zero_le _, fun y hy => absurd hy List.not_mem_nil⟩
        have HTT := Lib.hid hT
        have HOUT := Lib.hid hout.2
        have hol := hout.1
        clear hB hout hT HACT HSM
        generalize outW (sitesW kind at_ x) = OL at *
        go_enter Tryz.func51, Tryz.ntmps51
        go_wp2_with fail
        refine (HWD.out _).mono ?_; rintro e2 w2 ⟨v2, rfl, hv2, hb2⟩
        obtain ⟨A2, c2, rfl⟩ := hv2.1
        obtain ⟨g, rfl, hg1, hg2⟩ := own_head hv2.2 hpos
        have hcap : L.length ≤ c2 := by
          rcases hv2.2.2 with ⟨e, _⟩ | ⟨g', cap, cur, e, _, _, h3, _⟩
          · cases e
          · injection e with _ _ e3; subst e3; exact h3
        have hs2 := hb2.size
        have HRW := Lib.hid (OwnR.reads (d := ByteArray.empty) hv2)
        have HZ2 := Lib.hid (HBZ.out.below hb2 (by omega))
        have HB2 := Lib.hid (HB1.out.trans (hb2.mono (by omega)))
        clear hb2 hv2 HBZ HB1 HWD
        go_wp2_with fail
        refine (HGU.out g 0 c2 _ _ w2 HRW.out (Nat.le_refl _) (by omega) hpos hcap).mono ?_; rintro e3 w3 ⟨⟨v3, rfl, hx3⟩, hb3⟩
        obtain ⟨A, ca, B, cb, C, cc, rfl, rA, rB, rC⟩ := hx3
        have hs3 := hb3.size
        have hb4 := (Below.refl w3.heap.size w3).alloc (Nat.le_refl _) (.cells #[.int .i64 kind, .int .i64 at_, .int .i64 x.k, .int .i64 x.a, .string x.r, .string x.l, .slice A x.args.length ca, .slice B x.input.length cb, .slice C x.keep.length cc] 32)
        have HX4 := Lib.hid (show SActR (w3.alloc (.cells #[.int .i64 kind, .int .i64 at_, .int .i64 x.k, .int .i64 x.a, .string x.r, .string x.l, .slice A x.args.length ca, .slice B x.input.length cb, .slice C x.keep.length cc] 32)) w2.heap.size w3.heap.size (.agg #[.int .i64 kind, .int .i64 at_, .int .i64 x.k, .int .i64 x.a, .string x.r, .string x.l, .slice A x.args.length ca, .slice B x.input.length cb, .slice C x.keep.length cc]) kind at_ x from ⟨A, ca, B, cb, C, cc, rfl, rA.below hb4 (Nat.le_refl _), rB.below hb4 (Nat.le_refl _), rC.below hb4 (Nat.le_refl _)⟩)
        have HBK4 := Lib.hid (Blk.new w3 32 #[.int .i64 kind, .int .i64 at_, .int .i64 x.k, .int .i64 x.a, .string x.r, .string x.l, .slice A x.args.length ca, .slice B x.input.length cb, .slice C x.keep.length cc])
        have HZ4 := Lib.hid ((HZ2.out.below hb3 HZ2.out.lt).alloc (.cells #[.int .i64 kind, .int .i64 at_, .int .i64 x.k, .int .i64 x.a, .string x.r, .string x.l, .slice A x.args.length ca, .slice B x.input.length cb, .slice C x.keep.length cc] 32))
        have HB4 := Lib.hid (HB2.out.trans ((hb3.trans (hb4.mono hs3)).mono (by omega)))
        have hs4 := own_alloc_sz w3 (.cells #[.int .i64 kind, .int .i64 at_, .int .i64 x.k, .int .i64 x.a, .string x.r, .string x.l, .slice A x.args.length ca, .slice B x.input.length cb, .slice C x.keep.length cc] 32)
        clear hb3 hb4 rA rB rC HZ2 HB2 HRW HGU
        go_upto_region 5 with fail
        generalize w3.alloc (.cells #[.int .i64 kind, .int .i64 at_, .int .i64 x.k, .int .i64 x.a, .string x.r, .string x.l, .slice A x.args.length ca, .slice B x.input.length cb, .slice C x.keep.length cc] 32) = w4 at *
        generalize w3.heap.size = NB at *
        have f4 := HBK4.out.cell
        go_wp2_with fail
        refine (HOKc.out _ _ _ w4 HX4.out (by omega)).mono ?_; rintro e5 w5 ⟨rfl, hb5⟩
        have hs5 := hb5.size
        have HBK5 := Lib.hid (HBK4.out.below hb5 (by omega))
        have HX5 := Lib.hid (HX4.out.below hb5 (by omega))
        have HZ5 := Lib.hid (HZ4.out.below hb5 (by omega))
        have HB5 := Lib.hid (HB4.out.trans (hb5.mono (by omega)))
        clear hb5 f4 HBK4 HX4 HZ4 HB4
        have f5 := HBK5.out.cell
        go_wp2_with fail
        refine (HACT2.out _ _ _ w5 HX5.out (by omega)).mono ?_; rintro e6 w6 ⟨⟨v6, rfl, hv6⟩, hb6⟩
        obtain ⟨A6, c6, rfl⟩ := hv6.1
        have hs6 := hb6.size
        have HBK6 := Lib.hid (HBK5.out.below hb6 (by omega))
        have HX6 := Lib.hid (HX5.out.below hb6 (by omega))
        have HZ6 := Lib.hid (HZ5.out.below hb6 (by omega))
        have HB6 := Lib.hid (HB5.out.trans (hb6.mono (by omega)))
        have HJ := Lib.hid (l34Join_any A6 OL.length c6 _ _ OL w6 (OwnR.reads (d := ByteArray.empty) hv6) (Nat.le_refl _) (by omega) HOUT.out)
        generalize (⟨(joinW OL).toArray⟩ : ByteArray) = JB at *
        clear hb6 hv6 f5 HBK5 HX5 HZ5 HB5
        go_wp2_with fail
        refine HJ.out.mono ?_; rintro e7 w7 ⟨rfl, hb7⟩
        have hs7 := hb7.size
        have HBK7 := Lib.hid (HBK6.out.below hb7 (by omega))
        have HX7 := Lib.hid (HX6.out.below hb7 (by omega))
        have HZ7 := Lib.hid (HZ6.out.below hb7 (by omega))
        have HB7 := Lib.hid (HB6.out.trans (hb7.mono (by omega)))
        clear hb7 HJ HBK6 HX6 HZ6 HB6
        have f7 := HBK7.out.cell
        have fz := HZ7.out.cell
        have zz := HZ7.out.frozen
        go_wp2_with fail
        refine bodyPost_ret (v := .tuple #[.agg #[.int .i64 0, .int .i64 0, .int .i64 0, .int .i64 0, .string ⟨#[]⟩, .string ⟨#[]⟩, .slice none 0 0, .slice none 0 0, .slice none 0 0], .bool false]) (by simp [results, Tryz.results51, go_sem, fz]) rfl ⟨?_, ?_⟩
        · rw [HF.out]
          exact ⟨_, rfl, SActR.zero _ _ _⟩
        · repeat (with_reducible refine Below.setCell ?_ (by first | exact Nat.le_refl _ | (show _ ≤ _; omega)) _)
          exact HB7.out

set_option maxHeartbeats 8000000 in
set_option maxRecDepth 100000 in
theorem specReadSitesAct_any (s : ByteArray) (w : World) :
    Calls Tryz.prog 17 #[.string s] w fun e w' => (∃ v, e = .returned (.tuple #[v, .bool (rsS s).isSome]) ∧ SactIs w' w.heap.size w'.heap.size v ((rsS s).getD sact0)) ∧ Below w.heap.size w w' := by
  have HBZ := Lib.hid (Blk.new w 32 #[.int .i64 0, .int .i64 0, .int .i64 0, .int .i64 0, .string ⟨#[]⟩, .string ⟨#[]⟩, .slice none 0 0, .slice none 0 0, .slice none 0 0])
  have hd1 := (Below.refl w.heap.size w).alloc (Nat.le_refl _) (.cells #[.int .i64 0, .int .i64 0, .int .i64 0, .int .i64 0, .string ⟨#[]⟩, .string ⟨#[]⟩, .slice none 0 0, .slice none 0 0, .slice none 0 0] 32)
  have HB1 := Lib.hid hd1
  have hs1 := own_alloc_sz w (.cells #[.int .i64 0, .int .i64 0, .int .i64 0, .int .i64 0, .string ⟨#[]⟩, .string ⟨#[]⟩, .slice none 0 0, .slice none 0 0, .slice none 0 0] 32)
  clear hd1
  by_cases hbig : 6000 < s.size
  · have HF := Lib.hid (show rsS s = none from if_pos hbig)
    have i1 : (6000 : Int) < (s.size : Int) := by omega
    generalize rsS s = Q at *
    have fz := HBZ.out.cell
    have zz := HBZ.out.frozen
    go_enter Tryz.func17, Tryz.ntmps17
    go_wp2_with fail
    refine bodyPost_ret (v := .tuple #[.agg #[.int .i64 0, .int .i64 0, .int .i64 0, .int .i64 0, .string ⟨#[]⟩, .string ⟨#[]⟩, .slice none 0 0, .slice none 0 0, .slice none 0 0], .bool false]) (by simp [results, Tryz.results17, go_sem, fz]) rfl ⟨?_, ?_⟩
    · rw [HF.out]
      exact ⟨_, rfl, SActR.zero _ _ _⟩
    · repeat (with_reducible refine Below.setCell ?_ (by first | exact Nat.le_refl _ | (show _ ≤ _; omega)) _)
      exact HB1.out
  · have i1 : ¬ (6000 : Int) < (s.size : Int) := by omega
    have HRD := Lib.hid (fun W => l34Read_any s (by omega) W)
    generalize (rsS s).isSome = ok at *
    generalize (rsS s).getD sact0 = G at *
    go_enter Tryz.func17, Tryz.ntmps17
    go_wp2_with fail
    refine (HRD.out _).mono ?_; rintro e2 w2 ⟨⟨v2, rfl, hx2⟩, hb2⟩
    obtain ⟨kind, at_, x⟩ := G
    obtain ⟨A, ca, B, cb, C, cc, rfl, rA, rB, rC⟩ := hx2
    have hs2 := hb2.size
    have HZ2 := Lib.hid (HBZ.out.below hb2 (by omega))
    have HB2 := Lib.hid (HB1.out.trans (hb2.mono (by omega)))
    have HRA := Lib.hid rA; have HRB := Lib.hid rB; have HRC := Lib.hid rC
    clear hb2 rA rB rC
    have fz := HZ2.out.cell
    have zz := HZ2.out.frozen
    go_wp2_with fail
    refine bodyPost_ret (v := .tuple #[.agg #[.int .i64 kind, .int .i64 at_, .int .i64 x.k, .int .i64 x.a, .string x.r, .string x.l, .slice A x.args.length ca, .slice B x.input.length cb, .slice C x.keep.length cc], .bool ok]) (by simp [results, Tryz.results17, go_sem, fz]) rfl ⟨?_, ?_⟩
    · exact ⟨_, rfl, A, ca, B, cb, C, cc, rfl, (by refine RowR.more (lo := (w.heap.size + 1)) (hi := w2.heap.size) ?_ (by omega) (by simp [World.setCell]); (iterate 9 (with_reducible refine RowR.set_lo ?_ (by show w.heap.size < (w.heap.size + 1); omega))); exact (HRA.out.more (by omega) (by omega))), (by refine RowR.more (lo := (w.heap.size + 1)) (hi := w2.heap.size) ?_ (by omega) (by simp [World.setCell]); (iterate 9 (with_reducible refine RowR.set_lo ?_ (by show w.heap.size < (w.heap.size + 1); omega))); exact (HRB.out.more (by omega) (by omega))), (by refine RowR.more (lo := (w.heap.size + 1)) (hi := w2.heap.size) ?_ (by omega) (by simp [World.setCell]); (iterate 9 (with_reducible refine RowR.set_lo ?_ (by show w.heap.size < (w.heap.size + 1); omega))); exact (HRC.out.more (by omega) (by omega)))⟩
    · repeat (with_reducible refine Below.setCell ?_ (by first | exact Nat.le_refl _ | (show _ ≤ _; omega)) _)
      exact HB2.out
end Go.Proofs.YtcjaaknnfohllaaGreatDoor

/- What the program's loops over the words of operations hold; that the operation read is small. No program in sight. -/
namespace Go.Proofs.YtcjaaknnfohllaaGreatDoor
open Go.RowKit

theorem placeIn_get (x : ByteArray) : ∀ (L : List ByteArray) (k m : Nat), placeIn x L k = some m → k ≤ m ∧ L.getD (m - k) eB = x
  | [], _, _, h => by cases h
  | y :: L, k, m, h => by
    rw [placeIn] at h
    split at h
    · rename_i he
      injection h with h
      subst h
      exact ⟨Nat.le_refl _, by rw [Nat.sub_self]; exact he⟩
    · obtain ⟨h1, h2⟩ := placeIn_get x L (k + 1) m h
      refine ⟨by omega, ?_⟩
      rw [show m - k = (m - (k + 1)) + 1 by omega]
      exact h2
theorem word_main (j : Nat) (h1 : 1 ≤ j) (h2 : j ≤ 7) : wordK (j : Int) = mainsW.getD (j - 1) eB ∧ placeIn (wordK (j : Int)) mainsW 0 = some (j - 1) := by
  rcases (show j = 1 ∨ j = 2 ∨ j = 3 ∨ j = 4 ∨ j = 5 ∨ j = 6 ∨ j = 7 by omega) with rfl | rfl | rfl | rfl | rfl | rfl | rfl <;> exact ⟨rfl, rfl⟩
theorem word_wire (j : Nat) (h1 : 2 ≤ j) (h2 : j ≤ 7) : wordS (j : Int) = wiresW.getD (j - 2) eB ∧ placeIn (wordS (j : Int)) wiresW 0 = some (j - 2) ∧ placeIn (wordS (j : Int)) mainsW 0 = none := by
  rcases (show j = 2 ∨ j = 3 ∨ j = 4 ∨ j = 5 ∨ j = 6 ∨ j = 7 by omega) with rfl | rfl | rfl | rfl | rfl | rfl <;> exact ⟨rfl, rfl, rfl⟩

/-- What is read when the words of the kinds below j have been looked at. -/
def gst (o : Option Nat) (l : List ByteArray) (j : Nat) : (Int × Int × Act) × Bool := match o with
  | some k => if k + 1 < j then ((1, 0, (mainI ((k : Int) + 1) l).1), (mainI ((k : Int) + 1) l).2) else (sact0, true)
  | none => (sact0, true)
theorem gst_zero (o : Option Nat) (l : List ByteArray) : gst o l 1 = (sact0, true) := by
  unfold gst
  cases o with
  | none => rfl
  | some k => exact if_neg (by omega)
theorem gst_hit (Y : ByteArray) (l : List ByteArray) (j : Nat) (h1 : 1 ≤ j) (h2 : j ≤ 7) (h : wordK (j : Int) = Y) : gst (placeIn Y mainsW 0) l j = (sact0, true) ∧ gst (placeIn Y mainsW 0) l (j + 1) = ((1, 0, (mainI (j : Int) l).1), (mainI (j : Int) l).2) := by
  have hp := (word_main j h1 h2).2
  rw [h] at hp
  rw [hp]
  unfold gst
  dsimp only
  rw [if_neg (by omega), if_pos (by omega), show ((j - 1 : Nat) : Int) + 1 = (j : Int) by omega]
  exact ⟨rfl, rfl⟩
theorem gst_miss (Y : ByteArray) (l : List ByteArray) (j : Nat) (h1 : 1 ≤ j) (h2 : j ≤ 7) (h : wordK (j : Int) ≠ Y) : gst (placeIn Y mainsW 0) l (j + 1) = gst (placeIn Y mainsW 0) l j := by
  cases hp : placeIn Y mainsW 0 with
  | none => rfl
  | some k =>
    have hk := (placeIn_get Y mainsW 0 k hp).2
    have hne : k ≠ j - 1 := fun e => h (by rw [(word_main j h1 h2).1, ← hk, e]; rfl)
    unfold gst
    dsimp only
    by_cases hlt : k + 1 < j
    · rw [if_pos hlt, if_pos (by omega)]
    · rw [if_neg hlt, if_neg (by omega)]
def hst (o o2 : Option Nat) (w : List ByteArray) (j : Nat) : (Int × Int × Act) × Bool := match o with
  | some k => ((1, 0, (mainI ((k : Int) + 1) (w.drop 1)).1), (mainI ((k : Int) + 1) (w.drop 1)).2)
  | none => match o2 with
    | some k => if k + 2 < j then (if 1 < w.length then (((k : Int) + 2, valI (w.getD 1 eB), act0), okI (w.getD 1 eB)) else (((k : Int) + 2, 0, act0), true)) else (sact0, true)
    | none => (sact0, true)
theorem hst_start (Y : ByteArray) (w : List ByteArray) : hst (placeIn Y mainsW 0) (placeIn Y wiresW 0) w 2 = gst (placeIn Y mainsW 0) (w.drop 1) 8 := by
  unfold hst gst
  cases h : placeIn Y mainsW 0 with
  | none =>
    cases placeIn Y wiresW 0 with
    | none => rfl
    | some k => exact if_neg (by omega)
  | some k =>
    have := placeIn_lt Y mainsW 0 k h
    have h7 : mainsW.length = 7 := rfl
    exact (if_pos (by omega)).symm
theorem hst_end (w : List ByteArray) : hst (placeIn (w.getD 0 eB) mainsW 0) (placeIn (w.getD 0 eB) wiresW 0) w 8 = guessI w := by
  unfold hst guessI
  cases h : placeIn (w.getD 0 eB) mainsW 0 with
  | some k => rfl
  | none =>
    dsimp only
    cases h2 : placeIn (w.getD 0 eB) wiresW 0 with
    | none => rfl
    | some k =>
      have := placeIn_lt _ wiresW 0 k h2
      have h7 : wiresW.length = 6 := rfl
      exact if_pos (by omega)
theorem hst_hit (Y : ByteArray) (w : List ByteArray) (j : Nat) (h1 : 2 ≤ j) (h2 : j ≤ 7) (h : wordS (j : Int) = Y) : hst (placeIn Y mainsW 0) (placeIn Y wiresW 0) w j = (sact0, true) ∧ hst (placeIn Y mainsW 0) (placeIn Y wiresW 0) w (j + 1) = if 1 < w.length then (((j : Int), valI (w.getD 1 eB), act0), okI (w.getD 1 eB)) else (((j : Int), 0, act0), true) := by
  obtain ⟨_, hp, hm⟩ := word_wire j h1 h2
  rw [h] at hp hm
  rw [hp, hm]
  unfold hst
  dsimp only
  rw [if_neg (by omega), if_pos (by omega), show ((j - 2 : Nat) : Int) + 2 = (j : Int) by omega]
  exact ⟨rfl, rfl⟩
theorem hst_miss (Y : ByteArray) (w : List ByteArray) (j : Nat) (h1 : 2 ≤ j) (h2 : j ≤ 7) (h : wordS (j : Int) ≠ Y) : hst (placeIn Y mainsW 0) (placeIn Y wiresW 0) w (j + 1) = hst (placeIn Y mainsW 0) (placeIn Y wiresW 0) w j := by
  unfold hst
  cases placeIn Y mainsW 0 with
  | some k => rfl
  | none =>
    dsimp only
    cases hp : placeIn Y wiresW 0 with
    | none => rfl
    | some k =>
      have hk := (placeIn_get Y wiresW 0 k hp).2
      have hne : k ≠ j - 2 := fun e => h (by rw [(word_wire j h1 h2).1, ← hk, e]; rfl)
      dsimp only
      by_cases hlt : k + 2 < j
      · rw [if_pos hlt, if_pos (by omega)]
      · rw [if_neg hlt, if_neg (by omega)]

theorem valI_small {y : ByteArray} (h : okI y = true) : valI y ≤ 9223372036854775807 := by
  obtain ⟨h1, h2⟩ := valIS h
  rw [h2]
  exact val_small h1
theorem mainI_small (kind : Int) (l : List ByteArray) (hl : l.length ≤ 1048576) (hs : ∀ y ∈ l, y.size ≤ 1048576) : ActSmall (mainI kind l).1 ∧ KeepMax (mainI kind l).1 := by
  have hz : ActSmall act0 ∧ KeepMax act0 := ⟨⟨by decide, by decide, by decide, by decide, by decide, fun y hy => absurd hy List.not_mem_nil, fun y hy => absurd hy List.not_mem_nil⟩, fun z hz => absurd hz List.not_mem_nil⟩
  unfold mainI
  split
  · show ActSmall (jobI l) ∧ KeepMax (jobI l)
    unfold jobI
    split
    · exact ⟨⟨by decide, by decide, by decide, by decide, by decide, fun y hy => absurd hy List.not_mem_nil, fun y hy => absurd hy List.not_mem_nil⟩, fun z hz => absurd hz List.not_mem_nil⟩
    · have a1 := List.takeWhile_sublist (fun y => decide (y ≠ wIn)) (l := l.drop 2)
      have a2 := List.dropWhile_sublist (fun y => decide (y ≠ wIn)) (l := l.drop 2)
      have a3 : (l.drop 2).Sublist l := List.drop_sublist 2 l
      have a4 := (List.drop_sublist 1 ((l.drop 2).dropWhile (fun y => decide (y ≠ wIn)))).trans (a2.trans a3)
      have b1 := rows_small _ 1048576 1048576 (Nat.le_trans (a1.trans a3).length_le hl) (fun y hy => hs y ((a1.trans a3).subset hy))
      have b2 := rows_small _ 1048576 1048576 (Nat.le_trans a4.length_le hl) (fun y hy => hs y (a4.subset hy))
      exact ⟨⟨getD_small l _ 0 hs, getD_small l _ 1 hs, b1.1, b2.1, Nat.zero_le _, b1.2, b2.2⟩, fun z hz => absurd hz List.not_mem_nil⟩
  · split
    · rename_i hall
      refine ⟨⟨Nat.zero_le _, Nat.zero_le _, Nat.zero_le _, Nat.zero_le _, ?_, fun y hy => absurd hy List.not_mem_nil, fun y hy => absurd hy List.not_mem_nil⟩, fun z hz => ?_⟩
      · show ((l.map valI).drop 1).length ≤ _
        rw [List.length_drop, List.length_map]; omega
      · obtain ⟨y, hy, e⟩ := List.mem_map.1 (List.mem_of_mem_drop hz)
        rw [← e]
        exact valI_small (List.all_eq_true.1 hall y hy)
    · exact hz
theorem guessI_small (w : List ByteArray) (hl : (w.drop 1).length ≤ 1048576) (hs : ∀ y ∈ w, y.size ≤ 1048576) : ActSmall (guessI w).1.2.2 ∧ KeepMax (guessI w).1.2.2 := by
  have hz : ActSmall act0 ∧ KeepMax act0 := ⟨⟨by decide, by decide, by decide, by decide, by decide, fun y hy => absurd hy List.not_mem_nil, fun y hy => absurd hy List.not_mem_nil⟩, fun z hz => absurd hz List.not_mem_nil⟩
  unfold guessI
  cases placeIn (w.getD 0 eB) mainsW 0 with
  | some k => exact mainI_small _ _ hl (fun y hy => hs y (List.mem_of_mem_drop hy))
  | none =>
    dsimp only
    cases placeIn (w.getD 0 eB) wiresW 0 with
    | none => exact hz
    | some k =>
      dsimp only
      split <;> exact hz

/-- The block of an operation of two sites whose rows are of the call's own. -/
def SactB (w : World) (M : Nat) (g : Int × Int × Act) : Prop :=
  ∃ (A : Option Addr) (ca : Nat) (B : Option Addr) (cb : Nat) (C : Option Addr) (cc m1 m2 : Nat), Blk w M 32 #[.int .i64 g.1, .int .i64 g.2.1, .int .i64 g.2.2.k, .int .i64 g.2.2.a, .string g.2.2.r, .string g.2.2.l, .slice A g.2.2.args.length ca, .slice B g.2.2.input.length cb, .slice C g.2.2.keep.length cc] ∧ M + 1 ≤ m1 ∧ m1 ≤ m2 ∧ m2 ≤ w.heap.size ∧
    OwnIn Value.string w (M + 1) m1 9 (.slice A g.2.2.args.length ca) g.2.2.args ∧ OwnIn Value.string w m1 m2 9 (.slice B g.2.2.input.length cb) g.2.2.input ∧ OwnIn (Value.int .i64) w m2 w.heap.size 2 (.slice C g.2.2.keep.length cc) g.2.2.keep
theorem SactB.below {w w' : World} {M : Nat} {g : Int × Int × Act} (h : SactB w M g) (hb : Below w.heap.size w w') : SactB w' M g := by
  obtain ⟨A, ca, B, cb, C, cc, m1, m2, h1, h2, h3, h4, h5, h6, h7⟩ := h
  exact ⟨A, ca, B, cb, C, cc, m1, m2, h1.below hb h1.lt, h2, h3, Nat.le_trans h4 hb.size, h5.below hb, h6.below hb, h7.1.below hb, fun g hg => Nat.lt_of_lt_of_le (h7.2 g hg) hb.size⟩
theorem SactB.drew {w : World} {M : Nat} {g : Int × Int × Act} (h : SactB w M g) : SactB w.drew M g := h.below (Below.refl _ _).drew
theorem SactB.lt {w : World} {M : Nat} {g : Int × Int × Act} (h : SactB w M g) : M < w.heap.size := by
  obtain ⟨A, ca, B, cb, C, cc, m1, m2, h1, _⟩ := h
  exact h1.lt
end Go.Proofs.YtcjaaknnfohllaaGreatDoor

/- The program's words of an operation walked: jobWords. -/
namespace Go.Proofs.YtcjaaknnfohllaaGreatDoor
open Go.RowKit

set_option maxHeartbeats 8000000 in
set_option maxRecDepth 100000 in
theorem jobWords_any (x : Act) (v : Value) (lo hi : Nat) (w : World) (hx : ActR w lo hi v x) (hhi : hi ≤ w.heap.size) (hE : EnvIn w) (h1 : x.args.length ≤ 8) (h2 : x.input.length ≤ 8) (h3 : ∀ y ∈ x.args, y.size ≤ 64) (h4 : ∀ y ∈ x.input, y.size ≤ 64) :
    Calls Tryz.prog 87 #[v] w fun e w' => (∃ v', e = .returned v' ∧ OwnStrs w' w.heap.size 9 v' (jobW x)) ∧ Below w.heap.size w w' := by
  obtain ⟨A, c, B, d, C, e, rfl, hA, hBr, hC⟩ := hx
  have hbo := (Below.refl w.heap.size w).alloc (Nat.le_refl _) (.cells #[.int .i64 x.k, .int .i64 x.a, .string x.r, .string x.l, .slice A x.args.length c, .slice B x.input.length d, .slice C x.keep.length e] 30)
  have hsz : (w.alloc (.cells #[.int .i64 x.k, .int .i64 x.a, .string x.r, .string x.l, .slice A x.args.length c, .slice B x.input.length d, .slice C x.keep.length e] 30)).heap.size = w.heap.size + 1 := by simp
  have HBK := Lib.hid (Blk.new w 30 #[.int .i64 x.k, .int .i64 x.a, .string x.r, .string x.l, .slice A x.args.length c, .slice B x.input.length d, .slice C x.keep.length e])
  have HA := Lib.hid (hA.below hbo hhi)
  have HB := Lib.hid (hBr.below hbo hhi)
  have HE := Lib.hid (hE.below hbo)
  have HD := Lib.hid hbo
  have HAX := Lib.hid (fun k (h : k < x.args.length) => h3 (x.args.getD k ByteArray.empty) (by rw [List.getD_eq_getElem?_getD, List.getElem?_eq_getElem h]; exact List.getElem_mem _))
  have HBX := Lib.hid (fun k (h : k < x.input.length) => h4 (x.input.getD k ByteArray.empty) (by rw [List.getD_eq_getElem?_getD, List.getElem?_eq_getElem h]; exact List.getElem_mem _))
  have HTA := Lib.hid (fun k (h : k < x.args.length) => map_take_more x.args k h)
  have HTB := Lib.hid (fun k (h : k < x.input.length) => map_take_more x.input k h)
  have HJW := Lib.hid (show jobW x = (x.r :: x.l :: x.args.map plainW) ++ inW x.input from rfl)
  have c1 := HBK.out.cell
  clear hA hBr hC hbo hE h3 h4
  go_enter Tryz.func87, Tryz.ntmps87
  go_upto_region 2 with fail
  generalize w.alloc (.cells #[.int .i64 x.k, .int .i64 x.a, .string x.r, .string x.l, .slice A x.args.length c, .slice B x.input.length d, .slice C x.keep.length e] 30) = w0 at *
  have hlt0 : w.heap.size < w0.heap.size := by omega
  have HO0 := Lib.hid (show OwnStrs (w0.alloc (.cells #[.string x.r, .string x.l] 9)) w0.heap.size 9 (.slice (some ⟨w.heap.size + 1, 0, none⟩) 2 2) [x.r, x.l] from by
    rw [← hsz]
    exact OwnR.lit_ (enc := Value.string) w0 w0.heap.size 9 [x.r, x.l] (by show 2 ≤ _; omega) (Nat.le_refl _))
  have HW0 := Lib.hid ((Below.refl w0.heap.size w0).alloc (Nat.le_refl _) (.cells #[.string x.r, .string x.l] 9))
  have c1 := (HBK.out.below HW0.out hlt0).cell
  go_wp2_with fail
  go_loopw [3, 16] (fun v i wr => ∃ j : Nat, j ≤ x.args.length ∧ i = .int .i64 j ∧ OwnStrs wr w0.heap.size 9 v (x.r :: x.l :: (x.args.take j).map plainW) ∧ Below w0.heap.size w0 wr) (fun _ i _ => x.args.length - (intOf i).toNat)
  case atStart => exact ⟨0, Nat.zero_le _, rfl, HO0.out, HW0.out⟩
  case round =>
    obtain ⟨j, hj, rfl, hown, hbr⟩ := hrel
    have hszr := hbr.size
    have HBR := Lib.hid hbr
    have hAr := HA.out.below hbr (by omega)
    have hll : (x.r :: x.l :: (x.args.take j).map plainW).length ≤ 50 := by
      rw [List.length_cons, List.length_cons, List.length_map, List.length_take]; omega
    have cr := (HBK.out.below hbr hlt0).cell
    clear hbr c1
    by_cases hlt : j < x.args.length
    · obtain ⟨b, off, rfl, _, hbh, hcell⟩ := hAr.at_ hlt
      have i1 : (j : Int) < (x.args.length : Int) := by omega
      have i0 : (0 : Int) ≤ (j : Int) := by omega
      have HN := Lib.hid (HTA.out j hlt)
      have hx1 := HAX.out j hlt
      generalize x.args.getD j ByteArray.empty = X at *
      generalize (x.args.take j).map plainW = Lj at *
      have HP := Lib.hid (fun W h => plain_any X (by omega) W h)
      go_wp2_with fail
      refine (HP.out _ (HE.out.below HBR.out)).mono ?_; rintro e1 w1 ⟨rfl, hb1⟩
      have hs1 : w0.heap.size ≤ w1.heap.size := Nat.le_trans hszr hb1.size
      have hown1 := hown.below hb1
      have HB1 := Lib.hid (HBR.out.trans (hb1.mono hszr))
      have hpw : (⟨(plainP X.data.toList).toArray⟩ : ByteArray) = plainW X := rfl
      rw [hpw]
      generalize plainW X = P at *
      clear hb1 hown hpw
      go_wp2_with (first
        | fail
        | (at_builtin; refine wpList_app1 (enc := Value.string) rfl (.tmp 20) (.tmp 23) 22 9 rfl Tryz.underlying22 rfl (by omega) (fun _ => rfl) infoTxt w1 w0.heap.size _ _ P rfl hown1 rfl (by omega) hs1 ?_; intro v3 w3 hown3 hb3))
      go_roundw
      case rel => exact ⟨j + 1, by omega, by go_num, by rw [HN.out]; exact hown3, HB1.out.trans hb3⟩
      case measure => simp [intOf]; omega
    · have i1 : ¬ (j : Int) < (x.args.length : Int) := by omega
      obtain rfl : j = x.args.length := by omega
      rw [List.take_length] at hown hll
      have HJ1 := Lib.hid HJW.out
      generalize (x.r :: x.l :: x.args.map plainW) = L1 at *
      by_cases h0 : x.input.length = 0
      · have z0 : ¬ (0 : Int) < (x.input.length : Int) := by omega
        have hin : x.input = [] := List.eq_nil_of_length_eq_zero h0
        have HFIN := Lib.hid (show jobW x = L1 ++ x.input.map plainW by rw [HJ1.out, hin]; rfl)
        have HO2 := Lib.hid hown
        have HW2 := Lib.hid HBR.out
        generalize hL2 : L1 = L2 at *
        clear h0 hin hown hL2
        go_wp2_with fail
        go_loopw [3, 36] (fun v i wr => ∃ j : Nat, j ≤ x.input.length ∧ i = .int .i64 j ∧ OwnStrs wr w0.heap.size 9 v (L2 ++ (x.input.take j).map plainW) ∧ Below w0.heap.size w0 wr) (fun _ i _ => x.input.length - (intOf i).toNat)
        case atStart => exact ⟨0, Nat.zero_le _, rfl, by rw [List.take_zero, List.map_nil, List.append_nil]; exact HO2.out, HW2.out⟩
        case round =>
          obtain ⟨q, hq, rfl, hownq, hbq⟩ := hrel
          have hszq := hbq.size
          have HBQ := Lib.hid hbq
          have hBq := HB.out.below hbq (by omega)
          have hllq : (L2 ++ (x.input.take q).map plainW).length ≤ 100 := by
            rw [List.length_append, List.length_map, List.length_take]; omega
          clear hbq
          by_cases hlq : q < x.input.length
          · omega
          · have i1 : ¬ (q : Int) < (x.input.length : Int) := by omega
            obtain rfl : q = x.input.length := by omega
            go_wp2_with fail
            go_ret
            exact ⟨⟨_, rfl, by have h := hownq.mono (show w.heap.size ≤ w0.heap.size by omega); rw [List.take_length] at h; rw [HFIN.out]; exact h⟩, HD.out.trans (HBQ.out.mono (by omega))⟩
      · have z0 : (0 : Int) < (x.input.length : Int) := by omega
        have HFIN0 := Lib.hid (show jobW x = (L1 ++ [wIn]) ++ x.input.map plainW by
          rw [HJ1.out]
          unfold inW
          rw [if_neg (by intro e; rw [e] at h0; exact h0 rfl)]
          simp)
        clear h0
        go_upto_region 9 with (first
          | fail
          | (at_builtin; refine wpList_app1 (enc := Value.string) rfl (.tmp 30) (.tmp 31) 22 9 rfl Tryz.underlying22 rfl (by omega) (fun _ => rfl) infoTxt wr w0.heap.size _ _ wIn rfl hown rfl (by omega) hszr ?_; intro v4 w4 hown4 hb4))
        have hl2 : (L1 ++ [wIn]).length ≤ 60 := by rw [List.length_append, List.length_singleton]; omega
        have HFIN := HFIN0
        have HO2 := Lib.hid hown4
        have HW2 := Lib.hid (HBR.out.trans hb4)
        have cq := (HBK.out.below HW2.out hlt0).cell
        generalize L1 ++ [wIn] = L2 at *
        clear hown4 hown cr HFIN0
        go_wp2_with fail
        go_loopw [3, 36] (fun v i wr => ∃ j : Nat, j ≤ x.input.length ∧ i = .int .i64 j ∧ OwnStrs wr w0.heap.size 9 v (L2 ++ (x.input.take j).map plainW) ∧ Below w0.heap.size w0 wr) (fun _ i _ => x.input.length - (intOf i).toNat)
        case atStart => exact ⟨0, Nat.zero_le _, rfl, by rw [List.take_zero, List.map_nil, List.append_nil]; exact HO2.out, HW2.out⟩
        case round =>
          obtain ⟨q, hq, rfl, hownq, hbq⟩ := hrel
          have hszq := hbq.size
          have HBQ := Lib.hid hbq
          have hBq := HB.out.below hbq (by omega)
          have hllq : (L2 ++ (x.input.take q).map plainW).length ≤ 100 := by
            rw [List.length_append, List.length_map, List.length_take]; omega
          clear hbq
          by_cases hlq : q < x.input.length
          · obtain ⟨b, off, rfl, _, hbh, hcell⟩ := hBq.at_ hlq
            have i1 : (q : Int) < (x.input.length : Int) := by omega
            have i0 : (0 : Int) ≤ (q : Int) := by omega
            have HN := Lib.hid (HTB.out q hlq)
            have hx1 := HBX.out q hlq
            generalize x.input.getD q ByteArray.empty = X at *
            generalize (x.input.take q).map plainW = Lq at *
            have HP := Lib.hid (fun W h => plain_any X (by omega) W h)
            go_wp2_with fail
            refine (HP.out _ (HE.out.below HBQ.out)).mono ?_; rintro e5 w5 ⟨rfl, hb5⟩
            have hs5 : w0.heap.size ≤ w5.heap.size := Nat.le_trans hszq hb5.size
            have hown5 := hownq.below hb5
            have HB5 := Lib.hid (HBQ.out.trans (hb5.mono hszq))
            have hpw : (⟨(plainP X.data.toList).toArray⟩ : ByteArray) = plainW X := rfl
            rw [hpw]
            generalize plainW X = P at *
            clear hb5 hownq hpw
            go_wp2_with (first
              | fail
              | (at_builtin; refine wpList_app1 (enc := Value.string) rfl (.tmp 40) (.tmp 43) 22 9 rfl Tryz.underlying22 rfl (by omega) (fun _ => rfl) infoTxt w5 w0.heap.size _ _ P rfl hown5 rfl (by omega) hs5 ?_; intro v6 w6 hown6 hb6))
            go_roundw
            case rel => exact ⟨q + 1, by omega, by go_num, by rw [HN.out, ← List.append_assoc]; exact hown6, HB5.out.trans hb6⟩
            case measure => simp [intOf]; omega
          · have i1 : ¬ (q : Int) < (x.input.length : Int) := by omega
            obtain rfl : q = x.input.length := by omega
            go_wp2_with fail
            go_ret
            exact ⟨⟨_, rfl, by have h := hownq.mono (show w.heap.size ≤ w0.heap.size by omega); rw [List.take_length] at h; rw [HFIN.out]; exact h⟩, HD.out.trans (HBQ.out.mono (by omega))⟩
end Go.Proofs.YtcjaaknnfohllaaGreatDoor
