/- The reference's words of an operation of a site walked: l34Main at the other kinds; l34Act; SitesActText. -/
import Derived.Test.YtcjaaknnfohllaaGreatDoorJoinRSAAj
namespace Go.Proofs.YtcjaaknnfohllaaGreatDoor
open Go.RowKit

theorem alloc_size (w : World) (o : Obj) : (w.alloc o).heap.size = w.heap.size + 1 := by simp
def fewW (k a : Int) : List ByteArray :=
  if k = 2 then [wStep, decW a] else if k = 3 then [wTick] else if k = 4 then [wFlush] else if k = 5 then [wPages, decW a] else [wCheck]

set_option maxHeartbeats 4000000 in
set_option maxRecDepth 100000 in
theorem l34Main_few (k a : Int) (r l : ByteArray) (na nb nk : Nat) (A B C : Option Addr) (c d e : Nat) (w : World) (hk : k = 2 ∨ k = 3 ∨ k = 4 ∨ k = 5 ∨ k = 6) (ha0 : 0 ≤ a) (ha1 : a ≤ 1000) :
    Calls Tryz.prog 80 #[.agg #[.int .i64 k, .int .i64 a, .string r, .string l, .slice A na c, .slice B nb d, .slice C nk e]] w fun e w' => (∃ v, e = .returned v ∧ OwnStrs w' w.heap.size 9 v (fewW k a)) ∧ Below w.heap.size w w' := by
  have HDC := Lib.hid (fun W => decS_any a (by omega) (by omega) W)
  have HLIT := Lib.hid (fun W (h : w.heap.size ≤ W.heap.size) (ys : List ByteArray) (hy : ys.length ≤ 1000000) => OwnR.lit_ (enc := Value.string) W w.heap.size 9 ys hy h)
  have HD := Lib.hid (fun o => (Below.refl w.heap.size w).alloc (Nat.le_refl _) o)
  rcases hk with rfl | rfl | rfl | rfl | rfl
  · go_enter Tryz.func80, Tryz.ntmps80
    go_wp2_with fail
    refine (HDC.out _).mono ?_; rintro e1 w1 ⟨rfl, hb1⟩
    have HB := Lib.hid ((HD.out _).trans (hb1.mono (HD.out _).size))
    clear hb1
    go_wp2_with fail
    go_ret
    exact ⟨⟨_, rfl, HLIT.out w1 HB.out.size [wStep, decW a] (by show 2 ≤ _; omega)⟩, HB.out.alloc HB.out.size _⟩
  · go_enter Tryz.func80, Tryz.ntmps80
    go_wp2_with fail
    go_ret
    exact ⟨⟨_, rfl, (by have h := HLIT.out (w.alloc (.cells #[.int .i64 3, .int .i64 a, .string r, .string l, .slice A na c, .slice B nb d, .slice C nk e] 30)) (HD.out _).size [wTick] (by show 1 ≤ _; omega); rw [alloc_size] at h; exact h)⟩, (HD.out _).alloc (HD.out _).size _⟩
  · go_enter Tryz.func80, Tryz.ntmps80
    go_wp2_with fail
    go_ret
    exact ⟨⟨_, rfl, (by have h := HLIT.out (w.alloc (.cells #[.int .i64 4, .int .i64 a, .string r, .string l, .slice A na c, .slice B nb d, .slice C nk e] 30)) (HD.out _).size [wFlush] (by show 1 ≤ _; omega); rw [alloc_size] at h; exact h)⟩, (HD.out _).alloc (HD.out _).size _⟩
  · go_enter Tryz.func80, Tryz.ntmps80
    go_wp2_with fail
    refine (HDC.out _).mono ?_; rintro e1 w1 ⟨rfl, hb1⟩
    have HB := Lib.hid ((HD.out _).trans (hb1.mono (HD.out _).size))
    clear hb1
    go_wp2_with fail
    go_ret
    exact ⟨⟨_, rfl, HLIT.out w1 HB.out.size [wPages, decW a] (by show 2 ≤ _; omega)⟩, HB.out.alloc HB.out.size _⟩
  · go_enter Tryz.func80, Tryz.ntmps80
    go_wp2_with fail
    go_ret
    exact ⟨⟨_, rfl, (by have h := HLIT.out (w.alloc (.cells #[.int .i64 6, .int .i64 a, .string r, .string l, .slice A na c, .slice B nb d, .slice C nk e] 30)) (HD.out _).size [wCheck] (by show 1 ≤ _; omega); rw [alloc_size] at h; exact h)⟩, (HD.out _).alloc (HD.out _).size _⟩

set_option maxHeartbeats 4000000 in
set_option maxRecDepth 100000 in
theorem l34Main_crash (a : Int) (r l : ByteArray) (na nb : Nat) (xkeep : List Int) (A B C : Option Addr) (c d e lo hi : Nat) (w : World) (hC : IntR w lo hi C xkeep.length xkeep) (hhi : hi ≤ w.heap.size)
    (ha0 : -1 ≤ a) (ha1 : a ≤ 1700) (hk : xkeep.length ≤ 400) (h0 : ∀ j, j < xkeep.length → 0 ≤ xkeep.getD j 0) (hmax : ∀ z ∈ xkeep, z ≤ 9223372036854775807) :
    Calls Tryz.prog 80 #[.agg #[.int .i64 7, .int .i64 a, .string r, .string l, .slice A na c, .slice B nb d, .slice C xkeep.length e]] w fun e w' => (∃ v, e = .returned v ∧ OwnStrs w' w.heap.size 9 v (wCrash :: (a :: xkeep).map decW)) ∧ Below w.heap.size w w' := by
  have hbo := (Below.refl w.heap.size w).alloc (Nat.le_refl _) (.cells #[.int .i64 7, .int .i64 a, .string r, .string l, .slice A na c, .slice B nb d, .slice C xkeep.length e] 30)
  have hsz : (w.alloc (.cells #[.int .i64 7, .int .i64 a, .string r, .string l, .slice A na c, .slice B nb d, .slice C xkeep.length e] 30)).heap.size = w.heap.size + 1 := by simp
  have HBK := Lib.hid (Blk.new w 30 #[.int .i64 7, .int .i64 a, .string r, .string l, .slice A na c, .slice B nb d, .slice C xkeep.length e])
  have HDC := Lib.hid (fun n h1 h2 W => decS_any n h1 h2 W)
  have HC := Lib.hid (hC.below hbo hhi)
  have HD := Lib.hid hbo
  have HG := Lib.hid (fun j (hj : j < xkeep.length) => (⟨h0 j hj, hmax (xkeep.getD j 0) (by rw [List.getD_eq_getElem?_getD, List.getElem?_eq_getElem hj]; exact List.getElem_mem _)⟩ : 0 ≤ xkeep.getD j 0 ∧ xkeep.getD j 0 ≤ 9223372036854775807))
  have HTK := Lib.hid (fun j (hj : j < xkeep.length) => (show (wCrash :: decW a :: (xkeep.take (j + 1)).map decW) = (wCrash :: decW a :: (xkeep.take j).map decW) ++ [decW (xkeep.getD j 0)] by rw [take_one_more xkeep 0 j hj, List.map_append]; rfl))
  have HALL := Lib.hid (show (wCrash :: decW a :: (xkeep.take xkeep.length).map decW) = wCrash :: (a :: xkeep).map decW by rw [List.take_length]; rfl)
  clear hC hbo h0 hmax
  go_enter Tryz.func80, Tryz.ntmps80
  go_wp2_with fail
  generalize w.alloc (.cells #[.int .i64 7, .int .i64 a, .string r, .string l, .slice A na c, .slice B nb d, .slice C xkeep.length e] 30) = w0 at *
  have hlt0 : w.heap.size < w0.heap.size := by omega
  refine (HDC.out a (by omega) (by omega) _).mono ?_; rintro e1 w1 ⟨rfl, hb1⟩
  have hs1 := hb1.size
  have HB1 := Lib.hid hb1
  have HO := Lib.hid (show OwnStrs (w1.alloc (.cells #[.string wCrash, .string (decW a)] 9)) w0.heap.size 9 (.slice (some ⟨w1.heap.size, 0, none⟩) 2 2) [wCrash, decW a] from OwnR.lit_ w1 w0.heap.size 9 [wCrash, decW a] (by show 2 ≤ _; omega) hs1)
  clear hb1
  go_wp2_with fail
  go_loopw [8, 9] (fun v i wr => ∃ j : Nat, j ≤ xkeep.length ∧ i = .int .i64 j ∧ OwnStrs wr w0.heap.size 9 v (wCrash :: decW a :: (xkeep.take j).map decW) ∧ Below w0.heap.size w0 wr) (fun _ i _ => xkeep.length - (intOf i).toNat)
  case atStart => exact ⟨0, Nat.zero_le _, rfl, HO.out, HB1.out.alloc hs1 _⟩
  case round =>
    obtain ⟨j, hj, rfl, hown, hbr⟩ := hrel
    have hszr := hbr.size
    have HBR := Lib.hid hbr
    have hCr := HC.out.below hbr (by omega)
    have cr := (HBK.out.below hbr hlt0).cell
    have hll : (wCrash :: decW a :: (xkeep.take j).map decW).length ≤ 500 := by
      rw [List.length_cons, List.length_cons, List.length_map, List.length_take]; omega
    clear hbr
    by_cases hlt : j < xkeep.length
    · obtain ⟨b, off, rfl, _, hbh, hcell⟩ := hCr.at_ hlt
      have i1 : (j : Int) < (xkeep.length : Int) := by omega
      have i0 : (0 : Int) ≤ (j : Int) := by omega
      have HN := Lib.hid (HTK.out j hlt)
      have hg := HG.out j hlt
      generalize xkeep.getD j 0 = Z at *
      generalize (wCrash :: decW a :: (xkeep.take j).map decW) = L at *
      have HZ := Lib.hid (fun W => HDC.out Z (by omega) hg.2 W)
      clear hg
      go_wp2_with fail
      refine (HZ.out _).mono ?_; rintro e2 w2 ⟨rfl, hb2⟩
      have hs2 : w0.heap.size ≤ w2.heap.size := Nat.le_trans hszr hb2.size
      have hown2 := hown.below hb2
      have HB2 := Lib.hid (HBR.out.trans (hb2.mono hszr))
      generalize decW Z = D at *
      clear hb2 hown
      go_wp2_with (first
        | fail
        | (at_builtin; refine wpList_app1 (enc := Value.string) rfl (.tmp 81) (.tmp 88) 22 9 rfl Tryz.underlying22 rfl (by omega) (fun _ => rfl) infoTxt w2 w0.heap.size _ L D rfl hown2 rfl (by omega) hs2 ?_; intro v3 w3 hown3 hb3))
      go_roundw
      case rel => exact ⟨j + 1, by omega, by go_num, by rw [HN.out]; exact hown3, HB2.out.trans hb3⟩
      case measure => simp [intOf]; omega
    · have i1 : ¬ (j : Int) < (xkeep.length : Int) := by omega
      obtain rfl : j = xkeep.length := by omega
      go_wp2_with fail
      go_ret
      exact ⟨⟨_, rfl, by have h := hown.mono (show w.heap.size ≤ w0.heap.size by omega); rw [HALL.out] at h; exact h⟩, HD.out.trans (HBR.out.mono (by omega))⟩
end Go.Proofs.YtcjaaknnfohllaaGreatDoor

/- The reference's SitesActText walked. -/
namespace Go.Proofs.YtcjaaknnfohllaaGreatDoor
open Go.RowKit

def KeepMax (x : Act) : Prop := ∀ z ∈ x.keep, z ≤ 9223372036854775807
/-- What a right operation of a site is. -/
theorem actB_cases {x : Act} (h : actB x = true) :
    (x.k = 1 ∧ x.r.size ≤ 8 ∧ x.l.size ≤ 8 ∧ nameB x.r = true ∧ nameB x.l = true ∧ x.args.length ≤ 5 ∧ x.input.length ≤ 8 ∧ (∀ y ∈ x.args, y.size ≤ 64) ∧ (∀ y ∈ x.input, y.size ≤ 64)) ∨
    ((x.k = 2 ∨ x.k = 3 ∨ x.k = 4 ∨ x.k = 5 ∨ x.k = 6) ∧ 0 ≤ x.a ∧ x.a ≤ 1000) ∨
    (x.k = 7 ∧ -1 ≤ x.a ∧ x.a ≤ 1700 ∧ x.keep.length ≤ 400 ∧ ∀ j, j < x.keep.length → 0 ≤ x.keep.getD j 0) := by
  unfold actB at h
  by_cases k1 : x.k = 1
  · rw [if_pos k1] at h
    simp only [Bool.and_eq_true, decide_eq_true_eq] at h
    obtain ⟨⟨⟨⟨⟨_, _⟩, h3⟩, h4⟩, h5⟩, h6⟩ := h
    have n1 := h3; have n2 := h4
    unfold nameB at n1 n2
    simp only [Bool.and_eq_true, decide_eq_true_eq] at n1 n2
    unfold textsB shortB at h5 h6
    simp only [Bool.and_eq_true, decide_eq_true_eq, List.all_eq_true] at h5 h6
    exact .inl ⟨k1, n1.1.2, n2.1.2, h3, h4, h5.1, h6.1, h5.2, h6.2⟩
  · rw [if_neg k1] at h
    split at h
    · cases h
    · split at h
      · cases h
      · by_cases k2 : x.k = 2
        · rw [if_pos k2] at h
          unfold inB at h; rw [decide_eq_true_eq] at h
          exact .inr (.inl ⟨.inl k2, by omega, by omega⟩)
        · rw [if_neg k2] at h
          by_cases k3 : x.k = 3 ∨ x.k = 4 ∨ x.k = 6
          · rw [if_pos k3, decide_eq_true_eq] at h
            exact .inr (.inl ⟨by omega, by omega, by omega⟩)
          · rw [if_neg k3] at h
            by_cases k5 : x.k = 5
            · rw [if_pos k5] at h
              unfold inB at h; rw [decide_eq_true_eq] at h
              exact .inr (.inl ⟨by omega, by omega, by omega⟩)
            · rw [if_neg k5] at h
              by_cases k7 : x.k = 7
              · rw [if_pos k7, Bool.and_eq_true] at h
                have h1 := h.1
                unfold inB at h1; rw [decide_eq_true_eq] at h1
                have h2 := keepB_facts h.2
                exact .inr (.inr ⟨k7, h1.1, h1.2, h2.1, h2.2⟩)
              · rw [if_neg k7] at h; cases h

theorem mainW_few {x : Act} (h : x.k = 2 ∨ x.k = 3 ∨ x.k = 4 ∨ x.k = 5 ∨ x.k = 6) : mainW x = fewW x.k x.a := by
  unfold mainW fewW
  rcases h with h | h | h | h | h <;> rw [h] <;> rfl
theorem mainW_crash {x : Act} (h : x.k = 7) : mainW x = wCrash :: (x.a :: x.keep).map decW := by
  unfold mainW; rw [h]; rfl
theorem mainW_job {x : Act} (h : x.k = 1) : mainW x = wJob :: jobW x := by
  unfold mainW; rw [if_pos h]
theorem mainW_small {x : Act} (h : actB x = true) (hK : KeepMax x) : (mainW x).length ≤ 500 ∧ ∀ y ∈ mainW x, y.size ≤ 1000 := by
  have hd : ∀ n : Int, -1 ≤ n → n ≤ 9223372036854775807 → (decW n).size ≤ 1000 := fun n h1 h2 => Nat.le_trans (decW_size n (by omega) h2) (by decide)
  rcases actB_cases h with ⟨k1, h1, h2, _, _, h3, h4, h5, h6⟩ | ⟨hk, h1, h2⟩ | ⟨k7, h1, h2, h3, h4⟩
  · rw [mainW_job k1]
    unfold jobW inW
    have hp : ∀ (L : List ByteArray), (∀ y ∈ L, y.size ≤ 64) → ∀ y ∈ L.map plainW, y.size ≤ 1000 := fun L hL y hy => by
      obtain ⟨z, hz, e⟩ := List.mem_map.1 hy
      have := plainW_size z
      have := hL z hz
      rw [← e]; omega
    refine ⟨?_, ?_⟩
    · simp only [List.length_cons, List.length_append, List.length_map]
      split
      · simp only [List.length_nil]; omega
      · simp only [List.length_cons, List.length_map]; omega
    · intro y hy
      rcases List.mem_cons.1 hy with e | hy
      · rw [e]; decide
      · rcases List.mem_cons.1 hy with e | hy
        · rw [e]; omega
        · rcases List.mem_cons.1 hy with e | hy
          · rw [e]; omega
          · rcases List.mem_append.1 hy with hy | hy
            · exact hp _ h5 y hy
            · split at hy
              · cases hy
              · rcases List.mem_cons.1 hy with e | hy
                · rw [e]; decide
                · exact hp _ h6 y hy
  · rw [mainW_few hk]
    unfold fewW
    have hda := hd x.a (by omega) (by omega)
    split
    · refine ⟨by show 2 ≤ _; omega, fun y hy => ?_⟩
      rcases List.mem_cons.1 hy with e | hy
      · rw [e]; decide
      · rw [List.mem_singleton.1 hy]; exact hda
    · split
      · exact ⟨by show 1 ≤ _; omega, fun y hy => by rw [List.mem_singleton.1 hy]; decide⟩
      · split
        · exact ⟨by show 1 ≤ _; omega, fun y hy => by rw [List.mem_singleton.1 hy]; decide⟩
        · split
          · refine ⟨by show 2 ≤ _; omega, fun y hy => ?_⟩
            rcases List.mem_cons.1 hy with e | hy
            · rw [e]; decide
            · rw [List.mem_singleton.1 hy]; exact hda
          · exact ⟨by show 1 ≤ _; omega, fun y hy => by rw [List.mem_singleton.1 hy]; decide⟩
  · rw [mainW_crash k7]
    refine ⟨by rw [List.length_cons, List.length_map, List.length_cons]; omega, fun y hy => ?_⟩
    rcases List.mem_cons.1 hy with e | hy
    · rw [e]; decide
    · obtain ⟨z, hz, e⟩ := List.mem_map.1 hy
      rw [← e]
      rcases List.mem_cons.1 hz with e2 | hz
      · rw [e2]; exact hd _ h1 (by omega)
      · obtain ⟨j, hj, e3⟩ := List.getElem_of_mem hz
        have h5 := h4 j hj
        rw [List.getD_eq_getElem?_getD, List.getElem?_eq_getElem hj] at h5
        have h6 : 0 ≤ z := by rw [← e3]; exact h5
        exact hd z (by omega) (hK z hz)

theorem l34Main_any (x : Act) (v : Value) (lo hi : Nat) (w : World) (hx : ActR w lo hi v x) (hhi : hi ≤ w.heap.size) (hB : actB x = true) (hK : KeepMax x) :
    Calls Tryz.prog 80 #[v] w fun e w' => (∃ v', e = .returned v' ∧ OwnStrs w' w.heap.size 9 v' (if (mainW x).all noSp then mainW x else [])) ∧ Below w.heap.size w w' := by
  obtain ⟨A, c, B, d, C, e, rfl, hA, hBr, hC⟩ := hx
  rcases actB_cases hB with ⟨k1, h1, h2, n1, n2, h3, h4, h5, h6⟩ | ⟨hk, h1, h2⟩ | ⟨k7, h1, h2, h3, h4⟩
  · have e1 : (mainW x).all noSp = ((x.args.map plainW).all noSp && (x.input.map plainW).all noSp) := by rw [mainW_job k1, job_noSp x n1 n2]
    rw [e1, mainW_job k1, k1]
    unfold jobW
    exact l34Main_job x.a x.r x.l x.args x.input x.keep.length A B C c d e lo hi w hA hBr hhi (by omega) h4 h5 h6
  · rw [if_pos (main_noSp x (by omega)), mainW_few hk]
    exact l34Main_few x.k x.a x.r x.l _ _ _ A B C c d e w hk h1 h2
  · rw [if_pos (main_noSp x (by omega)), mainW_crash k7, k7]
    exact l34Main_crash x.a x.r x.l _ _ x.keep A B C c d e lo hi w hC hhi h1 h2 h3 h4 hK
end Go.Proofs.YtcjaaknnfohllaaGreatDoor

/- The reference's SitesActText walked: l34Act, SitesActText. -/
namespace Go.Proofs.YtcjaaknnfohllaaGreatDoor
open Go.RowKit

theorem sitesB_cases {kind at_ : Int} {x : Act} (h : sitesB kind at_ x = true) : (kind = 1 ∧ actB x = true) ∨ ((kind = 3 ∨ kind = 4 ∨ kind = 5) ∧ 0 ≤ at_ ∧ at_ ≤ 11) ∨ (kind = 2 ∨ kind = 6 ∨ kind = 7) := by
  unfold sitesB at h
  by_cases k1 : kind = 1
  · rw [if_pos k1, Bool.and_eq_true] at h; exact .inl ⟨k1, h.2⟩
  · rw [if_neg k1] at h
    by_cases k3 : kind = 3 ∨ kind = 4 ∨ kind = 5
    · rw [if_pos k3, Bool.and_eq_true] at h
      have h1 := h.1
      unfold inB at h1; rw [decide_eq_true_eq] at h1
      exact .inr (.inl ⟨k3, h1.1, h1.2⟩)
    · rw [if_neg k3] at h
      split at h
      · rename_i h2; exact .inr (.inr h2)
      · cases h
theorem two_small {a b : ByteArray} (ha : a.size ≤ 1000) (hb : b.size ≤ 1000) : ([a, b] : List ByteArray).length ≤ 500 ∧ ∀ y ∈ [a, b], y.size ≤ 1000 :=
  ⟨by show 2 ≤ _; omega, fun y hy => by
    rcases List.mem_cons.1 hy with e | hy
    · rw [e]; exact ha
    · rw [List.mem_singleton.1 hy]; exact hb⟩
theorem one_small {a : ByteArray} (ha : a.size ≤ 1000) : ([a] : List ByteArray).length ≤ 500 ∧ ∀ y ∈ [a], y.size ≤ 1000 :=
  ⟨by show 1 ≤ _; omega, fun y hy => by rw [List.mem_singleton.1 hy]; exact ha⟩
theorem sitesW_small {kind at_ : Int} {x : Act} (h : sitesB kind at_ x = true) (hK : KeepMax x) : (sitesW kind at_ x).length ≤ 500 ∧ ∀ y ∈ sitesW kind at_ x, y.size ≤ 1000 := by
  rcases sitesB_cases h with ⟨rfl, hB⟩ | ⟨hk, h1, h2⟩ | hk
  · exact mainW_small hB hK
  · have hd := Nat.le_trans (decW_size at_ (by omega) (by omega)) (show 20 ≤ 1000 by decide)
    rcases hk with rfl | rfl | rfl
    · exact two_small (show wArrive.size ≤ 1000 by decide) hd
    · exact two_small (show wLose.size ≤ 1000 by decide) hd
    · exact two_small (show wTwice.size ≤ 1000 by decide) hd
  · rcases hk with rfl | rfl | rfl
    · exact one_small (show wShip.size ≤ 1000 by decide)
    · exact one_small (show wCopy.size ≤ 1000 by decide)
    · exact one_small (show wSwitch.size ≤ 1000 by decide)
theorem sitesW_noSp {kind at_ : Int} {x : Act} (h : sitesB kind at_ x = true) (h1 : kind ≠ 1) : (sitesW kind at_ x).all noSp = true := by
  have hd := decW_noSp at_
  rcases sitesB_cases h with ⟨k1, _⟩ | ⟨hk, _, _⟩ | hk
  · exact absurd k1 h1
  · rcases hk with rfl | rfl | rfl
    all_goals
      show (true && (noSp (decW at_) && true)) = true
      rw [hd]; rfl
  · rcases hk with rfl | rfl | rfl <;> rfl
def outW (l : List ByteArray) : List ByteArray := if l.all noSp then l else []

set_option maxHeartbeats 4000000 in
set_option maxRecDepth 100000 in
theorem l34Act_any (x : Act) (kind at_ : Int) (v : Value) (lo hi : Nat) (w : World) (hx : SActR w lo hi v kind at_ x) (hhi : hi ≤ w.heap.size) (hS : sitesB kind at_ x = true) (hK : KeepMax x) :
    Calls Tryz.prog 29 #[v] w fun e w' => (∃ v', e = .returned v' ∧ OwnStrs w' w.heap.size 9 v' (outW (sitesW kind at_ x))) ∧ Below w.heap.size w w' := by
  obtain ⟨A, c, B, d, C, e, rfl, hA, hB, hC⟩ := hx
  have hbo := fun o => (Below.refl w.heap.size w).alloc (Nat.le_refl _) o
  have HX := Lib.hid (show ∀ o, ActR (w.alloc o) lo hi (.agg #[.int .i64 x.k, .int .i64 x.a, .string x.r, .string x.l, .slice A x.args.length c, .slice B x.input.length d, .slice C x.keep.length e]) x from fun o => ⟨A, c, B, d, C, e, rfl, hA.below (hbo o) hhi, hB.below (hbo o) hhi, hC.below (hbo o) hhi⟩)
  have HH := Lib.hid (fun o => Nat.le_trans hhi (hbo o).size)
  have HD := Lib.hid hbo
  have HLIT := Lib.hid (fun W (h : w.heap.size ≤ W.heap.size) (ys : List ByteArray) (hy : ys.length ≤ 1000000) => OwnR.lit_ (enc := Value.string) W w.heap.size 9 ys hy h)
  have HDC := Lib.hid (fun h1 h2 W => decS_any at_ h1 h2 W)
  have HNS := Lib.hid (fun h1 => sitesW_noSp hS h1)
  clear hA hB hC hbo
  rcases sitesB_cases hS with ⟨rfl, hB⟩ | ⟨hk, h1, h2⟩ | hk
  · have HM := Lib.hid (fun o => l34Main_any x _ lo hi (w.alloc o) (HX.out o) (HH.out o) hB hK)
    clear hS hB hK
    have HOW := Lib.hid (show outW (sitesW 1 at_ x) = if (mainW x).all noSp then mainW x else [] from rfl)
    go_enter Tryz.func29, Tryz.ntmps29
    go_wp2_with fail
    refine (HM.out _).mono ?_; rintro e1 w1 ⟨⟨v1, rfl, hv1⟩, hb1⟩
    have HV := Lib.hid hv1
    have HB1 := Lib.hid ((HD.out _).trans (hb1.mono (HD.out _).size))
    clear hv1 hb1
    go_wp2_with fail
    go_ret
    exact ⟨⟨_, rfl, by rw [HOW.out]; exact HV.out.mono (HD.out _).size⟩, HB1.out⟩
  · have HD1 := Lib.hid (fun W => HDC.out (by omega) (by omega) W)
    have HR := Lib.hid (show outW (sitesW kind at_ x) = sitesW kind at_ x from if_pos (HNS.out (by omega)))
    rw [HR.out]
    clear hS hK HR HNS
    rcases hk with rfl | rfl | rfl
    · go_enter Tryz.func29, Tryz.ntmps29
      go_wp2_with fail
      refine (HD1.out _).mono ?_; rintro e1 w1 ⟨rfl, hb1⟩
      have HB1 := Lib.hid ((HD.out _).trans (hb1.mono (HD.out _).size))
      clear hb1
      go_wp2_with fail
      go_ret
      exact ⟨⟨_, rfl, HLIT.out w1 HB1.out.size [wArrive, decW at_] (by show 2 ≤ _; omega)⟩, HB1.out.alloc HB1.out.size _⟩
    · go_enter Tryz.func29, Tryz.ntmps29
      go_wp2_with fail
      refine (HD1.out _).mono ?_; rintro e1 w1 ⟨rfl, hb1⟩
      have HB1 := Lib.hid ((HD.out _).trans (hb1.mono (HD.out _).size))
      clear hb1
      go_wp2_with fail
      go_ret
      exact ⟨⟨_, rfl, HLIT.out w1 HB1.out.size [wLose, decW at_] (by show 2 ≤ _; omega)⟩, HB1.out.alloc HB1.out.size _⟩
    · go_enter Tryz.func29, Tryz.ntmps29
      go_wp2_with fail
      refine (HD1.out _).mono ?_; rintro e1 w1 ⟨rfl, hb1⟩
      have HB1 := Lib.hid ((HD.out _).trans (hb1.mono (HD.out _).size))
      clear hb1
      go_wp2_with fail
      go_ret
      exact ⟨⟨_, rfl, HLIT.out w1 HB1.out.size [wTwice, decW at_] (by show 2 ≤ _; omega)⟩, HB1.out.alloc HB1.out.size _⟩
  · have HR := Lib.hid (show outW (sitesW kind at_ x) = sitesW kind at_ x from if_pos (HNS.out (by omega)))
    rw [HR.out]
    clear hS hK HR HNS
    rcases hk with rfl | rfl | rfl
    · go_enter Tryz.func29, Tryz.ntmps29
      go_wp2_with fail
      go_ret
      exact ⟨⟨_, rfl, (by have h := HLIT.out (w.alloc (.cells #[.int .i64 2, .int .i64 at_, .int .i64 x.k, .int .i64 x.a, .string x.r, .string x.l, .slice A x.args.length c, .slice B x.input.length d, .slice C x.keep.length e] 32)) (HD.out _).size [wShip] (by show 1 ≤ _; omega); rw [alloc_size] at h; exact h)⟩, (HD.out _).alloc (HD.out _).size _⟩
    · go_enter Tryz.func29, Tryz.ntmps29
      go_wp2_with fail
      go_ret
      exact ⟨⟨_, rfl, (by have h := HLIT.out (w.alloc (.cells #[.int .i64 6, .int .i64 at_, .int .i64 x.k, .int .i64 x.a, .string x.r, .string x.l, .slice A x.args.length c, .slice B x.input.length d, .slice C x.keep.length e] 32)) (HD.out _).size [wCopy] (by show 1 ≤ _; omega); rw [alloc_size] at h; exact h)⟩, (HD.out _).alloc (HD.out _).size _⟩
    · go_enter Tryz.func29, Tryz.ntmps29
      go_wp2_with fail
      go_ret
      exact ⟨⟨_, rfl, (by have h := HLIT.out (w.alloc (.cells #[.int .i64 7, .int .i64 at_, .int .i64 x.k, .int .i64 x.a, .string x.r, .string x.l, .slice A x.args.length c, .slice B x.input.length d, .slice C x.keep.length e] 32)) (HD.out _).size [wSwitch] (by show 1 ≤ _; omega); rw [alloc_size] at h; exact h)⟩, (HD.out _).alloc (HD.out _).size _⟩

theorem sitesT_outW {kind at_ : Int} {x : Act} (h : sitesB kind at_ x = true) : sitesT kind at_ x = joinW (outW (sitesW kind at_ x)) := by
  unfold sitesT outW
  rw [if_pos h]
  split
  · rfl
  · rfl

set_option maxHeartbeats 4000000 in
set_option maxRecDepth 100000 in
theorem specSitesActText_any (x : Act) (kind at_ : Int) (v : Value) (lo hi : Nat) (w : World) (hx : SActR w lo hi v kind at_ x) (hhi : hi ≤ w.heap.size) (hs : ActSmall x) (hK : KeepMax x) :
    Calls Tryz.prog 8 #[v] w fun e w' => e = .returned (.string ⟨(sitesT kind at_ x).toArray⟩) ∧ Below w.heap.size w w' := by
  have hx0 := hx
  obtain ⟨A, c, B, d, C, e, rfl, hA, hB, hC⟩ := hx
  generalize hcs : (#[.int .i64 kind, .int .i64 at_, .int .i64 x.k, .int .i64 x.a, .string x.r, .string x.l, .slice A x.args.length c, .slice B x.input.length d, .slice C x.keep.length e] : Array Value) = cs at *
  have hbo := (Below.refl w.heap.size w).alloc (Nat.le_refl _) (.cells cs 32)
  have hsz : (w.alloc (.cells cs 32)).heap.size = w.heap.size + 1 := by simp
  have HBK := Lib.hid (Blk.new w 32 cs)
  have HX0 := Lib.hid (hx0.below hbo hhi)
  have HD := Lib.hid hbo
  have HC := Lib.hid (specSitesActOk_any x kind at_ _ lo hi _ HX0.out (by omega) hs)
  clear hA hB hC hbo hx0
  subst hcs
  cases hS : sitesB kind at_ x
  · rw [hS] at HC
    have HR := Lib.hid (show sitesT kind at_ x = [] by unfold sitesT; rw [hS]; rfl)
    rw [HR.out]
    clear hS
    go_enter Tryz.func8, Tryz.ntmps8
    go_wp2_with fail
    refine HC.out.mono ?_; rintro e1 w1 ⟨rfl, hb1⟩
    go_wp2_with fail
    go_ret
    exact ⟨rfl, HD.out.trans (hb1.mono HD.out.size)⟩
  · rw [hS] at HC
    have HR := Lib.hid (sitesT_outW hS)
    rw [HR.out]
    have hsm := sitesW_small hS hK
    have hsm2 : (outW (sitesW kind at_ x)).length ≤ 500 ∧ ∀ y ∈ outW (sitesW kind at_ x), y.size ≤ 1000 := by
      unfold outW
      split
      · exact hsm
      · exact ⟨by show 0 ≤ _; omega, fun y hy => by cases hy⟩
    have HSM := Lib.hid hsm2.2
    have hn := hsm2.1
    have HM := Lib.hid (fun (V : Value) (W : World) (h : SActR W lo hi V kind at_ x) (hh : hi ≤ W.heap.size) => l34Act_any x kind at_ V lo hi W h hh hS hK)
    clear hS hsm hsm2 HR
    generalize outW (sitesW kind at_ x) = L at *
    go_enter Tryz.func8, Tryz.ntmps8
    go_wp2_with fail
    generalize w.alloc (.cells #[.int .i64 kind, .int .i64 at_, .int .i64 x.k, .int .i64 x.a, .string x.r, .string x.l, .slice A x.args.length c, .slice B x.input.length d, .slice C x.keep.length e] 32) = w0 at *
    refine HC.out.mono ?_; rintro e1 w1 ⟨rfl, hb1⟩
    have hs1 := hb1.size
    have c1 := (HBK.out.below hb1 (by omega)).cell
    have HX1 := Lib.hid (HX0.out.below hb1 (by omega))
    have HB1 := Lib.hid (HD.out.trans (hb1.mono (by omega)))
    clear hb1 HC HBK
    go_wp2_with fail
    refine (HM.out _ w1 HX1.out (by omega)).mono ?_; rintro e2 w2 ⟨⟨v2, rfl, hv2⟩, hb2⟩
    obtain ⟨A2, c2, rfl⟩ := hv2.1
    have HB2 := Lib.hid (HB1.out.trans (hb2.mono HB1.out.size))
    have HJ := Lib.hid (l34Join_any A2 L.length c2 _ _ L w2 (OwnR.reads (d := ByteArray.empty) hv2) (Nat.le_refl _) (by omega) HSM.out)
    clear hb2 hv2 c1
    go_wp2_with fail
    refine HJ.out.mono ?_; rintro e3 w3 ⟨rfl, hb3⟩
    go_wp2_with fail
    go_ret
    exact ⟨rfl, HB2.out.trans (hb3.mono HB2.out.size)⟩
end Go.Proofs.YtcjaaknnfohllaaGreatDoor
