/- The reference's words of an operation of a site walked: l34Main at the other kinds; l34Act; SitesActText. -/
import Derived.Test.YtcjaaknnfohllaaGreatDoorSatM
namespace Go.Proofs.YtcjaaknnfohllaaGreatDoor
open Go.RowKit

theorem alloc_size (w : World) (o : Obj) : (w.alloc o).heap.size = w.heap.size + 1 := by simp
def fewW (k a : Int) : List ByteArray :=
  if k = 2 then [wStep, decW a] else if k = 3 then [wTick] else if k = 4 then [wFlush] else if k = 5 then [wPages, decW a] else [wCheck]

set_option maxHeartbeats 4000000 in
set_option maxRecDepth 100000 in
theorem l34Main_few (k a : Int) (r l : ByteArray) (na nb nk : Nat) (A B C : Option Addr) (c d e : Nat) (w : World) (hk : k = 2 ∨ k = 3 ∨ k = 4 ∨ k = 5 ∨ k = 6) (ha0 : 0 ≤ a) (ha1 : a ≤ 1000) :
    Calls Tryz.prog 80 #[.agg #[.int .i64 k, .int .i64 a, .string r, .string l, .slice A na c, .slice B nb d, .slice C nk e]] w fun e w' => (∃ v, e = .returned v ∧ OwnStrs w' w.heap.size 9 v (fewW k a)) ∧ Below w.heap.size w w' := by
  have HDC := Lib.hid (fun W => decS_any a (by omega) (by omega) W)
  have HLIT := Lib.hid (fun W (h : w.heap.size ≤ W.heap.size) (ys : List ByteArray) (hy : ys.length ≤ 1000000) => OwnR.lit_ (enc := Value.string) W w.heap.size 9 ys hy h)
  have HD := Lib.hid (fun o => (Below.refl w.heap.size w).alloc (Nat.le_refl _) o)
  rcases hk with rfl | rfl | rfl | rfl | rfl
  · go_enter Tryz.func80, Tryz.ntmps80
    go_wp2_with fail
    refine (HDC.out _).mono ?_; rintro e1 w1 ⟨rfl, hb1⟩
    have HB := Lib.hid ((HD.out _).trans (hb1.mono (HD.out _).size))
    clear hb1
    go_wp2_with fail
    go_ret
    exact ⟨⟨_, rfl, HLIT.out w1 HB.out.size [wStep, decW a] (by show 2 ≤ _; omega)⟩, HB.out.alloc HB.out.size _⟩
  · go_enter Tryz.func80, Tryz.ntmps80
    go_wp2_with fail
    go_ret
    exact ⟨⟨_, rfl, (by have h := HLIT.out (w.alloc (.cells #[.int .i64 3, .int .i64 a, .string r, .string l, .slice A na c, .slice B nb d, .slice C nk e] 30)) (HD.out _).size [wTick] (by show 1 ≤ _; omega); rw [alloc_size] at h; exact h)⟩, (HD.out _).alloc (HD.out _).size _⟩
  · go_enter Tryz.func80, Tryz.ntmps80
    go_wp2_with fail
    go_ret
    exact ⟨⟨_, rfl, (by have h := HLIT.out (w.alloc (.cells #[.int .i64 4, .int .i64 a, .string r, .string l, .slice A na c, .slice B nb d, .slice C nk e] 30)) (HD.out _).size [wFlush] (by show 1 ≤ _; omega); rw [alloc_size] at h; exact h)⟩, (HD.out _).alloc (HD.out _).size _⟩
  · go_enter Tryz.func80, Tryz.ntmps80
    go_wp2_with fail
    refine (HDC.out _).mono ?_; rintro e1 w1 ⟨rfl, hb1⟩
    have HB := Lib.hid ((HD.out _).trans (hb1.mono (HD.out _).size))
    clear hb1
    go_wp2_with fail
    go_ret
    exact ⟨⟨_, rfl, HLIT.out w1 HB.out.size [wPages, decW a] (by show 2 ≤ _; omega)⟩, HB.out.alloc HB.out.size _⟩
  · go_enter Tryz.func80, Tryz.ntmps80
    go_wp2_with fail
    go_ret
    exact ⟨⟨_, rfl, (by have h := HLIT.out (w.alloc (.cells #[.int .i64 6, .int .i64 a, .string r, .string l, .slice A na c, .slice B nb d, .slice C nk e] 30)) (HD.out _).size [wCheck] (by show 1 ≤ _; omega); rw [alloc_size] at h; exact h)⟩, (HD.out _).alloc (HD.out _).size _⟩

set_option maxHeartbeats 4000000 in
set_option maxRecDepth 100000 in
theorem l34Main_crash (a : Int) (r l : ByteArray) (na nb : Nat) (xkeep : List Int) (A B C : Option Addr) (c d e lo hi : Nat) (w : World) (hC : IntR w lo hi C xkeep.length xkeep) (hhi : hi ≤ w.heap.size)
    (ha0 : -1 ≤ a) (ha1 : a ≤ 1700) (hk : xkeep.length ≤ 400) (h0 : ∀ j, j < xkeep.length → 0 ≤ xkeep.getD j 0) (hmax : ∀ z ∈ xkeep, z ≤ 9223372036854775807) :
    Calls Tryz.prog 80 #[.agg #[.int .i64 7, .int .i64 a, .string r, .string l, .slice A na c, .slice B nb d, .slice C xkeep.length e]] w fun e w' => (∃ v, e = .returned v ∧ OwnStrs w' w.heap.size 9 v (wCrash :: (a :: xkeep).map decW)) ∧ Below w.heap.size w w' := by
  have hbo := (Below.refl w.heap.size w).alloc (Nat.le_refl _) (.cells #[.int .i64 7, .int .i64 a, .string r, .string l, .slice A na c, .slice B nb d, .slice C xkeep.length e] 30)
  have hsz : (w.alloc (.cells #[.int .i64 7, .int .i64 a, .string r, .string l, .slice A na c, .slice B nb d, .slice C xkeep.length e] 30)).heap.size = w.heap.size + 1 := by simp
  have HBK := Lib.hid (Blk.new w 30 #[.int .i64 7, .int .i64 a, .string r, .string l, .slice A na c, .slice B nb d, .slice C xkeep.length e])
  have HDC := Lib.hid (fun n h1 h2 W => decS_any n h1 h2 W)
  have HC := Lib.hid (hC.below hbo hhi)
  have HD := Lib.hid hbo
  have HG := Lib.hid (fun j (hj : j < xkeep.length) => (⟨h0 j hj, hmax (xkeep.getD j 0) (by rw [List.getD_eq_getElem?_getD, List.getElem?_eq_getElem hj]; exact List.getElem_mem _)⟩ : 0 ≤ xkeep.getD j 0 ∧ xkeep.getD j 0 ≤ 9223372036854775807))
  have HTK := Lib.hid (fun j (hj : j < xkeep.length) => (show (wCrash :: decW a :: (xkeep.take (j + 1)).map decW) = (wCrash :: decW a :: (xkeep.take j).map decW) ++ [decW (xkeep.getD j 0)] by rw [take_one_more xkeep 0 j hj, List.map_append]; rfl))
  have HALL := Lib.hid (show (wCrash :: decW a :: (xkeep.take xkeep.length).map decW) = wCrash :: (a :: xkeep).map decW by rw [List.take_length]; rfl)
  clear hC hbo h0 hmax
  go_enter Tryz.func80, Tryz.ntmps80
  go_wp2_with fail
  generalize w.alloc (.cells #[.int .i64 7, .int .i64 a, .string r, .string l, .slice A na c, .slice B nb d, .slice C xkeep.length e] 30) = w0 at *
  have hlt0 : w.heap.size < w0.heap.size := by omega
  refine (HDC.out a (by omega) (by omega) _).mono ?_; rintro e1 w1 ⟨rfl, hb1⟩
  have hs1 := hb1.size
  have HB1 := Lib.hid hb1
  have HO := Lib.hid (show OwnStrs (w1.alloc (.cells #[.string wCrash, .string (decW a)] 9)) w0.heap.size 9 (.slice (some ⟨w1.heap.size, 0, none⟩) 2 2) [wCrash, decW a] from OwnR.lit_ w1 w0.heap.size 9 [wCrash, decW a] (by show 2 ≤ _; omega) hs1)
  clear hb1
  go_wp2_with fail
  go_loopw [8, 9] (fun v i wr => ∃ j : Nat, j ≤ xkeep.length ∧ i = .int .i64 j ∧ OwnStrs wr w0.heap.size 9 v (wCrash :: decW a :: (xkeep.take j).map decW) ∧ Below w0.heap.size w0 wr) (fun _ i _ => xkeep.length - (intOf i).toNat)
  case atStart => exact ⟨0, Nat.zero_le _, rfl, HO.out, HB1.out.alloc hs1 _⟩
  case round =>
    obtain ⟨j, hj, rfl, hown, hbr⟩ := hrel
    have hszr := hbr.size
    have HBR := Lib.hid hbr
    have hCr := HC.out.below hbr (by omega)
    have cr := (HBK.out.below hbr hlt0).cell
    have hll : (wCrash :: decW a :: (xkeep.take j).map decW).length ≤ 500 := by
      rw [List.length_cons, List.length_cons, List.length_map, List.length_take]; omega
    clear hbr
    by_cases hlt : j < xkeep.length
    · obtain ⟨b, off, rfl, _, hbh, hcell⟩ := hCr.at_ hlt
      have i1 : (j : Int) < (xkeep.length : Int) := by omega
      have i0 : (0 : Int) ≤ (j : Int) := by omega
      have HN := Lib.hid (HTK.out j hlt)
      have hg := HG.out j hlt
      generalize xkeep.getD j 0 = Z at *
      generalize (wCrash :: decW a :: (xkeep.take j).map decW) = L at *
      have HZ := Lib.hid (fun W => HDC.out Z (by omega) hg.2 W)
      clear hg
      go_wp2_with fail
      refine (HZ.out _).mono ?_; rintro e2 w2 ⟨rfl, hb2⟩
      have hs2 : w0.heap.size ≤ w2.heap.size := Nat.le_trans hszr hb2.size
      have hown2 := hown.below hb2
      have HB2 := Lib.hid (HBR.out.trans (hb2.mono hszr))
      generalize decW Z = D at *
      clear hb2 hown
      go_wp2_with (first
        | fail
        | (at_builtin; refine wpList_app1 (enc := Value.string) rfl (.tmp 81) (.tmp 88) 22 9 rfl Tryz.underlying22 rfl (by omega) (fun _ => rfl) infoTxt w2 w0.heap.size _ L D rfl hown2 rfl (by omega) hs2 ?_; intro v3 w3 hown3 hb3))
      go_roundw
      case rel => exact ⟨j + 1, by omega, by go_num, by rw [HN.out]; exact hown3, HB2.out.trans hb3⟩
      case measure => simp [intOf]; omega
    · have i1 : ¬ (j : Int) < (xkeep.length : Int) := by omega
      obtain rfl : j = xkeep.length := by omega
      go_wp2_with fail
      go_ret
      exact ⟨⟨_, rfl, by have h := hown.mono (show w.heap.size ≤ w0.heap.size by omega); rw [HALL.out] at h; exact h⟩, HD.out.trans (HBR.out.mono (by omega))⟩
end Go.Proofs.YtcjaaknnfohllaaGreatDoor
