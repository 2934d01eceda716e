/- Marks of an operation of two sites: rows of texts and of numbers. -/
import Derived.Test.YtcjaaknnfohllaaGreatDoorJoinRSAAa
import Derived.Test.YtcjaaknnfohllaaGreatDoorJoinRSAAd
import Derived.Test.YtcjaaknnfohllaaGreatDoorJoinRSAAv
import Derived.Test.YtcjaaknnfohllaaGreatDoorJoinRSAAl
namespace Go.Proofs.YtcjaaknnfohllaaGreatDoor
open Go.RowKit

def marksI (k n : Nat) : List Int := (List.range n).map fun i => ((k + i : Nat) : Int)
def markedI (k j : Nat) (xs : List Int) : List Int := marksI k j ++ xs.drop j
theorem marksI_len (k n : Nat) : (marksI k n).length = n := by simp [marksI]
theorem markedI_zero (k : Nat) (xs : List Int) : markedI k 0 xs = xs := by simp [markedI, marksI]
theorem markedI_all (k n : Nat) (xs : List Int) (h : xs.length = n) : markedI k n xs = marksI k n := by simp [markedI, ← h]
theorem markedI_succ (k j : Nat) (xs : List Int) (h : j < xs.length) : (markedI k j xs).set j ((k + j : Nat) : Int) = markedI k (j + 1) xs := by
  unfold markedI
  rw [List.set_append, if_neg (by rw [marksI_len]; omega), marksI_len, Nat.sub_self, List.drop_eq_getElem_cons h, List.set_cons_zero]
  simp [marksI, List.range_succ]

set_option maxHeartbeats 400000 in
theorem markInt64S_any (base : Nat) (A : Option Addr) (n c k : Nat) (xs : List Int) (w : World) (h : w.ownsRow base 2 1 (.slice A n c) n (xs.map (Value.int .i64)))
    (h1 : 1 ≤ k) (h2 : k + n ≤ 4294967296) :
    Calls Tryz.prog 118 #[.slice A n c, .int .i64 k] w fun e w' => e = .returned (.int .i64 (k + n : Nat)) ∧
      w'.ownsRow base 2 1 (.slice A n c) n ((marksI k n).map (Value.int .i64)) ∧ w.grownBy w' (Value.slice A n c).ownBlock := by
  have hl : xs.length = n := by have := h.1; simpa using this
  go_enter Tryz.func118, Tryz.ntmps118
  go_wp2
  go_loopw [1, 5] (fun s i wr => ∃ j : Nat, j ≤ n ∧ i = .int .i64 j ∧ s = .int .i64 (k + j : Nat) ∧ wr.ownsRow base 2 1 (.slice A n c) n ((markedI k j xs).map (Value.int .i64)) ∧ w.grownBy wr (Value.slice A n c).ownBlock) (fun _ i _ => n - (intOf i).toNat)
  case atStart => exact ⟨0, Nat.zero_le _, rfl, rfl, by rw [markedI_zero]; exact h, World.grownBy.refl _ _⟩
  case round =>
    obtain ⟨j, hj, rfl, rfl, hown, hgr⟩ := hrel
    by_cases hlt : j < n
    · obtain ⟨g, rfl, hbg, hglt⟩ := own_head hown (by omega)
      have hc := hown.cellAt j (by omega)
      have hf := hown.frozenAt j
      rw [List.getElem?_map, List.getElem?_eq_getElem (by simp [markedI, marksI_len]; omega)] at hc
      simp only [Option.map_some] at hc
      have hst := hown.stored j (.int .i64 ((k : Int) + (j : Int)))
      have hj1 : (j : Int) < (n : Int) := by omega
      clear hown h
      go_wp2
      go_roundw
      case rel =>
        refine ⟨j + 1, by omega, by go_num, by go_num, ?_, grown_trans' hgr hst.2⟩
        rw [← markedI_succ k j xs (by omega), List.map_set, Int.natCast_add]
        exact hst.1
      case measure => simp [intOf]; omega
    · go_wp2
      go_ret
      obtain rfl : j = n := by omega
      exact ⟨rfl, by rw [markedI_all k j xs hl] at hown; exact hown, hgr⟩

set_option maxHeartbeats 400000 in
theorem heldInt64S_any (A : Option Addr) (n c k lo hi : Nat) (w : World) (h : IntR w lo hi A n (marksI k n)) (hhi : hi ≤ w.heap.size)
    (h1 : 1 ≤ k) (h2 : k + n ≤ 4294967296) :
    Calls Tryz.prog 119 #[.slice A n c, .int .i64 k] w fun e w' => e = .returned (.int .i64 (k + n : Nat)) ∧ Below w.heap.size w w' := by
  go_enter Tryz.func119, Tryz.ntmps119
  go_wp2
  go_loop [1, 5] (fun s i => ∃ j : Nat, j ≤ n ∧ i = .int .i64 j ∧ s = .int .i64 (k + j : Nat)) (fun _ i => n - (intOf i).toNat)
  case atStart => exact ⟨0, Nat.zero_le _, rfl, rfl⟩
  case round =>
    obtain ⟨j, hj, rfl, rfl⟩ := hrel
    by_cases hlt : j < n
    · obtain ⟨b, off, rfl, _, hblt, hc⟩ := h.at_ hlt
      have hg : (marksI k n).getD j 0 = ((k + j : Nat) : Int) := by simp [marksI, List.getD_eq_getElem?_getD, hlt]
      rw [hg] at hc
      clear hg
      have hi1 : (j : Int) < (n : Int) := by omega
      have hne : (((k + j : Nat) : Int) == ((k + j : Nat) : Int)) = true := by simp
      go_wp2_with fail
      go_round
      case rel => exact ⟨j + 1, by omega, by go_num, by go_num⟩
      case measure => simp [intOf]; omega
    · go_wp2
      go_ret
      obtain rfl : j = n := by omega
      exact ⟨rfl, Below.refl _ _⟩
end Go.Proofs.YtcjaaknnfohllaaGreatDoor

/- Marks of an operation of two sites: what XMrkL holds, beside the walks of the two sites. -/
namespace Go.Proofs.YtcjaaknnfohllaaGreatDoor
open Go.RowKit

end Go.Proofs.YtcjaaknnfohllaaGreatDoor

/- Marks of an operation: the law's markSiteAct, heldSiteAct, markSitesAct, heldSitesAct. -/
namespace Go.Proofs.YtcjaaknnfohllaaGreatDoor
open Go.RowKit

/-- A row that bears its marks lies where the row lay. -/
theorem marked_row {α : Type} {enc : α → Value} {d : α} {w w0 : World} {lo m1 m2 : Nat} {t : TypeId} {A : Option Addr} {n c : Nat} {xs ys : List α} (h : w.ownsRow lo t 1 (.slice A n c) n (ys.map enc)) (h0 : OwnIn enc w0 m1 m2 t (.slice A n c) xs) (hn : xs.length = n) : RowR enc d w m1 m2 A n ys := by
  have hr := RowR.of_own (d := d) h
  refine ⟨hr.1, fun hp => ?_⟩
  obtain ⟨b, off, e, _, _, hc⟩ := hr.2 hp
  have ho := h0.1.2
  rw [hn] at ho
  obtain ⟨g, eg, hg, _⟩ := own_head ho hp
  have hlt := h0.2 g (by rw [eg]; rfl)
  rw [eg] at e
  injection e with e
  injection e with e1 e2
  subst e1 e2
  exact ⟨g, 0, eg, hg, hlt, hc⟩
theorem OwnIn.within {α : Type} {enc : α → Value} {w w' : World} {lo hi a b : Nat} {t : TypeId} {v : Value} {xs : List α} (h : OwnIn enc w lo hi t v xs) (hw : Within a b w w') (hd : hi ≤ a ∨ b ≤ lo) : OwnIn enc w' lo hi t v xs := by
  refine ⟨⟨h.1.1, ?_⟩, h.2⟩
  have ho := h.1.2
  refine ⟨ho.1, ?_⟩
  rcases ho.2 with h1 | ⟨g, cap, cur, e, h1, h2, r⟩
  · exact .inl h1
  · have hg := h.2 g (by rw [e]; rfl)
    have hlt : g < w.heap.size := by
      rcases Nat.lt_or_ge g w.heap.size with h' | h'
      · exact h'
      · rw [Array.getElem?_eq_none h'] at h2; cases h2
    exact .inr ⟨g, cap, cur, e, h1, (hw.block g hlt (by omega)).trans h2, r⟩
theorem RowR.within {α : Type} {enc : α → Value} {d : α} {w w' : World} {lo hi a b : Nat} {A : Option Addr} {n : Nat} {xs : List α} (h : RowR enc d w lo hi A n xs) (hhi : hi ≤ w.heap.size) (hw : Within a b w w') (hd : hi ≤ a ∨ b ≤ lo) : RowR enc d w' lo hi A n xs :=
  h.keep fun g h1 h2 => hw.block g (by omega) (by omega)
theorem OwnIn.in_ {α : Type} {enc : α → Value} {w : World} {lo hi : Nat} {t : TypeId} {v : Value} {xs : List α} (h : OwnIn enc w lo hi t v xs) : ∀ g, v.ownBlock = some g → lo ≤ g ∧ g < hi := fun g hg => ⟨(h.1.2.lt g hg).1, h.2 g hg⟩

/-- The three rows of an operation bear their marks. -/
def ActMk (w : World) (lo m1 m2 m3 : Nat) (A : Option Addr) (na : Nat) (B : Option Addr) (nb : Nat) (C : Option Addr) (nc : Nat) : Prop :=
  StrR w lo m1 A na (marksFrom 1 na) ∧ StrR w m1 m2 B nb (marksFrom (1 + na) nb) ∧ IntR w m2 m3 C nc (marksI (1 + na + nb) nc)
theorem ActMk.below {w w' : World} {lo m1 m2 m3 : Nat} {A : Option Addr} {na : Nat} {B : Option Addr} {nb : Nat} {C : Option Addr} {nc : Nat} (h : ActMk w lo m1 m2 m3 A na B nb C nc) (h1 : m1 ≤ m2) (h2 : m2 ≤ m3) (h3 : m3 ≤ w.heap.size) (hb : Below w.heap.size w w') : ActMk w' lo m1 m2 m3 A na B nb C nc :=
  ⟨h.1.below hb (by omega), h.2.1.below hb (by omega), h.2.2.below hb (by omega)⟩

set_option maxHeartbeats 4000000 in
set_option maxRecDepth 100000 in
theorem markSiteAct_one (x : Act) (A : Option Addr) (ca : Nat) (B : Option Addr) (cb : Nat) (C : Option Addr) (cc lo m1 m2 m3 : Nat) (w : World) (h1 : lo ≤ m1) (h2 : m1 ≤ m2) (h3 : m2 ≤ m3) (h4 : m3 ≤ w.heap.size)
    (hA : OwnIn Value.string w lo m1 9 (.slice A x.args.length ca) x.args) (hB : OwnIn Value.string w m1 m2 9 (.slice B x.input.length cb) x.input) (hC : OwnIn (Value.int .i64) w m2 m3 2 (.slice C x.keep.length cc) x.keep) (hs : ActSmall x) :
    Calls Tryz.prog 56 #[.agg #[.int .i64 x.k, .int .i64 x.a, .string x.r, .string x.l, .slice A x.args.length ca, .slice B x.input.length cb, .slice C x.keep.length cc], .int .i64 1] w fun e w' => e = .returned (.int .i64 (1 + x.args.length + x.input.length + x.keep.length : Nat)) ∧
      ActMk w' lo m1 m2 m3 A x.args.length B x.input.length C x.keep.length ∧ Within lo m3 w w' := by
  obtain ⟨_, _, s1, s2, s3, _, _⟩ := hs
  have hd := (Below.refl w.heap.size w).alloc (Nat.le_refl _) (.cells #[.int .i64 x.k, .int .i64 x.a, .string x.r, .string x.l, .slice A x.args.length ca, .slice B x.input.length cb, .slice C x.keep.length cc] 30)
  have HBK := Lib.hid (Blk.new w 30 #[.int .i64 x.k, .int .i64 x.a, .string x.r, .string x.l, .slice A x.args.length ca, .slice B x.input.length cb, .slice C x.keep.length cc])
  have HA := Lib.hid (hA.below hd); have HB := Lib.hid (hB.below hd); have HC := Lib.hid (hC.below hd)
  have HW := Lib.hid (show Within lo m3 w _ from Within.of_below hd)
  have hsz := own_alloc_sz w (.cells #[.int .i64 x.k, .int .i64 x.a, .string x.r, .string x.l, .slice A x.args.length ca, .slice B x.input.length cb, .slice C x.keep.length cc] 30)
  obtain ⟨k1, hk1⟩ : ∃ k1, k1 = 1 + x.args.length := ⟨_, rfl⟩
  obtain ⟨k2, hk2⟩ : ∃ k2, k2 = 1 + x.args.length + x.input.length := ⟨_, rfl⟩
  obtain ⟨k3, hk3⟩ : ∃ k3, k3 = 1 + x.args.length + x.input.length + x.keep.length := ⟨_, rfl⟩
  have HK1 := Lib.hid hk1; have HK2 := Lib.hid hk2; have HK3 := Lib.hid hk3
  have HM1 := Lib.hid (fun (W : World) (h : W.ownsRow lo 9 1 (.slice A x.args.length ca) x.args.length (x.args.map Value.string)) => (by
    have := markStringS_one lo A x.args.length ca x.args W h (by omega)
    rw [← hk1] at this; exact this))
  have HM2 := Lib.hid (fun (W : World) (h : W.ownsRow m1 9 1 (.slice B x.input.length cb) x.input.length (x.input.map Value.string)) => (by
    have := markStringS_any m1 B x.input.length cb k1 x.input W h (by omega) (by omega)
    rw [show k1 + x.input.length = k2 by omega] at this; exact this))
  have HM3 := Lib.hid (fun (W : World) (h : W.ownsRow m2 2 1 (.slice C x.keep.length cc) x.keep.length (x.keep.map (Value.int .i64))) => (by
    have := markInt64S_any m2 C x.keep.length cc k2 x.keep W h (by omega) (by omega)
    rw [show k2 + x.keep.length = k3 by omega] at this; exact this))
  rw [← hk3]
  clear hA hB hC hd hk1 hk2 hk3
  go_enter Tryz.func56, Tryz.ntmps56
  go_upto_region 1 with fail
  generalize w.alloc (.cells #[.int .i64 x.k, .int .i64 x.a, .string x.r, .string x.l, .slice A x.args.length ca, .slice B x.input.length cb, .slice C x.keep.length cc] 30) = w0 at *
  have f0 := HBK.out.cell
  go_wp2_with fail
  refine (HM1.out w0 HA.out.1.2).mono ?_; rintro e1 w1 ⟨rfl, ho1, hg1⟩
  have hW1 : Within lo m1 w0 w1 := Within.of_grown hg1 HA.out.in_
  have HA1 := Lib.hid (marked_row (d := ByteArray.empty) ho1 HA.out rfl)
  have HB1 := Lib.hid (HB.out.within hW1 (.inr (Nat.le_refl _)))
  have HC1 := Lib.hid (HC.out.within hW1 (.inr (by omega)))
  have HBK1 := Lib.hid (HBK.out.within hW1 (.inr (by omega)))
  have HW1 := Lib.hid (HW.out.trans (hW1.more (Nat.le_refl _) (by omega)))
  have hs1 := hW1.size
  clear hW1 ho1 hg1 HA HB HC HBK HW f0
  have f1 := HBK1.out.cell
  go_wp2_with fail
  refine (HM2.out w1 HB1.out.1.2).mono ?_; rintro e2 w2 ⟨rfl, ho2, hg2⟩
  have hW2 : Within m1 m2 w1 w2 := Within.of_grown hg2 HB1.out.in_
  have HA2 := Lib.hid (RowR.within HA1.out (by omega) hW2 (.inl (Nat.le_refl _)))
  have HB2 := Lib.hid (marked_row (d := ByteArray.empty) ho2 HB1.out rfl)
  have HC2 := Lib.hid (HC1.out.within hW2 (.inr (Nat.le_refl _)))
  have HBK2 := Lib.hid (HBK1.out.within hW2 (.inr (by omega)))
  have HW2 := Lib.hid (HW1.out.trans (hW2.more (by omega) (by omega)))
  have hs2 := hW2.size
  clear hW2 ho2 hg2 HA1 HB1 HC1 HBK1 HW1 f1
  have f2 := HBK2.out.cell
  go_wp2_with fail
  refine (HM3.out w2 HC2.out.1.2).mono ?_; rintro e3 w3 ⟨rfl, ho3, hg3⟩
  have hW3 : Within m2 m3 w2 w3 := Within.of_grown hg3 HC2.out.in_
  have HA3 := Lib.hid (RowR.within HA2.out (by omega) hW3 (.inl (by omega)))
  have HB3 := Lib.hid (RowR.within HB2.out (by omega) hW3 (.inl (Nat.le_refl _)))
  have HC3 := Lib.hid (marked_row (d := (0 : Int)) ho3 HC2.out rfl)
  have HW3 := Lib.hid (HW2.out.trans (hW3.more (by omega) (by omega)))
  clear hW3 ho3 hg3 HA2 HB2 HC2 HBK2 HW2 f2
  go_wp2_with fail
  go_ret
  exact ⟨rfl, ⟨HA3.out, by rw [← HK1.out]; exact HB3.out, by rw [← HK2.out]; exact HC3.out⟩, HW3.out⟩

set_option maxHeartbeats 4000000 in
set_option maxRecDepth 100000 in
theorem heldSiteAct_one (x : Act) (A : Option Addr) (ca : Nat) (B : Option Addr) (cb : Nat) (C : Option Addr) (cc lo m1 m2 m3 : Nat) (w : World) (h2 : m1 ≤ m2) (h3 : m2 ≤ m3) (h4 : m3 ≤ w.heap.size)
    (hM : ActMk w lo m1 m2 m3 A x.args.length B x.input.length C x.keep.length) (hs : ActSmall x) :
    Calls Tryz.prog 57 #[.agg #[.int .i64 x.k, .int .i64 x.a, .string x.r, .string x.l, .slice A x.args.length ca, .slice B x.input.length cb, .slice C x.keep.length cc], .int .i64 1] w fun e w' => e = .returned (.int .i64 (1 + x.args.length + x.input.length + x.keep.length : Nat)) ∧ Below w.heap.size w w' := by
  obtain ⟨_, _, s1, s2, s3, _, _⟩ := hs
  have hd := (Below.refl w.heap.size w).alloc (Nat.le_refl _) (.cells #[.int .i64 x.k, .int .i64 x.a, .string x.r, .string x.l, .slice A x.args.length ca, .slice B x.input.length cb, .slice C x.keep.length cc] 30)
  have HBK := Lib.hid (Blk.new w 30 #[.int .i64 x.k, .int .i64 x.a, .string x.r, .string x.l, .slice A x.args.length ca, .slice B x.input.length cb, .slice C x.keep.length cc])
  have HM := Lib.hid (hM.below h2 h3 h4 hd)
  have HD := Lib.hid hd
  have hsz := own_alloc_sz w (.cells #[.int .i64 x.k, .int .i64 x.a, .string x.r, .string x.l, .slice A x.args.length ca, .slice B x.input.length cb, .slice C x.keep.length cc] 30)
  obtain ⟨k1, hk1⟩ : ∃ k1, k1 = 1 + x.args.length := ⟨_, rfl⟩
  obtain ⟨k2, hk2⟩ : ∃ k2, k2 = 1 + x.args.length + x.input.length := ⟨_, rfl⟩
  obtain ⟨k3, hk3⟩ : ∃ k3, k3 = 1 + x.args.length + x.input.length + x.keep.length := ⟨_, rfl⟩
  have HM1 := Lib.hid (fun (W : World) (h : StrR W lo m1 A x.args.length (marksFrom 1 x.args.length)) (hh : m1 ≤ W.heap.size) => (by
    have := heldStringS_one A x.args.length ca lo m1 W h hh (by omega)
    rw [← hk1] at this; exact this))
  have HM2 := Lib.hid (fun (W : World) (h : StrR W m1 m2 B x.input.length (marksFrom (1 + x.args.length) x.input.length)) (hh : m2 ≤ W.heap.size) => (by
    rw [← hk1] at h
    have := heldStringS_any B x.input.length cb k1 m1 m2 W h hh (by omega) (by omega)
    rw [show k1 + x.input.length = k2 by omega] at this; exact this))
  have HM3 := Lib.hid (fun (W : World) (h : IntR W m2 m3 C x.keep.length (marksI (1 + x.args.length + x.input.length) x.keep.length)) (hh : m3 ≤ W.heap.size) => (by
    rw [← hk2] at h
    have := heldInt64S_any C x.keep.length cc k2 m2 m3 W h hh (by omega) (by omega)
    rw [show k2 + x.keep.length = k3 by omega] at this; exact this))
  rw [← hk3]
  have n1 : ¬ (k1 : Int) < 0 := by omega
  have n2 : ¬ (k2 : Int) < 0 := by omega
  have n3 : ¬ (k3 : Int) < 0 := by omega
  clear hM hd hk1 hk2 hk3
  go_enter Tryz.func57, Tryz.ntmps57
  go_upto_region 1 with fail
  generalize w.alloc (.cells #[.int .i64 x.k, .int .i64 x.a, .string x.r, .string x.l, .slice A x.args.length ca, .slice B x.input.length cb, .slice C x.keep.length cc] 30) = w0 at *
  have f0 := HBK.out.cell
  go_wp2_with fail
  refine (HM1.out w0 HM.out.1 (by omega)).mono ?_; rintro e1 w1 ⟨rfl, hb1⟩
  have HMb := Lib.hid (HM.out.below h2 h3 (by omega) hb1)
  have HBK1 := Lib.hid (HBK.out.below hb1 (by omega))
  have HB1 := Lib.hid (HD.out.trans (hb1.mono (by omega)))
  have hs1 := hb1.size
  clear hb1 HM HBK HD f0
  have f1 := HBK1.out.cell
  go_wp2_with fail
  refine (HM2.out w1 HMb.out.2.1 (by omega)).mono ?_; rintro e2 w2 ⟨rfl, hb2⟩
  have HMc := Lib.hid (HMb.out.below h2 h3 (by omega) hb2)
  have HBK2 := Lib.hid (HBK1.out.below hb2 (by omega))
  have HB2 := Lib.hid (HB1.out.trans (hb2.mono (by omega)))
  have hs2 := hb2.size
  clear hb2 HMb HBK1 HB1 f1
  have f2 := HBK2.out.cell
  go_wp2_with fail
  refine (HM3.out w2 HMc.out.2.2 (by omega)).mono ?_; rintro e3 w3 ⟨rfl, hb3⟩
  have HB3 := Lib.hid (HB2.out.trans (hb3.mono (by omega)))
  clear hb3 HMc HBK2 HB2 f2
  go_wp2_with fail
  go_ret
  exact ⟨rfl, HB3.out⟩
end Go.Proofs.YtcjaaknnfohllaaGreatDoor
