/- Marks of an operation of two sites. -/
import Derived.Test.YtcjaaknnfohllaaGreatDoorJoinRSAAw
import Derived.Test.YtcjaaknnfohllaaGreatDoorRows
import Derived.WalkKit
import Derived.ProofKit
import Derived.OpenShut
import Derived.ShutString
import Derived.Deep.Slices
import Derived.Deep.Fields
import Derived.ChangeSame
import Derived.SizedLaws
namespace Go.Proofs.YtcjaaknnfohllaaGreatDoor
open Go.RowKit

set_option maxHeartbeats 4000000 in
set_option maxRecDepth 100000 in
theorem markSitesAct_one (kind at_ : Int) (x : Act) (A : Option Addr) (ca : Nat) (B : Option Addr) (cb : Nat) (C : Option Addr) (cc lo m1 m2 m3 : Nat) (w : World) (h1 : lo ≤ m1) (h2 : m1 ≤ m2) (h3 : m2 ≤ m3) (h4 : m3 ≤ w.heap.size)
    (hA : OwnIn Value.string w lo m1 9 (.slice A x.args.length ca) x.args) (hB : OwnIn Value.string w m1 m2 9 (.slice B x.input.length cb) x.input) (hC : OwnIn (Value.int .i64) w m2 m3 2 (.slice C x.keep.length cc) x.keep) (hs : ActSmall x) :
    Calls Tryz.prog 19 #[.agg #[.int .i64 kind, .int .i64 at_, .int .i64 x.k, .int .i64 x.a, .string x.r, .string x.l, .slice A x.args.length ca, .slice B x.input.length cb, .slice C x.keep.length cc], .int .i64 1] w fun e w' => e = .returned (.int .i64 (1 + x.args.length + x.input.length + x.keep.length : Nat)) ∧
      ActMk w' lo m1 m2 m3 A x.args.length B x.input.length C x.keep.length ∧ Within lo m3 w w' := by
  have hd := (Below.refl w.heap.size w).alloc (Nat.le_refl _) (.cells #[.int .i64 kind, .int .i64 at_, .int .i64 x.k, .int .i64 x.a, .string x.r, .string x.l, .slice A x.args.length ca, .slice B x.input.length cb, .slice C x.keep.length cc] 32)
  have HBK := Lib.hid (Blk.new w 32 #[.int .i64 kind, .int .i64 at_, .int .i64 x.k, .int .i64 x.a, .string x.r, .string x.l, .slice A x.args.length ca, .slice B x.input.length cb, .slice C x.keep.length cc])
  have hsz := own_alloc_sz w (.cells #[.int .i64 kind, .int .i64 at_, .int .i64 x.k, .int .i64 x.a, .string x.r, .string x.l, .slice A x.args.length ca, .slice B x.input.length cb, .slice C x.keep.length cc] 32)
  have HM := Lib.hid (markSiteAct_one x A ca B cb C cc lo m1 m2 m3 _ h1 h2 h3 (Nat.le_trans h4 hd.size) (hA.below hd) (hB.below hd) (hC.below hd) hs)
  have HW := Lib.hid (show Within lo m3 w _ from Within.of_below hd)
  obtain ⟨k3, hk3⟩ : ∃ k3, k3 = 1 + x.args.length + x.input.length + x.keep.length := ⟨_, rfl⟩
  rw [← hk3] at HM ⊢
  clear hA hB hC hd hk3
  go_enter Tryz.func19, Tryz.ntmps19
  go_upto_region 1 with fail
  generalize w.alloc (.cells #[.int .i64 kind, .int .i64 at_, .int .i64 x.k, .int .i64 x.a, .string x.r, .string x.l, .slice A x.args.length ca, .slice B x.input.length cb, .slice C x.keep.length cc] 32) = w0 at *
  have f0 := HBK.out.cell
  go_wp2_with fail
  refine HM.out.mono ?_; rintro e1 w1 ⟨rfl, hm1, hw1⟩
  have HM1 := Lib.hid hm1
  have HW1 := Lib.hid (HW.out.trans hw1)
  clear hm1 hw1 HM HW HBK f0
  go_wp2_with fail
  go_ret
  exact ⟨rfl, HM1.out, HW1.out⟩

set_option maxHeartbeats 4000000 in
set_option maxRecDepth 100000 in
theorem heldSitesAct_one (kind at_ : Int) (x : Act) (A : Option Addr) (ca : Nat) (B : Option Addr) (cb : Nat) (C : Option Addr) (cc lo m1 m2 m3 : Nat) (w : World) (h2 : m1 ≤ m2) (h3 : m2 ≤ m3) (h4 : m3 ≤ w.heap.size)
    (hM : ActMk w lo m1 m2 m3 A x.args.length B x.input.length C x.keep.length) (hs : ActSmall x) :
    Calls Tryz.prog 20 #[.agg #[.int .i64 kind, .int .i64 at_, .int .i64 x.k, .int .i64 x.a, .string x.r, .string x.l, .slice A x.args.length ca, .slice B x.input.length cb, .slice C x.keep.length cc], .int .i64 1] w fun e w' => e = .returned (.int .i64 (1 + x.args.length + x.input.length + x.keep.length : Nat)) ∧ Below w.heap.size w w' := by
  have hd := (Below.refl w.heap.size w).alloc (Nat.le_refl _) (.cells #[.int .i64 kind, .int .i64 at_, .int .i64 x.k, .int .i64 x.a, .string x.r, .string x.l, .slice A x.args.length ca, .slice B x.input.length cb, .slice C x.keep.length cc] 32)
  have HBK := Lib.hid (Blk.new w 32 #[.int .i64 kind, .int .i64 at_, .int .i64 x.k, .int .i64 x.a, .string x.r, .string x.l, .slice A x.args.length ca, .slice B x.input.length cb, .slice C x.keep.length cc])
  have hsz := own_alloc_sz w (.cells #[.int .i64 kind, .int .i64 at_, .int .i64 x.k, .int .i64 x.a, .string x.r, .string x.l, .slice A x.args.length ca, .slice B x.input.length cb, .slice C x.keep.length cc] 32)
  have HM := Lib.hid (heldSiteAct_one x A ca B cb C cc lo m1 m2 m3 _ h2 h3 (Nat.le_trans h4 hd.size) (hM.below h2 h3 h4 hd) hs)
  have HW := Lib.hid hd
  obtain ⟨k3, hk3⟩ : ∃ k3, k3 = 1 + x.args.length + x.input.length + x.keep.length := ⟨_, rfl⟩
  rw [← hk3] at HM ⊢
  have n3 : ¬ (k3 : Int) < 0 := by omega
  clear hM hd hk3
  go_enter Tryz.func20, Tryz.ntmps20
  go_upto_region 1 with fail
  generalize w.alloc (.cells #[.int .i64 kind, .int .i64 at_, .int .i64 x.k, .int .i64 x.a, .string x.r, .string x.l, .slice A x.args.length ca, .slice B x.input.length cb, .slice C x.keep.length cc] 32) = w0 at *
  have f0 := HBK.out.cell
  go_wp2_with fail
  refine HM.out.mono ?_; rintro e1 w1 ⟨rfl, hb1⟩
  have HW1 := Lib.hid (HW.out.trans (hb1.mono HW.out.size))
  clear hb1 HM HW HBK f0
  go_wp2_with fail
  go_ret
  exact ⟨rfl, HW1.out⟩
end Go.Proofs.YtcjaaknnfohllaaGreatDoor

/- FnExactReadSitesAct returns true for every text: the walk of the law. -/
namespace Go.Proofs.YtcjaaknnfohllaaGreatDoor
open Go.RowKit

theorem SActR.within {w w' : World} {lo hi a b : Nat} {v : Value} {kind at_ : Int} {x : Act} (h : SActR w lo hi v kind at_ x) (hhi : hi ≤ w.heap.size) (hw : Within a b w w') (hd : hi ≤ a ∨ b ≤ lo) : SActR w' lo hi v kind at_ x := by
  obtain ⟨A, c, B, d, C, e, hv, h1, h2, h3⟩ := h
  exact ⟨A, c, B, d, C, e, hv, RowR.within h1 hhi hw hd, RowR.within h2 hhi hw hd, RowR.within h3 hhi hw hd⟩
theorem rsI_small (T : ByteArray) (hT : T.size ≤ 1048576) : ActSmall ((rsI T).getD sact0).2.2 := by
  have hz : ActSmall act0 := ⟨by decide, by decide, by decide, by decide, by decide, fun y hy => absurd hy List.not_mem_nil, fun y hy => absurd hy List.not_mem_nil⟩
  have hw := wrds_small T
  unfold rsI
  split
  · exact hz
  · split
    · exact (guessI_small (wrds T) (by rw [List.length_drop]; omega) (fun y hy => Nat.le_trans (hw.2 y hy) hT)).1
    · exact hz

set_option maxHeartbeats 8000000 in
set_option maxRecDepth 100000 in
theorem law_ReadSitesAct (T : ByteArray) (w : World) (hE : EnvR w) : Calls Tryz.prog 5 #[.string T] w fun e w' => e = .returned (.bool true) ∧ Below w.heap.size w w' := by
  by_cases hbig : 1048576 < T.size
  · have i1 : (1048576 : Int) < (T.size : Int) := by omega
    go_enter Tryz.func5, Tryz.ntmps5
    go_wp2_with fail
    go_ret
    exact ⟨rfl, Below.refl _ _⟩
  · have i1 : ¬ (1048576 : Int) < (T.size : Int) := by omega
    have hsp := fun W => specReadSitesAct_any T W
    rw [rs_same] at hsp
    have him := fun W h => implReadSitesAct_any T (by omega) W h
    have hx4 := rsI_small T (by omega)
    generalize (rsI T).getD sact0 = G at *
    generalize (rsI T).isSome = ok at *
    obtain ⟨kind, at_, x⟩ := G
    have HSP := Lib.hid hsp; have HIM := Lib.hid him; have HE := Lib.hid hE; have HXS := Lib.hid (show ActSmall x from hx4)
    have hkl : x.args.length ≤ 1048576 ∧ x.input.length ≤ 1048576 ∧ x.keep.length ≤ 1048576 := ⟨hx4.2.2.1, hx4.2.2.2.1, hx4.2.2.2.2.1⟩
    obtain ⟨k3, hk3⟩ : ∃ k3, k3 = 1 + x.args.length + x.input.length + x.keep.length := ⟨_, rfl⟩
    have HK3 := Lib.hid hk3
    have hq1 : ¬ (k3 : Int) < 0 := by omega
    clear hsp him hE hbig hx4 hk3 hkl
    go_enter Tryz.func5, Tryz.ntmps5
    go_wp2_with fail
    refine (HSP.out _).mono ?_; rintro e1 w1 ⟨⟨v1, rfl, hv1⟩, hb1⟩
    have hv1' : SActR w1 w.heap.size w1.heap.size v1 kind at_ x := hv1
    obtain ⟨A1, ca1, B1, cb1, C1, cc1, rfl, q1, q2, q3⟩ := hv1'
    have hs1 := hb1.size
    have hBA := (Below.refl w1.heap.size w1).alloc (Nat.le_refl _) (.cells #[.int .i64 kind, .int .i64 at_, .int .i64 x.k, .int .i64 x.a, .string x.r, .string x.l, .slice A1 x.args.length ca1, .slice B1 x.input.length cb1, .slice C1 x.keep.length cc1] 32)
    have HNa := Lib.hid (show SActR (w1.alloc (.cells #[.int .i64 kind, .int .i64 at_, .int .i64 x.k, .int .i64 x.a, .string x.r, .string x.l, .slice A1 x.args.length ca1, .slice B1 x.input.length cb1, .slice C1 x.keep.length cc1] 32)) 0 w1.heap.size (.agg #[.int .i64 kind, .int .i64 at_, .int .i64 x.k, .int .i64 x.a, .string x.r, .string x.l, .slice A1 x.args.length ca1, .slice B1 x.input.length cb1, .slice C1 x.keep.length cc1]) kind at_ x from ⟨A1, ca1, B1, cb1, C1, cc1, rfl, (q1.below hBA (Nat.le_refl _)).more (Nat.zero_le _) (Nat.le_refl _), (q2.below hBA (Nat.le_refl _)).more (Nat.zero_le _) (Nat.le_refl _), (q3.below hBA (Nat.le_refl _)).more (Nat.zero_le _) (Nat.le_refl _)⟩)
    have HBKa := Lib.hid (Blk.new w1 32 #[.int .i64 kind, .int .i64 at_, .int .i64 x.k, .int .i64 x.a, .string x.r, .string x.l, .slice A1 x.args.length ca1, .slice B1 x.input.length cb1, .slice C1 x.keep.length cc1])
    have HBa := Lib.hid (hb1.trans (hBA.mono hs1))
    have hsa' := own_alloc_sz w1 (.cells #[.int .i64 kind, .int .i64 at_, .int .i64 x.k, .int .i64 x.a, .string x.r, .string x.l, .slice A1 x.args.length ca1, .slice B1 x.input.length cb1, .slice C1 x.keep.length cc1] 32)
    clear hb1 hBA hv1 q1 q2 q3
    go_upto_region 4 with fail
    generalize w1.alloc (.cells #[.int .i64 kind, .int .i64 at_, .int .i64 x.k, .int .i64 x.a, .string x.r, .string x.l, .slice A1 x.args.length ca1, .slice B1 x.input.length cb1, .slice C1 x.keep.length cc1] 32) = wa at *
    generalize w1.heap.size = BA at *
    go_wp2_with fail
    refine (HIM.out _ (HE.out.below HBa.out)).mono ?_; rintro e2 w2 ⟨⟨v2, rfl, hv2⟩, hb2⟩
    obtain ⟨A2, ca2, B2, cb2, C2, cc2, m1, m2, rfl, hm1, hm2, hm3, oA, oB, oC⟩ := hv2
    dsimp only at oA oB oC
    have hs2 := hb2.size
    have hBB := (Below.refl w2.heap.size w2).alloc (Nat.le_refl _) (.cells #[.int .i64 kind, .int .i64 at_, .int .i64 x.k, .int .i64 x.a, .string x.r, .string x.l, .slice A2 x.args.length ca2, .slice B2 x.input.length cb2, .slice C2 x.keep.length cc2] 32)
    have HNb := Lib.hid ((HNa.out.below hb2 (by omega)).below hBB (by omega))
    have HBKb := Lib.hid ((HBKa.out.below hb2 (by omega)).alloc (.cells #[.int .i64 kind, .int .i64 at_, .int .i64 x.k, .int .i64 x.a, .string x.r, .string x.l, .slice A2 x.args.length ca2, .slice B2 x.input.length cb2, .slice C2 x.keep.length cc2] 32))
    have HGb := Lib.hid (Blk.new w2 32 #[.int .i64 kind, .int .i64 at_, .int .i64 x.k, .int .i64 x.a, .string x.r, .string x.l, .slice A2 x.args.length ca2, .slice B2 x.input.length cb2, .slice C2 x.keep.length cc2])
    have HAb := Lib.hid (oA.below hBB); have HBb' := Lib.hid (oB.below hBB); have HCb := Lib.hid (oC.below hBB)
    have HRb := Lib.hid (show SActR (w2.alloc (.cells #[.int .i64 kind, .int .i64 at_, .int .i64 x.k, .int .i64 x.a, .string x.r, .string x.l, .slice A2 x.args.length ca2, .slice B2 x.input.length cb2, .slice C2 x.keep.length cc2] 32)) wa.heap.size w2.heap.size (.agg #[.int .i64 kind, .int .i64 at_, .int .i64 x.k, .int .i64 x.a, .string x.r, .string x.l, .slice A2 x.args.length ca2, .slice B2 x.input.length cb2, .slice C2 x.keep.length cc2]) kind at_ x from ⟨A2, ca2, B2, cb2, C2, cc2, rfl, ((OwnR.reads (d := ByteArray.empty) oA.1).below hBB (Nat.le_refl _)), (((OwnR.reads (d := ByteArray.empty) oB.1).below hBB (Nat.le_refl _)).more hm1 (Nat.le_refl _)), (((OwnR.reads (d := (0 : Int)) oC.1).below hBB (Nat.le_refl _)).more (Nat.le_trans hm1 hm2) (Nat.le_refl _))⟩)
    have HBb := Lib.hid (HBa.out.trans ((hb2.trans (hBB.mono hs2)).mono HBa.out.size))
    have hsb' := own_alloc_sz w2 (.cells #[.int .i64 kind, .int .i64 at_, .int .i64 x.k, .int .i64 x.a, .string x.r, .string x.l, .slice A2 x.args.length ca2, .slice B2 x.input.length cb2, .slice C2 x.keep.length cc2] 32)
    clear hb2 oA oB oC hBB HNa HBKa HBa
    go_upto_region 5 with fail
    generalize w2.alloc (.cells #[.int .i64 kind, .int .i64 at_, .int .i64 x.k, .int .i64 x.a, .string x.r, .string x.l, .slice A2 x.args.length ca2, .slice B2 x.input.length cb2, .slice C2 x.keep.length cc2] 32) = wb at *
    generalize w2.heap.size = BB at *
    generalize wa.heap.size = LO at *
    have fa := HBKb.out.cell
    have fb := HGb.out.cell
    go_wp2_with fail
    refine (eqSitesAct_same x kind at_ _ _ LO BB 0 BA _ HRb.out HNb.out (by omega) (by omega) HXS.out).mono ?_; rintro e3 w3 ⟨rfl, hb3⟩
    have hs3 := hb3.size
    have HBK3 := Lib.hid (HBKb.out.below hb3 (by omega))
    have HG3 := Lib.hid (HGb.out.below hb3 (by omega))
    have HN3 := Lib.hid (HNb.out.below hb3 (by omega))
    have HA3 := Lib.hid (HAb.out.below hb3); have HB3' := Lib.hid (HBb'.out.below hb3); have HC3 := Lib.hid (HCb.out.below hb3)
    have HB3 := Lib.hid (HBb.out.trans (hb3.mono HBb.out.size))
    have HMK := Lib.hid (markSitesAct_one kind at_ x A2 ca2 B2 cb2 C2 cc2 LO m1 m2 BB w3 hm1 hm2 hm3 (by omega) HA3.out HB3'.out HC3.out HXS.out)
    rw [← HK3.out] at HMK
    clear hb3 fa fb HBKb HGb HNb HAb HBb' HCb HBb HRb
    have fb := HG3.out.cell
    go_wp2_with fail
    refine HMK.out.mono ?_; rintro e4 w4 ⟨rfl, hm4, hW4⟩
    have hs4 := hW4.size
    have HM4 := Lib.hid hm4
    have HBK4 := Lib.hid (HBK3.out.within hW4 (.inl (by omega)))
    have HG4 := Lib.hid (HG3.out.within hW4 (.inr (Nat.le_refl _)))
    have HN4 := Lib.hid (HN3.out.within (by omega) hW4 (.inl (by omega)))
    have HB4 := Lib.hid (HB3.out.trans ((hW4.below (by omega)).mono (by have := HB3.out.size; omega)))
    have HHD := Lib.hid (fun (W : World) (h : ActMk W LO m1 m2 BB A2 x.args.length B2 x.input.length C2 x.keep.length) (hh : BB ≤ W.heap.size) => (by
      have := heldSitesAct_one kind at_ x A2 ca2 B2 cb2 C2 cc2 LO m1 m2 BB W hm2 hm3 hh h HXS.out
      rw [← HK3.out] at this; exact this))
    clear hm4 hW4 fb HBK3 HG3 HN3 HB3 HA3 HB3' HC3 HMK
    have fb := HG4.out.cell
    go_wp2_with fail
    refine (HHD.out _ HM4.out (by omega)).mono ?_; rintro e5 w5 ⟨rfl, hb5⟩
    have hs5 := hb5.size
    have HBK5 := Lib.hid (HBK4.out.below hb5 (by omega))
    have HG5 := Lib.hid (HG4.out.below hb5 (by omega))
    have HN5 := Lib.hid (HN4.out.below hb5 (by omega))
    have HR5 := Lib.hid (HM4.out.below hm2 hm3 (by omega) hb5)
    have HB5 := Lib.hid (HB4.out.trans (hb5.mono HB4.out.size))
    clear hb5 fb HBK4 HG4 HN4 HM4 HB4
    go_wp2_with fail
    refine (HIM.out _ (HE.out.below HB5.out)).mono ?_; rintro e6 w6 ⟨⟨v6, rfl, hv6⟩, hb6⟩
    obtain ⟨A6, ca6, B6, cb6, C6, cc6, n1, n2, rfl, hn1, hn2, hn3, oA, oB, oC⟩ := hv6
    dsimp only at oA oB oC
    have hs6 := hb6.size
    have hBC := (Below.refl w6.heap.size w6).alloc (Nat.le_refl _) (.cells #[.int .i64 kind, .int .i64 at_, .int .i64 x.k, .int .i64 x.a, .string x.r, .string x.l, .slice A6 x.args.length ca6, .slice B6 x.input.length cb6, .slice C6 x.keep.length cc6] 32)
    have hb7 := hb6.trans (hBC.mono hs6)
    have HBK7 := Lib.hid (HBK5.out.below hb7 (by omega))
    have HG7 := Lib.hid (HG5.out.below hb7 (by omega))
    have HN7 := Lib.hid (HN5.out.below hb7 (by omega))
    have HR7 := Lib.hid (HR5.out.below hm2 hm3 (by omega) hb7)
    have HC7 := Lib.hid (Blk.new w6 32 #[.int .i64 kind, .int .i64 at_, .int .i64 x.k, .int .i64 x.a, .string x.r, .string x.l, .slice A6 x.args.length ca6, .slice B6 x.input.length cb6, .slice C6 x.keep.length cc6])
    have HRC := Lib.hid (show SActR (w6.alloc (.cells #[.int .i64 kind, .int .i64 at_, .int .i64 x.k, .int .i64 x.a, .string x.r, .string x.l, .slice A6 x.args.length ca6, .slice B6 x.input.length cb6, .slice C6 x.keep.length cc6] 32)) w5.heap.size w6.heap.size (.agg #[.int .i64 kind, .int .i64 at_, .int .i64 x.k, .int .i64 x.a, .string x.r, .string x.l, .slice A6 x.args.length ca6, .slice B6 x.input.length cb6, .slice C6 x.keep.length cc6]) kind at_ x from ⟨A6, ca6, B6, cb6, C6, cc6, rfl, ((OwnR.reads (d := ByteArray.empty) oA.1).below hBC (Nat.le_refl _)), (((OwnR.reads (d := ByteArray.empty) oB.1).below hBC (Nat.le_refl _)).more hn1 (Nat.le_refl _)), (((OwnR.reads (d := (0 : Int)) oC.1).below hBC (Nat.le_refl _)).more (Nat.le_trans hn1 hn2) (Nat.le_refl _))⟩)
    have HB7 := Lib.hid (HB5.out.trans (hb7.mono HB5.out.size))
    have hsc' := own_alloc_sz w6 (.cells #[.int .i64 kind, .int .i64 at_, .int .i64 x.k, .int .i64 x.a, .string x.r, .string x.l, .slice A6 x.args.length ca6, .slice B6 x.input.length cb6, .slice C6 x.keep.length cc6] 32)
    clear hb6 oA oB oC hBC hb7 HBK5 HG5 HN5 HR5 HB5
    go_upto_region 16 with fail
    generalize w6.alloc (.cells #[.int .i64 kind, .int .i64 at_, .int .i64 x.k, .int .i64 x.a, .string x.r, .string x.l, .slice A6 x.args.length ca6, .slice B6 x.input.length cb6, .slice C6 x.keep.length cc6] 32) = w7 at *
    generalize w6.heap.size = BC at *
    have fa := HBK7.out.cell
    have fc := HC7.out.cell
    go_wp2_with fail
    refine (eqSitesAct_same x kind at_ _ _ w5.heap.size BC 0 BA _ HRC.out HN7.out (by omega) (by omega) HXS.out).mono ?_; rintro e8 w8 ⟨rfl, hb8⟩
    have hs8 := hb8.size
    have HG8 := Lib.hid (HG7.out.below hb8 (by omega))
    have HR8 := Lib.hid (HR7.out.below hm2 hm3 (by omega) hb8)
    have HB8 := Lib.hid (HB7.out.trans (hb8.mono HB7.out.size))
    clear hb8 fa fc HBK7 HG7 HN7 HR7 HC7 HRC HB7
    have fb := HG8.out.cell
    go_wp2_with fail
    refine (HHD.out _ HR8.out (by omega)).mono ?_; rintro e9 w9 ⟨rfl, hb9⟩
    have HB9 := Lib.hid (HB8.out.trans (hb9.mono HB8.out.size))
    clear hb9
    go_wp2_with fail
    go_ret
    exact ⟨rfl, HB9.out⟩
end Go.Proofs.YtcjaaknnfohllaaGreatDoor

/- From the walk of a law to its row: a law that returns true and leaves what was there as it was. -/
namespace Go.Proofs.YtcjaaknnfohllaaGreatDoor
open Go.ChangeShapes Go.WideShapes Go.ChangeAt Go.RowKit

theorem own_knob : ownKnob Tryz.prog.godebug = none := by kernel_rfl
theorem laid_out : laidOutB Tryz.prog = true := by kernel_rfl

theorem trodAll_below {H : Type} {enc : TypeId × Value → H} {P : Program} (hl : laidOutB P = true) {W W' : World} (hb : Below W.heap.size W W') :
    ∀ (ts : List TypeId) (vs : List Value) (ds : List (DataW H)) (ps : List MemPlace), (∀ t ∈ ts, P.readableRec t = true ∧ t < P.types.size) → (∀ x ∈ ps, x.block < W.heap.size) →
    DataW.TrodAll enc P W 0 (fun _ => true) true ts vs ds ps → DataW.TrodAll enc P W' 0 (fun b => decide (b < W.heap.size)) true ts vs ds ps
  | [], [], [], _, _, _, h => h
  | t :: ts, v :: vs, d :: ds, ps, hr, hlt, h => by
    obtain ⟨p, q, h1, h2, rfl⟩ := h
    exact ⟨p, q, Below.trod hl (hr t (by simp)).1 (hr t (by simp)).2 h1 hb (fun x hx => hlt x (by simp [hx])),
      trodAll_below hl hb ts vs ds q (fun t ht => hr t (by simp [ht])) (fun x hx => hlt x (by simp [hx])) h2, rfl⟩
  | [], [], _ :: _, _, _, _, h => h.elim
  | [], _ :: _, _, _, _, _, h => h.elim
  | _ :: _, [], _, _, _, _, h => h.elim
  | _ :: _, _ :: _, [], _, _, _, h => h.elim

/-- The row's end of a law. -/
theorem law_post {H : Type} {enc : TypeId × Value → H} {P : Program} {f : Func} {s : ChangeSpec} {W W' : World} {args : Array Value} {ds gs : List (DataW H)} {before : List MemPlace} {tb : TypeId}
    (hvars : s.vars = []) (hW : DataW.Whole enc P f.params.toList s.vars false W args.toList ds gs before)
    (hfn : s.fn H (ds ++ gs) = { results := [.lit (.bool true)], args := ds }) (hl : laidOutB P = true) (hr : ∀ t ∈ f.params.toList, P.readableRec t = true ∧ t < P.types.size)
    (hrt : f.resultTypes = #[tb]) (htb : P.underlying tb = some .bool) (hb : Below W.heap.size W W') :
    s.post enc P f false true false false W args (.bool true) W' := by
  have hW' := hW
  have hlt : ∀ p ∈ before, p.block < W.heap.size := fun p hp => hW.lt p hp
  obtain ⟨p, q, hA, hV, rfl, hfz, hnd⟩ := hW
  rw [hvars] at hV
  obtain ⟨rfl, rfl⟩ := trodVars_none hV
  refine ⟨ds, [], p ++ [], [], p, [], hW', ?_, ?_, ?_, hb.frame _, fun h => by cases h⟩
  · rw [hfn, hrt]
    exact trodAll_cons_mk (shut_bool htb _) trodAll_mk0
  · rw [hfn]
    exact trodAll_below hl hb _ _ _ _ hr (fun x hx => hlt x (by simp [hx])) hA
  · rw [hfn, hvars]; rfl

end Go.Proofs.YtcjaaknnfohllaaGreatDoor
