/- The walk of FnExactSitesActText. -/
import Derived.Test.YtcjaaknnfohllaaGreatDoorSatL
namespace Go.Proofs.YtcjaaknnfohllaaGreatDoor
open Go.RowKit

/-- What the law keeps while it runs: the parameter's value, the copy's, and where they lie. -/
def SActKept (w0 : World) (hi : Nat) (v : Value) (kind at_ : Int) (x : Act) (lo5 hi5 : Nat) (v5 : Value) (w : World) : Prop :=
  SActR w 0 hi v kind at_ x ∧ SActR w lo5 hi5 v5 kind at_ x ∧ hi ≤ w.heap.size ∧ hi5 ≤ w.heap.size ∧ Below w0.heap.size w0 w

theorem SActKept.below {w0 w w' : World} {hi : Nat} {v : Value} {kind at_ : Int} {x : Act} {lo5 hi5 : Nat} {v5 : Value} (h : SActKept w0 hi v kind at_ x lo5 hi5 v5 w) (hb : Below w.heap.size w w') : SActKept w0 hi v kind at_ x lo5 hi5 v5 w' :=
  ⟨h.1.below hb h.2.2.1, h.2.1.below hb h.2.2.2.1, Nat.le_trans h.2.2.1 hb.size, Nat.le_trans h.2.2.2.1 hb.size, h.2.2.2.2.trans (hb.mono h.2.2.2.2.size)⟩

/-- .. with the two variables' blocks. -/
def SActHeld (w0 : World) (hi : Nat) (v : Value) (kind at_ : Int) (x : Act) (lo5 hi5 : Nat) (v5 : Value) (g g5 : Nat) (cs cs5 : Array Value) (w : World) : Prop :=
  Blk w g 27 cs ∧ Blk w g5 32 cs5 ∧ SActKept w0 hi v kind at_ x lo5 hi5 v5 w

theorem SActHeld.below {w0 w w' : World} {hi : Nat} {v : Value} {kind at_ : Int} {x : Act} {lo5 hi5 : Nat} {v5 : Value} {g g5 : Nat} {cs cs5 : Array Value} (h : SActHeld w0 hi v kind at_ x lo5 hi5 v5 g g5 cs cs5 w) (hb : Below w.heap.size w w') :
    SActHeld w0 hi v kind at_ x lo5 hi5 v5 g g5 cs cs5 w' := ⟨h.1.below hb h.1.lt, h.2.1.below hb h.2.1.lt, h.2.2.below hb⟩

theorem toSitesAct_held {w0 w : World} {hi : Nat} {v : Value} {kind at_ : Int} {x : Act} {lo5 hi5 : Nat} {v5 : Value} {g g5 : Nat} {cs cs5 : Array Value} (h : SActHeld w0 hi v kind at_ x lo5 hi5 v5 g g5 cs cs5 w) (hs : ActSmall x) :
    Calls Tryz.prog 9 #[v] w fun e w' => ∃ v', e = .returned v' ∧ SActR w' w.heap.size w'.heap.size v' kind at_ x ∧ SActHeld w0 hi v kind at_ x lo5 hi5 v5 g g5 cs cs5 w' :=
  (toSitesAct_any x kind at_ v 0 hi w h.2.2.1 h.2.2.2.2.1 hs).mono fun _ _ ⟨v', he, h1, hb⟩ => ⟨v', he, h1, h.below hb⟩

theorem eqSitesAct_held {w0 w : World} {hi : Nat} {v v' : Value} {kind at_ : Int} {x : Act} {lo5 hi5 : Nat} {v5 : Value} {g g5 lo' hi' : Nat} {cs cs5 : Array Value} (h : SActHeld w0 hi v kind at_ x lo5 hi5 v5 g g5 cs cs5 w) (hs : ActSmall x) (h' : SActR w lo' hi' v' kind at_ x) (hhi' : hi' ≤ w.heap.size) :
    Calls Tryz.prog 11 #[v5, v'] w fun e w' => e = .returned (.bool true) ∧ SActHeld w0 hi v kind at_ x lo5 hi5 v5 g g5 cs cs5 w' :=
  (eqSitesAct_same x kind at_ v5 v' _ _ _ _ w h.2.2.2.1 h' h.2.2.2.2.2.1 hhi' hs).mono fun _ _ ⟨he, hb⟩ => ⟨he, h.below hb⟩

theorem below_drewS (w : World) : Below w.heap.size w w.drew := (Below.refl _ _).drew

set_option maxHeartbeats 4000000 in
set_option maxRecDepth 100000 in
theorem law_SitesActText (x : Act) (kind at_ : Int) (v : Value) (w : World) (hx : SActR w 0 w.heap.size v kind at_ x) (hr : ActReach x) (hK : KeepMax x) (hE : EnvIn w) :
    Calls Tryz.prog 3 #[v] w fun e w' => e = .returned (.bool true) ∧ Below w.heap.size w w' := by
  have HX := Lib.hid hx
  obtain ⟨A, c, B, d, C, e, rfl, hA, hB, hC⟩ := hx
  clear hA hB hC
  have HR := Lib.hid hr; clear hr
  have HK := Lib.hid hK; have HE := Lib.hid hE; clear hK hE
  go_enter Tryz.func3, Tryz.ntmps3
  go_wp2_with fail
  have b0 := (Below.refl w.heap.size w).alloc (Nat.le_refl _) (.cells #[.int .i64 kind, .int .i64 at_, .int .i64 x.k, .int .i64 x.a, .string x.r, .string x.l, .slice A x.args.length c, .slice B x.input.length d, .slice C x.keep.length e] 27)
  have B0 := Blk.new w 27 #[.int .i64 kind, .int .i64 at_, .int .i64 x.k, .int .i64 x.a, .string x.r, .string x.l, .slice A x.args.length c, .slice B x.input.length d, .slice C x.keep.length e]
  refine (szSitesAct_any x kind at_ _ 0 w.heap.size _ _ (HX.out.below b0 (Nat.le_refl _)) b0.size HR.out (by omega) (by omega)).mono ?_
  rintro e1 w1 ⟨m, rfl, hm, hb1⟩
  have b1 := b0.trans (hb1.mono b0.size)
  have B1 := B0.below hb1 B0.lt
  clear hb1 b0 B0
  have f0 := B1.cell
  rcases hm with rfl | ⟨hm0, hm1⟩
  · have HB := Lib.hid b1; clear b1 B1
    go_wp2_with fail
    go_ret
    exact ⟨rfl, HB.out⟩
  have hs := ActSmall.of_cost (x := x) (by omega)
  have HS := Lib.hid hs; clear hs hm1
  have nm : ¬ (m < 0) := by omega
  have HB1 := Lib.hid B1; clear B1
  have Hb1 := Lib.hid b1; clear b1
  go_wp2_with fail
  refine (toSitesAct_any x kind at_ _ 0 w.heap.size _ (HX.out.below Hb1.out (Nat.le_refl _)) Hb1.out.size HS.out).mono ?_
  rintro e2 w2 ⟨v2, rfl, hx2, hb2⟩
  have b2 := Hb1.out.trans (hb2.mono Hb1.out.size)
  have B2 := HB1.out.below hb2 HB1.out.lt
  clear hb2 Hb1 HB1 f0
  have HB2 := Lib.hid B2; clear B2
  have Hb2 := Lib.hid b2; clear b2
  go_wp2_with fail
  refine (specSitesActText_any x kind at_ _ _ _ _ hx2 (Nat.le_refl _) HS.out HK.out).mono ?_
  rintro e3 w3 ⟨rfl, hb3⟩
  have b3 := Hb2.out.trans (hb3.mono Hb2.out.size)
  have B3 := HB2.out.below hb3 HB2.out.lt
  clear hb3 Hb2 HB2 hx2
  have f0 := B3.cell
  have HB3 := Lib.hid B3; clear B3
  have Hb3 := Lib.hid b3; clear b3
  go_wp2_with fail
  refine (toSitesAct_any x kind at_ _ 0 w.heap.size _ (HX.out.below Hb3.out (Nat.le_refl _)) Hb3.out.size HS.out).mono ?_
  rintro e4 w4 ⟨v4, rfl, hx4, hb4⟩
  have b4 := Hb3.out.trans (hb4.mono Hb3.out.size)
  have B4 := HB3.out.below hb4 HB3.out.lt
  have hs34 := hb4.size
  clear hb4 Hb3 HB3 f0
  have HX4 := Lib.hid hx4
  obtain ⟨A4, c4, B4', d4, C4, e4', rfl, hA4, hB4, hC4⟩ := hx4
  clear hA4 hB4 hC4
  have HB4 := Lib.hid B4; clear B4
  have Hb4 := Lib.hid b4; clear b4
  go_wp2_with fail
  have c4b := (Below.refl w4.heap.size w4).alloc (Nat.le_refl _) (.cells #[.int .i64 kind, .int .i64 at_, .int .i64 x.k, .int .i64 x.a, .string x.r, .string x.l, .slice A4 x.args.length c4, .slice B4' x.input.length d4, .slice C4 x.keep.length e4'] 32)
  have K4 : SActKept w w.heap.size (.agg #[.int .i64 kind, .int .i64 at_, .int .i64 x.k, .int .i64 x.a, .string x.r, .string x.l, .slice A x.args.length c, .slice B x.input.length d, .slice C x.keep.length e]) kind at_ x w3.heap.size w4.heap.size
      (.agg #[.int .i64 kind, .int .i64 at_, .int .i64 x.k, .int .i64 x.a, .string x.r, .string x.l, .slice A4 x.args.length c4, .slice B4' x.input.length d4, .slice C4 x.keep.length e4']) w4 :=
    ⟨HX.out.below Hb4.out (Nat.le_refl _), HX4.out, Hb4.out.size, Nat.le_refl _, Hb4.out⟩
  have K5 := K4.below c4b
  have B5 := HB4.out.below c4b HB4.out.lt
  have X5 := Blk.new w4 32 #[.int .i64 kind, .int .i64 at_, .int .i64 x.k, .int .i64 x.a, .string x.r, .string x.l, .slice A4 x.args.length c4, .slice B4' x.input.length d4, .slice C4 x.keep.length e4']
  refine (implSitesActText_any x kind at_ _ _ _ _ K5.2.1 K5.2.2.2.1 HS.out HK.out (HE.out.below K5.2.2.2.2)).mono ?_
  rintro e5 w5 ⟨rfl, hb5⟩
  have R5 : SActHeld w w.heap.size (.agg #[.int .i64 kind, .int .i64 at_, .int .i64 x.k, .int .i64 x.a, .string x.r, .string x.l, .slice A x.args.length c, .slice B x.input.length d, .slice C x.keep.length e]) kind at_ x w3.heap.size w4.heap.size
      (.agg #[.int .i64 kind, .int .i64 at_, .int .i64 x.k, .int .i64 x.a, .string x.r, .string x.l, .slice A4 x.args.length c4, .slice B4' x.input.length d4, .slice C4 x.keep.length e4']) w.heap.size w4.heap.size _ _ w5 :=
    ⟨B5.below hb5 B5.lt, X5.below hb5 X5.lt, K5.below hb5⟩
  have Rd := R5.below (below_drewS w5)
  clear K4 K5 B5 X5 hb5 c4b HX4 HB4 Hb4
  generalize sitesT kind at_ x = T
  have HR5 := Lib.hid R5; have HRd := Lib.hid Rd
  clear R5 Rd
  go_wp2_with fail
  go_region_held3 (fun w' => (∀ i, w'.cell? ⟨w.heap.size, i, none⟩ = (#[.int .i64 kind, .int .i64 at_, .int .i64 x.k, .int .i64 x.a, .string x.r, .string x.l, .slice A x.args.length c, .slice B x.input.length d, .slice C x.keep.length e] : Array Value)[i]?) ∧
      (∀ i, w'.cell? ⟨w4.heap.size, i, none⟩ = (#[.int .i64 kind, .int .i64 at_, .int .i64 x.k, .int .i64 x.a, .string x.r, .string x.l, .slice A4 x.args.length c4, .slice B4' x.input.length d4, .slice C4 x.keep.length e4'] : Array Value)[i]?) ∧
      SActHeld w w.heap.size (.agg #[.int .i64 kind, .int .i64 at_, .int .i64 x.k, .int .i64 x.a, .string x.r, .string x.l, .slice A x.args.length c, .slice B x.input.length d, .slice C x.keep.length e]) kind at_ x w3.heap.size w4.heap.size
      (.agg #[.int .i64 kind, .int .i64 at_, .int .i64 x.k, .int .i64 x.a, .string x.r, .string x.l, .slice A4 x.args.length c4, .slice B4' x.input.length d4, .slice C4 x.keep.length e4']) w.heap.size w4.heap.size
      #[.int .i64 kind, .int .i64 at_, .int .i64 x.k, .int .i64 x.a, .string x.r, .string x.l, .slice A x.args.length c, .slice B x.input.length d, .slice C x.keep.length e]
      #[.int .i64 kind, .int .i64 at_, .int .i64 x.k, .int .i64 x.a, .string x.r, .string x.l, .slice A4 x.args.length c4, .slice B4' x.input.length d4, .slice C4 x.keep.length e4'] w')
    (first | exact ⟨HR5.out.1.cell, HR5.out.2.1.cell, HR5.out⟩ | exact ⟨HRd.out.1.cell, HRd.out.2.1.cell, HRd.out⟩ | exact ⟨R6.1.cell, R6.2.1.cell, R6⟩ | exact ⟨R7.1.cell, R7.2.1.cell, R7⟩)
    (first | (go_at_call 9; refine (toSitesAct_held (by assumption) HS.out).mono ?_; rintro e6 w6 ⟨v6, rfl, hx6, R6⟩) | (go_at_call 11; refine (eqSitesAct_held (by assumption) HS.out hx6 (Nat.le_refl _)).mono ?_; rintro e7 w7 ⟨rfl, R7⟩))
  have HB := Lib.hid R7.2.2.2.2.2.2
  clear R6 R7 hx6 HR5 HRd
  go_wp2_with fail
  go_ret
  exact ⟨rfl, HB.out⟩

end Go.Proofs.YtcjaaknnfohllaaGreatDoor
