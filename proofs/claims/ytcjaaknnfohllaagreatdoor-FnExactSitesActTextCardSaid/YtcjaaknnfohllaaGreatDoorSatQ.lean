/- The reference's SitesActText walked: l34Act, SitesActText. -/
import Derived.Test.YtcjaaknnfohllaaGreatDoorSatO
namespace Go.Proofs.YtcjaaknnfohllaaGreatDoor
open Go.RowKit

theorem sitesB_cases {kind at_ : Int} {x : Act} (h : sitesB kind at_ x = true) : (kind = 1 ∧ actB x = true) ∨ ((kind = 3 ∨ kind = 4 ∨ kind = 5) ∧ 0 ≤ at_ ∧ at_ ≤ 11) ∨ (kind = 2 ∨ kind = 6 ∨ kind = 7) := by
  unfold sitesB at h
  by_cases k1 : kind = 1
  · rw [if_pos k1, Bool.and_eq_true] at h; exact .inl ⟨k1, h.2⟩
  · rw [if_neg k1] at h
    by_cases k3 : kind = 3 ∨ kind = 4 ∨ kind = 5
    · rw [if_pos k3, Bool.and_eq_true] at h
      have h1 := h.1
      unfold inB at h1; rw [decide_eq_true_eq] at h1
      exact .inr (.inl ⟨k3, h1.1, h1.2⟩)
    · rw [if_neg k3] at h
      split at h
      · rename_i h2; exact .inr (.inr h2)
      · cases h
theorem two_small {a b : ByteArray} (ha : a.size ≤ 1000) (hb : b.size ≤ 1000) : ([a, b] : List ByteArray).length ≤ 500 ∧ ∀ y ∈ [a, b], y.size ≤ 1000 :=
  ⟨by show 2 ≤ _; omega, fun y hy => by
    rcases List.mem_cons.1 hy with e | hy
    · rw [e]; exact ha
    · rw [List.mem_singleton.1 hy]; exact hb⟩
theorem one_small {a : ByteArray} (ha : a.size ≤ 1000) : ([a] : List ByteArray).length ≤ 500 ∧ ∀ y ∈ [a], y.size ≤ 1000 :=
  ⟨by show 1 ≤ _; omega, fun y hy => by rw [List.mem_singleton.1 hy]; exact ha⟩
theorem sitesW_small {kind at_ : Int} {x : Act} (h : sitesB kind at_ x = true) (hK : KeepMax x) : (sitesW kind at_ x).length ≤ 500 ∧ ∀ y ∈ sitesW kind at_ x, y.size ≤ 1000 := by
  rcases sitesB_cases h with ⟨rfl, hB⟩ | ⟨hk, h1, h2⟩ | hk
  · exact mainW_small hB hK
  · have hd := Nat.le_trans (decW_size at_ (by omega) (by omega)) (show 20 ≤ 1000 by decide)
    rcases hk with rfl | rfl | rfl
    · exact two_small (show wArrive.size ≤ 1000 by decide) hd
    · exact two_small (show wLose.size ≤ 1000 by decide) hd
    · exact two_small (show wTwice.size ≤ 1000 by decide) hd
  · rcases hk with rfl | rfl | rfl
    · exact one_small (show wShip.size ≤ 1000 by decide)
    · exact one_small (show wCopy.size ≤ 1000 by decide)
    · exact one_small (show wSwitch.size ≤ 1000 by decide)
theorem sitesW_noSp {kind at_ : Int} {x : Act} (h : sitesB kind at_ x = true) (h1 : kind ≠ 1) : (sitesW kind at_ x).all noSp = true := by
  have hd := decW_noSp at_
  rcases sitesB_cases h with ⟨k1, _⟩ | ⟨hk, _, _⟩ | hk
  · exact absurd k1 h1
  · rcases hk with rfl | rfl | rfl
    all_goals
      show (true && (noSp (decW at_) && true)) = true
      rw [hd]; rfl
  · rcases hk with rfl | rfl | rfl <;> rfl
def outW (l : List ByteArray) : List ByteArray := if l.all noSp then l else []

set_option maxHeartbeats 4000000 in
set_option maxRecDepth 100000 in
theorem l34Act_any (x : Act) (kind at_ : Int) (v : Value) (lo hi : Nat) (w : World) (hx : SActR w lo hi v kind at_ x) (hhi : hi ≤ w.heap.size) (hS : sitesB kind at_ x = true) (hK : KeepMax x) :
    Calls Tryz.prog 29 #[v] w fun e w' => (∃ v', e = .returned v' ∧ OwnStrs w' w.heap.size 9 v' (outW (sitesW kind at_ x))) ∧ Below w.heap.size w w' := by
  obtain ⟨A, c, B, d, C, e, rfl, hA, hB, hC⟩ := hx
  have hbo := fun o => (Below.refl w.heap.size w).alloc (Nat.le_refl _) o
  have HX := Lib.hid (show ∀ o, ActR (w.alloc o) lo hi (.agg #[.int .i64 x.k, .int .i64 x.a, .string x.r, .string x.l, .slice A x.args.length c, .slice B x.input.length d, .slice C x.keep.length e]) x from fun o => ⟨A, c, B, d, C, e, rfl, hA.below (hbo o) hhi, hB.below (hbo o) hhi, hC.below (hbo o) hhi⟩)
  have HH := Lib.hid (fun o => Nat.le_trans hhi (hbo o).size)
  have HD := Lib.hid hbo
  have HLIT := Lib.hid (fun W (h : w.heap.size ≤ W.heap.size) (ys : List ByteArray) (hy : ys.length ≤ 1000000) => OwnR.lit_ (enc := Value.string) W w.heap.size 9 ys hy h)
  have HDC := Lib.hid (fun h1 h2 W => decS_any at_ h1 h2 W)
  have HNS := Lib.hid (fun h1 => sitesW_noSp hS h1)
  clear hA hB hC hbo
  rcases sitesB_cases hS with ⟨rfl, hB⟩ | ⟨hk, h1, h2⟩ | hk
  · have HM := Lib.hid (fun o => l34Main_any x _ lo hi (w.alloc o) (HX.out o) (HH.out o) hB hK)
    clear hS hB hK
    have HOW := Lib.hid (show outW (sitesW 1 at_ x) = if (mainW x).all noSp then mainW x else [] from rfl)
    go_enter Tryz.func29, Tryz.ntmps29
    go_wp2_with fail
    refine (HM.out _).mono ?_; rintro e1 w1 ⟨⟨v1, rfl, hv1⟩, hb1⟩
    have HV := Lib.hid hv1
    have HB1 := Lib.hid ((HD.out _).trans (hb1.mono (HD.out _).size))
    clear hv1 hb1
    go_wp2_with fail
    go_ret
    exact ⟨⟨_, rfl, by rw [HOW.out]; exact HV.out.mono (HD.out _).size⟩, HB1.out⟩
  · have HD1 := Lib.hid (fun W => HDC.out (by omega) (by omega) W)
    have HR := Lib.hid (show outW (sitesW kind at_ x) = sitesW kind at_ x from if_pos (HNS.out (by omega)))
    rw [HR.out]
    clear hS hK HR HNS
    rcases hk with rfl | rfl | rfl
    · go_enter Tryz.func29, Tryz.ntmps29
      go_wp2_with fail
      refine (HD1.out _).mono ?_; rintro e1 w1 ⟨rfl, hb1⟩
      have HB1 := Lib.hid ((HD.out _).trans (hb1.mono (HD.out _).size))
      clear hb1
      go_wp2_with fail
      go_ret
      exact ⟨⟨_, rfl, HLIT.out w1 HB1.out.size [wArrive, decW at_] (by show 2 ≤ _; omega)⟩, HB1.out.alloc HB1.out.size _⟩
    · go_enter Tryz.func29, Tryz.ntmps29
      go_wp2_with fail
      refine (HD1.out _).mono ?_; rintro e1 w1 ⟨rfl, hb1⟩
      have HB1 := Lib.hid ((HD.out _).trans (hb1.mono (HD.out _).size))
      clear hb1
      go_wp2_with fail
      go_ret
      exact ⟨⟨_, rfl, HLIT.out w1 HB1.out.size [wLose, decW at_] (by show 2 ≤ _; omega)⟩, HB1.out.alloc HB1.out.size _⟩
    · go_enter Tryz.func29, Tryz.ntmps29
      go_wp2_with fail
      refine (HD1.out _).mono ?_; rintro e1 w1 ⟨rfl, hb1⟩
      have HB1 := Lib.hid ((HD.out _).trans (hb1.mono (HD.out _).size))
      clear hb1
      go_wp2_with fail
      go_ret
      exact ⟨⟨_, rfl, HLIT.out w1 HB1.out.size [wTwice, decW at_] (by show 2 ≤ _; omega)⟩, HB1.out.alloc HB1.out.size _⟩
  · have HR := Lib.hid (show outW (sitesW kind at_ x) = sitesW kind at_ x from if_pos (HNS.out (by omega)))
    rw [HR.out]
    clear hS hK HR HNS
    rcases hk with rfl | rfl | rfl
    · go_enter Tryz.func29, Tryz.ntmps29
      go_wp2_with fail
      go_ret
      exact ⟨⟨_, rfl, (by have h := HLIT.out (w.alloc (.cells #[.int .i64 2, .int .i64 at_, .int .i64 x.k, .int .i64 x.a, .string x.r, .string x.l, .slice A x.args.length c, .slice B x.input.length d, .slice C x.keep.length e] 32)) (HD.out _).size [wShip] (by show 1 ≤ _; omega); rw [alloc_size] at h; exact h)⟩, (HD.out _).alloc (HD.out _).size _⟩
    · go_enter Tryz.func29, Tryz.ntmps29
      go_wp2_with fail
      go_ret
      exact ⟨⟨_, rfl, (by have h := HLIT.out (w.alloc (.cells #[.int .i64 6, .int .i64 at_, .int .i64 x.k, .int .i64 x.a, .string x.r, .string x.l, .slice A x.args.length c, .slice B x.input.length d, .slice C x.keep.length e] 32)) (HD.out _).size [wCopy] (by show 1 ≤ _; omega); rw [alloc_size] at h; exact h)⟩, (HD.out _).alloc (HD.out _).size _⟩
    · go_enter Tryz.func29, Tryz.ntmps29
      go_wp2_with fail
      go_ret
      exact ⟨⟨_, rfl, (by have h := HLIT.out (w.alloc (.cells #[.int .i64 7, .int .i64 at_, .int .i64 x.k, .int .i64 x.a, .string x.r, .string x.l, .slice A x.args.length c, .slice B x.input.length d, .slice C x.keep.length e] 32)) (HD.out _).size [wSwitch] (by show 1 ≤ _; omega); rw [alloc_size] at h; exact h)⟩, (HD.out _).alloc (HD.out _).size _⟩

theorem sitesT_outW {kind at_ : Int} {x : Act} (h : sitesB kind at_ x = true) : sitesT kind at_ x = joinW (outW (sitesW kind at_ x)) := by
  unfold sitesT outW
  rw [if_pos h]
  split
  · rfl
  · rfl

set_option maxHeartbeats 4000000 in
set_option maxRecDepth 100000 in
theorem specSitesActText_any (x : Act) (kind at_ : Int) (v : Value) (lo hi : Nat) (w : World) (hx : SActR w lo hi v kind at_ x) (hhi : hi ≤ w.heap.size) (hs : ActSmall x) (hK : KeepMax x) :
    Calls Tryz.prog 8 #[v] w fun e w' => e = .returned (.string ⟨(sitesT kind at_ x).toArray⟩) ∧ Below w.heap.size w w' := by
  have hx0 := hx
  obtain ⟨A, c, B, d, C, e, rfl, hA, hB, hC⟩ := hx
  generalize hcs : (#[.int .i64 kind, .int .i64 at_, .int .i64 x.k, .int .i64 x.a, .string x.r, .string x.l, .slice A x.args.length c, .slice B x.input.length d, .slice C x.keep.length e] : Array Value) = cs at *
  have hbo := (Below.refl w.heap.size w).alloc (Nat.le_refl _) (.cells cs 32)
  have hsz : (w.alloc (.cells cs 32)).heap.size = w.heap.size + 1 := by simp
  have HBK := Lib.hid (Blk.new w 32 cs)
  have HX0 := Lib.hid (hx0.below hbo hhi)
  have HD := Lib.hid hbo
  have HC := Lib.hid (specSitesActOk_any x kind at_ _ lo hi _ HX0.out (by omega) hs)
  clear hA hB hC hbo hx0
  subst hcs
  cases hS : sitesB kind at_ x
  · rw [hS] at HC
    have HR := Lib.hid (show sitesT kind at_ x = [] by unfold sitesT; rw [hS]; rfl)
    rw [HR.out]
    clear hS
    go_enter Tryz.func8, Tryz.ntmps8
    go_wp2_with fail
    refine HC.out.mono ?_; rintro e1 w1 ⟨rfl, hb1⟩
    go_wp2_with fail
    go_ret
    exact ⟨rfl, HD.out.trans (hb1.mono HD.out.size)⟩
  · rw [hS] at HC
    have HR := Lib.hid (sitesT_outW hS)
    rw [HR.out]
    have hsm := sitesW_small hS hK
    have hsm2 : (outW (sitesW kind at_ x)).length ≤ 500 ∧ ∀ y ∈ outW (sitesW kind at_ x), y.size ≤ 1000 := by
      unfold outW
      split
      · exact hsm
      · exact ⟨by show 0 ≤ _; omega, fun y hy => by cases hy⟩
    have HSM := Lib.hid hsm2.2
    have hn := hsm2.1
    have HM := Lib.hid (fun (V : Value) (W : World) (h : SActR W lo hi V kind at_ x) (hh : hi ≤ W.heap.size) => l34Act_any x kind at_ V lo hi W h hh hS hK)
    clear hS hsm hsm2 HR
    generalize outW (sitesW kind at_ x) = L at *
    go_enter Tryz.func8, Tryz.ntmps8
    go_wp2_with fail
    generalize w.alloc (.cells #[.int .i64 kind, .int .i64 at_, .int .i64 x.k, .int .i64 x.a, .string x.r, .string x.l, .slice A x.args.length c, .slice B x.input.length d, .slice C x.keep.length e] 32) = w0 at *
    refine HC.out.mono ?_; rintro e1 w1 ⟨rfl, hb1⟩
    have hs1 := hb1.size
    have c1 := (HBK.out.below hb1 (by omega)).cell
    have HX1 := Lib.hid (HX0.out.below hb1 (by omega))
    have HB1 := Lib.hid (HD.out.trans (hb1.mono (by omega)))
    clear hb1 HC HBK
    go_wp2_with fail
    refine (HM.out _ w1 HX1.out (by omega)).mono ?_; rintro e2 w2 ⟨⟨v2, rfl, hv2⟩, hb2⟩
    obtain ⟨A2, c2, rfl⟩ := hv2.1
    have HB2 := Lib.hid (HB1.out.trans (hb2.mono HB1.out.size))
    have HJ := Lib.hid (l34Join_any A2 L.length c2 _ _ L w2 (OwnR.reads (d := ByteArray.empty) hv2) (Nat.le_refl _) (by omega) HSM.out)
    clear hb2 hv2 c1
    go_wp2_with fail
    refine HJ.out.mono ?_; rintro e3 w3 ⟨rfl, hb3⟩
    go_wp2_with fail
    go_ret
    exact ⟨rfl, HB2.out.trans (hb3.mono HB2.out.size)⟩
end Go.Proofs.YtcjaaknnfohllaaGreatDoor
