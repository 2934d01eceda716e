/- FnExactWriteTo returns true: the walk of the law (printed by wip/gen_lawdev.py). -/
import Derived.Test.YtcfmgmbolnifgaaJoinWAq
import Derived.Test.YtcfmgmbolnifgaaJoinWAn
import Derived.Test.YtcfmgmbolnifgaaRows
import Derived.WalkKit
import Derived.ProofKit
import Derived.OpenShut
import Derived.ShutString
import Derived.Deep.Slices
import Derived.Deep.Fields
import Derived.ChangeSame
import Derived.SizedLaws
import Derived.Test.YtcfmgmbolnifgaaJoinWAa
import Derived.SliceStrings
namespace Go.Proofs.Ytcfmgmbolnifgaa
open Go.RowKit

set_option maxHeartbeats 8000000 in
set_option maxRecDepth 100000 in
theorem law_WriteTo (d : Dev) (nm : ByteArray) (v : Value) (w : World) (hx : DevR w 0 w.heap.size v d) (hr : DevReach d) (htl : nm.size ≤ 9223372036854775807) :
    Calls Try.prog 12 #[v, .string nm] w fun e w' => e = .returned (.bool true) ∧ Below w.heap.size w w' := by
  have HX := Lib.hid hx
  obtain ⟨A, c, F, f, K, k, rfl, h1, h2, h3⟩ := hx
  clear h1 h2 h3
  have HR := Lib.hid hr; clear hr
  by_cases hlt : 1048576 < nm.size
  · have hD := (Below.refl w.heap.size w).alloc (Nat.le_refl _) (.cells (devCs d A c F f K k) 56)
    have HD := Lib.hid hD; clear hD
    go_enter Try.func12, Try.ntmps12
    go_wp2_with fail
    go_ret
    exact ⟨rfl, HD.out⟩
  have ht : nm.size ≤ 1048576 := by omega
  clear hlt htl
  have HS0 := Lib.hid ((Stand.nil w).add 0 w.heap.size _ (loc_devR 0 w.heap.size (.agg (devCs d A c F f K k)) d) (Nat.le_refl _) HX.out)
  go_enter Try.func12, Try.ntmps12
  go_wp2_with fail
  have R0 := HS0.out.box 56 (devCs d A c F f K k)
  refine (szDevices_any d _ 0 w.heap.size _ _ (R0.get 1 rfl) (R0.le 1 rfl) HR.out (by omega) (by omega)).mono ?_
  rintro e1 w1 ⟨m, rfl, hm, hb1⟩
  have R1 := R0.below hb1; clear hb1 R0
  have f_p := (R1.get 0 rfl).cell
  rcases hm with rfl | ⟨hm0, hm1⟩
  · have HB := Lib.hid R1.1; clear R1
    go_wp2_with fail
    go_ret
    exact ⟨rfl, HB.out⟩
  have HS := Lib.hid (DevSmall.of_cost (d := d) (by omega)); have HW := Lib.hid (DevFew.of_cost (d := d) (by omega)); clear hm1
  have nm1 : ¬ (m < 0) := by omega
  have HR1 := Lib.hid R1; clear R1
  have s1 := HR1.out.le 0 rfl
  go_wp2_with fail
  refine (toDevices_any d _ 0 w.heap.size _ (HR1.out.get 1 rfl) (HR1.out.le 1 rfl) HS.out).mono ?_
  rintro e2 w2 ⟨v2, rfl, hx2, hb2⟩
  have s2 := hb2.size
  have R2 := HR1.out.below hb2; have HX2 := Lib.hid hx2.reads
  have HR2 := Lib.hid R2; clear R2 HR1 hb2 hx2
  clear f_p
  go_wp2_with fail
  refine (specWriteTo_any d nm _ _ _ _ HX2.out (Nat.le_refl _) HS.out ht).mono ?_
  rintro e3 w3 ⟨v3, rfl, hx3, hb3⟩
  have s3 := hb3.size
  have HT := Lib.hid (writeP_low d nm)
  have HI := Lib.hid (fun v lo hi W h1 h2 => implWriteTo_any d nm v lo hi W h1 h2 HS.out ht)
  generalize writeP d nm = T at *
  have nT : (T.2 != T.2) = false := by simp
  have R3 := (HR2.out.below hb3).add _ _ _ (loc_devR w2.heap.size w3.heap.size v3 T.1) (Nat.le_refl _) hx3
  obtain ⟨A3, c3, F3, f3, K3, k3, rfl, hA3⟩ := hx3
  have HR3 := Lib.hid R3; clear R3 HR2 hb3 hA3 HX2
  have f_p := (HR3.out.get 1 rfl).cell; have g_p := fun o => ((HR3.out.alloc o).get 1 rfl).cell
  go_wp2_with fail
  have R4 := HR3.out.box 61 (devCs T.1 A3 c3 F3 f3 K3 k3)
  have s4 : w3.heap.size + 1 ≤ (w3.alloc (.cells (devCs T.1 A3 c3 F3 f3 K3 k3) 61)).heap.size := by simp
  clear f_p g_p
  generalize w3.alloc (.cells (devCs T.1 A3 c3 F3 f3 K3 k3) 61) = w4 at *
  have HR4 := Lib.hid R4; clear R4 HR3
  refine (toDevices_any d _ 0 w.heap.size _ (HR4.out.get 3 rfl) (HR4.out.le 3 rfl) HS.out).mono ?_
  rintro e5 w5 ⟨v5, rfl, hx5, hb5⟩
  have s5 := hb5.size
  have R5 := (HR4.out.below hb5).add _ _ _ (loc_ownDev w4.heap.size w5.heap.size v5 d) (Nat.le_refl _) hx5
  obtain ⟨A5, c5, F5, f5, K5, k5, rfl, hA5⟩ := hx5.reads
  have HR5 := Lib.hid R5; clear R5 HR4 hb5 hx5 hA5
  go_wp2_with fail
  have R6 := HR5.out.box 61 (devCs d A5 c5 F5 f5 K5 k5)
  have s6 : w5.heap.size + 1 ≤ (w5.alloc (.cells (devCs d A5 c5 F5 f5 K5 k5) 61)).heap.size := by simp
  generalize w5.alloc (.cells (devCs d A5 c5 F5 f5 K5 k5) 61) = w6 at *
  have HR6 := Lib.hid R6; clear R6 HR5
  refine (HI.out _ _ _ _ ((HR6.out.get 1 rfl).reads) (HR6.out.le 1 rfl)).mono ?_
  rintro e7 w7 ⟨v7, rfl, hx7, hb7⟩
  have s7 := hb7.size
  have R7 := (HR6.out.below hb7).add _ _ _ (loc_ownDev _ w7.heap.size v7 T.1) (Nat.le_refl _) hx7
  obtain ⟨A7, c7, F7, f7, K7, k7, rfl, hA7⟩ := hx7.reads
  have HR7 := Lib.hid R7; clear R7 HR6 hb7 hx7 hA7
  have f_w := (HR7.out.get 3 rfl).cell; have g_w := fun o => ((HR7.out.alloc o).get 3 rfl).cell
  go_wp2_with fail
  have R8 := HR7.out.box 61 (devCs T.1 A7 c7 F7 f7 K7 k7)
  have s8 : w7.heap.size + 1 ≤ (w7.alloc (.cells (devCs T.1 A7 c7 F7 f7 K7 k7) 61)).heap.size := by simp
  clear f_w g_w
  generalize w7.alloc (.cells (devCs T.1 A7 c7 F7 f7 K7 k7) 61) = w8 at *
  have HR8 := Lib.hid R8; clear R8 HR7
  refine (eqDevices_same T.1 _ _ _ _ _ _ _ (HR8.out.get 1 rfl).reads (HR8.out.get 5 rfl) (HR8.out.le 1 rfl) (HR8.out.le 5 rfl) HT.out.small).mono ?_
  rintro e9 w9 ⟨rfl, hb9⟩
  have R9 := HR8.out.below hb9; have s9 := hb9.size
  have HR9 := Lib.hid R9; clear R9 HR8 hb9
  have f_g := (HR9.out.get 0 rfl).cell; have g_g := fun o => ((HR9.out.alloc o).get 0 rfl).cell
  have f_w := (HR9.out.get 4 rfl).cell; have g_w := fun o => ((HR9.out.alloc o).get 4 rfl).cell
  obtain ⟨FS, hF, hP, hQ⟩ := HR9.out.pack (fun W => (Blk W w.heap.size 56 (devCs d A c F f K k) ∧ Blk W w5.heap.size 61 (devCs d A5 c5 F5 f5 K5 k5)) ∧ (DevR W 0 w.heap.size (.agg (devCs d A c F f K k)) d ∧ w.heap.size ≤ W.heap.size) ∧ (DevR W w4.heap.size w5.heap.size (.agg (devCs d A5 c5 F5 f5 K5 k5)) d ∧ w5.heap.size ≤ W.heap.size)) (fun W h => ⟨⟨h.get 6 rfl, h.get 2 rfl⟩, ⟨h.get 7 rfl, h.le 7 rfl⟩, ⟨(h.get 3 rfl).reads, h.le 3 rfl⟩⟩)
  have HF := Lib.hid hF; have HFd := Lib.hid hF.drew; have HP1 := Lib.hid (fun W h => (hP W h).1); have HPA := Lib.hid (fun W h => (hP W h).2.1); have HPX := Lib.hid (fun W h => (hP W h).2.2); have HQ := Lib.hid hQ; clear hF hP hQ HR9
  have f_p := (HP1.out _ HF.out).1.cell; have f_x := (HP1.out _ HF.out).2.cell
  go_wp2_with fail
  clear f_g g_g f_w g_w
  clear f_p f_x
  go_region_held3 (fun w' => (∀ i, w'.cell? ⟨w.heap.size, i, none⟩ = (devCs d A c F f K k)[i]?) ∧ (∀ i, w'.cell? ⟨w5.heap.size, i, none⟩ = (devCs d A5 c5 F5 f5 K5 k5)[i]?) ∧ Stand w FS w')
    (first | (with_reducible exact Stand.show2 HP1.out HF.out) | (with_reducible exact Stand.show2 HP1.out HFd.out) | (with_reducible exact Stand.show2 HP1.out R10) | (with_reducible exact Stand.show2 HP1.out R11))
    (first | (go_at_call 37; (with_reducible refine (toDevices_any d _ 0 w.heap.size _ (HPA.out _ HFd.out).1 (HPA.out _ HFd.out).2 HS.out).mono ?_); rintro e10 w10 ⟨v10, rfl, hx10, hb10⟩; have s10 := hb10.size; have R10 := HFd.out.below hb10) | (go_at_call 39; (with_reducible refine (eqDevices_same d _ _ _ _ _ _ _ (HPX.out _ R10).1 hx10.reads (HPX.out _ R10).2 (Nat.le_refl _) HS.out).mono ?_); rintro e11 w11 ⟨rfl, hb11⟩; have s11 := hb11.size; have R11 := R10.below hb11))
  have HR11 := Lib.hid (HQ.out _ R11); clear R10 R11 hx10 HF HFd HP1 HPA HPX HQ hb10 hb11
  have s9' : w9.drew.heap.size = w9.heap.size := rfl
  rw [s9'] at s10; clear s9'
  have f_x := (HR11.out.get 2 rfl).cell; have g_x := fun o => ((HR11.out.alloc o).get 2 rfl).cell
  go_wp2_with fail
  refine (markDevices_any d _ _ _ _ (HR11.out.get 3 rfl) (HR11.out.le 3 rfl) HW.out).mono ?_
  rintro e12 w12 ⟨m12, rfl, hm12, he12, hh12, hw12⟩
  have s12 := hw12.size; have HE12 := Lib.hid he12; clear he12
  have R12 := ((HR11.out.only [0, 1, 2, 4, 5, 6, 7]).within hw12 (by omega) (by
    intro f hf
    simp only [List.filterMap_cons, List.filterMap_nil, List.getElem?_cons_zero, List.getElem?_cons_succ, List.mem_cons, List.not_mem_nil, or_false] at hf
    rcases hf with rfl | rfl | rfl | rfl | rfl | rfl | rfl
    all_goals (simp only; omega)))
  have HR12 := Lib.hid R12; clear R12 HR11 hw12 hh12
  have nm12 : ¬ (m12 < 0) := by omega
  clear f_x g_x
  have f_g := (HR12.out.get 0 rfl).cell; have g_g := fun o => ((HR12.out.alloc o).get 0 rfl).cell
  have f_w := (HR12.out.get 3 rfl).cell; have g_w := fun o => ((HR12.out.alloc o).get 3 rfl).cell
  go_wp2_with fail
  refine (eqDevices_same T.1 _ _ _ _ _ _ _ (HR12.out.get 1 rfl).reads (HR12.out.get 4 rfl) (HR12.out.le 1 rfl) (HR12.out.le 4 rfl) HT.out.small).mono ?_
  rintro e13 w13 ⟨rfl, hb13⟩
  have R13 := HR12.out.below hb13; have s13 := hb13.size
  have HR13 := Lib.hid R13; clear R13 HR12 hb13
  clear f_g g_g f_w g_w
  have f_g := (HR13.out.get 0 rfl).cell; have g_g := fun o => ((HR13.out.alloc o).get 0 rfl).cell
  go_wp2_with fail
  refine (markDevices_any T.1 _ _ _ _ (HR13.out.get 1 rfl) (HR13.out.le 1 rfl) HT.out.few).mono ?_
  rintro e14 w14 ⟨m14, rfl, hm14, he14, hh14, hw14⟩
  have s14 := hw14.size; have HE14 := Lib.hid he14; clear he14
  have R14 := ((HR13.out.only [0, 2, 3, 4, 5, 6]).within hw14 (by omega) (by
    intro f hf
    simp only [List.filterMap_cons, List.filterMap_nil, List.getElem?_cons_zero, List.getElem?_cons_succ, List.mem_cons, List.not_mem_nil, or_false] at hf
    rcases hf with rfl | rfl | rfl | rfl | rfl | rfl
    all_goals (simp only; omega)))
  have R14' := R14.add _ _ _ (loc_devR _ _ _ (markDev T.1)) (by omega) hh14; clear R14; have R14 := R14'; clear R14'
  have HR14 := Lib.hid R14; clear R14 HR13 hw14 hh14
  have nm14 : ¬ (m14 < 0) := by omega
  clear f_g g_g
  have f_g := (HR14.out.get 1 rfl).cell; have g_g := fun o => ((HR14.out.alloc o).get 1 rfl).cell
  go_wp2_with fail
  have nq : (m14 != m14) = false := by simp
  refine (heldDevices_any T.1 _ m14 _ _ _ (HR14.out.get 0 rfl) HE14.out (HR14.out.le 0 rfl) HT.out.few).mono ?_
  rintro e15 w15 ⟨rfl, hb15⟩
  have R15 := HR14.out.below hb15; have s15 := hb15.size
  have HR15 := Lib.hid R15; clear R15 HR14 hb15
  clear f_g g_g
  have f_p := (HR15.out.get 5 rfl).cell; have g_p := fun o => ((HR15.out.alloc o).get 5 rfl).cell
  go_wp2_with fail
  refine (toDevices_any d _ 0 w.heap.size _ (HR15.out.get 6 rfl) (HR15.out.le 6 rfl) HS.out).mono ?_
  rintro e16 w16 ⟨v16, rfl, hx16, hb16⟩
  have s16 := hb16.size
  have R16 := HR15.out.below hb16; have HX16 := Lib.hid hx16.reads
  have HR16 := Lib.hid R16; clear R16 HR15 hb16 hx16
  clear f_p g_p
  go_wp2_with fail
  refine (HI.out _ _ _ _ (HX16.out) (Nat.le_refl _)).mono ?_
  rintro e17 w17 ⟨v17, rfl, hx17, hb17⟩
  have s17 := hb17.size
  have R17 := (HR16.out.below hb17).add _ _ _ (loc_ownDev _ w17.heap.size v17 T.1) (Nat.le_refl _) hx17
  obtain ⟨A17, c17, F17, f17, K17, k17, rfl, hA17⟩ := hx17.reads
  have HR17 := Lib.hid R17; clear R17 HR16 hb17 hx17 hA17
  have f_w := (HR17.out.get 4 rfl).cell; have g_w := fun o => ((HR17.out.alloc o).get 4 rfl).cell
  have f_g := (HR17.out.get 2 rfl).cell; have g_g := fun o => ((HR17.out.alloc o).get 2 rfl).cell
  go_wp2_with fail
  have R18 := HR17.out.box 61 (devCs T.1 A17 c17 F17 f17 K17 k17)
  have s18 : w17.heap.size + 1 ≤ (w17.alloc (.cells (devCs T.1 A17 c17 F17 f17 K17 k17) 61)).heap.size := by simp
  clear f_w g_w f_g g_g
  generalize w17.alloc (.cells (devCs T.1 A17 c17 F17 f17 K17 k17) 61) = w18 at *
  have HR18 := Lib.hid R18; clear R18 HR17
  have f_h := (HR18.out.get 0 rfl).cell; have g_h := fun o => ((HR18.out.alloc o).get 0 rfl).cell
  have f_w := (HR18.out.get 5 rfl).cell; have g_w := fun o => ((HR18.out.alloc o).get 5 rfl).cell
  have f_g := (HR18.out.get 3 rfl).cell; have g_g := fun o => ((HR18.out.alloc o).get 3 rfl).cell
  refine (eqDevices_same T.1 _ _ _ _ _ _ _ (HR18.out.get 1 rfl).reads (HR18.out.get 6 rfl) (HR18.out.le 1 rfl) (HR18.out.le 6 rfl) HT.out.small).mono ?_
  rintro e19 w19 ⟨rfl, hb19⟩
  have R19 := HR18.out.below hb19; have s19 := hb19.size
  have HR19 := Lib.hid R19; clear R19 HR18 hb19
  clear f_h g_h f_w g_w f_g g_g
  have f_g := (HR19.out.get 3 rfl).cell; have g_g := fun o => ((HR19.out.alloc o).get 3 rfl).cell
  go_wp2_with fail
  refine (heldDevices_any T.1 _ m14 _ _ _ (HR19.out.get 2 rfl) HE14.out (HR19.out.le 2 rfl) HT.out.few).mono ?_
  rintro e20 w20 ⟨rfl, hb20⟩
  have R20 := HR19.out.below hb20; have s20 := hb20.size
  have HR20 := Lib.hid R20; clear R20 HR19 hb20
  clear f_g g_g
  go_wp2_with fail
  go_ret
  exact ⟨rfl, HR20.out.1⟩

end Go.Proofs.Ytcfmgmbolnifgaa

/- From the walk of a law to its row: a law that returns true and leaves what was there as it was. -/
namespace Go.Proofs.Ytcfmgmbolnifgaa
open Go.ChangeShapes Go.WideShapes Go.ChangeAt Go.RowKit

theorem own_knob : ownKnob Try.prog.godebug = none := by kernel_rfl
theorem laid_out : laidOutB Try.prog = true := by kernel_rfl

theorem trodAll_below {H : Type} {enc : TypeId × Value → H} {P : Program} (hl : laidOutB P = true) {W W' : World} (hb : Below W.heap.size W W') :
    ∀ (ts : List TypeId) (vs : List Value) (ds : List (DataW H)) (ps : List MemPlace), (∀ t ∈ ts, P.readableRec t = true ∧ t < P.types.size) → (∀ x ∈ ps, x.block < W.heap.size) →
    DataW.TrodAll enc P W 0 (fun _ => true) true ts vs ds ps → DataW.TrodAll enc P W' 0 (fun b => decide (b < W.heap.size)) true ts vs ds ps
  | [], [], [], _, _, _, h => h
  | t :: ts, v :: vs, d :: ds, ps, hr, hlt, h => by
    obtain ⟨p, q, h1, h2, rfl⟩ := h
    exact ⟨p, q, Below.trod hl (hr t (by simp)).1 (hr t (by simp)).2 h1 hb (fun x hx => hlt x (by simp [hx])),
      trodAll_below hl hb ts vs ds q (fun t ht => hr t (by simp [ht])) (fun x hx => hlt x (by simp [hx])) h2, rfl⟩
  | [], [], _ :: _, _, _, _, h => h.elim
  | [], _ :: _, _, _, _, _, h => h.elim
  | _ :: _, [], _, _, _, _, h => h.elim
  | _ :: _, _ :: _, [], _, _, _, h => h.elim

/-- The row's end of a law. -/
theorem law_post {H : Type} {enc : TypeId × Value → H} {P : Program} {f : Func} {s : ChangeSpec} {W W' : World} {args : Array Value} {ds gs : List (DataW H)} {before : List MemPlace} {tb : TypeId}
    (hvars : s.vars = []) (hW : DataW.Whole enc P f.params.toList s.vars false W args.toList ds gs before)
    (hfn : s.fn H (ds ++ gs) = { results := [.lit (.bool true)], args := ds }) (hl : laidOutB P = true) (hr : ∀ t ∈ f.params.toList, P.readableRec t = true ∧ t < P.types.size)
    (hrt : f.resultTypes = #[tb]) (htb : P.underlying tb = some .bool) (hb : Below W.heap.size W W') :
    s.post enc P f false true false false W args (.bool true) W' := by
  have hW' := hW
  have hlt : ∀ p ∈ before, p.block < W.heap.size := fun p hp => hW.lt p hp
  obtain ⟨p, q, hA, hV, rfl, hfz, hnd⟩ := hW
  rw [hvars] at hV
  obtain ⟨rfl, rfl⟩ := trodVars_none hV
  refine ⟨ds, [], p ++ [], [], p, [], hW', ?_, ?_, ?_, hb.frame _, fun h => by cases h⟩
  · rw [hfn, hrt]
    exact trodAll_cons_mk (shut_bool htb _) trodAll_mk0
  · rw [hfn]
    exact trodAll_below hl hb _ _ _ _ hr (fun x hx => hlt x (by simp [hx])) hA
  · rw [hfn, hvars]; rfl

end Go.Proofs.Ytcfmgmbolnifgaa

/- From the row's reading of an argument to the words of Mem: texts, lists of texts, lists of numbers, structs. -/
namespace Go.Proofs.Ytcfmgmbolnifgaa
open Go.ChangeShapes Go.WideShapes Go.ChangeAt Go.RowKit

theorem block_of_cell {w : World} {a : Addr} {v : Value} (h : w.cell? a = some v) : a.block < w.heap.size ∧ a.spot = none := by
  unfold World.cell? at h
  split at h
  · rename_i c t f heq
    constructor
    · rcases Nat.lt_or_ge a.block w.heap.size with hlt | hge
      · exact hlt
      · rw [Array.getElem?_eq_none hge] at heq; cases heq
    · split at h
      · cases h
      · rename_i hs; simpa using hs
  · cases h

section
variable {H : Type} {enc : TypeId × Value → H} {P : Program} {w : World} {base : Nat} {held : Bool}

theorem open_strR {t e : TypeId} {fuel : Nat} {cs : List Value} {x : DataW H × List MemPlace} (ht : P.underlying t = some (.slice e)) (he : P.underlying e = some .string) (hc : P.cellsOf e = 1)
    (h : DataW.trod enc P w base (fun _ => true) held fuel t cs = some x) :
    ∃ (A : Option Addr) (cap : Nat) (xs : List ByteArray), cs = [.slice A xs.length cap] ∧ StrR w 0 w.heap.size A xs.length xs ∧ xs.length ≤ 9223372036854775807 ∧ ∀ s ∈ xs, s.size ≤ 9223372036854775807 := by
  rcases open_strings ht he hc h with ⟨rfl, _⟩ | ⟨a, len, cap, ss, rfl, _, hl, hm, hz, _, hcell, hws⟩
  · exact ⟨none, 0, [], rfl, ⟨rfl, fun h => by simp at h⟩, by simp, by simp⟩
  · simp only [if_true] at hz
    have hlen : (ss.take len).length = len := by rw [List.length_take]; omega
    refine ⟨some a, cap, ss.take len, by rw [hlen], ⟨rfl, fun hpos => ?_⟩, by rw [hlen]; unfold maxLen at hm; omega, fun s hs => by have := hws s (List.mem_of_mem_take hs); unfold maxLen at this; omega⟩
    rw [hlen] at hpos
    have h0 := block_of_cell (hcell 0 (by omega))
    have ha : a.add 0 = a := by simp [Addr.add]
    rw [ha] at h0
    obtain ⟨ab, ao, asp⟩ := a
    obtain ⟨h1, h2⟩ := h0
    simp only at h1 h2
    subst h2
    refine ⟨ab, ao, rfl, by omega, h1, fun j hj => ?_⟩
    rw [hlen] at hj
    have hj' := hcell j (by omega)
    have hadd : (⟨ab, ao, none⟩ : Addr).add j = ⟨ab, ao + j, none⟩ := by unfold Addr.add; split <;> simp_all
    rw [hadd] at hj'
    rw [hj']
    simp [List.getD_eq_getElem?_getD, hj]

theorem open_intR {t e : TypeId} {fuel : Nat} {cs : List Value} {x : DataW H × List MemPlace} (ht : P.underlying t = some (.slice e)) (he : P.underlying e = some (.int .i64)) (hc : P.cellsOf e = 1)
    (h : DataW.trod enc P w base (fun _ => true) held fuel t cs = some x) :
    ∃ (A : Option Addr) (cap : Nat) (xs : List Int), cs = [.slice A xs.length cap] ∧ IntR w 0 w.heap.size A xs.length xs ∧ xs.length ≤ 9223372036854775807 := by
  rcases open_ints ht he hc h with ⟨rfl, _⟩ | ⟨a, len, cap, ss, rfl, _, hl, hm, hz, _, hcell, hws⟩
  · exact ⟨none, 0, [], rfl, ⟨rfl, fun h => by simp at h⟩, by simp⟩
  · simp only [if_true] at hz
    have hlen : (ss.take len).length = len := by rw [List.length_take]; omega
    refine ⟨some a, cap, ss.take len, by rw [hlen], ⟨rfl, fun hpos => ?_⟩, by rw [hlen]; unfold maxLen at hm; omega⟩
    rw [hlen] at hpos
    have h0 := block_of_cell (hcell 0 (by omega))
    have ha : a.add 0 = a := by simp [Addr.add]
    rw [ha] at h0
    obtain ⟨ab, ao, asp⟩ := a
    obtain ⟨h1, h2⟩ := h0
    simp only at h1 h2
    subst h2
    refine ⟨ab, ao, rfl, by omega, h1, fun j hj => ?_⟩
    rw [hlen] at hj
    have hj' := hcell j (by omega)
    have hadd : (⟨ab, ao, none⟩ : Addr).add j = ⟨ab, ao + j, none⟩ := by unfold Addr.add; split <;> simp_all
    rw [hadd] at hj'
    rw [hj']
    simp [List.getD_eq_getElem?_getD, hj]

theorem open_str {t : TypeId} {fuel : Nat} {cs : List Value} {x : DataW H × List MemPlace} (ht : P.underlying t = some .string) (h : DataW.trod enc P w base (fun _ => true) held fuel t cs = some x) :
    ∃ s : ByteArray, cs = [.string s] ∧ s.size ≤ 9223372036854775807 := by
  obtain ⟨s, h1, _, h2⟩ := DataW.trod_string ht h
  exact ⟨s, h1, by unfold maxLen at h2; exact h2⟩

theorem open_i64 {t : TypeId} {fuel : Nat} {cs : List Value} {x : DataW H × List MemPlace} (ht : P.underlying t = some (.int .i64)) (h : DataW.trod enc P w base (fun _ => true) held fuel t cs = some x) :
    ∃ n : Int, cs = [.int .i64 n] ∧ -9223372036854775808 ≤ n ∧ n ≤ 9223372036854775807 := by
  obtain ⟨n, h1, _, h2⟩ := DataW.trod_int ht h
  refine ⟨n, h1, ?_⟩
  simp [Lit.wf, IntKind.min, IntKind.max, IntKind.signed, IntKind.bits] at h2
  exact ⟨by omega, by omega⟩

/-- A list is its parts. -/
theorem list7 {α : Type} {l : List α} (h : l.length = 7) : ∃ a b c d e f g, l = [a, b, c, d, e, f, g] := by
  match l, h with
  | [a, b, c, d, e, f, g], _ => exact ⟨a, b, c, d, e, f, g, rfl⟩
theorem list3 {α : Type} {l : List α} (h : l.length = 3) : ∃ a b c, l = [a, b, c] := by
  match l, h with
  | [a, b, c], _ => exact ⟨a, b, c, rfl⟩
end

end Go.Proofs.Ytcfmgmbolnifgaa
