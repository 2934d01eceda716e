/- FnExactExportTree returns true for every tree: the walk of the law. -/
import Derived.Test.YtlhcljhfhkemiaaGreatDoorExpI
import Derived.StillTailTactics
namespace Go.Proofs.YtlhcljhfhkemiaaGreatDoor
open Go.RowKit

theorem treR_to {w : World} {lo hi : Nat} {A : Option Addr} {ns : List Nod} (h : NodesR w lo hi A ns.length ns) : TreR w lo hi (.agg #[.slice A ns.length ns.length]) ns := ⟨A, ns.length, rfl, h⟩

set_option maxHeartbeats 4000000 in
set_option maxRecDepth 100000 in
theorem law_ExportTree (x : List Nod) (v : Value) (w : World) (hx : TreR w 0 w.heap.size v x) (hr : NodsReach x) (hE : EnvIn w) :
    Calls Tryz.prog 4 #[v] w fun e w' => e = .returned (.bool true) ∧ Below w.heap.size w w' := by
  have HX := Lib.hid hx
  have HE := Lib.hid hE; clear hE
  obtain ⟨A, c, rfl, hA⟩ := hx
  clear hA
  have HR := Lib.hid hr; clear hr
  have HS0 := Lib.hid ((Stand.nil w).add 0 w.heap.size _ (loc_treR 0 w.heap.size (.agg #[.slice A x.length c]) x) (Nat.le_refl _) HX.out)
  go_enter Tryz.func4, Tryz.ntmps4
  go_wp2_with fail
  have R0 := HS0.out.box 33 #[.slice A x.length c]
  refine (szTree_any x _ 0 w.heap.size _ _ (R0.get 1 rfl) (R0.le 1 rfl) HR.out (by omega) (by omega)).mono ?_
  rintro e1 w1 ⟨m, rfl, hm, hb1⟩
  have R1 := R0.below hb1; clear hb1 R0
  have f_p := (R1.get 0 rfl).cell
  rcases hm with rfl | ⟨hm0, hm1⟩
  · have HB := Lib.hid R1.1; clear R1
    go_wp2_with fail
    go_ret
    exact ⟨rfl, HB.out⟩
  have HS := Lib.hid (NodsSmall.of_cost (ns := x) (by omega)); clear hm1
  have nm : ¬ (m < 0) := by omega
  have HR1 := Lib.hid R1; clear R1
  have s1 := HR1.out.le 0 rfl
  go_wp2_with fail
  refine (toTree_any x _ 0 w.heap.size _ (HR1.out.get 1 rfl) (HR1.out.le 1 rfl) HS.out).mono ?_
  rintro e2 w2 ⟨A2, rfl, ho2, hb2⟩
  have s2 := hb2.size
  have R2 := HR1.out.below hb2; have HX2 := Lib.hid ((show TreR w2 w1.heap.size w2.heap.size (.agg #[.slice A2 x.length x.length]) x from ⟨A2, x.length, rfl, ho2⟩))
  have HR2 := Lib.hid R2; clear R2 HR1 hb2 ho2
  clear f_p
  go_wp2_with fail
  refine (specExportTree_any x _ _ _ _ HX2.out (Nat.le_refl _) HS.out).mono ?_
  rintro e3 w3 ⟨rfl, hb3⟩
  have s3 := hb3.size
  have HI := Lib.hid (fun v lo hi W h1 h2 h3 => implExportTree_any x v lo hi W h1 h2 HS.out h3)
  generalize exportP x = T at *
  generalize exportC x = C at *
  have nC : (C != C) = false := bne_self_eq_false _
  have R3 := HR2.out.below hb3
  have HR3 := Lib.hid R3; clear R3 HR2 hb3 HX2
  have f_p := (HR3.out.get 0 rfl).cell
  go_wp2_with fail
  refine (toTree_any x _ 0 w.heap.size _ (HR3.out.get 1 rfl) (HR3.out.le 1 rfl) HS.out).mono ?_
  rintro e4 w4 ⟨A4, rfl, ho4, hb4⟩
  have s4 := hb4.size
  have R4 := (HR3.out.below hb4).add _ _ _ (loc_treR w3.heap.size w4.heap.size _ x) (Nat.le_refl _) (show TreR w4 w3.heap.size w4.heap.size (.agg #[.slice A4 x.length x.length]) x from ⟨A4, x.length, rfl, ho4⟩)
  have HR4 := Lib.hid R4; clear R4 HR3 hb4 ho4 f_p
  go_wp2_with fail
  have R5 := HR4.out.box 39 #[.slice A4 x.length x.length]
  have s5 : w4.heap.size + 1 ≤ (w4.alloc (.cells #[.slice A4 x.length x.length] 39)).heap.size := by simp
  generalize w4.alloc (.cells #[.slice A4 x.length x.length] 39) = w5 at *
  have HR5 := Lib.hid R5; clear R5 HR4
  refine (HI.out _ _ _ _ (HR5.out.get 1 rfl) (HR5.out.le 1 rfl) (HE.out.below HR5.out.1)).mono ?_
  rintro e6 w6 ⟨rfl, hb6⟩
  have s6 := hb6.size
  have R6 := HR5.out.below hb6
  have HR6 := Lib.hid R6; clear R6 HR5 hb6
  obtain ⟨FS, hF, hP, hQ⟩ := HR6.out.pack (fun W => (Blk W w.heap.size 33 #[.slice A x.length c] ∧ Blk W w4.heap.size 39 #[.slice A4 x.length x.length]) ∧ (TreR W 0 w.heap.size (.agg #[.slice A x.length c]) x ∧ w.heap.size ≤ W.heap.size) ∧ (TreR W w3.heap.size w4.heap.size (.agg #[.slice A4 x.length x.length]) x ∧ w4.heap.size ≤ W.heap.size)) (fun W h => ⟨⟨h.get 2 rfl, h.get 0 rfl⟩, ⟨h.get 3 rfl, h.le 3 rfl⟩, ⟨h.get 1 rfl, h.le 1 rfl⟩⟩)
  have HF := Lib.hid hF; have HFd := Lib.hid hF.drew; have HP1 := Lib.hid (fun W h => (hP W h).1); have HPA := Lib.hid (fun W h => (hP W h).2.1); have HPX := Lib.hid (fun W h => (hP W h).2.2); have HQ := Lib.hid hQ; clear hF hP hQ HR6
  go_wp2_with fail
  go_region_held3 (fun w' => (∀ i, w'.cell? ⟨w.heap.size, i, none⟩ = (#[.slice A x.length c] : Array Value)[i]?) ∧ (∀ i, w'.cell? ⟨w4.heap.size, i, none⟩ = (#[.slice A4 x.length x.length] : Array Value)[i]?) ∧ Stand w FS w')
    (first | (with_reducible exact Stand.show2 HP1.out HF.out) | (with_reducible exact Stand.show2 HP1.out HFd.out) | (with_reducible exact Stand.show2 HP1.out R10) | (with_reducible exact Stand.show2 HP1.out R11))
    (first | (go_at_call 13; (with_reducible refine (toTree_any x _ 0 w.heap.size _ (HPA.out _ HFd.out).1 (HPA.out _ HFd.out).2 HS.out).mono ?_); rintro e10 w10 ⟨A10, rfl, ho10, hb10⟩; have s10 := hb10.size; have R10 := HFd.out.below hb10) | (go_at_call 15; (with_reducible refine (eqTree_same x _ _ _ _ _ _ _ (HPX.out _ R10).1 (treR_to ho10) (HPX.out _ R10).2 (Nat.le_refl _) HS.out).mono ?_); rintro e11 w11 ⟨rfl, hb11⟩; have s11 := hb11.size; have R11 := R10.below hb11))
  have HR11 := Lib.hid R11.1
  go_wp2_with fail
  go_ret
  exact ⟨rfl, HR11.out⟩
end Go.Proofs.YtlhcljhfhkemiaaGreatDoor
