/- FnExactReadLine returns true for every text: the walk of the law. -/
import Derived.Test.YtcjaaknnfohllaaGreatDoorRdlI
namespace Go.Proofs.YtcjaaknnfohllaaGreatDoor
open Go.RowKit

theorem grown_alloc {w w' : World} {o : Obj} {row : Option Nat} (h : (w.alloc o).grownBy w' row) : w.grownBy w' row :=
  ⟨h.os, h.tape, h.output, Nat.le_trans (by simp) h.size, fun i hi hn => (h.block i (by simp; omega) hn).trans (Below.heap_alloc w o i hi)⟩

set_option maxHeartbeats 1000000 in
theorem markNode_one (x : Nod) (A : Option Addr) (c base : Nat) (w : World) (hx : w.ownsRow base 9 1 (.slice A x.subs.length c) x.subs.length (x.subs.map Value.string)) (hs : x.subs.length ≤ 1048576) :
    Calls Tryz.prog 15 #[.agg #[.string x.name, .slice A x.subs.length c, .string x.value], .int .i64 1] w fun e w' => e = .returned (.int .i64 (1 + x.subs.length : Nat)) ∧
      w'.ownsRow base 9 1 (.slice A x.subs.length c) x.subs.length ((marksFrom 1 x.subs.length).map Value.string) ∧ w.grownBy w' (Value.slice A x.subs.length c).ownBlock := by
  have HX := Lib.hid hx; clear hx
  go_enter Tryz.func15, Tryz.ntmps15
  go_wp2_with fail
  refine (markStringS_one base _ _ _ x.subs _ (HX.out.alloc _) (by omega)).mono ?_
  rintro e1 w1 ⟨rfl, ho, hg⟩
  have HO := Lib.hid ho; have HG := Lib.hid (grown_alloc hg); clear ho hg
  go_wp2_with fail
  go_ret
  exact ⟨rfl, HO.out, HG.out⟩

set_option maxHeartbeats 1000000 in
theorem heldNode_one (x : Nod) (A : Option Addr) (c lo hi : Nat) (w : World) (hx : StrR w lo hi A x.subs.length (marksFrom 1 x.subs.length)) (hhi : hi ≤ w.heap.size) (hs : x.subs.length ≤ 1048576) :
    Calls Tryz.prog 16 #[.agg #[.string x.name, .slice A x.subs.length c, .string x.value], .int .i64 1] w fun e w' => e = .returned (.int .i64 (1 + x.subs.length : Nat)) ∧ Below w.heap.size w w' := by
  have hbo := fun o => (Below.refl w.heap.size w).alloc (Nat.le_refl _) o
  have HD := Lib.hid (fun o w1 (hb1 : Below (w.alloc o).heap.size (w.alloc o) w1) => (hbo o).trans (hb1.mono (hbo o).size))
  have HX := Lib.hid (fun o => hx.below (hbo o) hhi)
  have HH := Lib.hid (fun o => Nat.le_trans hhi (hbo o).size)
  clear hx hbo
  go_enter Tryz.func16, Tryz.ntmps16
  go_wp2_with fail
  refine (heldStringS_one _ _ _ _ _ _ (HX.out _) (HH.out _) (by omega)).mono ?_
  rintro e1 w1 ⟨rfl, hb1⟩
  have HB := Lib.hid (HD.out _ _ hb1); clear hb1
  have hq1 : ¬ (((1 + x.subs.length : Nat) : Int) < 0) := by omega
  go_wp2_with fail
  go_ret
  exact ⟨rfl, HB.out⟩

set_option maxHeartbeats 8000000 in
set_option maxRecDepth 100000 in
theorem law_ReadLine (T : ByteArray) (w : World) (hE : EnvR w) : Calls Tryz.prog 4 #[.string T] w fun e w' => e = .returned (.bool true) ∧ Below w.heap.size w w' := by
  by_cases hbig : 1048576 < T.size
  · have i1 : (1048576 : Int) < (T.size : Int) := by omega
    go_enter Tryz.func4, Tryz.ntmps4
    go_wp2_with fail
    go_ret
    exact ⟨rfl, Below.refl _ _⟩
  · have i1 : ¬ (1048576 : Int) < (T.size : Int) := by omega
    have hsp := fun W => specReadLine_any T W
    rw [rdl_same] at hsp
    have him := fun W h => implReadLine_any T (by omega) W h
    have hx4 : ((rdlI T.data.toList).getD nodD).subs.length ≤ 1048576 := by
      cases h : rdlI T.data.toList with
      | none => exact Nat.zero_le _
      | some x => have := (nodB_facts (rdl_ok _ _ h)).2.1; show x.subs.length ≤ _; omega
    generalize (rdlI T.data.toList).getD nodD = X at *
    generalize (rdlI T.data.toList).isSome = ok at *
    have HSP := Lib.hid hsp; have HIM := Lib.hid him; have HE := Lib.hid hE
    clear hsp him hE hbig
    go_enter Tryz.func4, Tryz.ntmps4
    go_wp2_with fail
    refine (HSP.out _).mono ?_; rintro e1 w1 ⟨⟨v1, rfl, hv1⟩, hb1⟩
    obtain ⟨A1, c1, rfl, ho1⟩ := hv1
    have hs1 := hb1.size
    have hBA := (Below.refl w1.heap.size w1).alloc (Nat.le_refl _) (.cells #[.string X.name, .slice A1 X.subs.length c1, .string X.value] 37)
    have HNA := Lib.hid (show NodR w1 0 w1.heap.size (.agg #[.string X.name, .slice A1 X.subs.length c1, .string X.value]) X from ⟨A1, c1, rfl, (OwnR.reads (d := ByteArray.empty) ho1).more (Nat.zero_le _) (Nat.le_refl _)⟩)
    have HNa := Lib.hid (HNA.out.below hBA (Nat.le_refl _))
    have HBKa := Lib.hid (Blk.new w1 37 #[.string X.name, .slice A1 X.subs.length c1, .string X.value])
    have HBa := Lib.hid (hb1.trans (hBA.mono hs1))
    have hsa := hBA.size
    have hsa' := alloc_sz w1 (.cells #[.string X.name, .slice A1 X.subs.length c1, .string X.value] 37)
    clear hb1 ho1 hBA
    go_upto_region 4 with fail
    generalize w1.alloc (.cells #[.string X.name, .slice A1 X.subs.length c1, .string X.value] 37) = wa at *
    generalize w1.heap.size = BA at *
    go_wp2_with fail
    refine (HIM.out _ (HE.out.below HBa.out)).mono ?_; rintro e2 w2 ⟨⟨v2, rfl, hv2⟩, hb2⟩
    obtain ⟨A2, c2, rfl, ho2⟩ := hv2
    have hs2 := hb2.size
    have hBB := (Below.refl w2.heap.size w2).alloc (Nat.le_refl _) (.cells #[.string X.name, .slice A2 X.subs.length c2, .string X.value] 37)
    have HNb := Lib.hid ((HNa.out.below hb2 (by omega)).below hBB (by omega))
    have HBKb := Lib.hid ((HBKa.out.below hb2 (by omega)).alloc (.cells #[.string X.name, .slice A2 X.subs.length c2, .string X.value] 37))
    have HGb := Lib.hid (Blk.new w2 37 #[.string X.name, .slice A2 X.subs.length c2, .string X.value])
    have HOb := Lib.hid (ho2.below hBB)
    have HRb := Lib.hid (show StrR (w2.alloc (.cells #[.string X.name, .slice A2 X.subs.length c2, .string X.value] 37)) (wa.heap.size + 1) w2.heap.size A2 X.subs.length X.subs from (OwnR.reads (d := ByteArray.empty) ho2).below hBB (Nat.le_refl _))
    have HBb := Lib.hid (HBa.out.trans ((hb2.trans (hBB.mono hs2)).mono HBa.out.size))
    have hsb' := alloc_sz w2 (.cells #[.string X.name, .slice A2 X.subs.length c2, .string X.value] 37)
    have HOW := Lib.hid (fun g hg => (ho2.2.lt g hg))
    clear hb2 ho2 hBB
    go_upto_region 5 with fail
    generalize w2.alloc (.cells #[.string X.name, .slice A2 X.subs.length c2, .string X.value] 37) = wb at *
    generalize w2.heap.size = BB at *
    have fa := HBKb.out.cell
    have fb := HGb.out.cell
    go_wp2_with fail
    refine (eqNode_same X _ _ (wa.heap.size + 1) BB 0 BA _ ⟨A2, c2, rfl, HRb.out⟩ HNb.out (by omega) (by omega) hx4).mono ?_; rintro e3 w3 ⟨rfl, hb3⟩
    have hs3 := hb3.size
    have HBK3 := Lib.hid (HBKb.out.below hb3 (by omega))
    have HG3 := Lib.hid (HGb.out.below hb3 (by omega))
    have HN3 := Lib.hid (HNb.out.below hb3 (by omega))
    have HO3 := Lib.hid (HOb.out.below hb3)
    have HB3 := Lib.hid (HBb.out.trans (hb3.mono HBb.out.size))
    clear hb3 fa fb HBKb HGb HNb HOb HBb HRb
    have fb := HG3.out.cell
    go_wp2_with fail
    refine (markNode_one X A2 c2 (wa.heap.size + 1) _ HO3.out.2 hx4).mono ?_; rintro e4 w4 ⟨rfl, ho4, hg4⟩
    have hW4 : Within (wa.heap.size + 1) BB w3 w4 := Within.of_grown hg4 (fun g hg => HOW.out g hg)
    have hs4 := hW4.size
    have HBK4 := Lib.hid (HBK3.out.within hW4 (.inl (by omega)))
    have HG4 := Lib.hid (HG3.out.within hW4 (.inr (Nat.le_refl _)))
    have HN4 := Lib.hid (HN3.out.keep fun b _ hb => hW4.block b (by omega) (.inl (by omega)))
    have HB4 := Lib.hid (HB3.out.trans ((hW4.below (by omega)).mono (by have := HB3.out.size; omega)))
    have HR4 := Lib.hid (show StrR w4 (wa.heap.size + 1) BB A2 X.subs.length (marksFrom 1 X.subs.length) from by
      have h := StrR.of_own ho4
      refine ⟨h.1, fun hn => ?_⟩
      obtain ⟨b, off, e, h1, h2, hc⟩ := h.2 hn
      obtain ⟨g, eg, _, _⟩ := own_head HO3.out.2 hn
      rw [eg] at e
      injection e with e
      injection e with e1 e2
      exact ⟨g, 0, eg, (HOW.out g (by rw [eg]; rfl)).1, (HOW.out g (by rw [eg]; rfl)).2, fun j hj => by have := hc j hj; rw [← e1, ← e2] at this; exact this⟩)
    have hq1 : ¬ (((1 + X.subs.length : Nat) : Int) < 0) := by omega
    clear ho4 hg4 hW4 fb HBK3 HG3 HN3 HB3 HO3
    have fb := HG4.out.cell
    go_wp2_with fail
    refine (heldNode_one X A2 c2 _ _ _ HR4.out (by omega) hx4).mono ?_; rintro e5 w5 ⟨rfl, hb5⟩
    have hs5 := hb5.size
    have HBK5 := Lib.hid (HBK4.out.below hb5 (by omega))
    have HG5 := Lib.hid (HG4.out.below hb5 (by omega))
    have HN5 := Lib.hid (HN4.out.below hb5 (by omega))
    have HR5 := Lib.hid (HR4.out.below hb5 (by omega))
    have HB5 := Lib.hid (HB4.out.trans (hb5.mono HB4.out.size))
    clear hb5 fb HBK4 HG4 HN4 HR4 HB4
    go_wp2_with fail
    refine (HIM.out _ (HE.out.below HB5.out)).mono ?_; rintro e6 w6 ⟨⟨v6, rfl, hv6⟩, hb6⟩
    obtain ⟨A6, c6, rfl, ho6⟩ := hv6
    have hs6 := hb6.size
    have hBC := (Below.refl w6.heap.size w6).alloc (Nat.le_refl _) (.cells #[.string X.name, .slice A6 X.subs.length c6, .string X.value] 37)
    have hb7 := hb6.trans (hBC.mono hs6)
    have HBK7 := Lib.hid (HBK5.out.below hb7 (by omega))
    have HG7 := Lib.hid (HG5.out.below hb7 (by omega))
    have HN7 := Lib.hid (HN5.out.below hb7 (by omega))
    have HR7 := Lib.hid (HR5.out.below hb7 (by omega))
    have HC7 := Lib.hid (Blk.new w6 37 #[.string X.name, .slice A6 X.subs.length c6, .string X.value])
    have HRC := Lib.hid (show StrR (w6.alloc (.cells #[.string X.name, .slice A6 X.subs.length c6, .string X.value] 37)) (w5.heap.size + 1) w6.heap.size A6 X.subs.length X.subs from (OwnR.reads (d := ByteArray.empty) ho6).below hBC (Nat.le_refl _))
    have HB7 := Lib.hid (HB5.out.trans (hb7.mono HB5.out.size))
    have hsc' := alloc_sz w6 (.cells #[.string X.name, .slice A6 X.subs.length c6, .string X.value] 37)
    clear hb6 ho6 hBC hb7 HBK5 HG5 HN5 HR5 HB5
    go_upto_region 16 with fail
    generalize w6.alloc (.cells #[.string X.name, .slice A6 X.subs.length c6, .string X.value] 37) = w7 at *
    generalize w6.heap.size = BC at *
    have fa := HBK7.out.cell
    have fc := HC7.out.cell
    go_wp2_with fail
    refine (eqNode_same X _ _ (w5.heap.size + 1) BC 0 BA _ ⟨A6, c6, rfl, HRC.out⟩ HN7.out (by omega) (by omega) hx4).mono ?_; rintro e8 w8 ⟨rfl, hb8⟩
    have hs8 := hb8.size
    have HG8 := Lib.hid (HG7.out.below hb8 (by omega))
    have HR8 := Lib.hid (HR7.out.below hb8 (by omega))
    have HB8 := Lib.hid (HB7.out.trans (hb8.mono HB7.out.size))
    clear hb8 fa fc HBK7 HG7 HN7 HR7 HC7 HRC HB7
    have fb := HG8.out.cell
    go_wp2_with fail
    refine (heldNode_one X A2 c2 _ _ _ HR8.out (by omega) hx4).mono ?_; rintro e9 w9 ⟨rfl, hb9⟩
    have HB9 := Lib.hid (HB8.out.trans (hb9.mono HB8.out.size))
    clear hb9
    go_wp2_with fail
    go_ret
    exact ⟨rfl, HB9.out⟩
end Go.Proofs.YtcjaaknnfohllaaGreatDoor
