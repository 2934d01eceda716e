/- Node, Tree, Bind, Cell, Level, Given, Locals, Ref, Loop, Frame: shapes and the laws' walks (sz). Printed by gen_fam.py. -/
import Derived.Shelf.SlicesE.Clone
import Derived.Test.YtnnabkldceklmaaGreatDoorShelfM
import Derived.Test.YtnnabkldceklmaaGreatDoorJoinBTAo
set_option maxHeartbeats 16000000
set_option maxRecDepth 100000
namespace Go.Proofs.YtnnabkldceklmaaGreatDoor
open Go.RowKit
end Go.Proofs.YtnnabkldceklmaaGreatDoor
/- Node, Tree, Bind, Cell, Level, Given, Locals, Ref, Loop, Frame: shapes and the laws' walks (to). Printed by gen_fam.py. -/
namespace Go.Proofs.YtnnabkldceklmaaGreatDoor
open Go.RowKit
end Go.Proofs.YtnnabkldceklmaaGreatDoor
/- Node, Tree, Bind, Cell, Level, Given, Locals, Ref, Loop, Frame: shapes and the laws' walks (eq). Printed by gen_fam.py. -/
namespace Go.Proofs.YtnnabkldceklmaaGreatDoor
open Go.RowKit
end Go.Proofs.YtnnabkldceklmaaGreatDoor
/- Node, Tree, Bind, Cell, Level, Given, Locals, Ref, Loop, Frame: shapes and the laws' walks (markS, mark). Printed by gen_fam.py. -/
namespace Go.Proofs.YtnnabkldceklmaaGreatDoor
open Go.RowKit
end Go.Proofs.YtnnabkldceklmaaGreatDoor
/- Node, Tree, Bind, Cell, Level, Given, Locals, Ref, Loop, Frame: shapes and the laws' walks (heldS, held). Printed by gen_fam.py. -/
namespace Go.Proofs.YtnnabkldceklmaaGreatDoor
open Go.RowKit
end Go.Proofs.YtnnabkldceklmaaGreatDoor
/- slices.Clone at rows of structs that own nothing. Printed by gen_cln.py. -/
namespace Go.Proofs.YtnnabkldceklmaaGreatDoor
open Go.RowKit
section
variable {α : Type} {s : Sh α} {P : Program} {ρ : Go.Shelf.Ren}
theorem rowG_below {w w' : World} {lo hi B : Nat} {A : Option Addr} {xs : List α} (h : RowG s w lo hi A xs) (hb : Below B w w') (hB : hi ≤ B) : RowG s w' lo hi A xs := by
 obtain ⟨A', c', e, h'⟩ := (Sh.row 0 s).R_below (show (Sh.row 0 s).R w lo hi [.slice A xs.length 0] xs from ⟨_, _, rfl, h⟩) hb hB
 injection e with e _
 injection e with e1 e2 e3
 subst e1
 exact h'
theorem clone_flat (L : SlLaysE0.n41 P ρ) {z : Value} {by_ : Nat} (hinfo : (P.info? (ρ.t 23)).map (fun i => (i.zero, i.size, i.bytes)) = some (some z, s.k, by_)) (hzz : z.cells.size = s.k) (hk : 0 < s.k) (hby : by_ ≤ 4096) (hfl : FlatSh s)
  (A : Option Addr) (c : Nat) (xs : List α) (lo hi : Nat) (w : World) (h : RowG s w lo hi A xs) (hhi : hi ≤ w.heap.size) (hn : xs.length ≤ 1048576) :
  Calls P (ρ.f 41) #[.slice A xs.length c] w fun e w' => ∃ (B : Option Addr) (d : Nat), e = .returned (.slice B xs.length d) ∧ Own (Sh.row (ρ.t 23) s) w' w.heap.size w'.heap.size [.slice B xs.length d] xs ∧ Below w.heap.size w w' := by
 obtain ⟨i0, hi0, hz0, hz1, hz2⟩ := info_parts hinfo
 have z23 : ∀ w, (Go.sizeOf (ρ.t 23)).run P w = .ok s.k w := fun w => by simp [Go.sizeOf, typeInfo, hi0, hz1]
 have fin : ∀ {v' : Value} {w' : World} {news : List Value}, w'.ownsRow w.heap.size (ρ.t 23) s.k v' xs.length news → (∀ j, j < xs.length → s.R w lo hi (elemAt s.k news j) (xs.getD j s.d)) →
   ∃ (B : Option Addr) (d : Nat), v' = .slice B xs.length d ∧ Own (Sh.row (ρ.t 23) s) w' w.heap.size w'.heap.size [.slice B xs.length d] xs := fun h1 h2 =>
  Own.of_flat h1 rfl (Nat.le_refl _) fun j hj => hfl (h2 j hj) _
 cases A with
 | none =>
  have hx : xs.length = 0 := by
   rcases Nat.eq_zero_or_pos xs.length with e | e
   ·exact e
   ·obtain ⟨b, off, e, _⟩ := h e; cases e
  refine (AnyE.slices_Clone_nil L xs.length c w).mono fun e w' ⟨e1, e2⟩ => ?_
  subst e2
  obtain ⟨B, d, e3, e4⟩ := fin (v' := .slice none 0 0) (w' := w') (news := []) ⟨by rw [hx]; simp, .inl ⟨rfl, hx⟩⟩ fun j hj => absurd hj (by omega)
  exact ⟨B, d, by rw [e1, e3], e4, Below.refl _ _⟩
 | some a =>
  have mixed := L.mixed; have t4 := L.t4; have a4 := L.a4; have z4 := L.z4; have v4 := L.v4; have t22 := L.t22; have a22 := L.a22; have z22 := L.z22; have v22 := L.v22
  have q22 : ∀ (w : World) (a : Option Addr) (n c n' c' : Nat), (binOp .eql (ρ.t 22) (.slice a n c) (.slice none n' c')).run P w = .ok (.bool a.isNone) w := fun w a n c n' c' => Lib.run_eql_slice_nil w _ _ a n c n' c' L.t22
  have u22 : ∀ w, Sem.run P (underlying (ρ.t 22)) w = .ok (TypeDesc.slice (ρ.t 23)) w := run_underlying t22
  have hA := hd_ h
  clear h fin
  obtain ⟨_, _, FG⟩ := L.f41
  go_enter FG, SlBodyN.n41_ntmps ρ
  go_wp2_with (at_builtin; refine wpList_growR (s := s) (t := ρ.t 23) rfl _ _ (ρ.t 22) rfl t22 hzz hk hby hinfo hfl _ w.heap.size lo hi _ (some a) c xs rfl (World.ownsRow_made w #[] 0 (Nat.le_refl _) (Nat.zero_le _) (by simp)) rfl ?qc1 (by omega) (by simp) ?_)
  case qc1 => exact rowG_below hA.out ((Below.refl w.heap.size w).alloc (Nat.le_refl _) _) hhi
  intro A' c' w1 hO hB
  go_wp2
  go_ret
  exact ⟨_, _, rfl, hO, ((Below.refl w.heap.size w).alloc (Nat.le_refl _) _).trans hB⟩
end
theorem flatText : FlatSh shS := fun h _ => ⟨rfl, h⟩
def laysString_ren : Go.Shelf.Ren := ⟨fun | 41 => 175 | n => n, fun | 22 => 22 | 23 => 9 | 4 => 4 | n => n, fun | n => n⟩
theorem laysString : SlLaysE0.n41 Tryz.prog laysString_ren := {
 mixed := by kernel_rfl
 f41 := ⟨Tryz.f175.name, by decide, Tryz.func175.trans (congrArg some (by kernel_rfl))⟩
 t4 := Tryz.underlying4
 a4 := Tryz.isAgg4
 z4 := Tryz.sizeOf4
 v4 := Tryz.zeroValue4
 t22 := Tryz.underlying22
 a22 := Tryz.isAgg22
 z22 := Tryz.sizeOf22
 v22 := Tryz.zeroValue22 }
theorem cloneString_f (A : Option Addr) (c : Nat) (xs : List ByteArray) (lo hi : Nat) (w : World) (h : (Sh.row 9 shS).R w lo hi [.slice A xs.length c] xs) (hhi : hi ≤ w.heap.size) (hf : (Sh.row 9 shS).fit 1048576 xs) :
  Calls Tryz.prog 175 #[.slice A xs.length c] w fun e w' => ∃ (B : Option Addr) (d : Nat), e = .returned (.slice B xs.length d) ∧ Own (Sh.row 9 shS) w' w.heap.size w'.heap.size [.slice B xs.length d] xs ∧ Below w.heap.size w w' := by
 obtain ⟨A', c', e, hg⟩ := h
 injection e with e _
 injection e with e1 e2 e3
 subst e1
 exact clone_flat (s := shS) (ρ := laysString_ren) laysString infoString (by rfl) (by decide) (by decide) flatText A c xs lo hi w hg hhi hf.1
end Go.Proofs.YtnnabkldceklmaaGreatDoor
/- The program's DiskOk walked. -/
namespace Go.Proofs.YtnnabkldceklmaaGreatDoor
open Go.RowKit
theorem cntS_any (A : Option Addr) (n c : Nat) (w : World) : Calls Tryz.prog 158 #[.slice A n c] w fun e w' => e = .returned (.int .i64 n) ∧ w = w' := by
 go_enter Tryz.func158, Tryz.ntmps158
 go_wp2
 go_ret
 exact ⟨rfl, rfl⟩
theorem cntI_any (A : Option Addr) (n c : Nat) (w : World) : Calls Tryz.prog 171 #[.slice A n c] w fun e w' => e = .returned (.int .i64 n) ∧ w = w' := by
 go_enter Tryz.func171, Tryz.ntmps171
 go_wp2
 go_ret
 exact ⟨rfl, rfl⟩
theorem cntSeat_any (A : Option Addr) (n c : Nat) (w : World) : Calls Tryz.prog 179 #[.slice A n c] w fun e w' => e = .returned (.int .i64 n) ∧ w = w' := by
 go_enter Tryz.func179, Tryz.ntmps179
 go_wp2
 go_ret
 exact ⟨rfl, rfl⟩
theorem has_any (x0 : Int) (A1 : Option Addr) (n1 c1 : Nat) (A2 : Option Addr) (n2 c2 : Nat) (at_ : Int) (w : World) (hn : n1 ≤ 1048576) :
  Calls Tryz.prog 112 #[.agg #[.int .i64 x0, .slice A1 n1 c1, .slice A2 n2 c2], .int .i64 at_] w fun e w' => e = .returned (.bool (inB at_ 0 ((n1 : Int) - 1))) ∧ Below w.heap.size w w' := by
 have i6 : IntKind.i64.wrap ((n1 : Int) - 1) = (n1 : Int) - 1 := IntWalk.i64_in _ (by omega)
 have HB0 := hd_ ((Below.refl w.heap.size w).alloc (Nat.le_refl _) (.cells #[.int .i64 x0, .slice A1 n1 c1, .slice A2 n2 c2] 39))
 have HIN := hd_ (fun a lo hi W => withinP_any a lo hi W)
 have HCN := hd_ (fun W => cntS_any A1 n1 c1 W)
 go_enter Tryz.func112, Tryz.ntmps112
 go_wp2_with (first | fail | (refine (HIN.out _ _ _ _).mono ?_; rintro e1 w2 ⟨rfl, rfl⟩) | (refine (HCN.out _).mono ?_; rintro e1 w2 ⟨rfl, rfl⟩))
 go_ret
 exact ⟨rfl, HB0.out⟩
theorem diskOk1_pays (x0 : Int) (b : Nat) (w : World) (hb : b < w.heap.size) (hc : w.cell? ⟨b, 0, none⟩ = some (.int .i64 x0)) :
  PredAt Tryz.prog 160 #[.pointer (some ⟨b, 0, none⟩)] Value.string (fun x : ByteArray => decide ((x.size : Int) ≠ x0)) w := by
 intro W x hw
 unfold FnGives
 have f0 : W.cell? ⟨b, 0, none⟩ = some (.int .i64 x0) := (hw.cell (p := ⟨b, 0, none⟩) hb).trans hc
 clear hc hw
 by_cases h : (x.size : Int) = x0
 ·go_enter Tryz.func160, Tryz.ntmps160
  go_wp2
  go_ret
  exact ⟨by simp [h], 0, rfl⟩
 ·go_enter Tryz.func160, Tryz.ntmps160
  go_wp2
  go_ret
  exact ⟨by simp [h], 0, rfl⟩
theorem diskOk2_any (x0 : Int) (A1 : Option Addr) (n1 c1 : Nat) (A2 : Option Addr) (n2 c2 : Nat) (b : Nat) (y0 : Int) (y1 : ByteArray) (w : World) (hb : b < w.heap.size) (hn : n1 ≤ 1048576)
  (f0 : w.cell? ⟨b, 0, none⟩ = some (.int .i64 x0)) (f1 : w.cell? ⟨b, 1, none⟩ = some (.slice A1 n1 c1)) (f2 : w.cell? ⟨b, 2, none⟩ = some (.slice A2 n2 c2)) :
  Calls Tryz.prog 162 #[.agg #[.int .i64 y0, .string y1], .pointer (some ⟨b, 0, none⟩)] w fun e w' => e = .returned (.bool (!(inB y0 0 ((n1 : Int) - 1) && decide ((y1.size : Int) = x0)))) ∧ Below w.heap.size w w' := by
 obtain ⟨ANS, hANS⟩ : ∃ r, r = !(inB y0 0 ((n1 : Int) - 1) && decide ((y1.size : Int) = x0)) := ⟨_, rfl⟩
 rw [← hANS]
 have hb0 := (Below.refl w.heap.size w).alloc (Nat.le_refl _) (.cells #[.int .i64 y0, .string y1] 138)
 have f0 : (w.alloc (.cells #[.int .i64 y0, .string y1] 138)).cell? ⟨b, 0, none⟩ = some (.int .i64 x0) := (hb0.cell (p := ⟨b, 0, none⟩) hb).trans f0
 have f1 : (w.alloc (.cells #[.int .i64 y0, .string y1] 138)).cell? ⟨b, 1, none⟩ = some (.slice A1 n1 c1) := (hb0.cell (p := ⟨b, 1, none⟩) hb).trans f1
 have f2 : (w.alloc (.cells #[.int .i64 y0, .string y1] 138)).cell? ⟨b, 2, none⟩ = some (.slice A2 n2 c2) := (hb0.cell (p := ⟨b, 2, none⟩) hb).trans f2
 have HB0 := hd_ hb0
 have HBK := hd_ (Blk.new w 138 #[.int .i64 y0, .string y1])
 have hz0 : (w.alloc (.cells #[.int .i64 y0, .string y1] 138)).heap.size = w.heap.size + 1 := by simp
 have HH := hd_ (fun W => has_any x0 A1 n1 c1 A2 n2 c2 y0 W hn)
 clear hb0
 go_enter Tryz.func162, Tryz.ntmps162
 go_upto_region 1 with fail
 generalize (w.alloc (.cells #[.int .i64 y0, .string y1] 138)) = w1 at *
 have g0 := HBK.out.cell 0; have g1 := HBK.out.cell 1
 simp only [List.getElem?_toArray, List.getElem?_cons_zero, List.getElem?_cons_succ] at g0 g1
 have HC := hd_ (show ∀ W, Below w1.heap.size w1 W → W.cell? ⟨b, 0, none⟩ = some (.int .i64 x0) ∧ W.cell? ⟨w.heap.size, 1, none⟩ = some (.string y1) from fun W hW => by
  exact ⟨(hW.cell (p := ⟨b, 0, none⟩) (by show b < _; omega)).trans f0, (hW.cell (p := ⟨w.heap.size, 1, none⟩) (by show w.heap.size < _; omega)).trans g1⟩)
 clear HBK
 by_cases q0 : inB y0 0 ((n1 : Int) - 1) = true
 rotate_left
 ·have q0 := Bool.eq_false_iff.2 q0
  have HA := hd_ (show ANS = true by rw [hANS, q0]; rfl)
  clear hANS
  go_wp2_with (first | fail | (refine (HH.out _).mono ?_; rintro e1 w2 ⟨rfl, hb2⟩; rw [q0]))
  go_ret
  exact ⟨by rw [HA.out]; rfl, HB0.out.trans (hb2.mono (by omega))⟩
 by_cases he : (y1.size : Int) = x0
 ·have HA := hd_ (show ANS = false by rw [hANS, q0]; simp [he])
  have he2 : ((y1.size : Int) != x0) = false := by simp [he]
  clear hANS he
  go_wp2_with (first | fail | (refine (HH.out _).mono ?_; rintro e1 w2 ⟨rfl, hb2⟩; rw [q0]; clear f0 f1 f2 g0 g1; obtain ⟨f0, g1⟩ := HC.out w2 hb2))
  go_ret
  exact ⟨by rw [HA.out]; rfl, HB0.out.trans (hb2.mono (by omega))⟩
 ·have HA := hd_ (show ANS = true by rw [hANS, q0]; simp [he])
  have he2 : ((y1.size : Int) != x0) = true := by simp [he]
  clear hANS he
  go_wp2_with (first | fail | (refine (HH.out _).mono ?_; rintro e1 w2 ⟨rfl, hb2⟩; rw [q0]; clear f0 f1 f2 g0 g1; obtain ⟨f0, g1⟩ := HC.out w2 hb2))
  go_ret
  exact ⟨by rw [HA.out]; rfl, HB0.out.trans (hb2.mono (by omega))⟩
theorem any_ne (xs : List ByteArray) (x0 : Int) : (xs.any fun x => decide ((x.size : Int) ≠ x0)) = !xs.all fun s => decide ((s.size : Int) = x0) := by
 induction xs with
 | nil => rfl
 | cons x xs ih =>
  simp only [List.any_cons, List.all_cons, ih, Bool.not_and]
  congr 1
  by_cases h : (x.size : Int) = x0 <;> simp [h]
theorem any_notP {α : Type} (xs : List α) (p : α → Bool) : (xs.any fun x => !p x) = !xs.all p := by
 induction xs with
 | nil => rfl
 | cons x xs ih => simp only [List.any_cons, List.all_cons, ih, Bool.not_and]
theorem diskOk_any (x0 : Int) (x1 : List ByteArray) (x2 : List TyPut) (A1 : Option Addr) (c1 : Nat) (A2 : Option Addr) (c2 lo hi : Nat) (w : World) (h : shDisk.R w lo hi [.int .i64 x0, .slice A1 x1.length c1, .slice A2 x2.length c2] (x0, x1, x2)) (hhi : hi ≤ w.heap.size) (hn1 : x1.length ≤ 1048576) (hn2 : x2.length ≤ 1048576) :
  Calls Tryz.prog 107 #[.agg #[.int .i64 x0, .slice A1 x1.length c1, .slice A2 x2.length c2]] w fun e w' => e = .returned (.bool (diskP (x0, x1, x2))) ∧ Below w.heap.size w w' := by
 have HR1 := hd_ (shDisk_f1 h); have HR2 := hd_ (shDisk_f2 h)
 obtain ⟨ANS, hANS⟩ : ∃ b, b = diskP (x0, x1, x2) := ⟨_, rfl⟩
 rw [← hANS]
 unfold diskP at hANS
 dsimp only at hANS
 have HIN := hd_ (fun a lo hi W => withinP_any a lo hi W)
 have HCN := hd_ (fun W => cntS_any A1 x1.length c1 W)
 have HB0 := hd_ ((Below.refl w.heap.size w).alloc (Nat.le_refl _) (.cells #[.int .i64 x0, .slice A1 x1.length c1, .slice A2 x2.length c2] 39))
 have HBK := hd_ (Blk.new w 39 #[.int .i64 x0, .slice A1 x1.length c1, .slice A2 x2.length c2])
 clear h
 go_enter Tryz.func107, Tryz.ntmps107
 go_upto_region 1 with fail
 have hz0 : (w.alloc (.cells #[.int .i64 x0, .slice A1 x1.length c1, .slice A2 x2.length c2] 39)).heap.size = w.heap.size + 1 := by simp
 generalize (w.alloc (.cells #[.int .i64 x0, .slice A1 x1.length c1, .slice A2 x2.length c2] 39)) = w1 at *
 have HF := hd_ (show ∀ W, Below w1.heap.size w1 W → W.cell? ⟨w.heap.size, 0, none⟩ = some (.int .i64 x0) ∧ W.cell? ⟨w.heap.size, 1, none⟩ = some (.slice A1 x1.length c1) ∧ W.cell? ⟨w.heap.size, 2, none⟩ = some (.slice A2 x2.length c2) from fun W hW => by
  have hc := (HBK.out.below hW (by omega)).cell
  exact ⟨hc 0, hc 1, hc 2⟩)
 obtain ⟨f0, f1, f2⟩ := HF.out w1 (Below.refl _ _)
 clear HBK
 by_cases hq : inB x0 1 2000 = true
 rotate_left
 ·have hq := Bool.eq_false_iff.2 hq
  have HA := hd_ (show ANS = false by rw [hANS, hq]; rfl)
  clear hANS
  go_wp2_with (first | fail | (refine (HIN.out _ _ _ _).mono ?_; rintro e1 w2 ⟨rfl, rfl⟩; rw [hq]))
  go_ret
  exact ⟨by rw [HA.out]; rfl, HB0.out⟩
 rw [hq, Bool.true_and] at hANS
 by_cases h1 : inB (x1.length : Int) 1 400 = true
 rotate_left
 ·have h1 := Bool.eq_false_iff.2 h1
  have h2 : (decide (1 ≤ x1.length) && decide (x1.length ≤ 400)) = false := by rw [← h1]; unfold inB; congr 1 <;> exact decide_eq_decide.2 (by omega)
  have HA := hd_ (show ANS = false by rw [hANS, h2]; rfl)
  clear hANS h2
  go_wp2_with (first | fail | (refine (HIN.out _ _ _ _).mono ?_; rintro e1 w2 ⟨rfl, rfl⟩; first | rw [hq] | rw [h1]) | (refine (HCN.out _).mono ?_; rintro e1 w2 ⟨rfl, rfl⟩))
  go_ret
  exact ⟨by rw [HA.out]; rfl, HB0.out⟩
 have h2 : (decide (1 ≤ x1.length) && decide (x1.length ≤ 400)) = true := by rw [← h1]; unfold inB; congr 1 <;> exact decide_eq_decide.2 (by omega)
 have hp1 : 0 < x1.length := by simp only [Bool.and_eq_true, decide_eq_true_eq] at h2; omega
 rw [h2, Bool.true_and] at hANS
 clear h2
 by_cases h5 : x2.length ≤ 400
 rotate_left
 ·have i3 : (400 : Int) < (x2.length : Int) := by omega
  have HA := hd_ (show ANS = false by rw [hANS, decide_eq_false h5]; rfl)
  clear hANS h5
  go_wp2_with (first | fail | (refine (HIN.out _ _ _ _).mono ?_; rintro e1 w2 ⟨rfl, rfl⟩; first | rw [hq] | rw [h1]) | (refine (HCN.out _).mono ?_; rintro e1 w2 ⟨rfl, rfl⟩))
  go_ret
  exact ⟨by rw [HA.out]; rfl, HB0.out⟩
 have i3 : ¬ (400 : Int) < (x2.length : Int) := by omega
 rw [decide_eq_true h5, Bool.true_and] at hANS
 obtain ⟨b, off, rfl, hb1, hb2, hc⟩ := (rowR_of ((Sh.row 9 shS).R_below HR1.out HB0.out hhi)).2 hp1
 have HC := hd_ (Tryz.slices_ContainsFunc Value.string (fun x : ByteArray => decide ((x.size : Int) ≠ x0)) 160 #[.pointer (some ⟨w.heap.size, 0, none⟩)] (enters_of Tryz.func160 (by kernel_rfl) rfl) b off x1.length c1 x1 w1 (diskOk1_pays x0 w.heap.size w1 (by omega) f0) (Nat.le_refl _) (by omega)
    (fun j hj => by rw [hc j hj, List.getD_eq_getElem?_getD, List.getElem?_eq_getElem hj]; simp [hj]))
 clear hc
 rw [List.take_length, any_ne] at HC
 cases hall : x1.all (fun s => decide ((s.size : Int) = x0)) with
 | false =>
  rw [hall] at HC hANS
  have HA := hd_ (show ANS = false by rw [hANS]; rfl)
  clear hANS hall
  go_wp2_with (first | fail | (refine (HIN.out _ _ _ _).mono ?_; rintro e1 w2 ⟨rfl, rfl⟩; first | rw [hq] | rw [h1]) | (refine (HCN.out _).mono ?_; rintro e1 w2 ⟨rfl, rfl⟩) | (refine HC.out.mono ?_; rintro e1 w2 ⟨rfl, q, rfl⟩))
  go_ret
  exact ⟨by rw [HA.out]; rfl, (HB0.out.trans (Go.Proofs.below_drewN' (Below.refl _ w1) q) : _)⟩
 | true =>
  rw [hall] at HC hANS
  have HA := hd_ (show ANS = x2.all (fun p => inB p.1 0 ((x1.length : Int) - 1) && decide ((p.2.size : Int) = x0)) by rw [hANS]; rfl)
  clear hANS hall
  have HD := hd_ (fun (q : Nat) => cfnPut 162 #[.pointer (some ⟨w.heap.size, 0, none⟩)] (fun p => !(inB p.1 0 ((x1.length : Int) - 1) && decide ((p.2.size : Int) = x0))) (enters_of Tryz.func162 (by kernel_rfl) rfl) A2 c2 x2 lo hi (w1.drewN q)
   ((Sh.row 138 shPut).R_below HR2.out (Go.Proofs.below_drewN' HB0.out q) hhi) (by show hi ≤ w1.heap.size; omega) hn2
   (fun W x _ hW => by
    obtain ⟨g0, g1, g2⟩ := HF.out W ((Go.Proofs.below_drewN' (Below.refl _ w1) q).trans hW)
    exact diskOk2_any x0 _ _ _ A2 x2.length c2 w.heap.size x.1 x.2 W (by have := hW.size; have h3 : (w1.drewN q).heap.size = w1.heap.size := rfl; omega) hn1 g0 g1 g2))
  rw [any_notP] at HD
  have HF2 := hd_ (fun q => HF.out (w1.drewN q) (Go.Proofs.below_drewN' (Below.refl _ w1) q))
  clear f0 f1 f2
  obtain ⟨f0, f1, f2⟩ := HF.out w1 (Below.refl _ _)
  go_wp2_with (first | fail | (refine (HIN.out _ _ _ _).mono ?_; rintro e1 w2 ⟨rfl, rfl⟩; first | rw [hq] | rw [h1]) | (refine (HCN.out _).mono ?_; rintro e1 w2 ⟨rfl, rfl⟩) | (refine HC.out.mono ?_; rintro e1 w2 ⟨rfl, q, rfl⟩; have HD := hd_ (HD.out q); clear f0 f1 f2; obtain ⟨f0, f1, f2⟩ := HF2.out q; generalize hwq : w1.drewN q = wq at *; have HWQ := hd_ hwq; clear hwq) | (refine HD.out.mono ?_; rintro e1 w3 ⟨rfl, hb3⟩))
  go_ret
  refine ⟨by first | (rw [HA.out]; done) | (rw [HA.out]; rfl), (HB0.out.trans ((show Below w1.heap.size w1 wq from HWQ.out ▸ Go.Proofs.below_drewN' (Below.refl _ w1) q).mono (by omega))).trans (hb3.mono ?_)⟩
  rw [← HWQ.out]; show w.heap.size ≤ w1.heap.size; omega
end Go.Proofs.YtnnabkldceklmaaGreatDoor
