/- A whole block loaded, a whole block stored: for values of many cells. Over any program. -/
import Derived.Test.YtfibjcaidnofmaaGreatDoorJoinITAj
import Derived.Laws.Tables
import Derived.Deep.DeepCutAuto
import Derived.Deep.CutBlock
import Derived.Test.YtfibjcaidnofmaaGreatDoorJoinITAl
namespace Go.Proofs.YtfibjcaidnofmaaGreatDoor
open Go.RowKit

section
variable {P : Program}
end

theorem Out.below1 {g B : Nat} {w w' : World} (h : Out [g] w w') (hB : B ≤ g) (hs : B ≤ w.heap.size) : Below B w w' :=
  ⟨h.os, h.tape, h.output, h.size, fun b hb => h.block b (by omega) (by simp; omega)⟩
/-- The value owns what hangs on it; which blocks, the predicate S says. -/
def OwnS {α : Type} (s : Sh α) (w : World) (S : Nat → Prop) (vs : List Value) (x : α) : Prop := ∃ F, s.O w F vs x ∧ F.Nodup ∧ ∀ b ∈ F, S b
section
variable {α β : Type} {s : Sh α} {s' : Sh β} {w : World} {lo hi : Nat} {vs ws : List Value} {x : α} {y : β} {S S' : Nat → Prop}
theorem OwnS.own (h : OwnS s w S vs x) (hs : ∀ b, S b → lo ≤ b ∧ b < hi) : Own s w lo hi vs x := by
  obtain ⟨F, h1, h2, h3⟩ := h
  exact ⟨F, h1, h2, fun b hb => hs b (h3 b hb)⟩
theorem OwnS.one {enc : α → Value} {d : α} {m : Nat → α} {co : α → Nat} {h1 : ∀ x, (enc x).oneCell' = true} (w : World) (x : α) : OwnS (Sh.one enc d m co h1) w (fun _ => False) [enc x] x :=
  ⟨[], ⟨rfl, rfl⟩, List.nodup_nil, fun b hb => by cases hb⟩
theorem OwnS.prod (h1 : OwnS s w S vs x) (h2 : OwnS s' w S' ws y) (hd : ∀ b, S b → S' b → False) : OwnS (s.prod s') w (fun b => S b ∨ S' b) (vs ++ ws) (x, y) := by
  obtain ⟨F1, o1, n1, r1⟩ := h1
  obtain ⟨F2, o2, n2, r2⟩ := h2
  refine ⟨F1 ++ F2, ⟨vs, ws, F1, F2, rfl, rfl, o1, o2⟩, List.nodup_append.2 ⟨n1, n2, fun c hc c' hc' e => ?_⟩, fun c hc => ?_⟩
  · subst e; exact hd c (r1 c hc) (r2 c hc')
  · rcases List.mem_append.1 hc with hc | hc
    · exact .inl (r1 c hc)
    · exact .inr (r2 c hc)
end

end Go.Proofs.YtfibjcaidnofmaaGreatDoor

/- Node, Tree, Bind, Cell, Level, Given, Locals, Ref, Loop, Frame: shapes and the laws' walks (eq). Printed by gen_fam.py. -/
namespace Go.Proofs.YtfibjcaidnofmaaGreatDoor
open Go.RowKit

set_option maxHeartbeats 4000000 in
set_option maxRecDepth 100000 in
theorem eqNode_f (x0 : ByteArray) (x1 : List ByteArray) (x2 : ByteArray) (A1 : Option Addr) (c1 : Nat) (B1 : Option Addr) (d1 : Nat) (lo hi lo' hi' : Nat) (w : World) (h : shNode.R w lo hi [.string x0, .slice A1 x1.length c1, .string x2] (x0, x1, x2)) (h' : shNode.R w lo' hi' [.string x0, .slice B1 x1.length d1, .string x2] (x0, x1, x2)) (hhi : hi ≤ w.heap.size) (hhi' : hi' ≤ w.heap.size) (hf : shNode.fit 4294967296 (x0, x1, x2)) :
    Calls Tryz.prog 113 #[.agg #[.string x0, .slice A1 x1.length c1, .string x2], .agg #[.string x0, .slice B1 x1.length d1, .string x2]] w fun e w' => e = .returned (.bool true) ∧ Below w.heap.size w w' := by
  rw [shNode_fit] at hf
  obtain ⟨ft0, ft1, ft2⟩ := hf
  have R0 := ((((Stand.nil w).add lo hi (fun W => shNode.R W lo hi [.string x0, .slice A1 x1.length c1, .string x2] (x0, x1, x2)) (fun _ _ hk h => shNode.R_keep h hk) hhi h).add lo' hi' (fun W => shNode.R W lo' hi' [.string x0, .slice B1 x1.length d1, .string x2] (x0, x1, x2)) (fun _ _ hk h => shNode.R_keep h hk) hhi' h').box 32 #[.string x0, .slice A1 x1.length c1, .string x2]).box 32 #[.string x0, .slice B1 x1.length d1, .string x2]
  rw [heap_alloc_size1] at R0
  have HR0 := Lib.hid R0
  clear R0 h h'
  go_enter Tryz.func113, Tryz.ntmps113
  go_wp2_with fail
  refine (eqStringS_f A1 B1 c1 d1 x1 lo hi lo' hi' _ (shNode_f1 (HR0.out.get 3 rfl)) (shNode_f1 (HR0.out.get 2 rfl)) (HR0.out.le 3 rfl) (HR0.out.le 2 rfl) ft1).mono ?_
  rintro e1 w1 ⟨rfl, hb1⟩
  have HR1 := Lib.hid (HR0.out.below hb1)
  have b1 := (HR1.out.get 0 rfl).cell
  have a1 := (HR1.out.get 1 rfl).cell
  clear hb1 HR0
  go_wp2_with fail
  go_ret
  exact ⟨rfl, HR1.out.1⟩

set_option maxHeartbeats 4000000 in
set_option maxRecDepth 100000 in
theorem eqNodeS_f (A B : Option Addr) (c d : Nat) (xs : List TyNode) (lo hi lo' hi' : Nat) (w : World) (h : (Sh.row 32 shNode).R w lo hi [.slice A xs.length c] xs) (h' : (Sh.row 32 shNode).R w lo' hi' [.slice B xs.length d] xs) (hhi : hi ≤ w.heap.size) (hhi' : hi' ≤ w.heap.size) (hf : (Sh.row 32 shNode).fit 4294967296 xs) :
    Calls Tryz.prog 55 #[.slice A xs.length c, .slice B xs.length d] w fun e w' => e = .returned (.bool true) ∧ Below w.heap.size w w' := by
  have hn := hf.1
  have HA := Lib.hid h; have HA' := Lib.hid h'; have HF := Lib.hid hf.2
  clear h h' hf
  go_enter Tryz.func55, Tryz.ntmps55
  go_wp2_with fail
  go_loopw [5] (fun i wr => ∃ k : Nat, k ≤ xs.length ∧ i = .int .i64 k ∧ Below w.heap.size w wr) (fun i _ => xs.length - (intOf i).toNat)
  case atStart => exact ⟨0, Nat.zero_le _, rfl, Below.refl _ _⟩
  case round =>
    obtain ⟨k, hk, rfl, hb⟩ := hrel
    by_cases hlt : k < xs.length
    · obtain ⟨-, b, off, rfl, hb1, hb2, A1, c1, e100, e101, e102, hX⟩ := shNode_at ((Sh.row 32 shNode).R_below HA.out hb hhi) hlt
      obtain ⟨-, b', off', rfl, hb1', hb2', B1, d1, e100', e101', e102', hX'⟩ := shNode_at ((Sh.row 32 shNode).R_below HA'.out hb hhi') hlt
      have HX := Lib.hid (HF.out _ (getD_in (d := shNode.d) hlt))
      generalize xs.getD k shNode.d = X at *
      obtain ⟨x0, x1, x2⟩ := X
      try dsimp only at e100 e101 e102 e100' e101' e102'
      have hsz := hb.size
      have HR := Lib.hid (shNode.R_below hX (below_drewN' wr 1) (by omega)); have HR' := Lib.hid (shNode.R_below hX' (below_drewN' wr 1) (by omega))
      have HB := Lib.hid hb
      have HBd := Lib.hid hb.drew
      clear hb hX hX'
      have hwi : hi ≤ wr.drew.heap.size := (show hi ≤ wr.heap.size by omega)
      have hwi' : hi' ≤ wr.drew.heap.size := (show hi' ≤ wr.heap.size by omega)
      have hbw : b < wr.drew.heap.size := (show b < wr.heap.size by omega)
      have hbw' : b' < wr.drew.heap.size := (show b' < wr.heap.size by omega)
      go_wp2_with fail
      go_region_held3 (fun w' => w'.cell? ⟨b, off + k * 3, none⟩ = some (.string x0) ∧ w'.cell? ⟨b, off + k * 3 + 1, none⟩ = some (.slice A1 x1.length c1) ∧ w'.cell? ⟨b, off + k * 3 + 2, none⟩ = some (.string x2) ∧ w'.cell? ⟨b', off' + k * 3, none⟩ = some (.string x0) ∧ w'.cell? ⟨b', off' + k * 3 + 1, none⟩ = some (.slice B1 x1.length d1) ∧ w'.cell? ⟨b', off' + k * 3 + 2, none⟩ = some (.string x2) ∧ Below w.heap.size w w')
        (first | exact ⟨e100, e101, e102, e100', e101', e102', HB.out⟩ | exact ⟨e100, e101, e102, e100', e101', e102', HBd.out⟩ | exact ⟨(hb5.cell hbw).trans e100, (hb5.cell hbw).trans e101, (hb5.cell hbw).trans e102, (hb5.cell hbw').trans e100', (hb5.cell hbw').trans e101', (hb5.cell hbw').trans e102', HBd.out.trans (hb5.mono HBd.out.size)⟩)
        (first | (go_at_call 113; (refine (eqNode_f x0 x1 x2 A1 c1 B1 d1 lo hi lo' hi' wr.drew HR.out HR'.out hwi hwi' HX.out).mono ?_); rintro e5 w5 ⟨rfl, hb5⟩))
      have HB5 := Lib.hid (HBd.out.trans (hb5.mono HBd.out.size))
      clear hb5 e100 e101 e102 e100' e101' e102'
      go_wp2_with fail
      go_roundw
      case rel => exact ⟨k + 1, by omega, by go_num, HB5.out⟩
      case measure => simp [intOf]; omega
    · have HB := Lib.hid hb; clear hb
      go_wp2_with fail
      go_ret
      exact ⟨rfl, HB.out⟩

set_option maxHeartbeats 4000000 in
set_option maxRecDepth 100000 in
theorem eqTree_f (x0 : List TyNode) (A0 : Option Addr) (c0 : Nat) (B0 : Option Addr) (d0 : Nat) (lo hi lo' hi' : Nat) (w : World) (h : shTree.R w lo hi [.slice A0 x0.length c0] x0) (h' : shTree.R w lo' hi' [.slice B0 x0.length d0] x0) (hhi : hi ≤ w.heap.size) (hhi' : hi' ≤ w.heap.size) (hf : shTree.fit 4294967296 x0) :
    Calls Tryz.prog 17 #[.agg #[.slice A0 x0.length c0], .agg #[.slice B0 x0.length d0]] w fun e w' => e = .returned (.bool true) ∧ Below w.heap.size w w' := by
  rw [shTree_fit] at hf
  have ft0 := hf
  have R0 := ((((Stand.nil w).add lo hi (fun W => shTree.R W lo hi [.slice A0 x0.length c0] x0) (fun _ _ hk h => shTree.R_keep h hk) hhi h).add lo' hi' (fun W => shTree.R W lo' hi' [.slice B0 x0.length d0] x0) (fun _ _ hk h => shTree.R_keep h hk) hhi' h').box 26 #[.slice A0 x0.length c0]).box 26 #[.slice B0 x0.length d0]
  rw [heap_alloc_size1] at R0
  have HR0 := Lib.hid R0
  clear R0 h h'
  go_enter Tryz.func17, Tryz.ntmps17
  go_wp2_with fail
  refine (eqNodeS_f A0 B0 c0 d0 x0 lo hi lo' hi' _ (shTree_f0 (HR0.out.get 3 rfl)) (shTree_f0 (HR0.out.get 2 rfl)) (HR0.out.le 3 rfl) (HR0.out.le 2 rfl) ft0).mono ?_
  rintro e0 w0 ⟨rfl, hb0⟩
  have HR1 := Lib.hid (HR0.out.below hb0)
  have b0 := (HR1.out.get 0 rfl).cell
  have a0 := (HR1.out.get 1 rfl).cell
  clear hb0 HR0
  go_wp2_with fail
  go_ret
  exact ⟨rfl, HR1.out.1⟩

end Go.Proofs.YtfibjcaidnofmaaGreatDoor

/- Node, Tree, Bind, Cell, Level, Given, Locals, Ref, Loop, Frame: shapes and the laws' walks (markS, mark). Printed by gen_fam.py. -/
namespace Go.Proofs.YtfibjcaidnofmaaGreatDoor
open Go.RowKit

theorem shNode_markO {w : World} (kn : Nat) (x0 : ByteArray) (x1 : List ByteArray) (x2 : ByteArray) (A1 : Option Addr) (c1 : Nat) {F1 : List Nat} (h1 : (Sh.row 9 shS).O w F1 [.slice A1 x1.length c1] ((Sh.row 9 shS).mark ((kn) + 1) x1)) : shNode.O w ([] ++ (F1 ++ [])) [.string (markT (kn)), .slice A1 x1.length c1, .string (markT (((kn) + 1) + (Sh.row 9 shS).cnt x1))] (shNode.mark kn (x0, x1, x2)) := by
  have e1 : ((Sh.row 9 shS).mark ((kn) + 1) x1).length = x1.length := mkAll_len _ _ _
  rw [← e1] at h1
  have key : shNode.O w ([] ++ (F1 ++ [])) [.string (markT (kn)), .slice A1 x1.length c1, .string (markT (((kn) + 1) + (Sh.row 9 shS).cnt x1))] (markT (kn), ((Sh.row 9 shS).mark ((kn) + 1) x1), markT (((kn) + 1) + (Sh.row 9 shS).cnt x1)) := shNode_O.2 ⟨A1, c1, F1, by simp only [e1], rfl, h1⟩
  exact key

set_option maxHeartbeats 4000000 in
set_option maxRecDepth 100000 in
theorem markNodeS_f (A : Option Addr) (c k : Nat) (a : Int) (xs : List TyNode) (F : List Nat) (w : World) (h : (Sh.row 32 shNode).O w F [.slice A xs.length c] xs) (hF : F.Nodup) (ha : a = (k : Int)) (h1 : 1 ≤ k) (h2 : k + (Sh.row 32 shNode).cnt xs ≤ 4294967000) :
    Calls Tryz.prog 56 #[.slice A xs.length c, .int .i64 a] w fun e w' => ∃ r : Int, e = .returned (.int .i64 r) ∧ r = ((k + (Sh.row 32 shNode).cnt xs : Nat) : Int) ∧ (Sh.row 32 shNode).O w' F [.slice A xs.length c] ((Sh.row 32 shNode).mark k xs) ∧ Out F w w' := by
  subst ha
  have H2 := Lib.hid (show k + cntAll shNode xs ≤ 4294967000 from h2)
  have hn := (O_len h).2
  unfold maxLen at hn
  have HO := Lib.hid h; have HF := Lib.hid hF
  have hk : k ≤ 4294967000 := by omega
  have HE := Lib.hid (markTo_all shNode k xs); have HZ := Lib.hid (markTo_zero shNode k xs)
  clear h hF h2
  go_enter Tryz.func56, Tryz.ntmps56
  go_wp2_with fail
  go_loopw [1, 5] (fun s i wr => ∃ (j kn : Nat), j ≤ xs.length ∧ i = .int .i64 j ∧ s = .int .i64 (kn : Int) ∧ 1 ≤ kn ∧ kn ≤ 4294967000 ∧ Hid (kn = k + cntTo shNode j xs) ∧ (Sh.row 32 shNode).O wr F [.slice A xs.length c] (markTo shNode k j xs) ∧ Out F w wr) (fun _ i _ => xs.length - (intOf i).toNat)
  case atStart => exact ⟨0, k, Nat.zero_le _, rfl, rfl, h1, hk, by rw [cntTo_zero]; exact rfl, by rw [HZ.out]; exact HO.out, Out.refl _ _⟩
  case round =>
    obtain ⟨j, kn, hj, rfl, rfl, hk1, hk2, HKN, ho, hout⟩ := hrel
    by_cases hlt : j < xs.length
    · have HNX := Lib.hid (cntTo_succ shNode hlt)
      have hroom := cnt_room (s := shNode) hlt H2.out
      obtain ⟨g, cur, FF, uu, rfl, hg, hN, ho, hm, hcl⟩ := mark_at ho rfl HF.out hlt
      simp only [shNode_k] at hm hcl
      rw [← HKN.out] at hroom hcl
      generalize xs.getD j shNode.d = X at *
      obtain ⟨x0, x1, x2⟩ := X
      rw [shNode_cnt] at hroom
      obtain ⟨A1, c1, F1, rfl, eFF, ho1⟩ := shNode_O.1 ho
      subst FF
      have HCL := Lib.hid hcl; have HM0 := Lib.hid hm; have HOUT := Lib.hid hout

      have hg1 : g ∉ F1 := fun hh => hg (by simp [hh])
      have HG1 := Lib.hid hg1
      have HN1 : Hid F1.Nodup := Lib.hid (by have := hN; (try simp only [List.nil_append, List.append_nil] at this); grind)
      have HO1 := Lib.hid ho1
      clear hcl hm hout ho hN hg ho1 hg1
      have f0 : _ = some (Value.string x0) := HM0.out.cell0 (by decide)
      have f1 : _ = some (Value.slice A1 x1.length c1) := HM0.out.cell (i := 1) (by decide)
      have f2 : _ = some (Value.string x2) := HM0.out.cell (i := 2) (by decide)
      have z := HM0.out.frozen
      go_wp2_with fail
      refine (markText_f _ (kn) _ (by omega) (by omega) (by omega)).mono ?_
      rintro e1 w1 ⟨rfl, hb1⟩
      have HM1 := Lib.hid (HM0.out.below hb1)
      have HO1 := Lib.hid (O_below HO1.out hb1)
      clear hb1 HM0 z f0 f1 f2
      have f0 : _ = some (Value.string x0) := HM1.out.cell0 (by decide)
      have f1 : _ = some (Value.slice A1 x1.length c1) := HM1.out.cell (i := 1) (by decide)
      have f2 : _ = some (Value.string x2) := HM1.out.cell (i := 2) (by decide)
      have z := HM1.out.frozen
      go_wp2_with fail
      refine (markStringS_f A1 c1 (kn + 1) _ x1 F1 _ (O_set HO1.out HG1.out _) HN1.out (by omega) (by omega) (by omega)).mono ?_
      rintro e2 w2 ⟨r1, rfl, hr1, hq1, hb2⟩
      obtain ⟨kn1, rfl, HK1⟩ : ∃ kq : Nat, r1 = (kq : Int) ∧ Hid (kq = kn + 1 + (Sh.row 9 shS).cnt x1) := ⟨_, hr1, rfl⟩
      have HM2 := Lib.hid ((HM1.out.set0 (List.mem_cons_self ..) (by decide) _).call hb2 (fun b hb => List.mem_cons_of_mem _ (by simp [hb])) HG1.out)
      have HO1 := Lib.hid hq1
      have hroom : kn1 + (0 + 1) ≤ 4294967000 := by have := HK1.out; omega
      have hk1 : 1 ≤ kn1 := by have := HK1.out; omega
      clear hr1 hb2 hq1 HM1 z f0 f1 f2
      have f0 : _ = some (Value.string (markT (kn))) := HM2.out.cell0 (by decide)
      have f1 : _ = some (Value.slice A1 x1.length c1) := HM2.out.cell (i := 1) (by decide)
      have f2 : _ = some (Value.string x2) := HM2.out.cell (i := 2) (by decide)
      have z := HM2.out.frozen
      go_wp2_with fail
      refine (markText_f _ (kn1) _ (by omega) (by omega) (by omega)).mono ?_
      rintro e3 w3 ⟨rfl, hb3⟩
      have HM3 := Lib.hid (HM2.out.below hb3)
      have HO1 := Lib.hid (O_below HO1.out hb3)
      clear hb3 HM2 z f0 f1 f2
      have f0 : _ = some (Value.string (markT (kn))) := HM3.out.cell0 (by decide)
      have f1 : _ = some (Value.slice A1 x1.length c1) := HM3.out.cell (i := 1) (by decide)
      have f2 : _ = some (Value.string x2) := HM3.out.cell (i := 2) (by decide)
      have z := HM3.out.frozen
      have HFIN := Lib.hid (show kn1 + 1 = k + cntTo shNode (j + 1) xs by have h1 := HNX.out; have h2 := HKN.out; rw [shNode_cnt] at h1; skip; have h101 := HK1.out; omega)
      go_wp2_with fail
      go_roundw
      case rel =>
        have e201 := HK1.out; subst e201
        have hL := HCL.out _ _ (HM3.out.set_ (List.mem_cons_self ..) (i := 2) (by decide) _) (by
          exact shNode_markO kn x0 x1 x2 A1 c1 (O_set HO1.out HG1.out _))
        exact ⟨j + 1, _, by omega, by go_num, by go_num, by omega, by omega, HFIN.out, hL.1, HOUT.out.trans hL.2 fun _ h => h⟩
      case measure => simp [intOf]; omega
    · obtain rfl : j = xs.length := by omega
      rw [HE.out] at ho
      have HOF := Lib.hid ho; have HOUT := Lib.hid hout; have hkn := HKN.out; rw [cntTo_all] at hkn; have HKF := Lib.hid hkn
      clear ho hout hkn
      go_wp2_with fail
      go_ret
      exact ⟨_, rfl, by rw [HKF.out]; rfl, HOF.out, HOUT.out⟩

set_option maxHeartbeats 4000000 in
set_option maxRecDepth 100000 in
theorem markTree_f (x0 : List TyNode) (A0 : Option Addr) (c0 : Nat) (k : Nat) (a : Int) (F : List Nat) (w : World) (h : shTree.O w F [.slice A0 x0.length c0] x0) (hF : F.Nodup) (ha : a = (k : Int)) (h1 : 1 ≤ k) (h2 : k + shTree.cntTop x0 ≤ 4294967000) :
    Calls Tryz.prog 18 #[.agg #[.slice A0 x0.length c0], .int .i64 a] w fun e w' => ∃ r : Int, e = .returned (.int .i64 r) ∧ r = ((k + shTree.cntTop x0 : Nat) : Int) ∧ shTree.O w' F [.slice A0 x0.length c0] (shTree.top k x0) ∧ Out F w w' := by
  subst ha
  rw [shTree_top] at h2 ⊢
  obtain ⟨A0', c0', F0, e, eF, q0⟩ := shTree_O.1 h
  subst F
  simp only [List.cons.injEq, Value.slice.injEq] at e
  simp only [true_and, and_true] at e
  obtain ⟨rfl, rfl⟩ := e
  have ho0 := q0
  have hS0 := hF
  have HN0 : Hid (F0).Nodup := Lib.hid hS0
  have HG0 : Hid (w.heap.size ∉ F0) := Lib.hid (fun hh => by have := (Sh.row 32 shNode).O_lt ho0 _ hh; omega)
  clear hS0
  have BL0 := Lib.hid (Blk.new w 26 #[.slice A0 x0.length c0])
  have HOUT0 := Lib.hid (Out.alloc_ (F0) w (.cells #[.slice A0 x0.length c0] 26))
  have HO0 := Lib.hid (O_below ho0 ((Below.refl w.heap.size w).alloc (Nat.le_refl _) (.cells #[.slice A0 x0.length c0] 26)))
  clear h hF q0 ho0
  go_enter Tryz.func18, Tryz.ntmps18
  go_wp2_with fail
  refine (markNodeS_f A0 c0 (k) _ x0 (F0) _ HO0.out HN0.out (by omega) (by omega) (by omega)).mono ?_
  rintro e1 w1 ⟨r0, rfl, hr0, hq0, hb1⟩
  obtain ⟨kn0, rfl, HK0⟩ : ∃ kq : Nat, r0 = (kq : Int) ∧ Hid (kq = k + (Sh.row 32 shNode).cnt x0) := ⟨_, hr0, rfl⟩
  have BL1 := Lib.hid (BL0.out.out_ hb1 HG0.out)
  have HOUT1 := Lib.hid (HOUT0.out.trans hb1 (fun b hb => hb))
  have HO0 := Lib.hid hq0
  have f1 := BL1.out.cell
  have hk0 : 1 ≤ kn0 := by have := HK0.out; omega
  have hm0 : kn0 + (0) ≤ 4294967000 := by have := HK0.out; omega
  clear hr0 hq0 hb1 BL0 HOUT0
  go_wp2_with fail
  go_ret
  have E0 := HK0.out; subst E0
  refine ⟨_, rfl, ?_, ?_, HOUT1.out⟩
  · congr 1; first | done | omega
  · exact HO0.out

end Go.Proofs.YtfibjcaidnofmaaGreatDoor
