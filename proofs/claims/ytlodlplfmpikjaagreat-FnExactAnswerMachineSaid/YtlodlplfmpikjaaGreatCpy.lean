/- The copies of nodes and references walked, of the program and of the reference. Printed by gen_cpy.py. -/
import Derived.Test.YtlodlplfmpikjaaGreatCln
namespace Go.Proofs.YtlodlplfmpikjaaGreat
open Go.RowKit

section
variable {α : Type} {s : Sh α}
theorem rowG_of_shape {t : TypeId} {w : World} {lo hi c : Nat} {A : Option Addr} {xs : List α} (h : (Sh.row t s).R w lo hi [.slice A xs.length c] xs) : RowG s w lo hi A xs := by
  obtain ⟨A', c', e, hg⟩ := h
  injection e with e _
  injection e with e1 e2 e3
  subst e1
  exact hg
end

set_option maxHeartbeats 4000000 in
set_option maxRecDepth 100000 in
theorem copyNode_f (x0 : ByteArray) (x1 : List ByteArray) (x2 : ByteArray) (A : Option Addr) (c lo hi : Nat) (w : World) (h : shNode.R w lo hi [.string x0, .slice A x1.length c, .string x2] (x0, x1, x2)) (hhi : hi ≤ w.heap.size) (hf : shNode.fit 1048576 (x0, x1, x2)) :
    Calls Tryz.prog 107 #[.agg #[.string x0, .slice A x1.length c, .string x2]] w fun e w' => ∃ (B : Option Addr) (d : Nat), e = .returned (.agg #[.string x0, .slice B x1.length d, .string x2]) ∧ Own shNode w' w.heap.size w'.heap.size [.string x0, .slice B x1.length d, .string x2] (x0, x1, x2) ∧ Below w.heap.size w w' := by
  rw [shNode_fit] at hf
  obtain ⟨ft0, ft1, ft2⟩ := hf
  have HA := Lib.hid h
  clear h
  have T0 := Lib.hid (Two.start w 150 150 #[.string x0, .slice A x1.length c, .string x2] #[.string ⟨#[]⟩, .slice none 0 0, .string ⟨#[]⟩])
  go_enter Tryz.func107, Tryz.ntmps107
  go_wp2_with fail
  refine (cloneString_f A c x1 lo hi _ (shNode_f1 (shNode.R_below HA.out T0.out.2.2 hhi)) (Nat.le_trans hhi T0.out.2.2.size) ft1).mono ?_
  rintro e1 w1 ⟨B, d, rfl, ho, hb⟩
  have T1 := Lib.hid (T0.out.call hb)
  have ho := ho.more (lo' := w.heap.size + 1 + 1) (by simp) (Nat.le_refl _)
  have hs1 : w.heap.size + 1 + 1 ≤ w1.heap.size := by have := hb.size; simpa using this
  clear hb T0
  have f0 := T1.out.1.cell; have z0 := T1.out.1.frozen; have f1 := T1.out.2.1.cell; have z1 := T1.out.2.1.frozen
  have HO := Lib.hid ho; clear ho
  go_wp2_with fail
  refine bodyPost_ret (v := .agg #[.string x0, .slice B x1.length d, .string x2]) (by simp [results, Tryz.results107, go_sem, f1]) rfl ⟨_, _, rfl, ?_, ?_⟩
  · refine Own.more (lo := w.heap.size + 1 + 1) (hi := w1.heap.size) ?_ (by omega) (by simp [World.setCell])
    iterate 4 (with_reducible refine Own.setCell ?_ (by dsimp only; omega) _)
    have ho := HO.out
    exact (Own.prod (Own.one w1 (w.heap.size + 1 + 1) (w.heap.size + 1 + 1) _) (Own.prod ho (Own.one w1 (w1.heap.size) _ _) (by omega) (by omega) (by omega)) (by omega) (by omega) (by omega))
  · iterate 4 (with_reducible refine Below.setCell ?_ (by simp; try omega) _)
    exact T1.out.2.2

set_option maxHeartbeats 4000000 in
set_option maxRecDepth 100000 in
theorem copyRef_f (x0 : Bool) (x1 : ByteArray) (x2 : List ByteArray) (A : Option Addr) (c lo hi : Nat) (w : World) (h : shRef.R w lo hi [.bool x0, .string x1, .slice A x2.length c] (x0, x1, x2)) (hhi : hi ≤ w.heap.size) (hf : shRef.fit 1048576 (x0, x1, x2)) :
    Calls Tryz.prog 73 #[.agg #[.bool x0, .string x1, .slice A x2.length c]] w fun e w' => ∃ (B : Option Addr) (d : Nat), e = .returned (.agg #[.bool x0, .string x1, .slice B x2.length d]) ∧ Own shRef w' w.heap.size w'.heap.size [.bool x0, .string x1, .slice B x2.length d] (x0, x1, x2) ∧ Below w.heap.size w w' := by
  rw [shRef_fit] at hf
  obtain ⟨ft0, ft1, ft2⟩ := hf
  have HA := Lib.hid h
  clear h
  have T0 := Lib.hid (Two.start w 46 46 #[.bool x0, .string x1, .slice A x2.length c] #[.bool false, .string ⟨#[]⟩, .slice none 0 0])
  go_enter Tryz.func73, Tryz.ntmps73
  go_wp2_with fail
  refine (cloneString_f A c x2 lo hi _ (shRef_f2 (shRef.R_below HA.out T0.out.2.2 hhi)) (Nat.le_trans hhi T0.out.2.2.size) ft2).mono ?_
  rintro e1 w1 ⟨B, d, rfl, ho, hb⟩
  have T1 := Lib.hid (T0.out.call hb)
  have ho := ho.more (lo' := w.heap.size + 1 + 1) (by simp) (Nat.le_refl _)
  have hs1 : w.heap.size + 1 + 1 ≤ w1.heap.size := by have := hb.size; simpa using this
  clear hb T0
  have f0 := T1.out.1.cell; have z0 := T1.out.1.frozen; have f1 := T1.out.2.1.cell; have z1 := T1.out.2.1.frozen
  have HO := Lib.hid ho; clear ho
  go_wp2_with fail
  refine bodyPost_ret (v := .agg #[.bool x0, .string x1, .slice B x2.length d]) (by simp [results, Tryz.results73, go_sem, f1]) rfl ⟨_, _, rfl, ?_, ?_⟩
  · refine Own.more (lo := w.heap.size + 1 + 1) (hi := w1.heap.size) ?_ (by omega) (by simp [World.setCell])
    iterate 4 (with_reducible refine Own.setCell ?_ (by dsimp only; omega) _)
    have ho := HO.out
    exact (Own.prod (Own.one w1 (w.heap.size + 1 + 1) (w.heap.size + 1 + 1) _) (Own.prod (Own.one w1 (w.heap.size + 1 + 1) (w.heap.size + 1 + 1) _) ho (by omega) (by omega) (by omega)) (by omega) (by omega) (by omega))
  · iterate 4 (with_reducible refine Below.setCell ?_ (by simp; try omega) _)
    exact T1.out.2.2

set_option maxHeartbeats 4000000 in
set_option maxRecDepth 100000 in
theorem l14OwnRef_f (x0 : Bool) (x1 : ByteArray) (x2 : List ByteArray) (A : Option Addr) (c lo hi : Nat) (w : World) (h : shRef.R w lo hi [.bool x0, .string x1, .slice A x2.length c] (x0, x1, x2)) (hhi : hi ≤ w.heap.size) (hf : shRef.fit 1048576 (x0, x1, x2)) :
    Calls Tryz.prog 91 #[.agg #[.bool x0, .string x1, .slice A x2.length c]] w fun e w' => ∃ (B : Option Addr) (d : Nat), e = .returned (.agg #[.bool x0, .string x1, .slice B x2.length d]) ∧ Own shRef w' w.heap.size w'.heap.size [.bool x0, .string x1, .slice B x2.length d] (x0, x1, x2) ∧ Below w.heap.size w w' := by
  rw [shRef_fit] at hf
  obtain ⟨ft0, ft1, ft2⟩ := hf
  have HA := Lib.hid h
  clear h
  have T0 := Lib.hid (Two.start w 46 46 #[.bool x0, .string x1, .slice A x2.length c] #[.bool false, .string ⟨#[]⟩, .slice none 0 0])
  have HR := Lib.hid (rowG_of_shape (shRef_f2 (shRef.R_below (shRef.R_below HA.out T0.out.2.2 hhi) ((Below.refl _ _).alloc (Nat.le_refl _) (.cells #[] 9)) (Nat.le_trans hhi T0.out.2.2.size))))
  have hn := ft2.1
  go_enter Tryz.func91, Tryz.ntmps91
  have HL := Lib.hid (show (((w.alloc (.cells #[.bool x0, .string x1, .slice A x2.length c] 46)).alloc (.cells #[.bool false, .string ⟨#[]⟩, .slice none 0 0] 46)).alloc (.cells #[] 9)).ownsRow (w.heap.size + 1 + 1) 9 shS.k (.slice (some ⟨w.heap.size + 1 + 1, 0, none⟩) 0 0) 0 [] by
    have := World.ownsRow_lit (base := w.heap.size + 1 + 1) (e := 9) (size := 1) ((w.alloc (.cells #[.bool x0, .string x1, .slice A x2.length c] 46)).alloc (.cells #[.bool false, .string ⟨#[]⟩, .slice none 0 0] 46)) #[] 0 (by simp) (by simp) rfl
    simp at this; exact this)
  have hsz : w.heap.size + 1 + 1 ≤ (((w.alloc (.cells #[.bool x0, .string x1, .slice A x2.length c] 46)).alloc (.cells #[.bool false, .string ⟨#[]⟩, .slice none 0 0] 46)).alloc (.cells #[] 9)).heap.size := by simp
  go_wp2_with (at_builtin; refine wpList_growR (s := shS) rfl (.tmp 3) (.tmp 5) 22 rfl Tryz.underlying22 rfl (by decide) (by decide) infoString flatText _ (w.heap.size + 1 + 1) lo hi _ A c x2 rfl HL.out rfl HR.out (by omega) hsz ?_)
  intro B d w1 ho hb
  have T1 : Hid (Two w w1 46 46 #[.bool x0, .string x1, .slice A x2.length c] #[.bool false, .string ⟨#[]⟩, .slice none 0 0]) := Lib.hid (by
    have hb' : Below (w.heap.size + 1 + 1) ((w.alloc (.cells #[.bool x0, .string x1, .slice A x2.length c] 46)).alloc (.cells #[.bool false, .string ⟨#[]⟩, .slice none 0 0] 46)) w1 := ((Below.refl _ _).alloc (by simp) _).trans hb
    exact T0.out.call (by simpa using hb'))
  have hs1 : w.heap.size + 1 + 1 ≤ w1.heap.size := by have := hb.size; simp at this; omega
  clear hb T0 HR
  have f0 := T1.out.1.cell; have z0 := T1.out.1.frozen; have f1 := T1.out.2.1.cell; have z1 := T1.out.2.1.frozen
  have HO := Lib.hid ho; clear ho
  go_wp2_with fail
  refine bodyPost_ret (v := .agg #[.bool x0, .string x1, .slice B x2.length d]) (by simp [results, Tryz.results91, go_sem, f1]) rfl ⟨_, _, rfl, ?_, ?_⟩
  · refine Own.more (lo := w.heap.size + 1 + 1) (hi := w1.heap.size) ?_ (by omega) (by simp [World.setCell])
    iterate 4 (with_reducible refine Own.setCell ?_ (by dsimp only; omega) _)
    have ho := HO.out
    exact (Own.prod (Own.one w1 (w.heap.size + 1 + 1) (w.heap.size + 1 + 1) _) (Own.prod (Own.one w1 (w.heap.size + 1 + 1) (w.heap.size + 1 + 1) _) ho (by omega) (by omega) (by omega)) (by omega) (by omega) (by omega))
  · iterate 4 (with_reducible refine Below.setCell ?_ (by simp; try omega) _)
    exact T1.out.2.2

end Go.Proofs.YtlodlplfmpikjaaGreat
