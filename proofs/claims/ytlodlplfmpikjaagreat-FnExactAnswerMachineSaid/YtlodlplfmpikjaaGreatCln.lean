/- slices.Clone at rows of structs that own nothing. Printed by gen_cln.py. -/
import Derived.Test.YtlodlplfmpikjaaGreatFamSh
import Derived.Test.YtlodlplfmpikjaaGreatGro
import Derived.Shelf.SlicesE.Clone
namespace Go.Proofs.YtlodlplfmpikjaaGreat
open Go.RowKit

section
variable {α : Type} {s : Sh α} {P : Program} {ρ : Go.Shelf.Ren}
theorem rowG_below {w w' : World} {lo hi B : Nat} {A : Option Addr} {xs : List α} (h : RowG s w lo hi A xs) (hb : Below B w w') (hB : hi ≤ B) : RowG s w' lo hi A xs := by
  obtain ⟨A', c', e, h'⟩ := (Sh.row 0 s).R_below (show (Sh.row 0 s).R w lo hi [.slice A xs.length 0] xs from ⟨_, _, rfl, h⟩) hb hB
  injection e with e _
  injection e with e1 e2 e3
  subst e1
  exact h'
theorem clone_flat (L : SlLaysE0.n41 P ρ) {z : Value} {by_ : Nat} (hinfo : (P.info? (ρ.t 23)).map (fun i => (i.zero, i.size, i.bytes)) = some (some z, s.k, by_)) (hzz : z.cells.size = s.k) (hk : 0 < s.k) (hby : by_ ≤ 4096) (hfl : FlatSh s)
    (A : Option Addr) (c : Nat) (xs : List α) (lo hi : Nat) (w : World) (h : RowG s w lo hi A xs) (hhi : hi ≤ w.heap.size) (hn : xs.length ≤ 1048576) :
    Calls P (ρ.f 41) #[.slice A xs.length c] w fun e w' => ∃ (B : Option Addr) (d : Nat), e = .returned (.slice B xs.length d) ∧ Own (Sh.row (ρ.t 23) s) w' w.heap.size w'.heap.size [.slice B xs.length d] xs ∧ Below w.heap.size w w' := by
  obtain ⟨i0, hi0, hz0, hz1, hz2⟩ := info_parts hinfo
  have z23 : ∀ w, (Go.sizeOf (ρ.t 23)).run P w = .ok s.k w := fun w => by simp [Go.sizeOf, typeInfo, hi0, hz1]
  have fin : ∀ {v' : Value} {w' : World} {news : List Value}, w'.ownsRow w.heap.size (ρ.t 23) s.k v' xs.length news → (∀ j, j < xs.length → s.R w lo hi (elemAt s.k news j) (xs.getD j s.d)) →
      ∃ (B : Option Addr) (d : Nat), v' = .slice B xs.length d ∧ Own (Sh.row (ρ.t 23) s) w' w.heap.size w'.heap.size [.slice B xs.length d] xs := fun h1 h2 =>
    Own.of_flat h1 rfl (Nat.le_refl _) fun j hj => hfl (h2 j hj) _
  cases A with
  | none =>
    have hx : xs.length = 0 := by
      rcases Nat.eq_zero_or_pos xs.length with e | e
      · exact e
      · obtain ⟨b, off, e, _⟩ := h e; cases e
    refine (AnyE.slices_Clone_nil L xs.length c w).mono fun e w' ⟨e1, e2⟩ => ?_
    subst e2
    obtain ⟨B, d, e3, e4⟩ := fin (v' := .slice none 0 0) (w' := w') (news := []) ⟨by rw [hx]; simp, .inl ⟨rfl, hx⟩⟩ fun j hj => absurd hj (by omega)
    exact ⟨B, d, by rw [e1, e3], e4, Below.refl _ _⟩
  | some a =>
    have mixed := L.mixed; have t4 := L.t4; have a4 := L.a4; have z4 := L.z4; have v4 := L.v4; have t22 := L.t22; have a22 := L.a22; have z22 := L.z22; have v22 := L.v22
    have q22 : ∀ (w : World) (a : Option Addr) (n c n' c' : Nat), (binOp .eql (ρ.t 22) (.slice a n c) (.slice none n' c')).run P w = .ok (.bool a.isNone) w := fun w a n c n' c' => Lib.run_eql_slice_nil w _ _ a n c n' c' L.t22
    have u22 : ∀ w, Sem.run P (underlying (ρ.t 22)) w = .ok (TypeDesc.slice (ρ.t 23)) w := run_underlying t22
    have hA := Lib.hid h
    clear h fin
    obtain ⟨_, _, FG⟩ := L.f41
    go_enter FG, SlBodyN.n41_ntmps ρ
    go_wp2_with (at_builtin; refine wpList_growR (s := s) (t := ρ.t 23) rfl _ _ (ρ.t 22) rfl t22 hzz hk hby hinfo hfl _ w.heap.size lo hi _ (some a) c xs rfl (World.ownsRow_made w #[] 0 (Nat.le_refl _) (Nat.zero_le _) (by simp)) rfl ?qc1 (by omega) (by simp) ?_)
    case qc1 => exact rowG_below hA.out ((Below.refl w.heap.size w).alloc (Nat.le_refl _) _) hhi
    intro A' c' w1 hO hB
    go_wp2
    go_ret
    exact ⟨_, _, rfl, hO, ((Below.refl w.heap.size w).alloc (Nat.le_refl _) _).trans hB⟩
end

theorem flatText : FlatSh shS := fun h w' => ⟨rfl, h⟩
def laysString_ren : Go.Shelf.Ren := ⟨fun | 41 => 69 | n => n, fun | 22 => 22 | 23 => 9 | 4 => 4 | n => n, fun | n => n⟩
theorem laysString : SlLaysE0.n41 Tryz.prog laysString_ren := {
  mixed := by kernel_rfl
  f41 := ⟨Tryz.f69.name, by decide, Tryz.func69.trans (congrArg some (by kernel_rfl))⟩
  t4 := Tryz.underlying4
  a4 := Tryz.isAgg4
  z4 := Tryz.sizeOf4
  v4 := Tryz.zeroValue4
  t22 := Tryz.underlying22
  a22 := Tryz.isAgg22
  z22 := Tryz.sizeOf22
  v22 := Tryz.zeroValue22 }
theorem cloneString_f (A : Option Addr) (c : Nat) (xs : List ByteArray) (lo hi : Nat) (w : World) (h : (Sh.row 9 shS).R w lo hi [.slice A xs.length c] xs) (hhi : hi ≤ w.heap.size) (hf : (Sh.row 9 shS).fit 1048576 xs) :
    Calls Tryz.prog 69 #[.slice A xs.length c] w fun e w' => ∃ (B : Option Addr) (d : Nat), e = .returned (.slice B xs.length d) ∧ Own (Sh.row 9 shS) w' w.heap.size w'.heap.size [.slice B xs.length d] xs ∧ Below w.heap.size w w' := by
  obtain ⟨A', c', e, hg⟩ := h
  injection e with e _
  injection e with e1 e2 e3
  subst e1
  exact clone_flat (s := shS) (ρ := laysString_ren) laysString infoString (by rfl) (by decide) (by decide) flatText A c xs lo hi w hg hhi hf.1

def laysGiven_ren : Go.Shelf.Ren := ⟨fun | 41 => 70 | n => n, fun | 22 => 38 | 23 => 109 | 4 => 4 | n => n, fun | n => n⟩
theorem laysGiven : SlLaysE0.n41 Tryz.prog laysGiven_ren := {
  mixed := by kernel_rfl
  f41 := ⟨Tryz.f70.name, by decide, Tryz.func70.trans (congrArg some (by kernel_rfl))⟩
  t4 := Tryz.underlying4
  a4 := Tryz.isAgg4
  z4 := Tryz.sizeOf4
  v4 := Tryz.zeroValue4
  t22 := Tryz.underlying38
  a22 := Tryz.isAgg38
  z22 := Tryz.sizeOf38
  v22 := Tryz.zeroValue38 }
theorem cloneGiven_f (A : Option Addr) (c : Nat) (xs : List TyGiven) (lo hi : Nat) (w : World) (h : (Sh.row 109 shGiven).R w lo hi [.slice A xs.length c] xs) (hhi : hi ≤ w.heap.size) (hf : (Sh.row 109 shGiven).fit 1048576 xs) :
    Calls Tryz.prog 70 #[.slice A xs.length c] w fun e w' => ∃ (B : Option Addr) (d : Nat), e = .returned (.slice B xs.length d) ∧ Own (Sh.row 109 shGiven) w' w.heap.size w'.heap.size [.slice B xs.length d] xs ∧ Below w.heap.size w w' := by
  obtain ⟨A', c', e, hg⟩ := h
  injection e with e _
  injection e with e1 e2 e3
  subst e1
  exact clone_flat (s := shGiven) (ρ := laysGiven_ren) laysGiven infoGiven (by rfl) (by decide) (by decide) flatGiven A c xs lo hi w hg hhi hf.1

def laysLoop_ren : Go.Shelf.Ren := ⟨fun | 41 => 71 | n => n, fun | 22 => 39 | 23 => 111 | 4 => 4 | n => n, fun | n => n⟩
theorem laysLoop : SlLaysE0.n41 Tryz.prog laysLoop_ren := {
  mixed := by kernel_rfl
  f41 := ⟨Tryz.f71.name, by decide, Tryz.func71.trans (congrArg some (by kernel_rfl))⟩
  t4 := Tryz.underlying4
  a4 := Tryz.isAgg4
  z4 := Tryz.sizeOf4
  v4 := Tryz.zeroValue4
  t22 := Tryz.underlying39
  a22 := Tryz.isAgg39
  z22 := Tryz.sizeOf39
  v22 := Tryz.zeroValue39 }
theorem cloneLoop_f (A : Option Addr) (c : Nat) (xs : List TyLoop) (lo hi : Nat) (w : World) (h : (Sh.row 111 shLoop).R w lo hi [.slice A xs.length c] xs) (hhi : hi ≤ w.heap.size) (hf : (Sh.row 111 shLoop).fit 1048576 xs) :
    Calls Tryz.prog 71 #[.slice A xs.length c] w fun e w' => ∃ (B : Option Addr) (d : Nat), e = .returned (.slice B xs.length d) ∧ Own (Sh.row 111 shLoop) w' w.heap.size w'.heap.size [.slice B xs.length d] xs ∧ Below w.heap.size w w' := by
  obtain ⟨A', c', e, hg⟩ := h
  injection e with e _
  injection e with e1 e2 e3
  subst e1
  exact clone_flat (s := shLoop) (ρ := laysLoop_ren) laysLoop infoLoop (by rfl) (by decide) (by decide) flatLoop A c xs lo hi w hg hhi hf.1

def laysFrame_ren : Go.Shelf.Ren := ⟨fun | 41 => 72 | n => n, fun | 22 => 40 | 23 => 113 | 4 => 4 | n => n, fun | n => n⟩
theorem laysFrame : SlLaysE0.n41 Tryz.prog laysFrame_ren := {
  mixed := by kernel_rfl
  f41 := ⟨Tryz.f72.name, by decide, Tryz.func72.trans (congrArg some (by kernel_rfl))⟩
  t4 := Tryz.underlying4
  a4 := Tryz.isAgg4
  z4 := Tryz.sizeOf4
  v4 := Tryz.zeroValue4
  t22 := Tryz.underlying40
  a22 := Tryz.isAgg40
  z22 := Tryz.sizeOf40
  v22 := Tryz.zeroValue40 }
theorem cloneFrame_f (A : Option Addr) (c : Nat) (xs : List TyFrame) (lo hi : Nat) (w : World) (h : (Sh.row 113 shFrame).R w lo hi [.slice A xs.length c] xs) (hhi : hi ≤ w.heap.size) (hf : (Sh.row 113 shFrame).fit 1048576 xs) :
    Calls Tryz.prog 72 #[.slice A xs.length c] w fun e w' => ∃ (B : Option Addr) (d : Nat), e = .returned (.slice B xs.length d) ∧ Own (Sh.row 113 shFrame) w' w.heap.size w'.heap.size [.slice B xs.length d] xs ∧ Below w.heap.size w w' := by
  obtain ⟨A', c', e, hg⟩ := h
  injection e with e _
  injection e with e1 e2 e3
  subst e1
  exact clone_flat (s := shFrame) (ρ := laysFrame_ren) laysFrame infoFrame (by rfl) (by decide) (by decide) flatFrame A c xs lo hi w hg hhi hf.1

def laysBind_ren : Go.Shelf.Ren := ⟨fun | 41 => 97 | n => n, fun | 22 => 41 | 23 => 151 | 4 => 4 | n => n, fun | n => n⟩
theorem laysBind : SlLaysE0.n41 Tryz.prog laysBind_ren := {
  mixed := by kernel_rfl
  f41 := ⟨Tryz.f97.name, by decide, Tryz.func97.trans (congrArg some (by kernel_rfl))⟩
  t4 := Tryz.underlying4
  a4 := Tryz.isAgg4
  z4 := Tryz.sizeOf4
  v4 := Tryz.zeroValue4
  t22 := Tryz.underlying41
  a22 := Tryz.isAgg41
  z22 := Tryz.sizeOf41
  v22 := Tryz.zeroValue41 }
theorem cloneBind_f (A : Option Addr) (c : Nat) (xs : List TyBind) (lo hi : Nat) (w : World) (h : (Sh.row 151 shBind).R w lo hi [.slice A xs.length c] xs) (hhi : hi ≤ w.heap.size) (hf : (Sh.row 151 shBind).fit 1048576 xs) :
    Calls Tryz.prog 97 #[.slice A xs.length c] w fun e w' => ∃ (B : Option Addr) (d : Nat), e = .returned (.slice B xs.length d) ∧ Own (Sh.row 151 shBind) w' w.heap.size w'.heap.size [.slice B xs.length d] xs ∧ Below w.heap.size w w' := by
  obtain ⟨A', c', e, hg⟩ := h
  injection e with e _
  injection e with e1 e2 e3
  subst e1
  exact clone_flat (s := shBind) (ρ := laysBind_ren) laysBind infoBind (by rfl) (by decide) (by decide) flatBind A c xs lo hi w hg hhi hf.1

end Go.Proofs.YtlodlplfmpikjaaGreat
