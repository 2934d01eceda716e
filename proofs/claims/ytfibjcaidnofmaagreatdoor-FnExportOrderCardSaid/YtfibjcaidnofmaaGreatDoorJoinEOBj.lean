/- Putting a node to its place, by the reference: l03Own, l03At walked. -/
import Derived.Test.YtfibjcaidnofmaaGreatDoorJoinEOBh
namespace Go.Proofs.YtfibjcaidnofmaaGreatDoor
open Go.RowKit

theorem tw_at {α : Type} (p : α → Bool) : ∀ (l : List α) (k : Nat), (∀ j x, j < k → l[j]? = some x → p x = true) → (∀ x, l[k]? = some x → p x = false) → k ≤ l.length → l.takeWhile p = l.take k ∧ l.dropWhile p = l.drop k
  | [], k, _, _, hk => by simp
  | a :: l, 0, _, h2, _ => by
    have ha := h2 a rfl
    simp [ha]
  | a :: l, k + 1, h1, h2, hk => by
    have ha := h1 0 a (by omega) rfl
    obtain ⟨i1, i2⟩ := tw_at p l k (fun j x hj hx => h1 (j + 1) x (by omega) hx) (fun x hx => h2 x hx) (by simpa using hk)
    rw [List.takeWhile_cons, List.dropWhile_cons, ha, i1, i2]
    exact ⟨rfl, rfl⟩
def befK (key : ByteArray × List ByteArray) (y : TyNode) : Bool := befP (keyT y) key
def atK (ts : List TyNode) (key : ByteArray × List ByteArray) : Nat := (ts.takeWhile (befK key)).length
def hasK (ts : List TyNode) (key : ByteArray × List ByteArray) : Bool := match ts.dropWhile (befK key) with
  | [] => false
  | y :: _ => decide (keyT y = key)
theorem at_is {ts : List TyNode} {key : ByteArray × List ByteArray} {k : Nat} (h1 : ∀ j x, j < k → ts[j]? = some x → befK key x = true) (h2 : ∀ x, ts[k]? = some x → befK key x = false) (hk : k ≤ ts.length) :
    atK ts key = k ∧ hasK ts key = (match ts[k]? with | none => false | some y => decide (keyT y = key)) := by
  obtain ⟨e1, e2⟩ := tw_at (befK key) ts k h1 h2 hk
  refine ⟨by unfold atK; rw [e1, List.length_take]; omega, ?_⟩
  unfold hasK
  rw [e2]
  by_cases h : k < ts.length
  · rw [List.drop_eq_getElem_cons h, List.getElem?_eq_getElem h]
  · rw [List.drop_of_length_le (by omega), List.getElem?_eq_none (by omega)]
theorem atK_le (ts : List TyNode) (key : ByteArray × List ByteArray) : atK ts key ≤ ts.length ∧ (hasK ts key = true → atK ts key < ts.length) := by
  have h := congrArg List.length (split_while (befK key) ts)
  rw [List.length_append] at h
  refine ⟨by unfold atK; omega, fun hh => ?_⟩
  unfold hasK at hh
  unfold atK
  cases hd : ts.dropWhile (befK key) with
  | nil => rw [hd] at hh; cases hh
  | cons y r => rw [hd, List.length_cons] at h; omega
theorem put_is (ts : List TyNode) (x : TyNode) : insOne befP keyT ts x = ts.take (atK ts (keyT x)) ++ x :: ts.drop (if hasK ts (keyT x) then atK ts (keyT x) + 1 else atK ts (keyT x)) ∧ hasOne befP keyT ts x = hasK ts (keyT x) := by
  have hs := split_while (befK (keyT x)) ts
  have e1 : ts.take (atK ts (keyT x)) = ts.takeWhile (befK (keyT x)) := by unfold atK; conv => lhs; arg 2; rw [← hs]
                                                                           rw [List.take_append_of_le_length (Nat.le_refl _), List.take_length]
  have e2 : ts.drop (atK ts (keyT x)) = ts.dropWhile (befK (keyT x)) := by unfold atK; conv => lhs; arg 2; rw [← hs]
                                                                           rw [List.drop_append_of_le_length (Nat.le_refl _), List.drop_length, List.nil_append]
  have hh0 : hasOne befP keyT ts x = hasK ts (keyT x) := by
    unfold hasOne hasK
    cases hd : ts.dropWhile (fun y => befP (keyT y) (keyT x)) with
    | nil =>
      have hd' : ts.dropWhile (befK (keyT x)) = [] := hd
      rw [hd']
    | cons y r =>
      have hd' : ts.dropWhile (befK (keyT x)) = y :: r := hd
      rw [hd']
  refine ⟨?_, hh0⟩
  unfold insOne
  show ts.takeWhile (befK (keyT x)) ++ x :: insBehind keyT x (ts.dropWhile (befK (keyT x))) = _
  rw [e1]
  cases hd : ts.dropWhile (befK (keyT x)) with
  | nil =>
    have hh : hasK ts (keyT x) = false := by unfold hasK; rw [hd]
    rw [hh, if_neg Bool.false_ne_true, e2, hd]; rfl
  | cons y r =>
    have hh : hasK ts (keyT x) = decide (keyT y = keyT x) := by unfold hasK; rw [hd]
    rw [hd] at e2
    rw [hh]
    show _ ++ x :: (if keyT y = keyT x then r else y :: r) = _
    by_cases h : keyT y = keyT x
    · rw [if_pos h, decide_eq_true h, if_pos rfl, ← List.drop_drop, e2]; rfl
    · rw [if_neg h, decide_eq_false h, if_neg Bool.false_ne_true, e2]

theorem shNode_str1 {w : World} {lo hi : Nat} {y0 : ByteArray} {y1 : List ByteArray} {y2 : ByteArray} {A1 : Option Addr} {c1 : Nat} (h : shNode.R w lo hi [.string y0, .slice A1 y1.length c1, .string y2] (y0, y1, y2)) : StrR w lo hi A1 y1.length y1 := rowR_of (shNode_f1 h)
/-- What the walks ask of nodes: sizes. -/
def SmT (ts : List TyNode) : Prop := ts.length ≤ 1048576 ∧ ∀ x ∈ ts, x.2.1.length ≤ 1048576 ∧ ∀ y ∈ x.2.1, y.size ≤ 1048576

set_option maxHeartbeats 4000000 in
set_option maxRecDepth 100000 in
theorem l03Own_any (A : Option Addr) (c lo hi : Nat) (ts : List TyNode) (w : World) (h : RowG shNode w lo hi A ts) (hhi : hi ≤ w.heap.size) (hs : SmT ts) :
    Calls Tryz.prog 112 #[.slice A ts.length c] w fun e w' => (∃ B d, e = .returned (.slice B ts.length d) ∧ Own (Sh.row 32 shNode) w' w.heap.size w'.heap.size [.slice B ts.length d] ts) ∧ Below w.heap.size w w' := by
  have hn := hs.1
  have HS := Lib.hid hs.2
  have HR := Lib.hid (show (Sh.row 32 shNode).R w lo hi [.slice A ts.length c] ts from ⟨A, c, rfl, h⟩)
  have hb := (Below.refl w.heap.size w).alloc (Nat.le_refl _) (.cells #[] 32)
  have HB := Lib.hid hb
  have hz : (w.alloc (.cells #[] 32)).heap.size = w.heap.size + 1 := by simp
  have HZ := Lib.hid hz
  have HN := Lib.hid (show Own (Sh.row 32 shNode) (w.alloc (.cells #[] 32)) w.heap.size (w.alloc (.cells #[] 32)).heap.size [.slice (some ⟨w.heap.size, 0, none⟩) 0 0] [] from by
    obtain ⟨A', c', e, ho⟩ := Own.of_flat (s := shNode) (hi := (w.alloc (.cells #[] 32)).heap.size) (xs := []) (lit0_own (t := 32) (k := shNode.k) w w.heap.size (Nat.le_refl _)) rfl (Nat.le_refl _) (fun j hj => absurd hj (by simp))
    injection e with e1 e2 e3
    subst e1 e3; exact ho)
  clear hs h hb
  go_enter Tryz.func112, Tryz.ntmps112
  go_wp2_with fail
  generalize w.alloc (.cells #[] 32) = wa at *
  go_loopw [3, 4] (fun v i wr => ∃ (k : Nat) (B : Option Addr) (d : Nat), k ≤ ts.length ∧ i = .int .i64 k ∧ v = .slice B k d ∧ Own (Sh.row 32 shNode) wr w.heap.size wr.heap.size [.slice B k d] (ts.take k) ∧ Below w.heap.size wa wr) (fun _ i _ => ts.length - (intOf i).toNat)
  case atStart => exact ⟨0, _, _, Nat.zero_le _, rfl, rfl, HN.out, Below.refl _ _⟩
  case round =>
    obtain ⟨k, B, d, hk, rfl, rfl, hO, hb⟩ := hrel
    by_cases hlt : k < ts.length
    · have hbw := HB.out.trans hb
      obtain ⟨-, b, off, rfl, hb1, hb2, A1, c1, e100, e101, e102, hX⟩ := shNode_at ((Sh.row 32 shNode).R_below HR.out hbw hhi) hlt
      have HX := Lib.hid (HS.out _ (getD_in (d := shNode.d) hlt))
      have HTK := Lib.hid (take_succ_getD shNode hlt)
      generalize ts.getD k shNode.d = X at *
      obtain ⟨y0, y1, y2⟩ := X
      dsimp only at e100 e101 e102
      have hsz : w.heap.size ≤ wr.heap.size := hbw.size
      have hn1 : y1.length ≤ 1048576 := HX.out.1
      have HBW := Lib.hid (show Below w.heap.size w wr.drew from hbw.trans (below_drewN' wr 1 |>.mono hsz))
      have HBA := Lib.hid (show Below w.heap.size wa wr.drew from hb.trans (below_drewN' wr 1 |>.mono hsz))
      have HST := Lib.hid (show StrR wr.drew lo hi A1 y1.length y1 from (shNode_str1 hX).below (below_drewN' wr 1) (by omega))
      have HO := Lib.hid (show Own (Sh.row 32 shNode) wr.drew w.heap.size wr.drew.heap.size [.slice B k d] (ts.take k) from hO.below (below_drewN' wr 1) (Nat.le_refl _))
      have HC := Lib.hid (show wr.drew.cell? ⟨b, off + k * 3, none⟩ = some (.string y0) ∧ wr.drew.cell? ⟨b, off + k * 3 + 1, none⟩ = some (.slice A1 y1.length c1) ∧ wr.drew.cell? ⟨b, off + k * 3 + 2, none⟩ = some (.string y2) from ⟨e100, e101, e102⟩)
      have hszd : w.heap.size ≤ wr.drew.heap.size := hsz
      clear hX hO hb hbw e100 e101 e102
      go_wp2_with fail
      refine AnyT.region (fun _ => false) (fun W => W.cell? ⟨b, off + k * 3, none⟩ = some (.string y0) ∧ W.cell? ⟨b, off + k * 3 + 1, none⟩ = some (.slice A1 y1.length c1) ∧ W.cell? ⟨b, off + k * 3 + 2, none⟩ = some (.string y2)) (by kernel_rfl) HC.out (fun hHeld => ?_)
      generalize wr.drew = w4 at *
      ((refine AnyT.takeAny 0 12 ?_ rfl (by kernel_rfl) (by kernel_rfl) (by kernel_rfl) rfl rfl (fun _ _ _ _ h => h) rfl ?_ (by assumption) ?_); rotate_left; (intro w; go_simp; (try (with_reducible rfl))); simp only [Act.put, List.setIfInBounds_toArray, List.set_cons_zero, List.set_cons_succ])
      ((refine AnyT.takeAny 1 13 ?_ rfl (by kernel_rfl) (by kernel_rfl) (by kernel_rfl) rfl rfl (fun _ _ _ _ h => h) rfl ?_ (by assumption) ?_); rotate_left; (intro w; go_simp; (try (with_reducible rfl))); simp only [Act.put, List.setIfInBounds_toArray, List.set_cons_zero, List.set_cons_succ])
      ((refine AnyT.takeAny 2 14 ?_ rfl (by kernel_rfl) (by kernel_rfl) (by kernel_rfl) rfl rfl (fun _ _ _ _ h => h) rfl ?_ (by assumption) ?_); rotate_left; (intro w; go_simp; (try (with_reducible rfl))); simp only [Act.put, List.setIfInBounds_toArray, List.set_cons_zero, List.set_cons_succ])
      ((refine AnyT.takeAny 3 15 ?_ rfl (by kernel_rfl) (by kernel_rfl) (by kernel_rfl) rfl rfl (fun _ _ _ _ h => h) rfl ?_ (by assumption) ?_); rotate_left; (intro w; go_simp; (try (with_reducible rfl))); simp only [Act.put, List.setIfInBounds_toArray, List.set_cons_zero, List.set_cons_succ])
      ((refine AnyT.takeAny 4 16 ?_ rfl (by kernel_rfl) (by kernel_rfl) (by kernel_rfl) rfl rfl (fun _ _ _ _ h => h) rfl ?_ (by assumption) ?_); rotate_left; (intro w; go_simp; (try (with_reducible rfl))); simp only [Act.put, List.setIfInBounds_toArray, List.set_cons_zero, List.set_cons_succ])
      ((refine AnyT.take 5 17 ?_ rfl (by kernel_rfl) (by kernel_rfl) (by kernel_rfl) (by kernel_rfl) rfl (by kernel_rfl) rfl (fun _ _ _ _ h => h) rfl ?_ (by assumption) ?_); rotate_left; (intro w hSw; (try dsimp only at hSw); go_simp; (try (with_reducible rfl))); simp only [Act.put, List.setIfInBounds_toArray, List.set_cons_zero, List.set_cons_succ])
      ((refine AnyT.takeAny 6 18 ?_ rfl (by kernel_rfl) (by kernel_rfl) (by kernel_rfl) rfl rfl (fun _ _ _ _ h => h) rfl ?_ (by assumption) ?_); rotate_left; (intro w; go_simp; (try (with_reducible rfl))); simp only [Act.put, List.setIfInBounds_toArray, List.set_cons_zero, List.set_cons_succ])
      ((refine AnyT.takeAny 7 19 ?_ rfl (by kernel_rfl) (by kernel_rfl) (by kernel_rfl) rfl rfl (fun _ _ _ _ h => h) rfl ?_ (by assumption) ?_); rotate_left; (intro w; go_simp; (try (with_reducible rfl))); simp only [Act.put, List.setIfInBounds_toArray, List.set_cons_zero, List.set_cons_succ])
      ((refine AnyT.takeAny 8 20 ?_ rfl (by kernel_rfl) (by kernel_rfl) (by kernel_rfl) rfl rfl (fun _ _ _ _ h => h) rfl ?_ (by assumption) ?_); rotate_left; (intro w; go_simp; (try (with_reducible rfl))); simp only [Act.put, List.setIfInBounds_toArray, List.set_cons_zero, List.set_cons_succ])
      ((refine AnyT.takeAny 9 21 ?_ rfl (by kernel_rfl) (by kernel_rfl) (by kernel_rfl) rfl rfl (fun _ _ _ _ h => h) rfl ?_ (by assumption) ?_); rotate_left; (intro w; go_simp; (try (with_reducible rfl))); simp only [Act.put, List.setIfInBounds_toArray, List.set_cons_zero, List.set_cons_succ])
      ((refine AnyT.take 10 22 ?_ rfl (by kernel_rfl) (by kernel_rfl) (by kernel_rfl) (by kernel_rfl) rfl (by kernel_rfl) rfl (fun _ _ _ _ h => h) rfl ?_ (by assumption) ?_); rotate_left; (intro w hSw; (try dsimp only at hSw); go_simp; (try (with_reducible rfl))); simp only [Act.put, List.setIfInBounds_toArray, List.set_cons_zero, List.set_cons_succ])
      ((refine AnyT.takeAny 12 24 ?_ rfl (by kernel_rfl) (by kernel_rfl) (by kernel_rfl) rfl rfl (fun _ _ _ _ h => h) rfl ?_ (by assumption) ?_); rotate_left; (intro w; go_simp; (try (with_reducible rfl))); simp only [Act.put, List.setIfInBounds_toArray, List.set_cons_zero, List.set_cons_succ])
      ((refine AnyT.takeAny 13 25 ?_ rfl (by kernel_rfl) (by kernel_rfl) (by kernel_rfl) rfl rfl (fun _ _ _ _ h => h) rfl ?_ (by assumption) ?_); rotate_left; (intro w; go_simp; (try (with_reducible rfl))); simp only [Act.put, List.setIfInBounds_toArray, List.set_cons_zero, List.set_cons_succ])
      ((refine AnyT.takeAny 14 26 ?_ rfl (by kernel_rfl) (by kernel_rfl) (by kernel_rfl) rfl rfl (fun _ _ _ _ h => h) rfl ?_ (by assumption) ?_); rotate_left; (intro w; go_simp; (try (with_reducible rfl))); simp only [Act.put, List.setIfInBounds_toArray, List.set_cons_zero, List.set_cons_succ])
      ((refine AnyT.takeAny 15 27 ?_ rfl (by kernel_rfl) (by kernel_rfl) (by kernel_rfl) rfl rfl (fun _ _ _ _ h => h) rfl ?_ (by assumption) ?_); rotate_left; (intro w; go_simp; (try (with_reducible rfl))); simp only [Act.put, List.setIfInBounds_toArray, List.set_cons_zero, List.set_cons_succ])
      ((refine AnyT.take 16 28 ?_ rfl (by kernel_rfl) (by kernel_rfl) (by kernel_rfl) (by kernel_rfl) rfl (by kernel_rfl) rfl (fun _ _ _ _ h => h) rfl ?_ (by assumption) ?_); rotate_left; (intro w hSw; (try dsimp only at hSw); go_simp; (try (with_reducible rfl))); simp only [Act.put, List.setIfInBounds_toArray, List.set_cons_zero, List.set_cons_succ])
      ((refine AnyT.one (i := 11) (by kernel_rfl) rfl (fun K hK => ?_)))
      go_simp
      refine (l03Subs_any A1 c1 lo hi y1 w4 HST.out (by omega) hn1).mono ?_
      rintro e5 w5 ⟨⟨B5, d5, rfl, ho5⟩, hb5⟩
      go_simp
      have hs5 := hb5.size
      have HO5 := Lib.hid (HO.out.below hb5 (Nat.le_refl _))
      have HE5 := Lib.hid (show Own shNode w5 w4.heap.size w5.heap.size [.string y0, .slice B5 y1.length d5, .string y2] (y0, y1, y2) from Own.prod (Own.one w5 w4.heap.size w4.heap.size _) (Own.prod ho5 (Own.one w5 w5.heap.size w5.heap.size _) (by omega) (by omega) (by omega)) (by omega) (by omega) (by omega))
      have HBA5 := Lib.hid (HBA.out.trans (hb5.mono hszd))
      have hbl : b < w4.heap.size := by omega
      have HC5 := Lib.hid (show w5.cell? ⟨b, off + k * 3, none⟩ = some (.string y0) ∧ w5.cell? ⟨b, off + k * 3 + 1, none⟩ = some (.slice A1 y1.length c1) ∧ w5.cell? ⟨b, off + k * 3 + 2, none⟩ = some (.string y2) from ⟨(hb5.cell (p := ⟨b, _, none⟩) hbl).trans HC.out.1, (hb5.cell (p := ⟨b, _, none⟩) hbl).trans HC.out.2.1, (hb5.cell (p := ⟨b, _, none⟩) hbl).trans HC.out.2.2⟩)
      refine hK.out _ _ HC5.out (fun hHeld => ?_)
      clear hK K hb5 ho5
      (try simp only [Act.put, List.setIfInBounds_toArray, List.set_cons_zero, List.set_cons_succ])
      ((refine AnyT.takeAny 17 29 ?_ rfl (by kernel_rfl) (by kernel_rfl) (by kernel_rfl) rfl rfl (fun _ _ _ _ h => h) rfl ?_ (by assumption) ?_); rotate_left; (intro w; go_simp; (try (with_reducible rfl))); simp only [Act.put, List.setIfInBounds_toArray, List.set_cons_zero, List.set_cons_succ])
      ((refine AnyT.one (i := 18) (by kernel_rfl) rfl (fun K hK => ?_)))
      go_simp
      have hba := (Below.refl w5.heap.size w5).alloc (Nat.le_refl _) (.cells #[.string y0, .slice B5 y1.length d5, .string y2] 32)
      refine hK.out _ _ ⟨(hba.cell (p := ⟨b, _, none⟩) (by dsimp only; omega)).trans HC5.out.1, (hba.cell (p := ⟨b, _, none⟩) (by dsimp only; omega)).trans HC5.out.2.1, (hba.cell (p := ⟨b, _, none⟩) (by dsimp only; omega)).trans HC5.out.2.2⟩ (fun hHeld => ?_)
      clear hK K hba
      (try simp only [Act.put, List.setIfInBounds_toArray, List.set_cons_zero, List.set_cons_succ])
      ((refine AnyT.one (i := 19) (by kernel_rfl) rfl (fun K hK => ?_)))
      refine step_grow (s := shNode) rfl (.tmp 12) (.tmp 30) 24 rfl Tryz.underlying24 rfl (by decide) (by decide) infoNode w5 w.heap.size w4.heap.size w4.heap.size w5.heap.size B k d (ts.take k) [.string y0, .slice B5 y1.length d5, .string y2] (y0, y1, y2) rfl HO5.out HE5.out (Nat.le_refl _) hszd (Nat.le_refl _) (by omega) rfl (by omega) ?_
      intro B7 d7 w7 ho7 hb7 hs7 hk7
      rw [← HTK.out] at ho7
      have HO7 := Lib.hid ho7
      have HBA7 := Lib.hid (HBA5.out.trans hb7)
      have hbw2 : b < w.heap.size := by omega
      refine hK.out _ _ ⟨(hb7.cell (p := ⟨b, _, none⟩) hbw2).trans HC5.out.1, (hb7.cell (p := ⟨b, _, none⟩) hbw2).trans HC5.out.2.1, (hb7.cell (p := ⟨b, _, none⟩) hbw2).trans HC5.out.2.2⟩ (fun hHeld => ?_)
      clear hK K hb7 ho7 hk7
      (try simp only [Act.put, List.setIfInBounds_toArray, List.set_cons_zero, List.set_cons_succ])
      ((refine AnyT.takeAny 20 3 ?_ rfl (by kernel_rfl) (by kernel_rfl) (by kernel_rfl) rfl rfl (fun _ _ _ _ h => h) rfl ?_ (by assumption) ?_); rotate_left; (intro w; go_simp; (try (with_reducible rfl))); simp only [Act.put, List.setIfInBounds_toArray, List.set_cons_zero, List.set_cons_succ])
      refine AnyT.done (by kernel_rfl) ?_ _
      clear hHeld
      go_wp2_with fail
      go_roundw
      case rel => exact ⟨k + 1, B7, d7, by omega, by go_num, rfl, HO7.out, HBA7.out⟩
      case measure => simp [intOf]; omega
    · obtain rfl : k = ts.length := by omega
      rw [List.take_length] at hO
      have HO := Lib.hid hO
      have HBW := Lib.hid (HB.out.trans hb)
      clear hO hb
      go_wp2_with fail
      go_ret
      exact ⟨⟨B, d, rfl, HO.out⟩, HBW.out⟩

end Go.Proofs.YtfibjcaidnofmaaGreatDoor

/- Putting a node to its place, by the reference: l03At walked. -/
namespace Go.Proofs.YtfibjcaidnofmaaGreatDoor
open Go.RowKit

theorem bytes_same {a b : ByteArray} (h : a = b) : (a.toList == b.toList) = true := by subst h; simp
theorem bytes_other {a b : ByteArray} (h : a ≠ b) : (a.toList == b.toList) = false := by
  rw [beq_eq_false_iff_ne]
  intro e
  rw [ByteArray.toList_eq, ByteArray.toList_eq] at e
  refine h ?_
  cases a; cases b
  congr 1
  exact Array.toList_inj.1 e
theorem sameB_key (a b : ByteArray) (x y : List ByteArray) : (if a = b then sameB x y else false) = decide ((a, x) = (b, y)) := by
  by_cases h : a = b
  · subst h
    rw [if_pos rfl]
    unfold sameB
    by_cases h2 : x = y
    · subst h2; simp
    · rw [@decide_eq_false _ (Classical.propDecidable _) h2, decide_eq_false (fun e => h2 (by injection e))]
  · rw [if_neg h, decide_eq_false (fun e => h (by injection e))]

set_option maxHeartbeats 8000000 in
set_option maxRecDepth 100000 in
theorem l03At_any (A : Option Addr) (c lo hi : Nat) (ts : List TyNode) (nm : ByteArray) (B : Option Addr) (d lo' hi' : Nat) (ys : List ByteArray) (w : World) (h : RowG shNode w lo hi A ts) (hy : StrR w lo' hi' B ys.length ys) (hhi : hi ≤ w.heap.size) (hhi' : hi' ≤ w.heap.size) (hs : SmT ts)
    (hys : ys.length ≤ 1048576 ∧ ∀ y ∈ ys, y.size ≤ 1048576) :
    Calls Tryz.prog 53 #[.agg #[.slice A ts.length c], .string nm, .slice B ys.length d] w fun e w' => e = .returned (.tuple #[.int .i64 (atK ts (nm, ys) : Nat), .bool (hasK ts (nm, ys))]) ∧ Below w.heap.size w w' := by
  have hn := hs.1
  have hyn := hys.1
  have HS := Lib.hid hs.2
  have HYS := Lib.hid hys.2
  have HR := Lib.hid (show (Sh.row 32 shNode).R w lo hi [.slice A ts.length c] ts from ⟨A, c, rfl, h⟩)
  have HY := Lib.hid hy
  have hb := (Below.refl w.heap.size w).alloc (Nat.le_refl _) (.cells #[.slice A ts.length c] 26)
  have HBK := Lib.hid (Blk.new w 26 #[.slice A ts.length c])
  have HB := Lib.hid hb
  have HAT := Lib.hid (fun k => at_is (ts := ts) (key := (nm, ys)) (k := k))
  generalize atK ts (nm, ys) = AT at *
  generalize hasK ts (nm, ys) = HAS at *
  clear hs hys h hb hy
  go_enter Tryz.func53, Tryz.ntmps53
  go_wp2_with fail
  generalize w.alloc (.cells #[.slice A ts.length c] 26) = wa at *
  go_loopw [8] (fun i wr => ∃ (k : Nat), k ≤ ts.length ∧ i = .int .i64 k ∧ Hid (∀ j x, j < k → ts[j]? = some x → befK (nm, ys) x = true) ∧ Below wa.heap.size wa wr) (fun i _ => ts.length - (intOf i).toNat)
  case atStart => exact ⟨0, Nat.zero_le _, rfl, (fun j x hj => absurd hj (by omega)), Below.refl _ _⟩
  case round =>
    obtain ⟨k, hk, rfl, HLO, hb⟩ := hrel
    have hwa : w.heap.size ≤ wa.heap.size := HB.out.size
    have hpl : w.heap.size < wa.heap.size := HBK.out.lt
    by_cases hlt : k < ts.length
    · have hbw := HB.out.trans (hb.mono hwa)
      obtain ⟨-, b, off, rfl, hb1, hb2, A1, c1, e100, e101, e102, hX⟩ := shNode_at ((Sh.row 32 shNode).R_below HR.out hbw hhi) hlt
      have HX := Lib.hid (HS.out _ (getD_in (d := shNode.d) hlt))
      have hXk : ts[k]? = some (ts.getD k shNode.d) := by rw [List.getD_eq_getElem?_getD, List.getElem?_eq_getElem hlt]; rfl
      generalize ts.getD k shNode.d = X at *
      obtain ⟨y0, y1, y2⟩ := X
      dsimp only at e100 e101 e102
      have HXK := Lib.hid hXk
      have hn1 : y1.length ≤ 1048576 := HX.out.1
      have hszr := hb.size
      have HBD := Lib.hid (show Below wa.heap.size wa wr.drew from hb.trans (below_drewN' wr 1 |>.mono hszr))
      have HST := Lib.hid (show StrR wr.drew lo hi A1 y1.length y1 from (shNode_str1 hX).below (below_drewN' wr 1) (by omega))
      have HYD := Lib.hid (show StrR wr.drew lo' hi' B ys.length ys from (HY.out.below hbw hhi').below (below_drewN' wr 1) (by omega))
      have HC := Lib.hid (show (∀ i, wr.drew.cell? ⟨w.heap.size, i, none⟩ = (#[.slice (some ⟨b, off, none⟩) ts.length c] : Array Value)[i]?) ∧ wr.drew.cell? ⟨b, off + k * 3, none⟩ = some (.string y0) ∧ wr.drew.cell? ⟨b, off + k * 3 + 1, none⟩ = some (.slice A1 y1.length c1) from ⟨((HBK.out.below hb hpl).drewN 1).cell, e100, e101⟩)
      have hszd : wa.heap.size ≤ wr.drew.heap.size := hszr
      clear hX hb hbw e100 e101 e102 hXk
      go_wp2_with fail
      refine AnyT.region (fun _ => false) (fun W => (∀ i, W.cell? ⟨w.heap.size, i, none⟩ = (#[.slice (some ⟨b, off, none⟩) ts.length c] : Array Value)[i]?) ∧ W.cell? ⟨b, off + k * 3, none⟩ = some (.string y0) ∧ W.cell? ⟨b, off + k * 3 + 1, none⟩ = some (.slice A1 y1.length c1)) (by kernel_rfl) HC.out (fun hHeld => ?_)
      generalize wr.drew = w4 at *
      ((refine AnyT.takeAny 0 9 ?_ rfl (by kernel_rfl) (by kernel_rfl) (by kernel_rfl) rfl rfl (fun _ _ _ _ h => h) rfl ?_ (by assumption) ?_); rotate_left; (intro w; go_simp; (try (with_reducible rfl))); simp only [Act.put, List.setIfInBounds_toArray, List.set_cons_zero, List.set_cons_succ])
      ((refine AnyT.takeAny 1 10 ?_ rfl (by kernel_rfl) (by kernel_rfl) (by kernel_rfl) rfl rfl (fun _ _ _ _ h => h) rfl ?_ (by assumption) ?_); rotate_left; (intro w; go_simp; (try (with_reducible rfl))); simp only [Act.put, List.setIfInBounds_toArray, List.set_cons_zero, List.set_cons_succ])
      ((refine AnyT.take 2 11 ?_ rfl (by kernel_rfl) (by kernel_rfl) (by kernel_rfl) (by kernel_rfl) rfl (by kernel_rfl) rfl (fun _ _ _ _ h => h) rfl ?_ (by assumption) ?_); rotate_left; (intro w hSw; (try dsimp only at hSw); go_simp; (try (with_reducible rfl))); simp only [Act.put, List.setIfInBounds_toArray, List.set_cons_zero, List.set_cons_succ])
      ((refine AnyT.takeAny 3 12 ?_ rfl (by kernel_rfl) (by kernel_rfl) (by kernel_rfl) rfl rfl (fun _ _ _ _ h => h) rfl ?_ (by assumption) ?_); rotate_left; (intro w; go_simp; (try (with_reducible rfl))); simp only [Act.put, List.setIfInBounds_toArray, List.set_cons_zero, List.set_cons_succ])
      ((refine AnyT.takeAny 4 13 ?_ rfl (by kernel_rfl) (by kernel_rfl) (by kernel_rfl) rfl rfl (fun _ _ _ _ h => h) rfl ?_ (by assumption) ?_); rotate_left; (intro w; go_simp; (try (with_reducible rfl))); simp only [Act.put, List.setIfInBounds_toArray, List.set_cons_zero, List.set_cons_succ])
      ((refine AnyT.takeAny 5 14 ?_ rfl (by kernel_rfl) (by kernel_rfl) (by kernel_rfl) rfl rfl (fun _ _ _ _ h => h) rfl ?_ (by assumption) ?_); rotate_left; (intro w; go_simp; (try (with_reducible rfl))); simp only [Act.put, List.setIfInBounds_toArray, List.set_cons_zero, List.set_cons_succ])
      ((refine AnyT.takeAny 6 15 ?_ rfl (by kernel_rfl) (by kernel_rfl) (by kernel_rfl) rfl rfl (fun _ _ _ _ h => h) rfl ?_ (by assumption) ?_); rotate_left; (intro w; go_simp; (try (with_reducible rfl))); simp only [Act.put, List.setIfInBounds_toArray, List.set_cons_zero, List.set_cons_succ])
      ((refine AnyT.take 7 16 ?_ rfl (by kernel_rfl) (by kernel_rfl) (by kernel_rfl) (by kernel_rfl) rfl (by kernel_rfl) rfl (fun _ _ _ _ h => h) rfl ?_ (by assumption) ?_); rotate_left; (intro w hSw; (try dsimp only at hSw); go_simp; (try (with_reducible rfl))); simp only [Act.put, List.setIfInBounds_toArray, List.set_cons_zero, List.set_cons_succ])
      ((refine AnyT.takeAny 8 17 ?_ rfl (by kernel_rfl) (by kernel_rfl) (by kernel_rfl) rfl rfl (fun _ _ _ _ h => h) rfl ?_ (by assumption) ?_); rotate_left; (intro w; go_simp; (try (with_reducible rfl))); simp only [Act.put, List.setIfInBounds_toArray, List.set_cons_zero, List.set_cons_succ])
      ((refine AnyT.takeAny 9 18 ?_ rfl (by kernel_rfl) (by kernel_rfl) (by kernel_rfl) rfl rfl (fun _ _ _ _ h => h) rfl ?_ (by assumption) ?_); rotate_left; (intro w; go_simp; (try (with_reducible rfl))); simp only [Act.put, List.setIfInBounds_toArray, List.set_cons_zero, List.set_cons_succ])
      ((refine AnyT.takeAny 10 19 ?_ rfl (by kernel_rfl) (by kernel_rfl) (by kernel_rfl) rfl rfl (fun _ _ _ _ h => h) rfl ?_ (by assumption) ?_); rotate_left; (intro w; go_simp; (try (with_reducible rfl))); simp only [Act.put, List.setIfInBounds_toArray, List.set_cons_zero, List.set_cons_succ])
      ((refine AnyT.take 11 20 ?_ rfl (by kernel_rfl) (by kernel_rfl) (by kernel_rfl) (by kernel_rfl) rfl (by kernel_rfl) rfl (fun _ _ _ _ h => h) rfl ?_ (by assumption) ?_); rotate_left; (intro w hSw; (try dsimp only at hSw); go_simp; (try (with_reducible rfl))); simp only [Act.put, List.setIfInBounds_toArray, List.set_cons_zero, List.set_cons_succ])
      ((refine AnyT.takeAny 12 21 ?_ rfl (by kernel_rfl) (by kernel_rfl) (by kernel_rfl) rfl rfl (fun _ _ _ _ h => h) rfl ?_ (by assumption) ?_); rotate_left; (intro w; go_simp; (try (with_reducible rfl))); simp only [Act.put, List.setIfInBounds_toArray, List.set_cons_zero, List.set_cons_succ])
      ((refine AnyT.take 13 22 ?_ rfl (by kernel_rfl) (by kernel_rfl) (by kernel_rfl) (by kernel_rfl) rfl (by kernel_rfl) rfl (fun _ _ _ _ h => h) rfl ?_ (by assumption) ?_); rotate_left; (intro w hSw; (try dsimp only at hSw); go_simp; (try (with_reducible rfl))); simp only [Act.put, List.setIfInBounds_toArray, List.set_cons_zero, List.set_cons_succ])
      ((refine AnyT.takeAny 14 23 ?_ rfl (by kernel_rfl) (by kernel_rfl) (by kernel_rfl) rfl rfl (fun _ _ _ _ h => h) rfl ?_ (by assumption) ?_); rotate_left; (intro w; go_simp; (try (with_reducible rfl))); simp only [Act.put, List.setIfInBounds_toArray, List.set_cons_zero, List.set_cons_succ])
      ((refine AnyT.takeAny 15 24 ?_ rfl (by kernel_rfl) (by kernel_rfl) (by kernel_rfl) rfl rfl (fun _ _ _ _ h => h) rfl ?_ (by assumption) ?_); rotate_left; (intro w; go_simp; (try (with_reducible rfl))); simp only [Act.put, List.setIfInBounds_toArray, List.set_cons_zero, List.set_cons_succ])
      ((refine AnyT.takeAny 16 25 ?_ rfl (by kernel_rfl) (by kernel_rfl) (by kernel_rfl) rfl rfl (fun _ _ _ _ h => h) rfl ?_ (by assumption) ?_); rotate_left; (intro w; go_simp; (try (with_reducible rfl))); simp only [Act.put, List.setIfInBounds_toArray, List.set_cons_zero, List.set_cons_succ])
      ((refine AnyT.take 17 26 ?_ rfl (by kernel_rfl) (by kernel_rfl) (by kernel_rfl) (by kernel_rfl) rfl (by kernel_rfl) rfl (fun _ _ _ _ h => h) rfl ?_ (by assumption) ?_); rotate_left; (intro w hSw; (try dsimp only at hSw); go_simp; (try (with_reducible rfl))); simp only [Act.put, List.setIfInBounds_toArray, List.set_cons_zero, List.set_cons_succ])
      ((refine AnyT.takeAny 18 27 ?_ rfl (by kernel_rfl) (by kernel_rfl) (by kernel_rfl) rfl rfl (fun _ _ _ _ h => h) rfl ?_ (by assumption) ?_); rotate_left; (intro w; go_simp; (try (with_reducible rfl))); simp only [Act.put, List.setIfInBounds_toArray, List.set_cons_zero, List.set_cons_succ])
      ((refine AnyT.takeAny 19 28 ?_ rfl (by kernel_rfl) (by kernel_rfl) (by kernel_rfl) rfl rfl (fun _ _ _ _ h => h) rfl ?_ (by assumption) ?_); rotate_left; (intro w; go_simp; (try (with_reducible rfl))); simp only [Act.put, List.setIfInBounds_toArray, List.set_cons_zero, List.set_cons_succ])
      ((refine AnyT.one (i := 20) (by kernel_rfl) rfl (fun K hK => ?_)))
      go_simp
      refine (l03Less_any y0 nm A1 B y1.length ys.length c1 d lo hi lo' hi' y1 ys w4 HST.out HYD.out (by omega) (by omega) hn1 hyn HX.out.2 HYS.out).mono ?_
      rintro e5 w5 ⟨rfl, hb5⟩
      go_simp
      have hs5 := hb5.size
      have HBD5 := Lib.hid (HBD.out.trans (hb5.mono hszd))
      have hbl : b < w4.heap.size := by omega
      have hpl4 : w.heap.size < w4.heap.size := by omega
      have HC5 := Lib.hid (show (∀ i, w5.cell? ⟨w.heap.size, i, none⟩ = (#[.slice (some ⟨b, off, none⟩) ts.length c] : Array Value)[i]?) ∧ w5.cell? ⟨b, off + k * 3, none⟩ = some (.string y0) ∧ w5.cell? ⟨b, off + k * 3 + 1, none⟩ = some (.slice A1 y1.length c1) from
        ⟨fun i => (hb5.cell (p := ⟨w.heap.size, i, none⟩) hpl4).trans (HC.out.1 i), (hb5.cell (p := ⟨b, _, none⟩) hbl).trans HC.out.2.1, (hb5.cell (p := ⟨b, _, none⟩) hbl).trans HC.out.2.2⟩)
      have HS5 := Lib.hid (HST.out.below hb5 (by omega))
      have HY5 := Lib.hid (HYD.out.below hb5 (by omega))
      refine hK.out _ _ HC5.out (fun hHeld => ?_)
      clear hK K hb5
      (try simp only [Act.put, List.setIfInBounds_toArray, List.set_cons_zero, List.set_cons_succ])
      cases hL : befLoc y0 y1 nm ys with
      | true =>
        have HLO2 := Lib.hid (show ∀ j x, j < k + 1 → ts[j]? = some x → befK (nm, ys) x = true from fun j x hj hx => by
          rcases Nat.lt_or_ge j k with hjk | hjk
          · exact HLO.out j x hjk hx
          · obtain rfl : j = k := by omega
            rw [HXK.out] at hx
            injection hx with hx
            subst hx; exact hL)
        clear hL
        ((refine AnyT.takeAny 21 30 ?_ rfl (by kernel_rfl) (by kernel_rfl) (by kernel_rfl) rfl rfl (fun _ _ _ _ h => h) rfl ?_ (by assumption) ?_); rotate_left; (intro w; go_simp; (try (with_reducible rfl))); simp only [Act.put, List.setIfInBounds_toArray, List.set_cons_zero, List.set_cons_succ])
        refine AnyT.done (by kernel_rfl) ?_ _
        clear hHeld
        go_wp2_with fail
        go_roundw
        case rel => exact ⟨k + 1, by omega, by go_num, HLO2, HBD5.out⟩
        case measure => simp [intOf]; omega
      | false =>
        obtain ⟨a1, a2⟩ := HAT.out k HLO.out (fun x hx => by rw [HXK.out] at hx; injection hx with hx; subst hx; exact hL) hk
        rw [HXK.out] at a2
        have HA2 := Lib.hid (a2.trans (sameB_key y0 nm y1 ys).symm)
        have HA1 := Lib.hid a1
        clear hL a1 a2
        ((refine AnyT.takeAny 21 30 ?_ rfl (by kernel_rfl) (by kernel_rfl) (by kernel_rfl) rfl rfl (fun _ _ _ _ h => h) rfl ?_ (by assumption) ?_); rotate_left; (intro w; go_simp; (try (with_reducible rfl))); simp only [Act.put, List.setIfInBounds_toArray, List.set_cons_zero, List.set_cons_succ])
        refine AnyT.done (by kernel_rfl) ?_ _
        clear hHeld
        obtain ⟨f1, f2, f3⟩ := HC5.out
        have HBW := Lib.hid (HB.out.trans (HBD5.out.mono hwa))
        by_cases hnm : y0 = nm
        · have hq := bytes_same hnm
          have HA3 := Lib.hid (HA2.out.trans (if_pos hnm))
          clear hnm
          go_wp2_with fail
          refine (sameSubs_n A1 B c1 d y1 ys lo hi lo' hi' w5 HS5.out HY5.out (by omega) (by omega) hn1 hyn).mono ?_
          rintro e6 w6 ⟨rfl, hb6⟩
          have HB6 := Lib.hid (HBW.out.trans (hb6.mono HBW.out.size))
          clear hb6
          go_wp2_with fail
          go_ret2
          exact ⟨by rw [HA1.out, HA3.out]; rfl, HB6.out⟩
        · have hq := bytes_other hnm
          have HA3 := Lib.hid (HA2.out.trans (if_neg hnm))
          clear hnm
          go_wp2_with fail
          go_ret2
          exact ⟨by rw [HA1.out, HA3.out]; rfl, HBW.out⟩
    · obtain rfl : k = ts.length := by omega
      obtain ⟨a1, a2⟩ := HAT.out ts.length HLO.out (fun x hx => by rw [List.getElem?_eq_none (Nat.le_refl _)] at hx; cases hx) (Nat.le_refl _)
      rw [List.getElem?_eq_none (Nat.le_refl _)] at a2
      have HA1 := Lib.hid a1
      have HA2 := Lib.hid a2
      have hszr := hb.size
      have HBW := Lib.hid (show Below w.heap.size w wr.drew from HB.out.trans ((hb.trans (below_drewN' wr 1 |>.mono hszr)).mono hwa))
      have HC := Lib.hid (show (∀ i, wr.drew.cell? ⟨w.heap.size, i, none⟩ = (#[.slice A ts.length c] : Array Value)[i]?) from ((HBK.out.below hb hpl).drewN 1).cell)
      clear hb a1 a2
      go_wp2_with fail
      refine AnyT.region (fun _ => false) (fun W => (∀ i, W.cell? ⟨w.heap.size, i, none⟩ = (#[.slice A ts.length c] : Array Value)[i]?)) (by kernel_rfl) HC.out (fun hHeld => ?_)
      generalize wr.drew = w4 at *
      ((refine AnyT.takeAny 0 9 ?_ rfl (by kernel_rfl) (by kernel_rfl) (by kernel_rfl) rfl rfl (fun _ _ _ _ h => h) rfl ?_ (by assumption) ?_); rotate_left; (intro w; go_simp; (try (with_reducible rfl))); simp only [Act.put, List.setIfInBounds_toArray, List.set_cons_zero, List.set_cons_succ])
      ((refine AnyT.takeAny 1 10 ?_ rfl (by kernel_rfl) (by kernel_rfl) (by kernel_rfl) rfl rfl (fun _ _ _ _ h => h) rfl ?_ (by assumption) ?_); rotate_left; (intro w; go_simp; (try (with_reducible rfl))); simp only [Act.put, List.setIfInBounds_toArray, List.set_cons_zero, List.set_cons_succ])
      ((refine AnyT.take 2 11 ?_ rfl (by kernel_rfl) (by kernel_rfl) (by kernel_rfl) (by kernel_rfl) rfl (by kernel_rfl) rfl (fun _ _ _ _ h => h) rfl ?_ (by assumption) ?_); rotate_left; (intro w hSw; (try dsimp only at hSw); go_simp; (try (with_reducible rfl))); simp only [Act.put, List.setIfInBounds_toArray, List.set_cons_zero, List.set_cons_succ])
      ((refine AnyT.takeAny 3 12 ?_ rfl (by kernel_rfl) (by kernel_rfl) (by kernel_rfl) rfl rfl (fun _ _ _ _ h => h) rfl ?_ (by assumption) ?_); rotate_left; (intro w; go_simp; (try (with_reducible rfl))); simp only [Act.put, List.setIfInBounds_toArray, List.set_cons_zero, List.set_cons_succ])
      ((refine AnyT.takeAny 4 13 ?_ rfl (by kernel_rfl) (by kernel_rfl) (by kernel_rfl) rfl rfl (fun _ _ _ _ h => h) rfl ?_ (by assumption) ?_); rotate_left; (intro w; go_simp; (try (with_reducible rfl))); simp only [Act.put, List.setIfInBounds_toArray, List.set_cons_zero, List.set_cons_succ])
      ((refine AnyT.takeAny 5 14 ?_ rfl (by kernel_rfl) (by kernel_rfl) (by kernel_rfl) rfl rfl (fun _ _ _ _ h => h) rfl ?_ (by assumption) ?_); rotate_left; (intro w; go_simp; (try (with_reducible rfl))); simp only [Act.put, List.setIfInBounds_toArray, List.set_cons_zero, List.set_cons_succ])
      refine AnyT.sk 6 15 ?_
      simp only [Act.put, List.setIfInBounds_toArray, List.set_cons_zero, List.set_cons_succ]
      refine AnyT.sk 7 16 ?_
      simp only [Act.put, List.setIfInBounds_toArray, List.set_cons_zero, List.set_cons_succ]
      refine AnyT.sk 8 17 ?_
      simp only [Act.put, List.setIfInBounds_toArray, List.set_cons_zero, List.set_cons_succ]
      refine AnyT.sk 9 18 ?_
      simp only [Act.put, List.setIfInBounds_toArray, List.set_cons_zero, List.set_cons_succ]
      refine AnyT.sk 10 19 ?_
      simp only [Act.put, List.setIfInBounds_toArray, List.set_cons_zero, List.set_cons_succ]
      refine AnyT.sk 11 20 ?_
      simp only [Act.put, List.setIfInBounds_toArray, List.set_cons_zero, List.set_cons_succ]
      refine AnyT.sk 12 21 ?_
      simp only [Act.put, List.setIfInBounds_toArray, List.set_cons_zero, List.set_cons_succ]
      refine AnyT.sk 13 22 ?_
      simp only [Act.put, List.setIfInBounds_toArray, List.set_cons_zero, List.set_cons_succ]
      refine AnyT.sk 14 23 ?_
      simp only [Act.put, List.setIfInBounds_toArray, List.set_cons_zero, List.set_cons_succ]
      refine AnyT.sk 15 24 ?_
      simp only [Act.put, List.setIfInBounds_toArray, List.set_cons_zero, List.set_cons_succ]
      refine AnyT.sk 16 25 ?_
      simp only [Act.put, List.setIfInBounds_toArray, List.set_cons_zero, List.set_cons_succ]
      refine AnyT.sk 17 26 ?_
      simp only [Act.put, List.setIfInBounds_toArray, List.set_cons_zero, List.set_cons_succ]
      refine AnyT.sk 18 27 ?_
      simp only [Act.put, List.setIfInBounds_toArray, List.set_cons_zero, List.set_cons_succ]
      refine AnyT.sk 19 28 ?_
      simp only [Act.put, List.setIfInBounds_toArray, List.set_cons_zero, List.set_cons_succ]
      refine AnyT.sk 20 29 ?_
      simp only [Act.put, List.setIfInBounds_toArray, List.set_cons_zero, List.set_cons_succ]
      ((refine AnyT.takeAny 21 30 ?_ rfl (by kernel_rfl) (by kernel_rfl) (by kernel_rfl) rfl rfl (fun _ _ _ _ h => h) rfl ?_ (by assumption) ?_); rotate_left; (intro w; go_simp; (try (with_reducible rfl))); simp only [Act.put, List.setIfInBounds_toArray, List.set_cons_zero, List.set_cons_succ])
      refine AnyT.done (by kernel_rfl) ?_ _
      clear hHeld
      have f1 := HC.out
      go_wp2_with fail
      go_ret2
      exact ⟨by rw [HA1.out, HA2.out]; rfl, HBW.out⟩

end Go.Proofs.YtfibjcaidnofmaaGreatDoor
