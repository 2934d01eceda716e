/- Both sides' comparisons: what they answer, plainly. -/
import Derived.Test.YtfibjcaidnofmaaGreatDoorJoinEOBb
import Derived.Test.YtfibjcaidnofmaaGreatDoorJoinEOAp
import Derived.Test.YtfibjcaidnofmaaGreatDoorJoinEOBd
import Derived.Test.YtfibjcaidnofmaaGreatDoorJoinEOAr
import Derived.Test.YtfibjcaidnofmaaGreatDoorJoinEOAd
namespace Go.Proofs.YtfibjcaidnofmaaGreatDoor
open Go.RowKit

section
variable {α : Type} {d : α} {xs ys : List α} {k : Nat}
theorem take_step (h : xs.take k = ys.take k) (hk : k < xs.length) (hl : xs.length = ys.length) (he : xs.getD k d = ys.getD k d) : xs.take (k + 1) = ys.take (k + 1) := by
  have h2 := List.take_succ_eq_append_getElem (l := ys) (i := k) (by omega)
  rw [List.take_succ_eq_append_getElem hk, h2, h]
  rw [List.getD_eq_getElem?_getD, List.getD_eq_getElem?_getD, List.getElem?_eq_getElem hk, List.getElem?_eq_getElem (by omega)] at he
  have h3 : xs[k] = ys[k] := by simpa using he
  rw [h3]
theorem take_all (h : xs.take xs.length = ys.take xs.length) (hl : xs.length = ys.length) : xs = ys := by
  rwa [List.take_length, hl, List.take_length] at h
theorem ne_of_len (h : ¬ xs.length = ys.length) : xs ≠ ys := fun e => h (by rw [e])
theorem ne_at (he : ¬ xs.getD k d = ys.getD k d) : xs ≠ ys := fun e => he (by rw [e])
end
/-- The two are the same. -/
noncomputable def sameB {α : Type} (x y : α) : Bool := @decide (x = y) (Classical.propDecidable _)
theorem same_f {α : Type} {x y : α} (h : ¬ x = y) : sameB x y = false := @decide_eq_false _ (Classical.propDecidable _) h
theorem same_t {α : Type} {x y : α} (h : x = y) : sameB x y = true := @decide_eq_true _ (Classical.propDecidable _) h
theorem nf {α β : Type} (f : α → β) {x y : α} {a : Bool} (h : Hid (a = sameB x y)) (hne : ¬ f x = f y) : Hid (a = false) := Lib.hid (h.out.trans (same_f fun e => hne (congrArg f e)))
theorem str_ne {x y : ByteArray} (h : ¬ x = y) : (x.toList == y.toList) = false := by
  rw [beq_eq_false_iff_ne]
  exact fun e => h (bytes_toList_inj.1 e)

end Go.Proofs.YtfibjcaidnofmaaGreatDoor

/- Comparisons of rows of texts and numbers, both sides. Printed by gen_same.py. -/
namespace Go.Proofs.YtfibjcaidnofmaaGreatDoor
open Go.RowKit
set_option maxHeartbeats 4000000 in
set_option maxRecDepth 100000 in
theorem l02Same_r (A B : Option Addr) (c d : Nat) (xs ys : List ByteArray) (lo hi lo' hi' : Nat) (w : World) (h : (Sh.row 9 shS).R w lo hi [.slice A xs.length c] xs) (h' : (Sh.row 9 shS).R w lo' hi' [.slice B ys.length d] ys) (hhi : hi ≤ w.heap.size) (hhi' : hi' ≤ w.heap.size) (hn : xs.length ≤ 4294967296) (_hm : ys.length ≤ 4294967296) :
    Calls Tryz.prog 36 #[.slice A xs.length c, .slice B ys.length d] w fun e w' => e = .returned (.bool (sameB xs ys)) ∧ Below w.heap.size w w' := by
  by_cases hl : xs.length = ys.length
  · have HA := Lib.hid h; have HA' := Lib.hid h'; have HL := Lib.hid hl
    rw [← hl] at HA' ⊢
    clear h h' _hm hl
    go_enter Tryz.func36, Tryz.ntmps36
    go_wp2_with fail
    go_loopw [5] (fun i wr => ∃ k : Nat, k ≤ xs.length ∧ i = .int .i64 k ∧ Hid (xs.take k = ys.take k) ∧ Below w.heap.size w wr) (fun i _ => xs.length - (intOf i).toNat)
    case atStart => exact ⟨0, Nat.zero_le _, rfl, Lib.hid rfl, Below.refl _ _⟩
    case round =>
      obtain ⟨k, hk, rfl, htk, hb⟩ := hrel
      by_cases hlt : k < xs.length
      · obtain ⟨b, off, rfl, hb1, hb2, us, hc, hX⟩ := row_at ((Sh.row 9 shS).R_below HA.out hb hhi) hlt
        obtain ⟨b', off', rfl, hb1', hb2', us', hc', hX'⟩ := row_at ((Sh.row 9 shS).R_below HA'.out hb hhi') hlt
        have HST := Lib.hid (fun he => take_step (d := shS.d) htk.out hlt HL.out he)
        have HNE := Lib.hid (fun he => ne_at (xs := xs) (ys := ys) (d := shS.d) (k := k) he)
        obtain rfl := (show us = [.string (xs.getD k shS.d)] from hX)
        obtain rfl := (show us' = [.string (ys.getD k shS.d)] from hX')
        have e1 := rng_one (rng_of hc); have e2 := rng_one (rng_of hc')
        simp only [show shS.k = 1 from rfl, Nat.mul_one] at e1 e2
        have HD := Lib.hid hb.drew
        clear hc hc' hX hX' htk
        generalize xs.getD k shS.d = X at *
        generalize ys.getD k shS.d = Y at *
        go_upto_region 6 with fail
        refine AnyT.region (fun _ => false) (fun W => W.cell? ⟨b, off + k, none⟩ = some (.string X) ∧ W.cell? ⟨b', off' + k, none⟩ = some (.string Y)) (by kernel_rfl) ⟨e1, e2⟩ (fun hHeld => ?_)
        generalize wr.drew = w4 at *
        clear e1 e2
        ((refine AnyT.takeAny 0 17 ?_ rfl (by kernel_rfl) (by kernel_rfl) (by kernel_rfl) rfl rfl (fun _ _ _ _ h => h) rfl ?_ (by assumption) ?_); rotate_left; (intro w; go_simp; (try (with_reducible rfl))); simp only [Act.put, List.setIfInBounds_toArray, List.set_cons_zero, List.set_cons_succ])
        ((refine AnyT.takeAny 1 18 ?_ rfl (by kernel_rfl) (by kernel_rfl) (by kernel_rfl) rfl rfl (fun _ _ _ _ h => h) rfl ?_ (by assumption) ?_); rotate_left; (intro w; go_simp; (try (with_reducible rfl))); simp only [Act.put, List.setIfInBounds_toArray, List.set_cons_zero, List.set_cons_succ])
        ((refine AnyT.takeAny 2 19 ?_ rfl (by kernel_rfl) (by kernel_rfl) (by kernel_rfl) rfl rfl (fun _ _ _ _ h => h) rfl ?_ (by assumption) ?_); rotate_left; (intro w; go_simp; (try (with_reducible rfl))); simp only [Act.put, List.setIfInBounds_toArray, List.set_cons_zero, List.set_cons_succ])
        ((refine AnyT.take 3 20 ?_ rfl (by kernel_rfl) (by kernel_rfl) (by kernel_rfl) (by kernel_rfl) rfl (by kernel_rfl) rfl (fun _ _ _ _ h => h) rfl ?_ (by assumption) ?_); rotate_left; (intro w hSw; (try dsimp only at hSw); go_simp; (try (with_reducible rfl))); simp only [Act.put, List.setIfInBounds_toArray, List.set_cons_zero, List.set_cons_succ])
        ((refine AnyT.takeAny 4 21 ?_ rfl (by kernel_rfl) (by kernel_rfl) (by kernel_rfl) rfl rfl (fun _ _ _ _ h => h) rfl ?_ (by assumption) ?_); rotate_left; (intro w; go_simp; (try (with_reducible rfl))); simp only [Act.put, List.setIfInBounds_toArray, List.set_cons_zero, List.set_cons_succ])
        ((refine AnyT.takeAny 5 22 ?_ rfl (by kernel_rfl) (by kernel_rfl) (by kernel_rfl) rfl rfl (fun _ _ _ _ h => h) rfl ?_ (by assumption) ?_); rotate_left; (intro w; go_simp; (try (with_reducible rfl))); simp only [Act.put, List.setIfInBounds_toArray, List.set_cons_zero, List.set_cons_succ])
        ((refine AnyT.takeAny 6 23 ?_ rfl (by kernel_rfl) (by kernel_rfl) (by kernel_rfl) rfl rfl (fun _ _ _ _ h => h) rfl ?_ (by assumption) ?_); rotate_left; (intro w; go_simp; (try (with_reducible rfl))); simp only [Act.put, List.setIfInBounds_toArray, List.set_cons_zero, List.set_cons_succ])
        ((refine AnyT.take 7 24 ?_ rfl (by kernel_rfl) (by kernel_rfl) (by kernel_rfl) (by kernel_rfl) rfl (by kernel_rfl) rfl (fun _ _ _ _ h => h) rfl ?_ (by assumption) ?_); rotate_left; (intro w hSw; (try dsimp only at hSw); go_simp; (try (with_reducible rfl))); simp only [Act.put, List.setIfInBounds_toArray, List.set_cons_zero, List.set_cons_succ])
        ((refine AnyT.takeAny 8 25 ?_ rfl (by kernel_rfl) (by kernel_rfl) (by kernel_rfl) rfl rfl (fun _ _ _ _ h => h) rfl ?_ (by assumption) ?_); rotate_left; (intro w; go_simp; (try (with_reducible rfl))); simp only [Act.put, List.setIfInBounds_toArray, List.set_cons_zero, List.set_cons_succ])
        refine AnyT.done (by kernel_rfl) ?_ _
        clear hHeld
        by_cases hxy : X = Y
        · subst hxy
          have hq : (!X.toList == X.toList) = false := by simp
          (try rw [hq])
          go_wp2_with fail
          go_roundw
          case rel => exact ⟨k + 1, by omega, by go_num, Lib.hid (HST.out rfl), HD.out⟩
          case measure => simp [intOf]; omega
        · have hne := str_ne hxy
          have hne2 : (!X.toList == Y.toList) = true := by rw [hne]; rfl
          have HF := Lib.hid (same_f (HNE.out hxy))
          clear hxy HST HNE
          (try rw [hne2])
          go_wp2_with fail
          go_ret
          exact ⟨by rw [HF.out]; rfl, HD.out⟩
      · obtain rfl : k = xs.length := by omega
        have HB := Lib.hid hb; have HT := Lib.hid (same_t (take_all htk.out HL.out)); clear hb htk
        go_wp2_with fail
        go_ret
        exact ⟨by rw [HT.out]; rfl, HB.out⟩
  · have hf := Lib.hid (same_f (ne_of_len hl))
    have n1 : ((xs.length : Int) == (ys.length : Int)) = false := by rw [beq_eq_false_iff_ne]; omega
    have n2 : ((xs.length : Int) != (ys.length : Int)) = true := by rw [bne_iff_ne]; omega
    clear hl h h'
    go_enter Tryz.func36, Tryz.ntmps36
    go_wp2_with fail
    go_ret
    exact ⟨by rw [hf.out]; rfl, Below.refl _ _⟩

end Go.Proofs.YtfibjcaidnofmaaGreatDoor

/- The reference's reading of a tree's text, walked: its lines, the number announced, SameSubs. -/
namespace Go.Proofs.YtfibjcaidnofmaaGreatDoor
open Go.RowKit

set_option maxHeartbeats 4000000 in
set_option maxRecDepth 100000 in
theorem sameSubs_n (A B : Option Addr) (c d : Nat) (xs ys : List ByteArray) (lo hi lo' hi' : Nat) (w : World) (h : StrR w lo hi A xs.length xs) (h' : StrR w lo' hi' B ys.length ys) (hhi : hi ≤ w.heap.size) (hhi' : hi' ≤ w.heap.size) (hn : xs.length ≤ 1048576) (hm : ys.length ≤ 1048576) :
    Calls Tryz.prog 11 #[.slice A xs.length c, .slice B ys.length d] w fun e w' => e = .returned (.bool (sameB xs ys)) ∧ Below w.heap.size w w' := by
  have HC := Lib.hid (l02Same_r A B c d xs ys lo hi lo' hi' w (of_rowR h) (of_rowR h') hhi hhi' (by omega) (by omega))
  generalize sameB xs ys = ANS at *
  clear h h'
  go_enter Tryz.func11, Tryz.ntmps11
  go_wp2_with fail
  refine HC.out.mono ?_
  rintro e1 w1 ⟨rfl, hb1⟩
  have HB := Lib.hid hb1; clear hb1 HC
  go_wp2_with fail
  go_ret
  exact ⟨rfl, HB.out⟩

/-- The lines up to place i: the current one began at place f. -/
structure LinR (s : ByteArray) (i f : Nat) (ls : List ByteArray) : Prop where
  fi : f ≤ i
  is : i ≤ s.size
  eq : (s.data.toList.take i).foldl stepL ([], []) = (ls.map fun x => x.data.toList, (s.extract f i).data.toList)
  few : ls.length ≤ i
theorem LinR.start (s : ByteArray) : LinR s 0 0 [] := ⟨Nat.le_refl _, Nat.zero_le _, by simp, Nat.le_refl _⟩
theorem list_take_succ (s : ByteArray) (i : Nat) (h : i < s.size) : s.data.toList.take (i + 1) = s.data.toList.take i ++ [s[i]] := take_snoc' _ _ _ (get_list s i h)
theorem ext_snoc (s : ByteArray) (f i : Nat) (hf : f ≤ i) (h : i < s.size) : (s.extract f (i + 1)).data.toList = (s.extract f i).data.toList ++ [s[i]] := by
  rw [ByteArray.data_extract, ByteArray.data_extract, Array.toList_extract, Array.toList_extract, List.extract_eq_take_drop, List.extract_eq_take_drop]
  have hlen : s.data.toList.length = s.size := by simp
  rw [show i + 1 - f = (i - f) + 1 by omega]
  refine take_snoc' _ _ _ ?_
  rw [List.getElem?_drop, show f + (i - f) = i by omega]
  exact get_list s i h
theorem LinR.in_ {s : ByteArray} {i f : Nat} {ls : List ByteArray} (h : LinR s i f ls) (hi : i < s.size) (hc : s[i] ≠ 10) : LinR s (i + 1) f ls := by
  obtain ⟨h1, h2, h3, h4⟩ := h
  refine ⟨by omega, hi, ?_, by omega⟩
  rw [list_take_succ s i hi, List.foldl_append, h3, List.foldl_cons, List.foldl_nil, stepL_in _ hc, ext_snoc s f i h1 hi]
theorem LinR.done {s : ByteArray} {f : Nat} {ls : List ByteArray} (h : LinR s s.size f ls) : (linesP s.data.toList).1.map mkB = ls ∧ decide ((linesP s.data.toList).2 = []) = (f == s.size) := by
  have h3 := h.eq
  rw [List.take_of_length_le (by simp)] at h3
  unfold linesP
  rw [h3]
  refine ⟨?_, ?_⟩
  · rw [List.map_map]
    conv => rhs; rw [← List.map_id ls]
    exact List.map_congr_left fun x _ => mkB_data x
  · have hl : (s.extract f s.size).data.toList.length = s.size - f := by
      rw [Array.length_toList]
      show (s.extract f s.size).size = _
      rw [ByteArray.size_extract, Nat.min_self]
    have := h.fi
    by_cases e : f = s.size
    · rw [decide_eq_true (List.eq_nil_of_length_eq_zero (by rw [hl]; omega)), e]; simp
    · rw [decide_eq_false (fun hn => by have hn' : (s.extract f s.size).data.toList = [] := hn; rw [hn'] at hl; simp at hl; omega)]
      symm; rw [beq_eq_false_iff_ne]; exact e

theorem byte_ten {c : UInt8} (h : c = 10) : ((c.toNat : Int) == 10) = true := by subst h; rfl
theorem byte_not_ten {c : UInt8} (h : c ≠ 10) : ((c.toNat : Int) == 10) = false := by
  rw [beq_eq_false_iff_ne]
  intro e
  exact h (UInt8.toNat_inj.1 (by have : c.toNat = 10 := by omega
                                 rw [this]; rfl))

end Go.Proofs.YtfibjcaidnofmaaGreatDoor

/- The library's stable sort at nodes walked: swapRange (printed by wip/gen_srt.py). -/
namespace Go.Proofs.YtfibjcaidnofmaaGreatDoor
open Go.RowKit
open Go.Sort hiding Below

abbrev cmpV : Value := .func (.func 46) #[] #[]
variable {T : World → Prop}

set_option maxHeartbeats 4000000 in
set_option maxRecDepth 100000 in
theorem swapRange_any (w0 w : World) (g c a b n : Nat) (d : Array ElN) (h : LotN T w0 w g c d) (hab : a + n ≤ b) (hb : b + n ≤ d.size) :
    Calls Tryz.prog 220 #[.slice (some ⟨g, 0, none⟩) d.size c, .int .i64 a, .int .i64 b, .int .i64 n, cmpV] w fun e w' => e = .returned (.tuple #[]) ∧ w.heap.size ≤ w'.heap.size ∧ ∃ d1, LotN T w0 w' g c d1 ∧ SwpR a b d n d1 := by
  have HL := Lib.hid h
  have hN := h.few
  clear h
  go_enter Tryz.func220, Tryz.ntmps220
  go_wp2_with fail
  go_loopw [10] (fun i wr => ∃ (k : Nat) (e : Array ElN), k ≤ n ∧ i = .int .i64 k ∧ LotN T w0 wr g c e ∧ SwpR a b d k e ∧ w.heap.size ≤ wr.heap.size) (fun i _ => n - (intOf i).toNat)
  case atStart => exact ⟨0, d, Nat.zero_le _, rfl, HL.out, SwpR.start a b d, Nat.le_refl _⟩
  case round =>
    obtain ⟨k, e, hk, rfl, hLe, hR, hsz⟩ := hrel
    by_cases hlt : k < n
    · have hes := hR.size
      obtain ⟨p, hpe⟩ : ∃ p, p = a + k := ⟨_, rfl⟩
      obtain ⟨q, hqe⟩ : ∃ q, q = b + k := ⟨_, rfl⟩
      have hp : p < e.size := by omega
      have hq : q < e.size := by omega
      have hp' : p < d.size := by omega
      have hq' : q < d.size := by omega
      have HR := Lib.hid (show SwpR a b d (k + 1) (swp e p q) by rw [hpe, hqe]; exact hR.step hlt hab hb)
      have hpz : (a : Int) + (k : Int) = (p : Int) := by omega
      have hqz : (b : Int) + (k : Int) = (q : Int) := by omega
      clear hpe hqe
      obtain ⟨xp, xq, hpr⟩ := LotN.pair (show LotN T w0 wr.drew g c e from hLe.below (below_drewN' wr 1)) hp hq
      have HD := Lib.hid hpr
      have i1 : (k : Int) < (n : Int) := by omega
      have hszd : w.heap.size ≤ wr.drew.heap.size := hsz
      clear hLe hR hpr
      go_wp2_with fail
      refine AnyT.region (fun i => i == 21 || i == 23) (fun W => W.rangeAt g (p * 3) xp ∧ W.rangeAt g (q * 3) xq) (by kernel_rfl) ⟨HD.out.ri, HD.out.rj⟩ (fun hHeld => ?_)
      generalize wr.drew = w4 at *
      ((refine AnyT.takeAny 0 16 ?_ rfl (by kernel_rfl) (by kernel_rfl) (by kernel_rfl) rfl rfl (fun _ _ _ _ h => h) rfl ?_ (by assumption) ?_); rotate_left; (intro w; go_simp; (try (with_reducible rfl))); simp only [Act.put, List.setIfInBounds_toArray, List.set_cons_zero, List.set_cons_succ])
      ((refine AnyT.takeAny 1 17 ?_ rfl (by kernel_rfl) (by kernel_rfl) (by kernel_rfl) rfl rfl (fun _ _ _ _ h => h) rfl ?_ (by assumption) ?_); rotate_left; (intro w; go_simp; (try (with_reducible rfl))); simp only [Act.put, List.setIfInBounds_toArray, List.set_cons_zero, List.set_cons_succ])
      ((refine AnyT.takeAny 2 18 ?_ rfl (by kernel_rfl) (by kernel_rfl) (by kernel_rfl) rfl rfl (fun _ _ _ _ h => h) rfl ?_ (by assumption) ?_); rotate_left; (intro w; go_simp; (try (with_reducible rfl))); simp only [Act.put, List.setIfInBounds_toArray, List.set_cons_zero, List.set_cons_succ])
      refine AnyT.takeAny 3 19 (.int .i64 ((p : Nat) : Int)) rfl (by kernel_rfl) (by kernel_rfl) (by kernel_rfl) rfl rfl (fun _ _ _ _ h => h) rfl (fun W => by go_simp; (try (first | (with_reducible rfl) | (rw [IntKind.wrap_i64]; omega) | (congr 1; omega) | (congr 2; omega) | (congr 3; omega) | (congr 4; omega) | (congr 5; omega)))) (by assumption) ?_
      simp only [Act.put, List.setIfInBounds_toArray, List.set_cons_zero, List.set_cons_succ]
      ((refine AnyT.takeAny 4 20 ?_ rfl (by kernel_rfl) (by kernel_rfl) (by kernel_rfl) rfl rfl (fun _ _ _ _ h => h) rfl ?_ (by assumption) ?_); rotate_left; (intro w; go_simp; (try (with_reducible rfl))); simp only [Act.put, List.setIfInBounds_toArray, List.set_cons_zero, List.set_cons_succ])
      ((refine AnyT.takeAny 5 21 ?_ rfl (by kernel_rfl) (by kernel_rfl) (by kernel_rfl) rfl rfl (fun _ _ _ _ h => h) rfl ?_ (by assumption) ?_); rotate_left; (intro w; go_simp; (try (with_reducible rfl))); simp only [Act.put, List.setIfInBounds_toArray, List.set_cons_zero, List.set_cons_succ])
      ((refine AnyT.takeAny 6 22 ?_ rfl (by kernel_rfl) (by kernel_rfl) (by kernel_rfl) rfl rfl (fun _ _ _ _ h => h) rfl ?_ (by assumption) ?_); rotate_left; (intro w; go_simp; (try (with_reducible rfl))); simp only [Act.put, List.setIfInBounds_toArray, List.set_cons_zero, List.set_cons_succ])
      refine AnyT.takeAny 7 23 (.int .i64 ((q : Nat) : Int)) rfl (by kernel_rfl) (by kernel_rfl) (by kernel_rfl) rfl rfl (fun _ _ _ _ h => h) rfl (fun W => by go_simp; (try (first | (with_reducible rfl) | (rw [IntKind.wrap_i64]; omega) | (congr 1; omega) | (congr 2; omega) | (congr 3; omega) | (congr 4; omega) | (congr 5; omega)))) (by assumption) ?_
      simp only [Act.put, List.setIfInBounds_toArray, List.set_cons_zero, List.set_cons_succ]
      ((refine AnyT.takeAny 8 24 ?_ rfl (by kernel_rfl) (by kernel_rfl) (by kernel_rfl) rfl rfl (fun _ _ _ _ h => h) rfl ?_ (by assumption) ?_); rotate_left; (intro w; go_simp; (try (with_reducible rfl))); simp only [Act.put, List.setIfInBounds_toArray, List.set_cons_zero, List.set_cons_succ])
      ((refine AnyT.takeAny 9 25 ?_ rfl (by kernel_rfl) (by kernel_rfl) (by kernel_rfl) rfl rfl (fun _ _ _ _ h => h) rfl ?_ (by assumption) ?_); rotate_left; (intro w; go_simp; (try (with_reducible rfl))); simp only [Act.put, List.setIfInBounds_toArray, List.set_cons_zero, List.set_cons_succ])
      ((refine AnyT.takeAny 10 26 ?_ rfl (by kernel_rfl) (by kernel_rfl) (by kernel_rfl) rfl rfl (fun _ _ _ _ h => h) rfl ?_ (by assumption) ?_); rotate_left; (intro w; go_simp; (try (with_reducible rfl))); simp only [Act.put, List.setIfInBounds_toArray, List.set_cons_zero, List.set_cons_succ])
      refine AnyT.takeAny 11 27 (.int .i64 ((q : Nat) : Int)) rfl (by kernel_rfl) (by kernel_rfl) (by kernel_rfl) rfl rfl (fun _ _ _ _ h => h) rfl (fun W => by go_simp; (try (first | (with_reducible rfl) | (rw [IntKind.wrap_i64]; omega) | (congr 1; omega) | (congr 2; omega) | (congr 3; omega) | (congr 4; omega) | (congr 5; omega)))) (by assumption) ?_
      simp only [Act.put, List.setIfInBounds_toArray, List.set_cons_zero, List.set_cons_succ]
      refine AnyT.takeAny 12 28 (.pointer (some ⟨g, q * 3, none⟩)) rfl (by kernel_rfl) (by kernel_rfl) (by kernel_rfl) rfl rfl (fun _ _ _ _ h => h) rfl (fun W => by go_simp; (try (first | (with_reducible rfl) | (rw [IntKind.wrap_i64]; omega) | (congr 1; omega) | (congr 2; omega) | (congr 3; omega) | (congr 4; omega) | (congr 5; omega)))) (by assumption) ?_
      simp only [Act.put, List.setIfInBounds_toArray, List.set_cons_zero, List.set_cons_succ]
      refine AnyT.take 13 29 (.agg (xq).toArray) rfl (by kernel_rfl) (by kernel_rfl) (by kernel_rfl) (by kernel_rfl) rfl (by kernel_rfl) rfl (fun _ _ _ _ h => h) rfl (fun W hS => exec_loadMid _ _ rfl g (q * 3) rfl (xq) hS.2 Tryz.underlying32 rfl (HD.out.sj)) (by assumption) ?_
      simp only [Act.put, List.setIfInBounds_toArray, List.set_cons_zero, List.set_cons_succ]
      ((refine AnyT.takeAny 14 30 ?_ rfl (by kernel_rfl) (by kernel_rfl) (by kernel_rfl) rfl rfl (fun _ _ _ _ h => h) rfl ?_ (by assumption) ?_); rotate_left; (intro w; go_simp; (try (with_reducible rfl))); simp only [Act.put, List.setIfInBounds_toArray, List.set_cons_zero, List.set_cons_succ])
      ((refine AnyT.takeAny 15 31 ?_ rfl (by kernel_rfl) (by kernel_rfl) (by kernel_rfl) rfl rfl (fun _ _ _ _ h => h) rfl ?_ (by assumption) ?_); rotate_left; (intro w; go_simp; (try (with_reducible rfl))); simp only [Act.put, List.setIfInBounds_toArray, List.set_cons_zero, List.set_cons_succ])
      ((refine AnyT.takeAny 16 32 ?_ rfl (by kernel_rfl) (by kernel_rfl) (by kernel_rfl) rfl rfl (fun _ _ _ _ h => h) rfl ?_ (by assumption) ?_); rotate_left; (intro w; go_simp; (try (with_reducible rfl))); simp only [Act.put, List.setIfInBounds_toArray, List.set_cons_zero, List.set_cons_succ])
      refine AnyT.takeAny 17 33 (.int .i64 ((p : Nat) : Int)) rfl (by kernel_rfl) (by kernel_rfl) (by kernel_rfl) rfl rfl (fun _ _ _ _ h => h) rfl (fun W => by go_simp; (try (first | (with_reducible rfl) | (rw [IntKind.wrap_i64]; omega) | (congr 1; omega) | (congr 2; omega) | (congr 3; omega) | (congr 4; omega) | (congr 5; omega)))) (by assumption) ?_
      simp only [Act.put, List.setIfInBounds_toArray, List.set_cons_zero, List.set_cons_succ]
      refine AnyT.takeAny 18 34 (.pointer (some ⟨g, p * 3, none⟩)) rfl (by kernel_rfl) (by kernel_rfl) (by kernel_rfl) rfl rfl (fun _ _ _ _ h => h) rfl (fun W => by go_simp; (try (first | (with_reducible rfl) | (rw [IntKind.wrap_i64]; omega) | (congr 1; omega) | (congr 2; omega) | (congr 3; omega) | (congr 4; omega) | (congr 5; omega)))) (by assumption) ?_
      simp only [Act.put, List.setIfInBounds_toArray, List.set_cons_zero, List.set_cons_succ]
      refine AnyT.take 19 35 (.agg (xp).toArray) rfl (by kernel_rfl) (by kernel_rfl) (by kernel_rfl) (by kernel_rfl) rfl (by kernel_rfl) rfl (fun _ _ _ _ h => h) rfl (fun W hS => exec_loadMid _ _ rfl g (p * 3) rfl (xp) hS.1 Tryz.underlying32 rfl (HD.out.si)) (by assumption) ?_
      simp only [Act.put, List.setIfInBounds_toArray, List.set_cons_zero, List.set_cons_succ]
      refine AnyT.takeAny 20 36 (.pointer (some ⟨g, p * 3, none⟩)) rfl (by kernel_rfl) (by kernel_rfl) (by kernel_rfl) rfl rfl (fun _ _ _ _ h => h) rfl (fun W => by go_simp; (try (first | (with_reducible rfl) | (rw [IntKind.wrap_i64]; omega) | (congr 1; omega) | (congr 2; omega) | (congr 3; omega) | (congr 4; omega) | (congr 5; omega)))) (by assumption) ?_
      simp only [Act.put, List.setIfInBounds_toArray, List.set_cons_zero, List.set_cons_succ]
      ((refine AnyT.last (i := 21) (by kernel_rfl) rfl (by kernel_rfl) (fun K hK => ?_)))
      rw [if_pos (by rfl)]
      refine wp_store_mid 32 _ _ rfl g (p * 3) xq.toArray rfl rfl HD.out.ti HD.out.aj HD.out.oj ?_
      refine hK.out _ _ ?_
      clear hK K
      (try simp only [Act.put])
      ((refine AnyT.last (i := 22) (by kernel_rfl) rfl (by kernel_rfl) (fun K hK => ?_)))
      go_simp
      refine hK.out _ _ ?_
      clear hK K
      (try simp only [Act.put, List.setIfInBounds_toArray, List.set_cons_zero, List.set_cons_succ])
      ((refine AnyT.last (i := 23) (by kernel_rfl) rfl (by kernel_rfl) (fun K hK => ?_)))
      rw [if_pos (by rfl)]
      refine wp_store_mid 32 _ _ rfl g (q * 3) xp.toArray rfl rfl HD.out.tj HD.out.ai HD.out.oi ?_
      refine hK.out _ _ ?_
      clear hK K
      (try simp only [Act.put])
      refine AnyT.done (by kernel_rfl) ?_ _
      have HX := Lib.hid HD.out.sw
      clear hHeld
      go_wp2_with fail
      go_roundw
      case rel => exact ⟨k + 1, _, by omega, by go_num, HX.out, HR.out, by rw [(setCells_out _ _ _ _).2, (setCells_out _ _ _ _).2]; exact hszd⟩
      case measure => simp [intOf]; omega
    · obtain rfl : k = n := by omega
      have i1 : ¬ (k : Int) < (k : Int) := by omega
      have HO := Lib.hid (show w.heap.size ≤ wr.heap.size ∧ ∃ d1, LotN T w0 wr g c d1 ∧ SwpR a b d k d1 from ⟨hsz, e, hLe, hR⟩)
      clear hLe hR
      go_wp2_with fail
      go_end0
      exact ⟨rfl, HO.out⟩

end Go.Proofs.YtfibjcaidnofmaaGreatDoor
