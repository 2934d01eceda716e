/- Moves of a region that draws its order: an operation whose guard says no is passed over; one that yields is taken first. Over any program. -/
import Derived.Deep.RegionHeld3
import Derived.Test.YtnnabkldceklmaaGreatDoorJoinBTAi
import Derived.Deep.AppendLies
set_option maxHeartbeats 16000000
set_option maxRecDepth 100000
namespace Go.Proofs.YtnnabkldceklmaaGreatDoor
section
variable {P : Program} {l : List Oper} {Q : Exit → Go.Act → World → Prop} {md : Region.Mode} {S : World → Prop}
end
end Go.Proofs.YtnnabkldceklmaaGreatDoor
/- Whether a number lies from low to high: both sides. -/
namespace Go.Proofs.YtnnabkldceklmaaGreatDoor
open Go.RowKit
theorem inP_true {a lo hi : Int} (h1 : lo ≤ a) (h2 : a ≤ hi) : inB a lo hi = true := by simp [inB, h1, h2]
theorem inP_low {a lo hi : Int} (h : a < lo) : inB a lo hi = false := by simp [inB]; omega
theorem inP_high {a lo hi : Int} (h : hi < a) : inB a lo hi = false := by simp [inB]; omega
theorem withinP_any (a lo hi : Int) (w : World) : Calls Tryz.prog 52 #[.int .i64 a, .int .i64 lo, .int .i64 hi] w fun e w' => e = .returned (.bool (inB a lo hi)) ∧ w = w' := by
 by_cases h1 : lo ≤ a
 ·by_cases h2 : a ≤ hi
  ·rw [inP_true h1 h2]
   go_enter Tryz.func52, Tryz.ntmps52
   go_wp2
   go_ret
   exact ⟨by simp, rfl⟩
  ·rw [inP_high (by omega)]
   go_enter Tryz.func52, Tryz.ntmps52
   go_wp2
   go_ret
   exact ⟨by simp, rfl⟩
 ·rw [inP_low (by omega)]
  go_enter Tryz.func52, Tryz.ntmps52
  go_wp2
  go_ret
  exact ⟨by simp, rfl⟩
theorem l00InP_any (a lo hi : Int) (w : World) : Calls Tryz.prog 39 #[.int .i64 a, .int .i64 lo, .int .i64 hi] w fun e w' => e = .returned (.bool (inB a lo hi)) ∧ w = w' := by
 by_cases h1 : lo ≤ a
 ·by_cases h2 : a ≤ hi
  ·rw [inP_true h1 h2]
   go_enter Tryz.func39, Tryz.ntmps39
   go_wp2
   go_ret
   exact ⟨by simp, rfl⟩
  ·rw [inP_high (by omega)]
   go_enter Tryz.func39, Tryz.ntmps39
   go_wp2
   go_ret
   exact ⟨by simp, rfl⟩
 ·rw [inP_low (by omega)]
  go_enter Tryz.func39, Tryz.ntmps39
  go_wp2
  go_ret
  exact ⟨by simp, rfl⟩
end Go.Proofs.YtnnabkldceklmaaGreatDoor
/- The reference's l16At and l00Has walked. -/
namespace Go.Proofs.YtnnabkldceklmaaGreatDoor
open Go.RowKit
theorem slotAt_none {l : List TySlot} {id : Int} (h : ∀ j, j < l.length → (l.getD j (0, shPage.d)).1 ≠ id) : slotAt l id = none := by
 unfold slotAt
 rw [List.find?_eq_none.2]
 ·rfl
 ·intro s hs
  obtain ⟨j, hj, rfl⟩ := List.getElem_of_mem hs
  have := h j hj
  rw [List.getD_eq_getElem?_getD, List.getElem?_eq_getElem hj] at this
  simpa using this
theorem slotAt_hit {l : List TySlot} {id : Int} {k : Nat} (hk : k < l.length) (h0 : ∀ j, j < k → (l.getD j (0, shPage.d)).1 ≠ id) (h : (l.getD k (0, shPage.d)).1 = id) : slotAt l id = some (l.getD k (0, shPage.d)).2 := by
 have hs : l = l.take k ++ l[k] :: l.drop (k + 1) := by rw [← List.drop_eq_getElem_cons hk, List.take_append_drop]
 unfold slotAt
 conv => lhs; rw [hs]
 have hn : (l.take k).find? (fun s => s.1 == id) = none := by
  rw [List.find?_eq_none]
  intro s hs
  obtain ⟨j, hj, rfl⟩ := List.mem_take_iff_getElem.1 hs
  have := h0 j (by omega)
  rw [List.getD_eq_getElem?_getD, List.getElem?_eq_getElem (by omega)] at this
  simpa using this
 rw [List.getD_eq_getElem?_getD, List.getElem?_eq_getElem hk] at h
 rw [List.find?_append, hn, List.find?_cons, show (l[k].1 == id) = true from beq_iff_eq.2 h, List.getD_eq_getElem?_getD, List.getElem?_eq_getElem hk]
 rfl
def AtP (l : List TySlot) (id r : Int) : Prop := (r = -1 ∧ slotAt l id = none) ∨ ∃ k : Nat, k < l.length ∧ r = k ∧ slotAt l id = some (l.getD k (0, shPage.d)).2 ∧ (l.getD k (0, shPage.d)).1 = id
theorem l16At_any (root : Int) (A : Option Addr) (c : Nat) (l : List TySlot) (id : Int) (lo hi : Nat) (w : World) (h : (Sh.row 85 shSlot).R w lo hi [.slice A l.length c] l) (hhi : hi ≤ w.heap.size) (hn : l.length ≤ 1048576) :
  Calls Tryz.prog 154 #[.agg #[.int .i64 root, .slice A l.length c], .int .i64 id] w fun e w' => ∃ r : Int, e = .returned (.int .i64 r) ∧ AtP l id r ∧ Below w.heap.size w w' := by
 have HA := hd_ h
 have HB0 := hd_ ((Below.refl w.heap.size w).alloc (Nat.le_refl _) (.cells #[.int .i64 root, .slice A l.length c] 50))
 have HR := hd_ ((Sh.row 85 shSlot).R_below h HB0.out hhi)
 have HBK := hd_ (Blk.new w 50 #[.int .i64 root, .slice A l.length c])
 clear h
 go_enter Tryz.func154, Tryz.ntmps154
 go_upto_region 1 with fail
 generalize (w.alloc (.cells #[.int .i64 root, .slice A l.length c] 50)) = w1 at *
 have f1 := HBK.out.cell 1
 simp only [List.getElem?_toArray, List.getElem?_cons_zero, List.getElem?_cons_succ] at f1
 clear HBK
 go_wp2_with fail
 go_loopw [5] (fun i wr => ∃ k : Nat, k ≤ l.length ∧ i = .int .i64 k ∧ Hid (∀ j, j < k → (l.getD j (0, shPage.d)).1 ≠ id) ∧ w1 = wr) (fun i _ => l.length - (intOf i).toNat)
 case atStart => exact ⟨0, Nat.zero_le _, rfl, hd_ (fun j hj => absurd hj (Nat.not_lt_zero j)), rfl⟩
 case round =>
  obtain ⟨k, hk, rfl, hno, rfl⟩ := hrel
  by_cases hlt : k < l.length
  ·obtain ⟨-, b, off, rfl, hb1, hb2, A2, c2, A3, c3, A4, c4, e0, -⟩ := shSlot_at HR.out hlt
   replace e0 : w1.cell? ⟨b, off + k * 5, none⟩ = some (.int .i64 (l.getD k (0, shPage.d)).1) := e0
   have hi1 := fun he => slotAt_hit hlt hno.out he
   have hN := fun (h : (l.getD k (0, shPage.d)).1 ≠ id) => show ∀ j, j < k + 1 → (l.getD j (0, shPage.d)).1 ≠ id from fun j hj => by
    rcases Nat.lt_or_ge j k with h1 | h1
    ·exact hno.out j h1
    ·obtain rfl : j = k := by omega
     exact h
   clear hno
   have i1 : (k : Int) < (l.length : Int) := by omega
   by_cases he : (l.getD k (0, shPage.d)).1 = id
   ·have HH := hd_ (hi1 he)
    have HE := hd_ he
    have q0 : ((l.getD k (0, shPage.d)).1 == id) = true := beq_iff_eq.2 he
    clear hN hi1 he
    generalize (l.getD k (0, shPage.d)).1 = y at e0 q0
    go_wp2_with fail
    go_ret
    exact ⟨_, rfl, .inr ⟨k, hlt, rfl, HH.out, HE.out⟩, HB0.out⟩
   ·have HN := hd_ (hN he)
    have q0 : ((l.getD k (0, shPage.d)).1 == id) = false := beq_eq_false_iff_ne.2 he
    clear hN hi1 he
    generalize (l.getD k (0, shPage.d)).1 = y at e0 q0
    go_wp2_with fail
    go_roundw
    case rel => exact ⟨k + 1, by omega, by go_num, HN, by trivial⟩
    case measure => simp [intOf]; omega
  ·obtain rfl : k = l.length := by omega
   have HN := hd_ (slotAt_none hno.out)
   have i1 : ¬ ((l.length : Nat) : Int) < (l.length : Int) := by omega
   clear hno
   go_wp2_with fail
   go_ret
   exact ⟨_, rfl, .inl ⟨rfl, HN.out⟩, HB0.out⟩
theorem l00Has_any (A : Option Addr) (c : Nat) (xs : List Int) (n : Int) (lo hi : Nat) (w : World) (h : RowR (fun n : Int => Value.int .i64 n) 0 w lo hi A xs.length xs) (hn : xs.length ≤ 1048576) :
  Calls Tryz.prog 155 #[.slice A xs.length c, .int .i64 n] w fun e w' => e = .returned (.bool (xs.contains n)) ∧ w = w' := by
 have HA := hd_ h
 obtain ⟨ANS, hANS⟩ : ∃ b, b = xs.contains n := ⟨_, rfl⟩
 rw [← hANS]
 have HSL := hd_ (show ANS = !(xs.all fun s => !decide (s = n)) by
  rw [hANS, Bool.eq_iff_iff]; simp)
 clear h hANS
 go_enter Tryz.func155, Tryz.ntmps155
 go_wp2_with fail
 go_loopw [5] (fun i wr => ∃ k : Nat, k ≤ xs.length ∧ i = .int .i64 k ∧ Hid ((xs.take k).all (fun s => !decide (s = n)) = true) ∧ w = wr) (fun i _ => xs.length - (intOf i).toNat)
 case atStart => exact ⟨0, Nat.zero_le _, rfl, hd_ rfl, rfl⟩
 case round =>
  obtain ⟨k, hk, rfl, hkt, rfl⟩ := hrel
  by_cases hlt : k < xs.length
  ·obtain ⟨b, off, rfl, hb1, hb2, e0⟩ := HA.out.at_ hlt
   have hN : (xs.take (k + 1)).all (fun s => !decide (s = n)) = ((xs.take k).all (fun s => !decide (s = n)) && !decide (xs.getD k 0 = n)) := by
    rw [List.take_succ_eq_append_getElem hlt, List.all_append, List.getD_eq_getElem?_getD, List.getElem?_eq_getElem hlt]; simp
   have hM : (!decide (xs.getD k 0 = n)) = false → xs.all (fun s => !decide (s = n)) = false := fun h => by
    rw [List.all_eq_false]
    refine ⟨xs.getD k 0, ?_, by rw [h]; simp⟩
    rw [List.getD_eq_getElem?_getD, List.getElem?_eq_getElem hlt]
    exact List.getElem_mem _
   have i1 : (k : Int) < (xs.length : Int) := by omega
   generalize xs.getD k 0 = y at *
   by_cases he : y = n
   ·have HF := hd_ (hM (by rw [decide_eq_true he]; rfl))
    have q1 : (y == n) = true := by simp [he]
    clear hN hM hkt he
    go_wp2_with fail
    go_ret
    exact ⟨by rw [HSL.out, HF.out]; rfl, rfl⟩
   ·have HKN := hd_ (show (xs.take (k + 1)).all (fun s => !decide (s = n)) = true by rw [hN, hkt.out, decide_eq_false he]; rfl)
    have q1 : (y == n) = false := by simp [he]
    clear hN hM hkt he
    go_wp2_with fail
    go_roundw
    case rel => exact ⟨k + 1, by omega, by go_num, hd_ HKN.out, by trivial⟩
    case measure => simp [intOf]; omega
  ·obtain rfl : k = xs.length := by omega
   rw [List.take_length] at hkt
   have i1 : ¬ ((xs.length : Nat) : Int) < (xs.length : Int) := by omega
   go_wp2_with fail
   go_ret
   exact ⟨by rw [HSL.out, hkt.out]; rfl, rfl⟩
end Go.Proofs.YtnnabkldceklmaaGreatDoor
/- Walking down a B-tree: what is kept (plain), and what of the heap stays. -/
namespace Go.Proofs.YtnnabkldceklmaaGreatDoor
open Go.RowKit
theorem kidsTo_sum {l : List TySlot} {f : Int → ByteArray → ByteArray → WSt → Option WSt} (hf : ∀ id lo hi st st', f id lo hi st = some st' → st'.1.length + unmet l st'.1 ≤ st.1.length + unmet l st.1) {p : TyPage} {low high : ByteArray} : ∀ (k : Nat) (st st' : WSt), kidsTo f p low high k st = some st' → st'.1.length + unmet l st'.1 ≤ st.1.length + unmet l st.1
 | 0, st, st', h => by injection h with h; subst h; exact Nat.le_refl _
 | k + 1, st, st', h => by
  rw [kidsTo] at h
  cases hk : kidsTo f p low high k st with
  | none => rw [hk] at h; cases h
  | some s =>
   rw [hk] at h
   exact Nat.le_trans (hf _ _ _ _ _ h) (kidsTo_sum hf k st s hk)
theorem walkP_sum (l : List TySlot) : ∀ (n d : Nat) (id : Int) (lo hi : ByteArray) (st st' : WSt), walkP l n d id lo hi st = some st' → st'.1.length + unmet l st'.1 ≤ st.1.length + unmet l st.1
 | 0, _, _, _, _, _, _, h => by cases h
 | n + 1, d, id, lo, hi, st, st', h => by
  rw [walkP] at h
  split at h
  ·cases h
  ·rename_i p hp
   split at h
   ·cases h
   ·rename_i hc
    have hu := unmet_less hp (Bool.not_eq_true _ ▸ hc : st.1.contains id = false)
    split at h
    ·cases h
    ·split at h
     ·cases h
     ·split at h
      ·split at h
       ·injection h with h; subst h; simp only [List.length_cons]; omega
       ·split at h
        ·injection h with h; subst h; simp only [List.length_cons]; omega
        ·cases h
      ·have := kidsTo_sum (l := l) (fun id lo hi st st' h => walkP_sum l n (d + 1) id lo hi st st' h) _ _ _ h
       simp only [List.length_cons] at this
       omega
theorem kidsTo_none {f : Int → ByteArray → ByteArray → WSt → Option WSt} {p : TyPage} {low high : ByteArray} {st : WSt} {k : Nat} (h : kidsTo f p low high k st = none) : ∀ m, k ≤ m → kidsTo f p low high m st = none
 | 0, hm => by rw [show k = 0 by omega] at h; exact h
 | m + 1, hm => by
  rcases Nat.lt_or_ge m k with h1 | h1
  ·rw [show m + 1 = k by omega]; exact h
  ·rw [kidsTo, kidsTo_none h m h1]
theorem kidsTo_next {f : Int → ByteArray → ByteArray → WSt → Option WSt} {p : TyPage} {low high : ByteArray} {st s : WSt} {k : Nat} (h : kidsTo f p low high k st = some s) : kidsTo f p low high (k + 1) st = f (p.2.2.2.getD k 0) (lowOf p low k) (highOf p high k) s := by
 rw [kidsTo, h]
theorem own_same {w w' : World} {base : Nat} {e : TypeId} {size : Nat} {v : Value} {n : Nat} {xs : List Value} (h : w.ownsRow base e size v n xs) (hk : ∀ g, v.ownBlock = some g → w'.heap[g]? = w.heap[g]?) : w'.ownsRow base e size v n xs := by
 refine ⟨h.1, ?_⟩
 rcases h.2 with h2 | ⟨g, cap, cur, h1, hg, hb, r⟩
 ·exact .inl h2
 ·exact .inr ⟨g, cap, cur, h1, hg, (hk g (by rw [h1]; rfl)).trans hb, r⟩
theorem OwnR.same {α : Type} {enc : α → Value} {w w' : World} {base : Nat} {t : TypeId} {v : Value} {xs : List α} (h : OwnR enc w base t v xs) (hk : ∀ g, v.ownBlock = some g → w'.heap[g]? = w.heap[g]?) : OwnR enc w' base t v xs := ⟨h.1, own_same h.2 hk⟩
theorem OwnR.blockGe {α : Type} {enc : α → Value} {w : World} {base : Nat} {t : TypeId} {v : Value} {xs : List α} (h : OwnR enc w base t v xs) {g : Nat} (hg : v.ownBlock = some g) : base ≤ g ∧ g < w.heap.size := by
 rcases h.2.2 with ⟨h2, _⟩ | ⟨g', cap, cur, h1, hg', hb, _⟩
 ·rw [h2] at hg; cases hg
 ·rw [h1] at hg
  injection hg with hg
  subst hg
  exact ⟨hg', (Array.getElem?_eq_some_iff.1 hb).1⟩
def Fr (b : Nat) (o : Option Nat) (W : World) (o' : Option Nat) (W' : World) : Prop := Out (b :: o.toList) W W' ∧ (o' = o ∨ ∀ g, o' = some g → W.heap.size ≤ g)
theorem Fr.refl (b : Nat) (o : Option Nat) (W : World) : Fr b o W o W := ⟨Out.refl _ _, .inl rfl⟩
theorem Fr.trans {b : Nat} {o o1 o2 : Option Nat} {W W1 W2 : World} (h1 : Fr b o W o1 W1) (h2 : Fr b o1 W1 o2 W2) : Fr b o W o2 W2 := by
 have hs := h1.1.size
 refine ⟨⟨h2.1.os.trans h1.1.os, h2.1.tape.trans h1.1.tape, h2.1.output.trans h1.1.output, Nat.le_trans hs h2.1.size, fun q hq hn => ?_⟩, ?_⟩
 ·refine (h2.1.block q (by omega) fun h => ?_).trans (h1.1.block q hq hn)
  rcases List.mem_cons.1 h with rfl | h
  ·exact hn (List.mem_cons_self ..)
  ·have hg : o1 = some q := by simpa using h
   rcases h1.2 with e | e
   ·exact hn (List.mem_cons_of_mem _ (by rw [← e, hg]; simp))
   ·have := e q hg; omega
 ·rcases h2.2 with e | e
  ·rcases h1.2 with e' | e'
   ·exact .inl (e.trans e')
   ·exact .inr fun g hg => e' g (e ▸ hg)
  ·exact .inr fun g hg => Nat.le_trans hs (e g hg)
theorem Fr.below {b : Nat} {o o1 : Option Nat} {W W1 W2 : World} (h1 : Fr b o W o1 W1) (h : Below W1.heap.size W1 W2) : Fr b o W o1 W2 := h1.trans ⟨(Out.refl _ _).below h, .inl rfl⟩
theorem Fr.keep {b : Nat} {o o1 : Option Nat} {W W1 : World} (h1 : Fr b o W o1 W1) {q : Nat} (hq : q < W.heap.size) (hb : q ≠ b) (ho : o ≠ some q) : W1.heap[q]? = W.heap[q]? := by
 refine h1.1.block q hq fun h => ?_
 rcases List.mem_cons.1 h with e | h
 ·exact hb e
 ·exact ho (by simpa using h)
theorem Fr.toBelow {b : Nat} {o o1 : Option Nat} {W W1 : World} (h1 : Fr b o W o1 W1) (hb : b < W.heap.size) (ho : ∀ g, o = some g → b ≤ g) : Below b W W1 := ⟨h1.1.os, h1.1.tape, h1.1.output, h1.1.size, fun q hq =>
 h1.keep (by omega) (by omega) (fun e => by have := ho q e; omega)⟩
def depI : Option Nat → Int
 | none => 0
 | some d => (d : Int) + 1
abbrev encI : Int → Value := fun n => .int .i64 n
def WkS (W : World) (b : Nat) (root : Int) (A : Option Addr) (c n : Nat) (mv : Value) (met : List Int) (dep : Option Nat) : Prop := Blk W b 132 #[.int .i64 root, .slice A n c, mv, .int .i64 (depI dep)] ∧ OwnR encI W (b + 1) 2 mv met.reverse
def DnP (b : Nat) (root : Int) (A : Option Addr) (c n : Nat) (mv : Value) (W : World) (r : Option WSt) (e : Ending) (W' : World) : Prop := ∃ o', Fr b mv.ownBlock W o' W' ∧ match r with
 | none => e = .returned (.bool false)
 | some st => e = .returned (.bool true) ∧ ∃ mv', o' = mv'.ownBlock ∧ WkS W' b root A c n mv' st.1 st.2
theorem infoI8 : (Tryz.prog.info? 2).map (fun i => (i.zero, i.size, i.bytes)) = some (some (.int .i64 0), 1, 8) := by kernel_rfl
theorem grown_out {w w' : World} {r : Option Nat} (h : w.grownBy w' r) : Out r.toList w w' := ⟨h.os, h.tape, h.output, h.size, fun b hb hn => h.block b hb (fun e => hn (by rw [← e]; simp))⟩
theorem wpList_app1O {α : Type} {enc : α → Value} {P : Program} {ops : Array Oper} {rest : List Oper} {o : Oper} {a : Go.Act} {Q : Exit → Go.Act → World → Prop} (hgd : o.guard = none) (s x : Operand) (t e : TypeId)
  (ho : o.op = .call { callee := .builtin .append, args := #[s, x], argTypes := #[t, t] }) (ht : P.underlying t = some (.slice e))
  {z : Value} {by_ : Nat} (hzz : z.cells.size = 1) (hby : by_ ≤ 16) (hone : ∀ x : α, (enc x).oneCell' = true) (hinfo : (P.info? e).map (fun i => (i.zero, i.size, i.bytes)) = some (some z, 1, by_))
  (w : World) (base : Nat) (v : Value) (xs : List α) (y : α) (hs : a.eval s = v) (hown : OwnR enc w base e v xs)
  (hx : a.eval x = .slice (some ⟨w.heap.size, 0, none⟩) 1 1) (hlen : xs.length ≤ 1000000000) (hbase : base ≤ w.heap.size)
  (h : ∀ g cap w', OwnR enc w' base e (.slice (some ⟨g, 0, none⟩) (xs.length + 1) cap) (xs ++ [y]) → Out v.ownBlock.toList w w' → (v.ownBlock = some g ∨ w.heap.size ≤ g) → wpList P ops Q rest (a.put o.dst (.slice (some ⟨g, 0, none⟩) (xs.length + 1) cap)) w') : wpList P ops Q (o :: rest) a (w.alloc (.cells #[enc y] e)) := by
 obtain ⟨i0, hi0, hz0, hz1, hz2⟩ := info_parts hinfo
 refine wpList_append_lies _ hgd s x t ho base e i0 _ 1 by_ ht hi0 hz0 hz1 hz2 hzz (by decide) v xs.length (xs.map enc) hs (hown.2.alloc _) ⟨w.heap.size, 0, none⟩ 1 1 [enc y] hx rfl ?_ ?_ (by omega) (by unfold maxLen; omega) (Nat.le_trans (Nat.mul_le_mul_left _ hby) (by omega)) (by simp; omega) _ rfl ?_
 ·intro j u hj
  match j, hj with
  | 0, hj => simp at hj; subst hj; simp [Addr.add]
 ·intro u hu; simp at hu; subst hu; exact hone y
 ·intro g cap w' q1 q2 q3 q4
  have hba := (Below.refl w.heap.size w).alloc (Nat.le_refl _) (.cells #[enc y] e)
  refine h g cap w' ⟨⟨some ⟨g, 0, none⟩, cap, by simp⟩, ?_⟩ ⟨q2.os, q2.tape, q2.output, ?_, fun b hb hn => ?_⟩ ?_
  ·have e3 : (xs ++ [y]).length = xs.length + 1 := by simp
   rw [e3, List.map_append]
   exact q1
  ·have := q2.size; rw [heap_alloc_size1] at this; omega
  ·exact (q2.block b (by rw [heap_alloc_size1]; omega) (fun e => hn (by rw [← e]; simp))).trans (hba.block b hb)
  ·rcases q3 with q | q
   ·exact .inl q
   ·right; rw [q, heap_alloc_size1]; omega
end Go.Proofs.YtnnabkldceklmaaGreatDoor
