/- Disks, superblocks and caches, plainly: what is right, what a superblock is written as, what BeginTop makes. -/
import Derived.Test.YtnnabkldceklmaaGreatDoorJoinBTAi
set_option maxHeartbeats 16000000
set_option maxRecDepth 100000
namespace Go.Proofs.YtnnabkldceklmaaGreatDoor
def risesI (l : List Int) : Bool := (List.range (l.length - 1)).all fun k => decide (l.getD k 0 < l.getD (k + 1) 0)
def diskP (d : TyDisk) : Bool := inB d.1 1 2000 && (decide (1 ≤ d.2.1.length) && decide (d.2.1.length ≤ 400)) && decide (d.2.2.length ≤ 400) && (d.2.1.all fun s => decide ((s.size : Int) = d.1)) && d.2.2.all fun p => inB p.1 0 ((d.2.1.length : Int) - 1) && decide ((p.2.size : Int) = d.1)
def seatB (l : List TySeat) (k : Nat) : Bool := inB (l.getD k (0, 0)).1 1 64 && inB (l.getD k (0, 0)).2 2 399 && ((l.take k).all fun s => decide (s.2 ≠ (l.getD k (0, 0)).2)) && (decide (k = 0) || decide ((l.getD (k - 1) (0, 0)).1 < (l.getD k (0, 0)).1))
def seatsTo (l : List TySeat) (k : Nat) : Bool := (List.range k).all (seatB l)
def seatsP (l : List TySeat) : Bool := seatsTo l l.length && decide (l.length ≤ 64)
theorem seatsTo_next (l : List TySeat) (k : Nat) : seatsTo l (k + 1) = (seatsTo l k && seatB l k) := by
 unfold seatsTo; rw [List.range_succ, List.all_append]; simp
theorem seatsTo_at {l : List TySeat} {n k : Nat} (h : seatsTo l n = true) (hk : k < n) : seatB l k = true := (List.all_eq_true.1 h) k (List.mem_range.2 hk)
theorem seatsP_cut (l : List TySeat) : (seatsTo l (min l.length 65) && decide (l.length ≤ 64)) = seatsP l := by
 unfold seatsP
 by_cases h : l.length ≤ 64
 ·rw [show min l.length 65 = l.length by omega]
 ·rw [decide_eq_false h, Bool.and_false, Bool.and_false]
def topP (t : TyTop) : Bool := inB t.1 1 2000000000 && inB t.2.1 1 64 && inB t.2.2.1 0 2000000000 && seatsP t.2.2.2
def zeroT (t : TyTop) : Bool := decide (t.1 = 0) && decide (t.2.1 = 0) && decide (t.2.2.1 = 0) && decide (t.2.2.2.length = 0)
def slotIn (l : List TySeat) (slot : Int) : Bool := l.any fun s => decide (s.2 = slot)
def cacheP (c : TyCache) : Bool := diskP c.1 && decide (c.1.1 = 1700) && decide (4 ≤ c.1.2.1.length) && topP c.2.1 && (topP c.2.2.1 || zeroT c.2.2.1) && seatsP c.2.2.2.1 && ((c.2.1.2.2.2 ++ c.2.2.1.2.2.2 ++ c.2.2.2.1).all fun s => inB s.2 0 ((c.1.2.1.length : Int) - 1)) && (!(c.2.2.2.1.any fun s => slotIn c.2.1.2.2.2 s.2)) && risesI c.2.2.2.2 && c.2.2.2.2.all fun n => inB n 1 64
def leB (n k : Nat) : List UInt8 := (List.range k).map fun j => UInt8.ofNat (n / 256 ^ j)
theorem leB_len (n k : Nat) : (leB n k).length = k := by unfold leB; simp
def seatBytes (s : TySeat) : List UInt8 := leB s.1.toNat 1 ++ leB s.2.toNat 2
def topBody (t : TyTop) : List UInt8 := leB t.2.1.toNat 1 ++ leB t.2.2.1.toNat 4 ++ leB t.2.2.2.length 1 ++ t.2.2.2.flatMap seatBytes
def topBytes (t : TyTop) : List UInt8 := if topP t then leB t.1.toNat 4 ++ topBody t ++ List.replicate (1692 - (topBody t).length) 0 ++ leB t.1.toNat 4 else []
theorem flat_len (l : List TySeat) : (l.flatMap seatBytes).length = 3 * l.length := by
 induction l with
 | nil => rfl
 | cons s l ih =>
  rw [List.flatMap_cons, List.length_append, ih, List.length_cons]
  unfold seatBytes
  rw [List.length_append, leB_len, leB_len]
  omega
theorem topBody_len (t : TyTop) : (topBody t).length = 6 + 3 * t.2.2.2.length := by
 unfold topBody
 rw [List.length_append, List.length_append, List.length_append, leB_len, leB_len, leB_len, flat_len]
theorem topBytes_len {t : TyTop} (h : topP t = true) : (topBytes t).length = 1700 := by
 have h2 : t.2.2.2.length ≤ 64 := by
  unfold topP seatsP at h
  simp only [Bool.and_eq_true, decide_eq_true_eq] at h
  exact h.2.2
 have h3 := topBody_len t
 unfold topBytes
 rw [if_pos h, List.length_append, List.length_append, List.length_append, leB_len, List.length_replicate]
 omega
def slotFor (l : List TySeat) (id : Int) : Int := ((l.find? fun s => s.1 == id).map (·.2)).getD 0
def seatFor (c : TyCache) (id : Int) : TySeat := (id, if slotFor c.2.2.2.1 id = 0 then slotFor c.2.1.2.2.2 id else slotFor c.2.2.2.1 id)
def seatsOf (c : TyCache) (b : TyBtree) : List TySeat := b.2.map fun s => seatFor c s.1
def nextTop (c : TyCache) (b : TyBtree) (n : Int) : TyTop := (c.2.1.1 + 1, b.1, n, seatsOf c b)
def zeroC : TyCache := ((0, [], []), (0, 0, 0, []), (0, 0, 0, []), [], [])
def beginCode (c : TyCache) (b : TyBtree) (n : Int) : Int :=
 if (cacheP c && btreeP b && inB n 0 2000000000) = false then 1
 else if (decide (c.2.2.2.2.length = 0) && decide (c.1.2.2.length = 0) && zeroT c.2.2.1) = false then 5
 else if (seatsOf c b).any (fun s => decide (s.2 = 0)) then 3
 else if 2000000000 < c.2.1.1 + 1 then 4 else 0
def beginOut (c : TyCache) (b : TyBtree) (n : Int) : TyCache :=
 if beginCode c b n = 0 then ((c.1.1, c.1.2.1, [((c.2.1.1 + 1) % 2, ⟨(topBytes (nextTop c b n)).toArray⟩)]), c.2.1, nextTop c b n, c.2.2.2.1, c.2.2.2.2) else zeroC
theorem slotFor_some {l : List TySeat} {id : Int} (h : slotFor l id ≠ 0) : ∃ j, j < l.length ∧ (l.getD j (0, 0)).1 = id ∧ (l.getD j (0, 0)).2 = slotFor l id := by
 unfold slotFor at h ⊢
 cases hf : l.find? (fun s => s.1 == id) with
 | none => rw [hf] at h; exact absurd rfl h
 | some s =>
  have h1 := List.mem_of_find?_eq_some hf
  have h2 : s.1 = id := by have := List.find?_some hf; simpa using this
  obtain ⟨j, hj, e⟩ := List.getElem_of_mem h1
  refine ⟨j, hj, ?_, ?_⟩
  ·rw [List.getD_eq_getElem?_getD, List.getElem?_eq_getElem hj, e]; exact h2
  ·rw [List.getD_eq_getElem?_getD, List.getElem?_eq_getElem hj, e]; rfl
theorem seat_facts {l : List TySeat} (h : seatsTo l l.length = true) {j : Nat} (hj : j < l.length) : (1 ≤ (l.getD j (0, 0)).1 ∧ (l.getD j (0, 0)).1 ≤ 64) ∧ (2 ≤ (l.getD j (0, 0)).2 ∧ (l.getD j (0, 0)).2 ≤ 399) ∧ ∀ i, i < j → (l.getD i (0, 0)).2 ≠ (l.getD j (0, 0)).2 := by
 have h1 := seatsTo_at h hj
 unfold seatB inB at h1
 simp only [Bool.and_eq_true, decide_eq_true_eq, List.all_eq_true] at h1
 refine ⟨h1.1.1.1, h1.1.1.2, fun i hi => ?_⟩
 refine h1.1.2 (l.getD i (0, 0)) ?_
 rw [List.getD_eq_getElem?_getD, List.getElem?_eq_getElem (by omega)]
 exact List.mem_take_iff_getElem.2 ⟨i, by omega, rfl⟩
theorem seat_apart {l : List TySeat} (h : seatsTo l l.length = true) {i j : Nat} (hi : i < l.length) (hj : j < l.length) (hne : i ≠ j) : (l.getD i (0, 0)).2 ≠ (l.getD j (0, 0)).2 := by
 rcases Nat.lt_or_gt_of_ne hne with h1 | h1
 ·exact (seat_facts h hj).2.2 i h1
 ·exact fun e => (seat_facts h hi).2.2 j h1 e.symm
theorem slotIn_at {l : List TySeat} {j : Nat} (hj : j < l.length) : slotIn l (l.getD j (0, 0)).2 = true := by
 unfold slotIn
 rw [List.any_eq_true]
 refine ⟨l.getD j (0, 0), ?_, by simp⟩
 rw [List.getD_eq_getElem?_getD, List.getElem?_eq_getElem hj]
 exact List.getElem_mem hj
theorem seatsOf_ok {c : TyCache} {b : TyBtree} (hn : seatsP c.2.2.2.1 = true) (ht : seatsP c.2.1.2.2.2 = true) (hd : (c.2.2.2.1.any fun s => slotIn c.2.1.2.2.2 s.2) = false) (hb : slotsTo b.2 b.2.length = true) (h0 : ∀ s ∈ seatsOf c b, s.2 ≠ 0) : seatsP (seatsOf c b) = true := by
 unfold seatsP at hn ht
 rw [Bool.and_eq_true] at hn ht
 have hlen : (seatsOf c b).length = b.2.length := by unfold seatsOf; rw [List.length_map]
 have hat : ∀ k, k < b.2.length → (seatsOf c b).getD k (0, 0) = seatFor c (b.2.getD k (0, shPage.d)).1 := fun k hk => by
  unfold seatsOf
  rw [List.getD_eq_getElem?_getD, List.getElem?_map, List.getElem?_eq_getElem hk, List.getD_eq_getElem?_getD, List.getElem?_eq_getElem hk]; rfl
 have hne : ∀ k, k < b.2.length → (seatFor c (b.2.getD k (0, shPage.d)).1).2 ≠ 0 := fun k hk => by
  rw [← hat k hk]
  refine h0 _ ?_
  rw [List.getD_eq_getElem?_getD, List.getElem?_eq_getElem (by omega)]
  exact List.getElem_mem _
 have hsrc : ∀ id, (seatFor c id).2 ≠ 0 → (∃ j, j < c.2.2.2.1.length ∧ (c.2.2.2.1.getD j (0, 0)).1 = id ∧ (c.2.2.2.1.getD j (0, 0)).2 = (seatFor c id).2) ∨ (∃ j, j < c.2.1.2.2.2.length ∧ (c.2.1.2.2.2.getD j (0, 0)).1 = id ∧ (c.2.1.2.2.2.getD j (0, 0)).2 = (seatFor c id).2) := fun id h => by
  unfold seatFor at h ⊢
  dsimp only at h ⊢
  by_cases h1 : slotFor c.2.2.2.1 id = 0
  ·rw [if_pos h1] at h ⊢
   exact .inr (slotFor_some h)
  ·rw [if_neg h1]
   exact .inl (slotFor_some h1)
 have hap : ∀ j j', j < c.2.2.2.1.length → j' < c.2.1.2.2.2.length → (c.2.2.2.1.getD j (0, 0)).2 ≠ (c.2.1.2.2.2.getD j' (0, 0)).2 := fun j j' hj hj' e => by
  have h1 := slotIn_at hj'
  rw [← e] at h1
  have h2 : (c.2.2.2.1.any fun s => slotIn c.2.1.2.2.2 s.2) = true := List.any_eq_true.2 ⟨c.2.2.2.1.getD j (0, 0), by
   rw [List.getD_eq_getElem?_getD, List.getElem?_eq_getElem hj]; exact List.getElem_mem hj, h1⟩
  rw [hd] at h2; cases h2
 unfold seatsP
 rw [Bool.and_eq_true, hlen]
 refine ⟨List.all_eq_true.2 fun k hk => ?_, by have := slots_few hb; simpa using this⟩
 have hk := List.mem_range.1 hk
 have hid := slotB_in hb hk
 have hr : 2 ≤ (seatFor c (b.2.getD k (0, shPage.d)).1).2 ∧ (seatFor c (b.2.getD k (0, shPage.d)).1).2 ≤ 399 := by
  rcases hsrc _ (hne k hk) with ⟨j, hj, _, e⟩ | ⟨j, hj, _, e⟩
  ·rw [← e]; exact (seat_facts hn.1 hj).2.1
  ·rw [← e]; exact (seat_facts ht.1 hj).2.1
 unfold seatB inB
 rw [hat k hk]
 simp only [Bool.and_eq_true, decide_eq_true_eq, List.all_eq_true, Bool.or_eq_true]
 refine ⟨⟨⟨hid, hr⟩, fun s hs => ?_⟩, ?_⟩
 ·obtain ⟨i, hi, rfl⟩ := List.mem_take_iff_getElem.1 hs
  have hik : i < k := by omega
  have hib : i < b.2.length := by omega
  have e1 : (seatsOf c b)[i]'(by omega) = seatFor c (b.2.getD i (0, shPage.d)).1 := by
   rw [← hat i hib, List.getD_eq_getElem?_getD, List.getElem?_eq_getElem (by omega)]; rfl
  rw [e1]
  have hidne : (b.2.getD i (0, shPage.d)).1 ≠ (b.2.getD k (0, shPage.d)).1 := by
   have := slotsTo_less hb i (k - i - 1) (by omega)
   rw [show i + (k - i - 1) + 1 = k by omega] at this
   omega
  rcases hsrc _ (hne i hib) with ⟨j, hj, ej, e⟩ | ⟨j, hj, ej, e⟩ <;> rcases hsrc _ (hne k hk) with ⟨j', hj', ej', e'⟩ | ⟨j', hj', ej', e'⟩
  ·rw [← e, ← e']; exact seat_apart hn.1 hj hj' fun h => hidne (by rw [← ej, ← ej', h])
  ·rw [← e, ← e']; exact hap j j' hj hj'
  ·rw [← e, ← e']; exact fun h => hap j' j hj' hj h.symm
  ·rw [← e, ← e']; exact seat_apart ht.1 hj hj' fun h => hidne (by rw [← ej, ← ej', h])
 ·by_cases h : k = 0
  ·exact .inl h
  ·right
   rw [hat (k - 1) (by omega)]
   have := slotsTo_less hb (k - 1) 0 (by omega)
   rw [show k - 1 + 0 + 1 = k by omega] at this
   exact this
theorem root_in {b : TyBtree} (h : btreeP b = true) : 1 ≤ b.1 ∧ b.1 ≤ 64 := by
 unfold btreeP at h
 rw [Bool.and_eq_true] at h
 obtain ⟨h1, h2⟩ := h
 cases hs : slotAt b.2 b.1 with
 | none =>
  rw [walkP, hs] at h2
  cases h2
 | some p =>
  unfold slotAt at hs
  cases hf : b.2.find? (fun s => s.1 == b.1) with
  | none => rw [hf] at hs; cases hs
  | some s =>
   have h3 := List.mem_of_find?_eq_some hf
   have h4 : s.1 = b.1 := by have := List.find?_some hf; simpa using this
   obtain ⟨j, hj, e⟩ := List.getElem_of_mem h3
   have h5 := slotB_in h1 hj
   rw [List.getD_eq_getElem?_getD, List.getElem?_eq_getElem hj, Option.getD_some, e, h4] at h5
   exact h5
theorem nextTop_ok {c : TyCache} {b : TyBtree} {n : Int} (hc : cacheP c = true) (hb : btreeP b = true) (hn : inB n 0 2000000000 = true) (h0 : (seatsOf c b).any (fun s => decide (s.2 = 0)) = false) (hs : ¬ 2000000000 < c.2.1.1 + 1) : topP (nextTop c b n) = true := by
 have hr := root_in hb
 unfold btreeP at hb
 rw [Bool.and_eq_true] at hb
 unfold cacheP at hc
 simp only [Bool.and_eq_true, Bool.not_eq_true'] at hc
 obtain ⟨⟨⟨⟨⟨⟨⟨⟨⟨_, _⟩, _⟩, htop⟩, _⟩, hnext⟩, _⟩, hap⟩, _⟩, _⟩ := hc
 unfold topP at htop
 simp only [Bool.and_eq_true] at htop
 have hso := seatsOf_ok hnext htop.2 hap hb.1 fun s hs' e => by
  have := List.any_eq_false.1 h0 s hs'
  simp [e] at this
 unfold topP nextTop
 simp only [Bool.and_eq_true]
 refine ⟨⟨⟨?_, ?_⟩, hn⟩, hso⟩
 ·have h1 := htop.1.1.1
  unfold inB at h1 ⊢
  simp only [Bool.and_eq_true, decide_eq_true_eq] at h1 ⊢
  omega
 ·unfold inB
  simp only [Bool.and_eq_true, decide_eq_true_eq]
  exact hr
end Go.Proofs.YtnnabkldceklmaaGreatDoor
/- BeginTop's result, plainly: the pair, and what it costs. -/
namespace Go.Proofs.YtnnabkldceklmaaGreatDoor
open Go.RowKit
def beginR (c : TyCache) (b : TyBtree) (n : Int) : TyCache × Int := (beginOut c b n, beginCode c b n)
theorem cost_seats (l : List TySeat) : (Sh.row 88 shSeat).cost l = l.length := by
 have h : ∀ l : List TySeat, (l.map shSeat.cost).sum = 0 := fun l => by
  induction l with
  | nil => rfl
  | cons s l ih => rw [List.map_cons, List.sum_cons, ih]; rfl
 show l.length + (l.map shSeat.cost).sum = l.length
 rw [h]; rfl
theorem beginR_cost (c : TyCache) (b : TyBtree) (n : Int) (hc : shCache.cost c ≤ 1048576) (_hb : shBtree.cost b ≤ 1048576) : shCache.cost (beginR c b n).1 ≤ 4194304 := by
 show shCache.cost (beginOut c b n) ≤ 4194304
 have hz : shCache.cost zeroC ≤ 4194304 := by decide
 unfold beginOut
 by_cases h0 : beginCode c b n = 0
 ·rw [if_pos h0]
  have hok : (cacheP c && btreeP b && inB n 0 2000000000) = true := by
   unfold beginCode at h0
   split at h0
   ·omega
   ·rename_i h; exact Bool.not_eq_false _ |>.mp h
  have hs : seatsP (seatsOf c b) = true ∧ topP (nextTop c b n) = true := by
   have h0' := h0
   unfold beginCode at h0'
   rw [if_neg (by rw [hok]; exact Bool.noConfusion)] at h0'
   split at h0'
   ·omega
   ·split at h0'
    ·omega
    ·rename_i hne
     split at h0'
     ·omega
     ·rename_i hgt
      simp only [Bool.and_eq_true] at hok
      have ht := nextTop_ok hok.1.1 hok.1.2 hok.2 (Bool.eq_false_iff.2 hne) hgt
      refine ⟨?_, ht⟩
      have ht' := ht
      unfold topP nextTop at ht'
      simp only [Bool.and_eq_true] at ht'
      exact ht'.2
  have hlen : (seatsOf c b).length ≤ 64 := by
   have := hs.1
   unfold seatsP at this
   simp only [Bool.and_eq_true, decide_eq_true_eq] at this
   exact this.2
  have hb := topBytes_len hs.2
  obtain ⟨⟨x0, x1, x2⟩, ⟨x3, x4, x5, x6⟩, ⟨x7, x8, x9, x10⟩, x11, x12⟩ := c
  rw [shCache_cost, shDisk_cost] at hc
  show shCache.cost ((x0, x1, [(_, _)]), (x3, x4, x5, x6), (_, _, _, seatsOf _ b), x11, x12) ≤ _
  rw [shCache_cost, shDisk_cost, shTop_cost, shTop_cost]
  rw [shTop_cost, shTop_cost] at hc
  simp only [cost_seats] at hc ⊢
  have hp : (Sh.row 138 shPut).cost [((x3 + 1) % 2, (⟨(topBytes (nextTop ((x0, x1, x2), (x3, x4, x5, x6), (x7, x8, x9, x10), x11, x12) b n)).toArray⟩ : ByteArray))] = 1 + (0 + 1700) := by
   show 1 + (0 + (topBytes (nextTop ((x0, x1, x2), (x3, x4, x5, x6), (x7, x8, x9, x10), x11, x12) b n)).toArray.size + 0) = _
   rw [List.size_toArray, hb]
  have hp' := Nat.le_of_eq hp
  refine Nat.le_trans (Nat.add_le_add (Nat.add_le_add_left (Nat.add_le_add_left hp' _) _) (Nat.le_refl _)) ?_
  omega
 ·rw [if_neg h0]; exact hz
end Go.Proofs.YtnnabkldceklmaaGreatDoor
/- CacheOk as the reference says it: the same. Plain. -/
namespace Go.Proofs.YtnnabkldceklmaaGreatDoor
def belowP (l : List TySeat) (n : Int) : Bool := l.all fun s => decide (s.2 < n)
def apartP (xs ys : List TySeat) : Bool := xs.all fun s => !slotIn ys s.2
def cacheT (c : TyCache) : Bool := diskP c.1 && (decide (c.1.1 = 1700) && (decide (4 ≤ c.1.2.1.length) && (topP c.2.1 && ((zeroT c.2.2.1 || topP c.2.2.1) && (seatsP c.2.2.2.1 && (risesI c.2.2.2.2 && c.2.2.2.2.all fun n => inB n 1 64))))))
def cacheS (c : TyCache) : Bool := cacheT c && (apartP c.2.2.2.1 c.2.1.2.2.2 && (belowP c.2.1.2.2.2 (c.1.2.1.length : Int) && (belowP c.2.2.1.2.2.2 (c.1.2.1.length : Int) && belowP c.2.2.2.1 (c.1.2.1.length : Int))))
theorem seats_slot {l : List TySeat} (h : seatsP l = true) : ∀ s ∈ l, 2 ≤ s.2 := fun s hs => by
 unfold seatsP at h
 rw [Bool.and_eq_true] at h
 obtain ⟨j, hj, rfl⟩ := List.getElem_of_mem hs
 have := (seat_facts h.1 hj).2.1.1
 rw [List.getD_eq_getElem?_getD, List.getElem?_eq_getElem hj] at this
 exact this
theorem below_in {l : List TySeat} (h : ∀ s ∈ l, 2 ≤ s.2) (n : Int) : belowP l n = l.all fun s => inB s.2 0 (n - 1) := by
 unfold belowP
 rw [Bool.eq_iff_iff, List.all_eq_true, List.all_eq_true]
 refine forall_congr' fun s => forall_congr' fun hs => ?_
 have := h s hs
 unfold inB
 simp only [Bool.and_eq_true, decide_eq_true_eq]
 omega
theorem top_seats {t : TyTop} (h : topP t = true) : seatsP t.2.2.2 = true := by
 unfold topP at h
 simp only [Bool.and_eq_true] at h
 exact h.2
theorem zero_seats {t : TyTop} (h : zeroT t = true) : ∀ s ∈ t.2.2.2, 2 ≤ s.2 := fun s hs => by
 unfold zeroT at h
 simp only [Bool.and_eq_true, decide_eq_true_eq] at h
 have h2 := h.2
 rw [List.length_eq_zero_iff] at h2
 rw [h2] at hs; cases hs
theorem apart_any (xs ys : List TySeat) : apartP xs ys = !(xs.any fun s => slotIn ys s.2) := by
 unfold apartP
 rw [Bool.eq_iff_iff]; simp
theorem cacheS_eq (c : TyCache) : cacheS c = cacheP c := by
 unfold cacheS cacheP
 rw [apart_any]
 cases hT : cacheT c with
 | true =>
  unfold cacheT at hT
  simp only [Bool.and_eq_true] at hT
  obtain ⟨h1, h2, h3, h4, h5, h6, h7, h8⟩ := hT
  have b1 := below_in (seats_slot (top_seats h4)) (c.1.2.1.length : Int)
  have b3 := below_in (seats_slot h6) (c.1.2.1.length : Int)
  have b2 : belowP c.2.2.1.2.2.2 (c.1.2.1.length : Int) = c.2.2.1.2.2.2.all fun s => inB s.2 0 ((c.1.2.1.length : Int) - 1) := by
   have h5x : zeroT c.2.2.1 = true ∨ topP c.2.2.1 = true := by rw [← Bool.or_eq_true]; exact h5
   rcases h5x with h | h
   ·exact below_in (zero_seats h) _
   ·exact below_in (seats_slot (top_seats h)) _
  have h5' : (topP c.2.2.1 || zeroT c.2.2.1) = true := by rw [Bool.or_comm]; exact h5
  rw [h1, h2, h3, h4, h5', h6, h7, h8, b1, b2, b3, List.all_append, List.all_append]
  simp only [Bool.true_and, Bool.and_true]
  generalize (c.2.1.2.2.2.all fun s => inB s.2 0 ((c.1.2.1.length : Int) - 1)) = a
  generalize (c.2.2.1.2.2.2.all fun s => inB s.2 0 ((c.1.2.1.length : Int) - 1)) = b
  generalize (c.2.2.2.1.all fun s => inB s.2 0 ((c.1.2.1.length : Int) - 1)) = d
  generalize (c.2.2.2.1.any fun s => slotIn c.2.1.2.2.2 s.2) = e
  cases a <;> cases b <;> cases d <;> cases e <;> rfl
 | false =>
  rw [Bool.false_and]
  symm
  rw [Bool.eq_false_iff]
  intro h
  simp only [Bool.and_eq_true] at h
  obtain ⟨⟨⟨⟨⟨⟨⟨⟨⟨h1, h2⟩, h3⟩, h4⟩, h5⟩, h6⟩, _⟩, _⟩, h7⟩, h8⟩ := h
  have h5' : (zeroT c.2.2.1 || topP c.2.2.1) = true := by rw [Bool.or_comm]; exact h5
  unfold cacheT at hT
  rw [h1, h2, h3, h4, h5', h6, h7, h8] at hT
  cases hT
end Go.Proofs.YtnnabkldceklmaaGreatDoor
/- The reference's l18Zero: whether a superblock is all zero. -/
namespace Go.Proofs.YtnnabkldceklmaaGreatDoor
open Go.RowKit
theorem l18Zero_any (t : TyTop) (vs : List Value) (lo hi : Nat) (w : World) (h : shTop.R w lo hi vs t) :
  Calls Tryz.prog 40 #[.agg vs.toArray] w fun e w' => e = .returned (.bool (zeroT t)) ∧ Below w.heap.size w w' := by
 obtain ⟨x0, x1, x2, x3⟩ := t
 obtain ⟨A3, c3, rfl, _⟩ := shTop_R.1 h
 have hb := (Below.refl w.heap.size w).alloc (Nat.le_refl _) (.cells #[.int .i64 x0, .int .i64 x1, .int .i64 x2, .slice A3 x3.length c3] 42)
 obtain ⟨ANS, hANS⟩ : ∃ b, b = zeroT (x0, x1, x2, x3) := ⟨_, rfl⟩
 rw [← hANS]
 unfold zeroT at hANS
 dsimp only at hANS
 go_enter Tryz.func40, Tryz.ntmps40
 by_cases h0 : x0 = 0
 ·by_cases h1 : x1 = 0
  ·by_cases h2 : x2 = 0
   ·have HA := hd_ (show ANS = ((x3.length : Int) == 0) by
     rw [hANS, decide_eq_true h0, decide_eq_true h1, decide_eq_true h2, Bool.eq_iff_iff]; simp)
    clear hANS
    subst h0 h1 h2
    go_wp2_with fail
    go_ret
    exact ⟨by rw [HA.out]; rfl, hb⟩
   ·have HA := hd_ (show ANS = false by rw [hANS, decide_eq_false h2]; simp)
    clear hANS
    subst h0 h1
    go_wp2_with fail
    go_ret
    exact ⟨by rw [HA.out]; rfl, hb⟩
  ·have HA := hd_ (show ANS = false by rw [hANS, decide_eq_false h1]; simp)
   clear hANS
   subst h0
   go_wp2_with fail
   go_ret
   exact ⟨by rw [HA.out]; rfl, hb⟩
 ·have HA := hd_ (show ANS = false by rw [hANS, decide_eq_false h0]; simp)
  clear hANS
  go_wp2_with fail
  go_ret
  exact ⟨by rw [HA.out]; rfl, hb⟩
end Go.Proofs.YtnnabkldceklmaaGreatDoor
/- The reference's l18Slot: the slot of a page among seats. -/
namespace Go.Proofs.YtnnabkldceklmaaGreatDoor
open Go.RowKit
theorem l18Slot_any (A : Option Addr) (c : Nat) (xs : List TySeat) (id : Int) (lo hi : Nat) (w : World) (h : (Sh.row 88 shSeat).R w lo hi [.slice A xs.length c] xs) (hn : xs.length ≤ 1048576) :
  Calls Tryz.prog 41 #[.slice A xs.length c, .int .i64 id] w fun e w' => e = .returned (.int .i64 (slotFor xs id)) ∧ w' = w := by
 have HA := hd_ h
 clear h
 have HZ : ∀ k, k ≤ xs.length → (∀ j, j < k → (xs.getD j shSeat.d).1 ≠ id) → slotFor xs id = slotFor (xs.drop k) id := fun k hk h0 => by
  unfold slotFor
  conv => lhs; rw [← List.take_append_drop k xs]
  rw [List.find?_append]
  have : (xs.take k).find? (fun s => s.1 == id) = none := by
   rw [List.find?_eq_none]
   intro s hs
   obtain ⟨j, hj, rfl⟩ := List.mem_take_iff_getElem.1 hs
   have := h0 j (by omega)
   rw [List.getD_eq_getElem?_getD, List.getElem?_eq_getElem (by omega)] at this
   simpa using this
  rw [this]; rfl
 go_enter Tryz.func41, Tryz.ntmps41
 go_wp2_with fail
 go_loopw [5] (fun i wr => ∃ k : Nat, k ≤ xs.length ∧ i = .int .i64 k ∧ Hid (∀ j, j < k → (xs.getD j shSeat.d).1 ≠ id) ∧ wr = w) (fun i _ => xs.length - (intOf i).toNat)
 case atStart => exact ⟨0, Nat.zero_le _, rfl, hd_ (fun j hj => absurd hj (Nat.not_lt_zero j)), rfl⟩
 case round =>
  obtain ⟨k, hk, rfl, hno, rfl⟩ := hrel
  by_cases hlt : k < xs.length
  ·obtain ⟨-, b, off, rfl, hb1, hb2, e0, e1, -⟩ := shSeat_at HA.out hlt
   have hz := HZ k (by omega) hno.out
   have hz1 : slotFor xs id = if (xs.getD k shSeat.d).1 = id then (xs.getD k shSeat.d).2 else slotFor (xs.drop (k + 1)) id := by
    rw [hz]
    unfold slotFor
    rw [List.drop_eq_getElem_cons hlt, List.find?_cons, List.getD_eq_getElem?_getD, List.getElem?_eq_getElem hlt, Option.getD_some]
    by_cases h1 : xs[k].1 = id
    ·rw [if_pos h1, show (xs[k].1 == id) = true from beq_iff_eq.2 h1]; rfl
    ·rw [if_neg h1, show (xs[k].1 == id) = false from beq_eq_false_iff_ne.2 h1]
   have HN := hno; clear hno hz
   by_cases h1 : (xs.getD k shSeat.d).1 = id
   ·rw [if_pos h1] at hz1
    have HZ1 := hd_ hz1; have hid := h1
    clear hz1 HN HZ
    generalize xs.getD k shSeat.d = X at *
    obtain ⟨x0, x1⟩ := X
    dsimp only at e0 e1 hid HZ1
    subst hid
    go_wp2_with fail
    go_ret
    exact ⟨by rw [HZ1.out]; rfl, rfl⟩
   ·have HN' := hd_ (show ∀ j, j < k + 1 → (xs.getD j shSeat.d).1 ≠ id from fun j hj => by
     rcases Nat.lt_or_ge j k with h | h
     ·exact HN.out j h
     ·obtain rfl : j = k := by omega
      exact h1)
    clear hz1 HN HZ
    generalize (xs.getD k shSeat.d).1 = x0 at *
    go_wp2_with fail
    go_roundw
    case rel => exact ⟨k + 1, by omega, by go_num, HN', by trivial⟩
    case measure => simp [intOf]; omega
  ·obtain rfl : k = xs.length := by omega
   have hz := HZ _ (Nat.le_refl _) hno.out
   rw [List.drop_length] at hz
   have HZ1 := hd_ (show slotFor xs id = 0 from hz)
   clear hz hno HZ
   go_wp2_with fail
   go_ret
   exact ⟨by rw [HZ1.out]; rfl, rfl⟩
end Go.Proofs.YtnnabkldceklmaaGreatDoor
/- slices.IndexFunc and slices.ContainsFunc at rows of structs of plain cells, with a function that boxes its parameter. Printed by gen_cfn.py. -/
namespace Go.Proofs.YtnnabkldceklmaaGreatDoor
open Go.RowKit
theorem idxSeat (g : Nat) (lb : Array Value) (p : TySeat → Bool) (eg : ∀ args w, (callFunc g args).run Tryz.prog w = .ok (.enter g args) w) (A : Option Addr) (c : Nat) (xs : List TySeat) (lo hi : Nat) (w : World) (h : (Sh.row 88 shSeat).R w lo hi [.slice A xs.length c] xs) (hhi : hi ≤ w.heap.size) (hn : xs.length ≤ 1048576)
  (hp : ∀ (W : World) (x : TySeat), x ∈ xs → Below w.heap.size w W → Calls Tryz.prog g (#[.agg #[.int .i64 x.1, .int .i64 x.2]] ++ lb) W fun e w' => e = .returned (.bool (p x)) ∧ Below W.heap.size W w') :
  Calls Tryz.prog 165 #[.slice A xs.length c, .func (.func g) #[] lb] w fun e w' => ∃ i : Int, e = .returned (.int .i64 i) ∧ decide (0 ≤ i) = xs.any p ∧ Below w.heap.size w w' := by
 have HA := hd_ h
 have HP := hd_ hp
 clear h hp
 have HIT := hd_ (fun k (hk : k < xs.length) (h0 : p (xs.getD k shSeat.d) = true) => show xs.any p = true from List.any_eq_true.2 ⟨_, List.getElem_mem hk, by rw [List.getD_eq_getElem?_getD, List.getElem?_eq_getElem hk] at h0; exact h0⟩)
 have HNO := hd_ (fun (h0 : ∀ j, j < xs.length → p (xs.getD j shSeat.d) = false) => show xs.any p = false from List.any_eq_false.2 fun x hx => by
  obtain ⟨j, hj, rfl⟩ := List.getElem_of_mem hx
  have := h0 j hj
  rw [List.getD_eq_getElem?_getD, List.getElem?_eq_getElem hj] at this
  rw [Option.getD_some] at this
  rw [this]; decide)
 have HM := hd_ (fun k (hk : k < xs.length) => show xs.getD k shSeat.d ∈ xs from by rw [List.getD_eq_getElem?_getD, List.getElem?_eq_getElem hk]; exact List.getElem_mem hk)
 go_enter Tryz.func165, Tryz.ntmps165
 go_wp2_with fail
 go_loopw [5, 8] (fun _ i wr => ∃ k : Nat, k ≤ xs.length ∧ i = .int .i64 k ∧ Hid (∀ j, j < k → p (xs.getD j shSeat.d) = false) ∧ Below w.heap.size w wr) (fun _ i _ => xs.length - (intOf i).toNat)
 case atStart => exact ⟨0, Nat.zero_le _, rfl, hd_ (fun j hj => absurd hj (Nat.not_lt_zero j)), Below.refl _ _⟩
 case round =>
  obtain ⟨k, hk, rfl, hno, hb⟩ := hrel
  by_cases hlt : k < xs.length
  ·obtain ⟨-, b, off, rfl, hb1, hb2, e0, e1, -⟩ := shSeat_at ((Sh.row 88 shSeat).R_below HA.out hb hhi) hlt
   have i4 : (k : Int) < (xs.length : Int) := by omega
   have hsz := hb.size
   have hcall := HP.out wr _ (HM.out k hlt) hb
   have HB := hd_ hb; clear hb HP HM
   have hI := HIT.out k hlt
   have hN := hd_ (fun (h0 : p (xs.getD k shSeat.d) = false) => show ∀ j, j < k + 1 → p (xs.getD j shSeat.d) = false from fun j hj => by
     rcases Nat.lt_or_ge j k with h | h
     ·exact hno.out j h
     ·obtain rfl : j = k := by omega
      exact h0)
   clear hno HIT HNO
   generalize xs.getD k shSeat.d = X at *
   obtain ⟨x0, x1⟩ := X
   dsimp only at e0 e1 hcall
   cases hq : p (x0, x1) with
   | true =>
    rw [hq] at hcall
    have HI2 := hd_ (hI hq)
    clear hI hN hq
    go_wp2_with (go_at_fn g; refine hcall.mono ?_; rintro e1 w2 ⟨rfl, hb'⟩)
    go_ret
    exact ⟨_, rfl, by rw [HI2.out]; simp, HB.out.trans (hb'.mono HB.out.size)⟩
   | false =>
    rw [hq] at hcall
    have HN2 := hd_ (hN.out hq)
    clear hI hN hq
    go_wp2_with (go_at_fn g; refine hcall.mono ?_; rintro e1 w2 ⟨rfl, hb'⟩)
    go_roundw
    case rel => exact ⟨k + 1, by omega, by go_num, HN2, HB.out.trans (hb'.mono HB.out.size)⟩
    all_goals (first | omega | (simp only [intOf, Int.toNat_natCast]; omega) | (simp [intOf]; omega))
  ·obtain rfl : k = xs.length := by omega
   have i4 : ¬ (xs.length : Int) < (xs.length : Int) := by omega
   have HN2 := hd_ (HNO.out hno.out)
   clear hno HIT HNO
   go_wp2_with fail
   go_ret
   exact ⟨_, rfl, by rw [HN2.out]; rfl, hb⟩
theorem cfnSeat (g : Nat) (lb : Array Value) (p : TySeat → Bool) (eg : ∀ args w, (callFunc g args).run Tryz.prog w = .ok (.enter g args) w) (A : Option Addr) (c : Nat) (xs : List TySeat) (lo hi : Nat) (w : World) (h : (Sh.row 88 shSeat).R w lo hi [.slice A xs.length c] xs) (hhi : hi ≤ w.heap.size) (hn : xs.length ≤ 1048576)
  (hp : ∀ (W : World) (x : TySeat), x ∈ xs → Below w.heap.size w W → Calls Tryz.prog g (#[.agg #[.int .i64 x.1, .int .i64 x.2]] ++ lb) W fun e w' => e = .returned (.bool (p x)) ∧ Below W.heap.size W w') :
  Calls Tryz.prog 113 #[.slice A xs.length c, .func (.func g) #[] lb] w fun e w' => e = .returned (.bool (xs.any p)) ∧ Below w.heap.size w w' := by
 have HI := hd_ (idxSeat g lb p eg A c xs lo hi w h hhi hn hp)
 clear h hp
 generalize xs.any p = ANS at *
 go_enter Tryz.func113, Tryz.ntmps113
 go_wp2_with (first | fail | (refine HI.out.mono ?_; rintro e1 w2 ⟨i, rfl, rfl, hb'⟩))
 go_ret
 exact ⟨by first | rfl | simp, hb'⟩
theorem idxPut (g : Nat) (lb : Array Value) (p : TyPut → Bool) (eg : ∀ args w, (callFunc g args).run Tryz.prog w = .ok (.enter g args) w) (A : Option Addr) (c : Nat) (xs : List TyPut) (lo hi : Nat) (w : World) (h : (Sh.row 138 shPut).R w lo hi [.slice A xs.length c] xs) (hhi : hi ≤ w.heap.size) (hn : xs.length ≤ 1048576)
  (hp : ∀ (W : World) (x : TyPut), x ∈ xs → Below w.heap.size w W → Calls Tryz.prog g (#[.agg #[.int .i64 x.1, .string x.2]] ++ lb) W fun e w' => e = .returned (.bool (p x)) ∧ Below W.heap.size W w') :
  Calls Tryz.prog 198 #[.slice A xs.length c, .func (.func g) #[] lb] w fun e w' => ∃ i : Int, e = .returned (.int .i64 i) ∧ decide (0 ≤ i) = xs.any p ∧ Below w.heap.size w w' := by
 have HA := hd_ h
 have HP := hd_ hp
 clear h hp
 have HIT := hd_ (fun k (hk : k < xs.length) (h0 : p (xs.getD k shPut.d) = true) => show xs.any p = true from List.any_eq_true.2 ⟨_, List.getElem_mem hk, by rw [List.getD_eq_getElem?_getD, List.getElem?_eq_getElem hk] at h0; exact h0⟩)
 have HNO := hd_ (fun (h0 : ∀ j, j < xs.length → p (xs.getD j shPut.d) = false) => show xs.any p = false from List.any_eq_false.2 fun x hx => by
  obtain ⟨j, hj, rfl⟩ := List.getElem_of_mem hx
  have := h0 j hj
  rw [List.getD_eq_getElem?_getD, List.getElem?_eq_getElem hj] at this
  rw [Option.getD_some] at this
  rw [this]; decide)
 have HM := hd_ (fun k (hk : k < xs.length) => show xs.getD k shPut.d ∈ xs from by rw [List.getD_eq_getElem?_getD, List.getElem?_eq_getElem hk]; exact List.getElem_mem hk)
 go_enter Tryz.func198, Tryz.ntmps198
 go_wp2_with fail
 go_loopw [5, 8] (fun _ i wr => ∃ k : Nat, k ≤ xs.length ∧ i = .int .i64 k ∧ Hid (∀ j, j < k → p (xs.getD j shPut.d) = false) ∧ Below w.heap.size w wr) (fun _ i _ => xs.length - (intOf i).toNat)
 case atStart => exact ⟨0, Nat.zero_le _, rfl, hd_ (fun j hj => absurd hj (Nat.not_lt_zero j)), Below.refl _ _⟩
 case round =>
  obtain ⟨k, hk, rfl, hno, hb⟩ := hrel
  by_cases hlt : k < xs.length
  ·obtain ⟨-, b, off, rfl, hb1, hb2, e0, e1, -⟩ := shPut_at ((Sh.row 138 shPut).R_below HA.out hb hhi) hlt
   have i4 : (k : Int) < (xs.length : Int) := by omega
   have hsz := hb.size
   have hcall := HP.out wr _ (HM.out k hlt) hb
   have HB := hd_ hb; clear hb HP HM
   have hI := HIT.out k hlt
   have hN := hd_ (fun (h0 : p (xs.getD k shPut.d) = false) => show ∀ j, j < k + 1 → p (xs.getD j shPut.d) = false from fun j hj => by
     rcases Nat.lt_or_ge j k with h | h
     ·exact hno.out j h
     ·obtain rfl : j = k := by omega
      exact h0)
   clear hno HIT HNO
   generalize xs.getD k shPut.d = X at *
   obtain ⟨x0, x1⟩ := X
   dsimp only at e0 e1 hcall
   cases hq : p (x0, x1) with
   | true =>
    rw [hq] at hcall
    have HI2 := hd_ (hI hq)
    clear hI hN hq
    go_wp2_with (go_at_fn g; refine hcall.mono ?_; rintro e1 w2 ⟨rfl, hb'⟩)
    go_ret
    exact ⟨_, rfl, by rw [HI2.out]; simp, HB.out.trans (hb'.mono HB.out.size)⟩
   | false =>
    rw [hq] at hcall
    have HN2 := hd_ (hN.out hq)
    clear hI hN hq
    go_wp2_with (go_at_fn g; refine hcall.mono ?_; rintro e1 w2 ⟨rfl, hb'⟩)
    go_roundw
    case rel => exact ⟨k + 1, by omega, by go_num, HN2, HB.out.trans (hb'.mono HB.out.size)⟩
    all_goals (first | omega | (simp only [intOf, Int.toNat_natCast]; omega) | (simp [intOf]; omega))
  ·obtain rfl : k = xs.length := by omega
   have i4 : ¬ (xs.length : Int) < (xs.length : Int) := by omega
   have HN2 := hd_ (HNO.out hno.out)
   clear hno HIT HNO
   go_wp2_with fail
   go_ret
   exact ⟨_, rfl, by rw [HN2.out]; rfl, hb⟩
theorem cfnPut (g : Nat) (lb : Array Value) (p : TyPut → Bool) (eg : ∀ args w, (callFunc g args).run Tryz.prog w = .ok (.enter g args) w) (A : Option Addr) (c : Nat) (xs : List TyPut) (lo hi : Nat) (w : World) (h : (Sh.row 138 shPut).R w lo hi [.slice A xs.length c] xs) (hhi : hi ≤ w.heap.size) (hn : xs.length ≤ 1048576)
  (hp : ∀ (W : World) (x : TyPut), x ∈ xs → Below w.heap.size w W → Calls Tryz.prog g (#[.agg #[.int .i64 x.1, .string x.2]] ++ lb) W fun e w' => e = .returned (.bool (p x)) ∧ Below W.heap.size W w') :
  Calls Tryz.prog 161 #[.slice A xs.length c, .func (.func g) #[] lb] w fun e w' => e = .returned (.bool (xs.any p)) ∧ Below w.heap.size w w' := by
 have HI := hd_ (idxPut g lb p eg A c xs lo hi w h hhi hn hp)
 clear h hp
 generalize xs.any p = ANS at *
 go_enter Tryz.func161, Tryz.ntmps161
 go_wp2_with (first | fail | (refine HI.out.mono ?_; rintro e1 w2 ⟨i, rfl, rfl, hb'⟩))
 go_ret
 exact ⟨by first | rfl | simp, hb'⟩
end Go.Proofs.YtnnabkldceklmaaGreatDoor
/- The program's slotOf: the slot of a page among seats. -/
namespace Go.Proofs.YtnnabkldceklmaaGreatDoor
open Go.RowKit
theorem slotOf_any (A : Option Addr) (c : Nat) (xs : List TySeat) (id : Int) (lo hi : Nat) (w : World) (h : (Sh.row 88 shSeat).R w lo hi [.slice A xs.length c] xs) (hhi : hi ≤ w.heap.size) (hn : xs.length ≤ 1048576) :
  Calls Tryz.prog 125 #[.slice A xs.length c, .int .i64 id] w fun e w' => e = .returned (.int .i64 (slotFor xs id)) ∧ Below w.heap.size w w' := by
 have HA := hd_ h
 clear h
 have HZ : ∀ k, k ≤ xs.length → (∀ j, j < k → (xs.getD j shSeat.d).1 ≠ id) → slotFor xs id = slotFor (xs.drop k) id := fun k hk h0 => by
  unfold slotFor
  conv => lhs; rw [← List.take_append_drop k xs]
  rw [List.find?_append]
  have : (xs.take k).find? (fun s => s.1 == id) = none := by
   rw [List.find?_eq_none]
   intro s hs
   obtain ⟨j, hj, rfl⟩ := List.mem_take_iff_getElem.1 hs
   have := h0 j (by omega)
   rw [List.getD_eq_getElem?_getD, List.getElem?_eq_getElem (by omega)] at this
   simpa using this
  rw [this]; rfl
 go_enter Tryz.func125, Tryz.ntmps125
 go_wp2_with fail
 go_loopw [9] (fun i wr => ∃ k : Nat, k ≤ xs.length ∧ i = .int .i64 k ∧ Hid (∀ j, j < k → (xs.getD j shSeat.d).1 ≠ id) ∧ Below w.heap.size w wr) (fun i _ => xs.length - (intOf i).toNat)
 case atStart => exact ⟨0, Nat.zero_le _, rfl, hd_ (fun j hj => absurd hj (Nat.not_lt_zero j)), Below.refl _ _⟩
 case round =>
  obtain ⟨k, hk, rfl, hno, hb⟩ := hrel
  by_cases hlt : k < xs.length
  ·obtain ⟨-, b, off, rfl, hb1, hb2, e0, e1, -⟩ := shSeat_at ((Sh.row 88 shSeat).R_below HA.out hb hhi) hlt
   have hsz := hb.size
   have HB := hd_ hb; clear hb
   have hbw : b < wr.heap.size := by omega
   have hz := HZ k (by omega) hno.out
   have hz1 : slotFor xs id = if (xs.getD k shSeat.d).1 = id then (xs.getD k shSeat.d).2 else slotFor (xs.drop (k + 1)) id := by
    rw [hz]
    unfold slotFor
    rw [List.drop_eq_getElem_cons hlt, List.find?_cons, List.getD_eq_getElem?_getD, List.getElem?_eq_getElem hlt, Option.getD_some]
    by_cases h1 : xs[k].1 = id
    ·rw [if_pos h1, show (xs[k].1 == id) = true from beq_iff_eq.2 h1]; rfl
    ·rw [if_neg h1, show (xs[k].1 == id) = false from beq_eq_false_iff_ne.2 h1]
   have HN := hno; clear hno hz
   by_cases h1 : (xs.getD k shSeat.d).1 = id
   ·rw [if_pos h1] at hz1
    have HZ1 := hd_ hz1; have hid := h1
    clear hz1 HN HZ
    generalize xs.getD k shSeat.d = X at *
    obtain ⟨x0, x1⟩ := X
    dsimp only at e0 e1 hid HZ1
    subst hid
    go_wp2_with fail
    go_ret
    refine ⟨by rw [HZ1.out]; rfl, ?_⟩
    first | exact HB.out.alloc (by omega) _ | exact (HB.out.alloc (by omega) _).setCell (by show _ ≤ wr.heap.size; omega) _ | exact ((HB.out.alloc (by omega) _).setCell (by show _ ≤ wr.heap.size; omega) _).setCell (by show _ ≤ wr.heap.size; omega) _
   ·have HN' := hd_ (show ∀ j, j < k + 1 → (xs.getD j shSeat.d).1 ≠ id from fun j hj => by
     rcases Nat.lt_or_ge j k with h | h
     ·exact HN.out j h
     ·obtain rfl : j = k := by omega
      exact h1)
    clear hz1 HN HZ
    generalize (xs.getD k shSeat.d).1 = x0 at *
    generalize (xs.getD k shSeat.d).2 = x1 at *
    go_wp2_with fail
    go_roundw
    case rel =>
     refine ⟨k + 1, by omega, by go_num, HN', ?_⟩
     first | exact HB.out.alloc (by omega) _ | exact (HB.out.alloc (by omega) _).setCell (by show _ ≤ wr.heap.size; omega) _ | exact ((HB.out.alloc (by omega) _).setCell (by show _ ≤ wr.heap.size; omega) _).setCell (by show _ ≤ wr.heap.size; omega) _
    all_goals (first | omega | (simp only [intOf, Int.toNat_natCast]; omega) | (simp [intOf]; omega))
  ·obtain rfl : k = xs.length := by omega
   have hz := HZ _ (Nat.le_refl _) hno.out
   rw [List.drop_length] at hz
   have HZ1 := hd_ (show slotFor xs id = 0 from hz)
   clear hz hno HZ
   go_wp2_with fail
   go_ret
   exact ⟨by rw [HZ1.out]; rfl, hb⟩
end Go.Proofs.YtnnabkldceklmaaGreatDoor
