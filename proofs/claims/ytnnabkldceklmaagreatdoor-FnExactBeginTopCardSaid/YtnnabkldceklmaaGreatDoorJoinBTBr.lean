/- The program's Cache.begin walked. Printed by bto/beg.py. -/
import Derived.Test.YtnnabkldceklmaaGreatDoorJoinBTBp
import Derived.Test.YtnnabkldceklmaaGreatDoorJoinBTBi
namespace Go.Proofs.YtnnabkldceklmaaGreatDoor
open Go.RowKit
def BegP (lo g : Nat) (W : World) (X : TyCache) (b : TyBtree) (n : Int) (e : Ending) (W' : World) : Prop :=
 e = .returned (.int .i64 (beginCode X b n)) ∧ Below lo W W' ∧ (beginCode X b n = 0 → ∃ us : List Value, Blk W' g 44 us.toArray ∧ Own shCache W' lo W'.heap.size us (beginOut X b n))
set_option maxHeartbeats 32000000 in
set_option maxRecDepth 100000 in
theorem begin_any (x0 : Int) (x1 : List ByteArray) (x2 : List TyPut) (x3 x4 x5 : Int) (x6 : List TySeat) (x7 x8 x9 : Int) (x10 x11 : List TySeat) (x12 : List Int) (B1 : Option Addr) (d1 : Nat) (B2 : Option Addr) (d2 : Nat) (B6 : Option Addr) (d6 : Nat) (B10 : Option Addr) (d10 : Nat) (B11 : Option Addr) (d11 : Nat) (B12 : Option Addr) (d12 : Nat) (root : Int) (l : List TySlot) (A : Option Addr) (c : Nat) (n : Int) (g lo lo1 hi1 : Nat) (W : World)
  (hk : Blk W g 44 #[.int .i64 x0, .slice B1 x1.length d1, .slice B2 x2.length d2, .int .i64 x3, .int .i64 x4, .int .i64 x5, .slice B6 x6.length d6, .int .i64 x7, .int .i64 x8, .int .i64 x9, .slice B10 x10.length d10, .slice B11 x11.length d11, .slice B12 x12.length d12]) (ho : Own shCache W lo g [.int .i64 x0, .slice B1 x1.length d1, .slice B2 x2.length d2, .int .i64 x3, .int .i64 x4, .int .i64 x5, .slice B6 x6.length d6, .int .i64 x7, .int .i64 x8, .int .i64 x9, .slice B10 x10.length d10, .slice B11 x11.length d11, .slice B12 x12.length d12] ((x0, x1, x2), (x3, x4, x5, x6), (x7, x8, x9, x10), x11, x12)) (hb : shBtree.R W lo1 hi1 [.int .i64 root, .slice A l.length c] (root, l)) (hlo : lo ≤ g) (hh1 : hi1 ≤ lo) (hc : cacheP ((x0, x1, x2), (x3, x4, x5, x6), (x7, x8, x9, x10), x11, x12) = true) (hbt : btreeP (root, l) = true) (hn : inB n 0 2000000000 = true) (hf : shCache.fit 1048576 ((x0, x1, x2), (x3, x4, x5, x6), (x7, x8, x9, x10), x11, x12)) :
  Calls Tryz.prog 54 #[.pointer (some ⟨g, 0, none⟩), .agg #[.int .i64 root, .slice A l.length c], .int .i64 n] W fun e W' => BegP lo g W ((x0, x1, x2), (x3, x4, x5, x6), (x7, x8, x9, x10), x11, x12) (root, l) n e W' := by
 have hgl := hk.lt
 obtain ⟨⟨_, ⟨hn1, _⟩, ⟨hn2, _⟩⟩, ⟨_, _, _, ⟨hn6, _⟩⟩, ⟨_, _, _, ⟨hn10, _⟩⟩, ⟨hn11, _⟩, ⟨hn12, _⟩⟩ := hf
 dsimp only at hn1 hn2 hn6 hn10 hn11 hn12
 have HOK := hd_ (show (cacheP ((x0, x1, x2), (x3, x4, x5, x6), (x7, x8, x9, x10), x11, x12) && btreeP (root, l) && inB n 0 2000000000) = true by rw [hc, hbt, hn]; rfl)
 have hbA := (Below.refl W.heap.size W).alloc (Nat.le_refl _) (.cells #[.int .i64 root, .slice A l.length c] 50)
 have hzA : (W.alloc (.cells #[.int .i64 root, .slice A l.length c] 50)).heap.size = W.heap.size + 1 := by simp
 have HBA := hd_ hbA
 have HKA := hd_ (hk.below hbA hgl)
 have HTA := hd_ (Blk.new W 50 #[.int .i64 root, .slice A l.length c])
 have HRA := hd_ (shBtree.R_below hb hbA (by omega))
 have HO := hd_ ho
 have HRX := hd_ (shCache.R_below ho.reads hbA (by omega))
 have HRX0 := hd_ ho.reads
 have HRB := hd_ hb
 clear hbA hk hb ho hc hbt hn
 go_enter Tryz.func54, Tryz.ntmps54
 go_upto_region 1 with fail
 generalize (W.alloc (.cells #[.int .i64 root, .slice A l.length c] 50)) = WA at *
 have f := HKA.out.cell
 by_cases hd0 : x12.length = 0
 rotate_left
 ·have i1 : (0 : Int) < (x12.length : Int) := by omega
  have i1b : 0 < x12.length := by omega
  have HC := hd_ (show beginCode ((x0, x1, x2), (x3, x4, x5, x6), (x7, x8, x9, x10), x11, x12) (root, l) n = 5 from by unfold beginCode; rw [if_neg (by rw [HOK.out]; simp), if_pos (by rw [decide_eq_false hd0]; rfl)])
  clear hd0
  go_wp2_with fail
  go_ret
  exact ⟨by rw [HC.out]; rfl, HBA.out.mono (by omega), fun h => by rw [HC.out] at h; cases h⟩
 have i1 : ¬ (0 : Int) < (x12.length : Int) := by omega
 have i1c : decide ((0 : Int) < (x12.length : Int)) = false := decide_eq_false i1
 obtain rfl : x12 = [] := List.eq_nil_of_length_eq_zero hd0
 have e1 : (([] : List Int).length : Int) = 0 := rfl
 clear hd0 i1 i1c
 have f : ∀ i, WA.cell? ⟨g, i, none⟩ = (#[.int .i64 x0, .slice B1 x1.length d1, .slice B2 x2.length d2, .int .i64 x3, .int .i64 x4, .int .i64 x5, .slice B6 x6.length d6, .int .i64 x7, .int .i64 x8, .int .i64 x9, .slice B10 x10.length d10, .slice B11 x11.length d11, .slice B12 0 d12] : Array Value)[i]? := f
 by_cases hd1 : x2.length = 0
 rotate_left
 ·have i2 : (0 : Int) < (x2.length : Int) := by omega
  have i2b : 0 < x2.length := by omega
  have HC := hd_ (show beginCode ((x0, x1, x2), (x3, x4, x5, x6), (x7, x8, x9, x10), x11, []) (root, l) n = 5 from by unfold beginCode; rw [if_neg (by rw [HOK.out]; simp), if_pos (by rw [decide_eq_false hd1, Bool.and_false]; rfl)])
  clear hd1
  go_wp2_with fail
  go_ret
  exact ⟨by rw [HC.out]; rfl, HBA.out.mono (by omega), fun h => by rw [HC.out] at h; cases h⟩
 obtain rfl : x2 = [] := List.eq_nil_of_length_eq_zero hd1
 clear hd1
 have e2 : (([] : List TyPut).length : Int) = 0 := rfl
 have f : ∀ i, WA.cell? ⟨g, i, none⟩ = (#[.int .i64 x0, .slice B1 x1.length d1, .slice B2 0 d2, .int .i64 x3, .int .i64 x4, .int .i64 x5, .slice B6 x6.length d6, .int .i64 x7, .int .i64 x8, .int .i64 x9, .slice B10 x10.length d10, .slice B11 x11.length d11, .slice B12 0 d12] : Array Value)[i]? := f
 have HZ := hd_ (isZeroTop_any (x7, x8, x9, x10) _ lo g WA (shCache_f7 HRX.out) (by omega) hn10)
 cases hzk : zeroT (x7, x8, x9, x10) with
 | false =>
  rw [hzk] at HZ
  have HC := hd_ (show beginCode ((x0, x1, []), (x3, x4, x5, x6), (x7, x8, x9, x10), x11, []) (root, l) n = 5 from by unfold beginCode; rw [if_neg (by rw [HOK.out]; simp), if_pos (by rw [hzk, Bool.and_false])])
  clear hzk
  go_wp2_with (first | fail | (refine HZ.out.mono ?_; rintro e1 w2 ⟨rfl, hb2⟩))
  go_ret
  exact ⟨by rw [HC.out]; rfl, (HBA.out.mono (by omega)).trans (hb2.mono (by omega)), fun h => by rw [HC.out] at h; cases h⟩
 | true =>
 rw [hzk] at HZ
 have HZK := hd_ hzk
 clear hzk
 have hcc := HOK.out
 simp only [Bool.and_eq_true] at hcc
 have hx3 : 1 ≤ x3 ∧ x3 ≤ 2000000000 := by
  have h1 := hcc.1.1
  unfold cacheP at h1
  simp only [Bool.and_eq_true, Bool.not_eq_true'] at h1
  obtain ⟨⟨⟨⟨⟨⟨⟨⟨⟨_, _⟩, _⟩, htop⟩, _⟩, _⟩, _⟩, _⟩, _⟩, _⟩ := h1
  unfold topP inB at htop
  simp only [Bool.and_eq_true, decide_eq_true_eq] at htop
  exact htop.1.1.1
 have hl64 : l.length ≤ 64 := by
  have h1 := hcc.1.2
  unfold btreeP at h1
  rw [Bool.and_eq_true] at h1
  exact slots_few h1.1
 clear hcc
 go_wp2_with fail
 refine HZ.out.mono ?_; rintro e1 w2 ⟨rfl, hb2⟩
 have hs2 := hb2.size
 have HB2 := hd_ ((HBA.out.mono (show lo ≤ W.heap.size by omega)).trans (hb2.mono (by omega)))
 have HBW2 := hd_ (show Below W.heap.size W w2 from HBA.out.trans (hb2.mono (by omega)))
 have HK2 := hd_ (HKA.out.below hb2 (by omega))
 have HT2 := hd_ (HTA.out.below hb2 (by omega))
 clear f hb2 HZ HKA HTA
 have hwr : IntKind.i64.wrap (x3 + 1) = x3 + 1 := IntWalk.i64_in _ (by omega)
 go_upto_region 3 with fail
 have hgd : ∀ i, w2.drew.cell? ⟨g, i, none⟩ = (#[.int .i64 x0, .slice B1 x1.length d1, .slice B2 0 d2, .int .i64 x3, .int .i64 x4, .int .i64 x5, .slice B6 x6.length d6, .int .i64 x7, .int .i64 x8, .int .i64 x9, .slice B10 x10.length d10, .slice B11 x11.length d11, .slice B12 0 d12] : Array Value)[i]? := (show Blk w2.drew g 44 #[.int .i64 x0, .slice B1 x1.length d1, .slice B2 0 d2, .int .i64 x3, .int .i64 x4, .int .i64 x5, .slice B6 x6.length d6, .int .i64 x7, .int .i64 x8, .int .i64 x9, .slice B10 x10.length d10, .slice B11 x11.length d11, .slice B12 0 d12] from HK2.out.drewN 1).cell
 have htd : ∀ i, w2.drew.cell? ⟨W.heap.size, i, none⟩ = (#[.int .i64 root, .slice A l.length c] : Array Value)[i]? := (show Blk w2.drew _ _ _ from HT2.out.drewN 1).cell
 refine AnyT.region (fun _ => false) (fun V => (∀ i, V.cell? ⟨g, i, none⟩ = (#[.int .i64 x0, .slice B1 x1.length d1, .slice B2 0 d2, .int .i64 x3, .int .i64 x4, .int .i64 x5, .slice B6 x6.length d6, .int .i64 x7, .int .i64 x8, .int .i64 x9, .slice B10 x10.length d10, .slice B11 x11.length d11, .slice B12 0 d12] : Array Value)[i]?) ∧ ∀ i, V.cell? ⟨W.heap.size, i, none⟩ = (#[.int .i64 root, .slice A l.length c] : Array Value)[i]?) (by kernel_rfl) ⟨hgd, htd⟩ (fun hHeld => ?_)
 have HB2 := hd_ (show Below lo W w2.drew from HB2.out.drew)
 have HBW2 := hd_ (show Below W.heap.size W w2.drew from HBW2.out.drew)
 have HK2 := hd_ (show Blk w2.drew g 44 #[.int .i64 x0, .slice B1 x1.length d1, .slice B2 0 d2, .int .i64 x3, .int .i64 x4, .int .i64 x5, .slice B6 x6.length d6, .int .i64 x7, .int .i64 x8, .int .i64 x9, .slice B10 x10.length d10, .slice B11 x11.length d11, .slice B12 0 d12] from HK2.out.drewN 1)
 have HT2 := hd_ (show Blk w2.drew _ _ _ from HT2.out.drewN 1)
 have hs2 : WA.heap.size ≤ w2.drew.heap.size := hs2
 clear hgd htd
 generalize w2.drew = w3 at *
 (refine tA 0 34 ?_; simp only [pz])
 (refine tA 1 35 ?_; simp only [pz])
 (refine tA 2 36 ?_; simp only [pz])
 (refine tA 3 37 ?_; simp only [pz])
 (refine tK 4 38 ?_; simp only [pz])
 (refine tA 5 39 ?_; simp only [pz])
 (refine tA 6 40 ?_; simp only [pz])
 (refine tK 7 41 ?_; simp only [pz])
 (refine tA 8 42 ?_; simp only [pz])
 (refine tA 9 43 ?_; simp only [pz])
 refine oNe 10 fun K hK => ?_
 go_simp
 have hzB : (w3.alloc (.cells zz8 42)).heap.size = w3.heap.size + 1 := by simp
 have hbB := (Below.refl w3.heap.size w3).alloc (Nat.le_refl _) (.cells zz8 42)
 have HN3 := hd_ (Blk.new w3 42 zz8)
 refine hK.out _ _ ⟨(HK2.out.below hbB (by omega)).cell, (HT2.out.below hbB (by omega)).cell⟩ (fun hHeld => ?_)
 clear hK K
 (try simp only [pz])
 have HONE := hd_ (show ∀ u ∈ (#[.int .i64 (x3 + 1), .int .i64 root, .int .i64 n, .slice none 0 0] : Array Value).toList, u.oneCell' = true from by
  intro u hu; simp only [List.mem_cons, List.not_mem_nil, or_false] at hu; rcases hu with rfl | rfl | rfl | rfl <;> rfl)
 refine AnyT.storeAll (i := 11) (by kernel_rfl) rfl (by kernel_rfl) 42 (.tmp 7) (.tmp 43) rfl w3.heap.size #[.int .i64 (x3 + 1), .int .i64 root, .int .i64 n, .slice none 0 0] rfl rfl HN3.out (by kernel_rfl) rfl HONE.out ?_
 intro w6 hN6 hO6 hz6
 have hs6 : w6.heap.size = w3.heap.size + 1 := by rw [hz6, hzB]
 have hB36 : Below w3.heap.size w3 w6 := hbB.trans (hO6.below1 (Nat.le_refl _) (by omega))
 have HK6 := hd_ (HK2.out.below hB36 (by omega))
 have HT6 := hd_ (HT2.out.below hB36 (by omega))
 refine ⟨⟨HK6.out.cell, HT6.out.cell⟩, fun hHeld => ?_⟩
 have HB6 := hd_ (HB2.out.trans (hB36.mono (by omega)))
 have HBW6 := hd_ (HBW2.out.trans (hB36.mono (by omega)))
 have HN6 := hd_ hN6
 refine AnyT.done (by kernel_rfl) ?_ _
 have HB36 := hd_ hB36
 clear hHeld hbB hzB HN3 hO6 hB36 HONE hN6 hz6 HRX HRA
 have ft := HT6.out.cell
 go_wp2_with fail
 clear ft
 go_loopw [47] (fun i wr => ∃ (k : Nat) (A7 : Option Addr) (c7 : Nat), k ≤ l.length ∧ i = .int .i64 k ∧ Hid (∀ j, j < k → (seatFor ((x0, x1, []), (x3, x4, x5, x6), (x7, x8, x9, x10), x11, []) (l.getD j shSlot.d).1).2 ≠ 0) ∧ Below w3.heap.size w3 wr ∧ Hid (Blk wr w3.heap.size 42 #[.int .i64 (x3 + 1), .int .i64 root, .int .i64 n, .slice A7 k c7]) ∧ Hid (Own (Sh.row 88 shSeat) wr (w3.heap.size + 1) wr.heap.size [.slice A7 k c7] ((l.take k).map fun s => seatFor ((x0, x1, []), (x3, x4, x5, x6), (x7, x8, x9, x10), x11, []) s.1))) (fun i _ => l.length - (intOf i).toNat)
 case atStart =>
  refine ⟨0, none, 0, Nat.zero_le _, rfl, hd_ (fun j hj => absurd hj (Nat.not_lt_zero j)), ?_, HN6, hd_ (Own.nil_row _ _ _)⟩
  exact HB36.out
 case round =>
 obtain ⟨k, A7, c7, hk, rfl, HNO, hbel, HBL, HOS⟩ := hrel
 have hszr := hbel.size
 have HBE := hd_ hbel
 have HBWr := hd_ (show Below W.heap.size W wr from HBW2.out.trans (hbel.mono (by omega)))
 have HBlr := hd_ (show Below lo W wr from HB2.out.trans (hbel.mono (by omega)))
 have HKr := hd_ (HK2.out.below hbel (by omega))
 clear hbel
 by_cases hlt : k < l.length
 ·obtain ⟨-, b', off', rfl, hb1', hb2', E2, u2, E3, u3, E4, u4, e0, e1, e2, e3, e4, -⟩ := shSlot_at (shBtree_f1 (shBtree.R_below HRB.out HBWr.out (by omega))) hlt
  have hX2 : l[k] = l.getD k shSlot.d := by rw [List.getD_eq_getElem?_getD, List.getElem?_eq_getElem hlt]; rfl
  have HX2 := hd_ hX2
  clear hX2
  have i1 : (k : Int) < (l.length : Int) := by omega
  have hbw : b' < wr.heap.size := by omega
  have hnx := fun (h : (seatFor ((x0, x1, []), (x3, x4, x5, x6), (x7, x8, x9, x10), x11, []) (l.getD k shSlot.d).1).2 ≠ 0) => show ∀ j, j < k + 1 → (seatFor ((x0, x1, []), (x3, x4, x5, x6), (x7, x8, x9, x10), x11, []) (l.getD j shSlot.d).1).2 ≠ 0 from fun j hj => by
   rcases Nat.lt_or_ge j k with h1 | h1
   ·exact HNO.out j h1
   ·obtain rfl : j = k := by omega
    exact h
  have HNX0 := hd_ hnx
  have HANY := hd_ (fun (h : (seatFor ((x0, x1, []), (x3, x4, x5, x6), (x7, x8, x9, x10), x11, []) (l.getD k shSlot.d).1).2 = 0) => show (seatsOf ((x0, x1, []), (x3, x4, x5, x6), (x7, x8, x9, x10), x11, []) (root, l)).any (fun s => decide (s.2 = 0)) = true from by
   rw [List.any_eq_true]
   refine ⟨seatFor ((x0, x1, []), (x3, x4, x5, x6), (x7, x8, x9, x10), x11, []) (l.getD k shSlot.d).1, ?_, by rw [h]; simp⟩
   unfold seatsOf
   exact List.mem_map.2 ⟨l.getD k shSlot.d, getD_in hlt, rfl⟩)
  clear hnx
  generalize l.getD k shSlot.d = X at *
  obtain ⟨y, p0, p1, p2, p3⟩ := X
  dsimp only at e0 e1 e2 e3 e4 HNX0 HANY
  have hbS := (Below.refl wr.heap.size wr).alloc (Nat.le_refl _) (.cells #[.int .i64 y, .bool p0, .slice E2 p1.length u2, .slice E3 p2.length u3, .slice E4 p3.length u4] 85)
  have hzS : (wr.alloc (.cells #[.int .i64 y, .bool p0, .slice E2 p1.length u2, .slice E3 p2.length u3, .slice E4 p3.length u4] 85)).heap.size = wr.heap.size + 1 := by simp
  have HKv := hd_ (HKr.out.below hbS (by omega))
  have HSv := hd_ (Blk.new wr 85 #[.int .i64 y, .bool p0, .slice E2 p1.length u2, .slice E3 p2.length u3, .slice E4 p3.length u4])
  have HBv := hd_ hbS
  clear hbS
  go_upto_region 7 with fail
  clear e0 e1 e2 e3 e4
  generalize (wr.alloc (.cells #[.int .i64 y, .bool p0, .slice E2 p1.length u2, .slice E3 p2.length u3, .slice E4 p3.length u4] 85)) = wS at *
  have hszv : wr.heap.size + 1 ≤ wS.heap.size := by omega
  have hgv : ∀ i, wS.drew.cell? ⟨g, i, none⟩ = (#[.int .i64 x0, .slice B1 x1.length d1, .slice B2 0 d2, .int .i64 x3, .int .i64 x4, .int .i64 x5, .slice B6 x6.length d6, .int .i64 x7, .int .i64 x8, .int .i64 x9, .slice B10 x10.length d10, .slice B11 x11.length d11, .slice B12 0 d12] : Array Value)[i]? := (show Blk wS.drew g 44 #[.int .i64 x0, .slice B1 x1.length d1, .slice B2 0 d2, .int .i64 x3, .int .i64 x4, .int .i64 x5, .slice B6 x6.length d6, .int .i64 x7, .int .i64 x8, .int .i64 x9, .slice B10 x10.length d10, .slice B11 x11.length d11, .slice B12 0 d12] from HKv.out.drewN 1).cell
  have htv : ∀ i, wS.drew.cell? ⟨wr.heap.size, i, none⟩ = (#[.int .i64 y, .bool p0, .slice E2 p1.length u2, .slice E3 p2.length u3, .slice E4 p3.length u4] : Array Value)[i]? := (show Blk wS.drew _ _ _ from HSv.out.drewN 1).cell
  refine AnyT.region (fun _ => false) (fun V => (∀ i, V.cell? ⟨g, i, none⟩ = (#[.int .i64 x0, .slice B1 x1.length d1, .slice B2 0 d2, .int .i64 x3, .int .i64 x4, .int .i64 x5, .slice B6 x6.length d6, .int .i64 x7, .int .i64 x8, .int .i64 x9, .slice B10 x10.length d10, .slice B11 x11.length d11, .slice B12 0 d12] : Array Value)[i]?) ∧ ∀ i, V.cell? ⟨wr.heap.size, i, none⟩ = (#[.int .i64 y, .bool p0, .slice E2 p1.length u2, .slice E3 p2.length u3, .slice E4 p3.length u4] : Array Value)[i]?) (by kernel_rfl) ⟨hgv, htv⟩ (fun hHeld => ?_)
  have HCV := hd_ (slotOf_any B11 d11 x11 y lo g wS.drew (shCache_f11 (shCache.R_below HRX0.out ((HBWr.out.trans (HBv.out.mono (by omega))).drew) (by omega))) (by show g ≤ wS.heap.size; omega) hn11)
  clear hgv htv
  (refine tA 0 51 ?_; simp only [pz])
  (refine tA 1 52 ?_; simp only [pz])
  (refine tA 2 53 ?_; simp only [pz])
  (refine tK 3 54 ?_; simp only [pz])
  (refine tA 4 55 ?_; simp only [pz])
  (refine tK 5 56 ?_; simp only [pz])
  refine oNe 6 fun K hK => ?_
  go_simp
  refine HCV.out.mono ?_; rintro e1 wa ⟨rfl, hbv⟩
  go_simp
  have hsv := hbv.size
  have hbv := (Below.refl wS.heap.size wS).drew.trans hbv
  have HKv := hd_ (HKv.out.below hbv (by omega))
  have HSv := hd_ (HSv.out.below hbv (by omega))
  have HBv := hd_ (HBv.out.trans (hbv.mono (by omega)))
  have hszv : wr.heap.size + 1 ≤ wa.heap.size := by have := hbv.size; omega
  refine hK.out _ _ ⟨HKv.out.cell, HSv.out.cell⟩ (fun hHeld => ?_)
  clear hK K hbv hsv HCV
  (try simp only [pz])
  (refine tA 7 10 ?_; simp only [pz])
  refine AnyT.done (by kernel_rfl) ?_ _
  clear hHeld
  by_cases hs1 : slotFor x11 y = 0
  ·have q1 : (slotFor x11 y == 0) = true := beq_iff_eq.2 hs1
   have hsd : seatFor ((x0, x1, []), (x3, x4, x5, x6), (x7, x8, x9, x10), x11, []) y = (y, slotFor x6 y) := by
    unfold seatFor; dsimp only; rw [if_pos hs1]
   rw [hsd] at HNX0 HANY
   rw [hs1]
   clear q1 hs1
   go_upto_region 9 with fail
   have hgv : ∀ i, wa.drew.cell? ⟨g, i, none⟩ = (#[.int .i64 x0, .slice B1 x1.length d1, .slice B2 0 d2, .int .i64 x3, .int .i64 x4, .int .i64 x5, .slice B6 x6.length d6, .int .i64 x7, .int .i64 x8, .int .i64 x9, .slice B10 x10.length d10, .slice B11 x11.length d11, .slice B12 0 d12] : Array Value)[i]? := (show Blk wa.drew g 44 #[.int .i64 x0, .slice B1 x1.length d1, .slice B2 0 d2, .int .i64 x3, .int .i64 x4, .int .i64 x5, .slice B6 x6.length d6, .int .i64 x7, .int .i64 x8, .int .i64 x9, .slice B10 x10.length d10, .slice B11 x11.length d11, .slice B12 0 d12] from HKv.out.drewN 1).cell
   have htv : ∀ i, wa.drew.cell? ⟨wr.heap.size, i, none⟩ = (#[.int .i64 y, .bool p0, .slice E2 p1.length u2, .slice E3 p2.length u3, .slice E4 p3.length u4] : Array Value)[i]? := (show Blk wa.drew _ _ _ from HSv.out.drewN 1).cell
   refine AnyT.region (fun _ => false) (fun V => (∀ i, V.cell? ⟨g, i, none⟩ = (#[.int .i64 x0, .slice B1 x1.length d1, .slice B2 0 d2, .int .i64 x3, .int .i64 x4, .int .i64 x5, .slice B6 x6.length d6, .int .i64 x7, .int .i64 x8, .int .i64 x9, .slice B10 x10.length d10, .slice B11 x11.length d11, .slice B12 0 d12] : Array Value)[i]?) ∧ ∀ i, V.cell? ⟨wr.heap.size, i, none⟩ = (#[.int .i64 y, .bool p0, .slice E2 p1.length u2, .slice E3 p2.length u3, .slice E4 p3.length u4] : Array Value)[i]?) (by kernel_rfl) ⟨hgv, htv⟩ (fun hHeld => ?_)
   have HCV := hd_ (slotOf_any B6 d6 x6 y lo g wa.drew (shTop_f3 (shCache_f3 (shCache.R_below HRX0.out ((HBWr.out.trans (HBv.out.mono (by omega))).drew) (by omega)))) (by show g ≤ wa.heap.size; omega) hn6)
   clear hgv htv
   (refine tA 0 60 ?_; simp only [pz])
   (refine tA 1 61 ?_; simp only [pz])
   (refine tA 2 62 ?_; simp only [pz])
   (refine tA 3 63 ?_; simp only [pz])
   (refine tK 4 64 ?_; simp only [pz])
   (refine tA 5 65 ?_; simp only [pz])
   (refine tK 6 66 ?_; simp only [pz])
   refine oNe 7 fun K hK => ?_
   go_simp
   refine HCV.out.mono ?_; rintro e1 wb ⟨rfl, hbv⟩
   go_simp
   have hsv := hbv.size
   have hbv := (Below.refl wa.heap.size wa).drew.trans hbv
   have HKv := hd_ (HKv.out.below hbv (by omega))
   have HSv := hd_ (HSv.out.below hbv (by omega))
   have HBv := hd_ (HBv.out.trans (hbv.mono (by omega)))
   have hszv : wr.heap.size + 1 ≤ wb.heap.size := by have := hbv.size; omega
   refine hK.out _ _ ⟨HKv.out.cell, HSv.out.cell⟩ (fun hHeld => ?_)
   clear hK K hbv hsv HCV
   (try simp only [pz])
   (refine tA 8 10 ?_; simp only [pz])
   refine AnyT.done (by kernel_rfl) ?_ _
   clear hHeld
   by_cases hs2 : slotFor x6 y = 0
   ·rw [hs2]
    have HC := hd_ (show beginCode ((x0, x1, []), (x3, x4, x5, x6), (x7, x8, x9, x10), x11, []) (root, l) n = 3 from by unfold beginCode; rw [if_neg (by rw [HOK.out]; simp), if_neg (by rw [HZK.out]; simp), if_pos (by exact HANY.out hs2)])
    clear hs2 hsd
    go_wp2_with fail
    go_ret
    exact ⟨by rw [HC.out]; rfl, HBlr.out.trans (HBv.out.mono (by omega)), fun h => by rw [HC.out] at h; cases h⟩
   ·have HNX := hd_ (HNX0.out hs2)
    have q2 : (slotFor x6 y == 0) = false := beq_eq_false_iff_ne.2 hs2
    have HSD := hd_ hsd
    clear hsd HNX0 HANY
    generalize slotFor x6 y = sl at *
    have HLEN : Hid (((l.take k).map fun s => seatFor ((x0, x1, []), (x3, x4, x5, x6), (x7, x8, x9, x10), x11, []) s.1).length = k) := hd_ (by rw [List.length_map, List.length_take]; omega)
    have HTK := hd_ (show ((l.take k).map fun s => seatFor ((x0, x1, []), (x3, x4, x5, x6), (x7, x8, x9, x10), x11, []) s.1) ++ [(y, sl)] = (l.take (k + 1)).map fun s => seatFor ((x0, x1, []), (x3, x4, x5, x6), (x7, x8, x9, x10), x11, []) s.1 from by
     rw [List.take_succ_eq_append_getElem hlt, List.map_append, ← HSD.out, HX2.out]; rfl)
    have HBL := hd_ (HBL.out.below HBv.out HBL.out.lt)
    have HOS := hd_ ((HOS.out.below HBv.out (Nat.le_refl _)).more (Nat.le_refl _) (show wr.heap.size ≤ wb.heap.size by omega))
    have hbs : w3.heap.size + 1 ≤ wb.heap.size := HBL.out.lt
    have f7 := HBL.out.cell
    have z7 := HBL.out.frozen
    have fs := HSv.out.cell
    go_wp2_with (first
     | fail
     | (at_builtin; refine wpList_grow (s := shSeat) (t := 88) rfl (.tmp 71) (.tmp 76) 40 rfl Tryz.underlying40 rfl (by decide) (by decide) infoSeat wb (w3.heap.size + 1) wb.heap.size wb.heap.size wb.heap.size A7 k c7 ((l.take k).map fun s => seatFor ((x0, x1, []), (x3, x4, x5, x6), (x7, x8, x9, x10), x11, []) s.1) [.int .i64 y, .int .i64 sl] (y, sl) rfl HOS.out ⟨[], shSeat_O.2 ⟨rfl, rfl⟩, List.nodup_nil, fun q hq => by cases hq⟩ (Nat.le_refl _) hbs (Nat.le_refl _) hbs rfl (by omega) ?_; intro A' c' w8 ho8 hb8 hs8 hk8; have hB8 := HBL.out.below hb8 (Nat.lt_succ_self _); have f8' := hB8.cell; have z8' := hB8.frozen))
    have hz9 : (w8.setCell ⟨w3.heap.size, 3, none⟩ (.slice A' (k + 1) c')).heap.size = w8.heap.size := by simp [World.setCell]
    have HN9 := hd_ (hB8.set_ 3 (.slice A' (k + 1) c'))
    rw [HTK.out] at ho8
    have HO9 := hd_ ((ho8.setCell (p := ⟨w3.heap.size, 3, none⟩) (by dsimp only; omega) (.slice A' (k + 1) c')).more (Nat.le_refl _) (Nat.le_of_eq hz9.symm))
    have HB9 := hd_ (((HBE.out.trans (HBv.out.mono (by omega))).trans (hb8.mono (Nat.le_succ _) |>.trans (Below.refl _ _))).setCell (p := ⟨w3.heap.size, 3, none⟩) (Nat.le_refl _) (.slice A' (k + 1) c'))
    clear f8' z8' hB8 ho8 hb8 hk8
    go_roundw
    case rel => exact ⟨k + 1, A', c', by omega, by go_num, hd_ HNX.out, HB9.out, HN9, HO9⟩
    case measure => simp [intOf]; omega
  ·have q1 : (slotFor x11 y == 0) = false := beq_eq_false_iff_ne.2 hs1
   have hsd : seatFor ((x0, x1, []), (x3, x4, x5, x6), (x7, x8, x9, x10), x11, []) y = (y, slotFor x11 y) := by
    unfold seatFor; dsimp only; rw [if_neg hs1]
   rw [hsd] at HNX0
   have HNX := hd_ (HNX0.out hs1)
   have HSD := hd_ hsd
   clear hsd HNX0 HANY
   generalize slotFor x11 y = sl at *
   have HLEN : Hid (((l.take k).map fun s => seatFor ((x0, x1, []), (x3, x4, x5, x6), (x7, x8, x9, x10), x11, []) s.1).length = k) := hd_ (by rw [List.length_map, List.length_take]; omega)
   have HTK := hd_ (show ((l.take k).map fun s => seatFor ((x0, x1, []), (x3, x4, x5, x6), (x7, x8, x9, x10), x11, []) s.1) ++ [(y, sl)] = (l.take (k + 1)).map fun s => seatFor ((x0, x1, []), (x3, x4, x5, x6), (x7, x8, x9, x10), x11, []) s.1 from by
    rw [List.take_succ_eq_append_getElem hlt, List.map_append, ← HSD.out, HX2.out]; rfl)
   have HBL := hd_ (HBL.out.below HBv.out HBL.out.lt)
   have HOS := hd_ ((HOS.out.below HBv.out (Nat.le_refl _)).more (Nat.le_refl _) (show wr.heap.size ≤ wa.heap.size by omega))
   have hbs : w3.heap.size + 1 ≤ wa.heap.size := HBL.out.lt
   have f7 := HBL.out.cell
   have z7 := HBL.out.frozen
   have fs := HSv.out.cell
   go_wp2_with (first
    | fail
    | (at_builtin; refine wpList_grow (s := shSeat) (t := 88) rfl (.tmp 71) (.tmp 76) 40 rfl Tryz.underlying40 rfl (by decide) (by decide) infoSeat wa (w3.heap.size + 1) wa.heap.size wa.heap.size wa.heap.size A7 k c7 ((l.take k).map fun s => seatFor ((x0, x1, []), (x3, x4, x5, x6), (x7, x8, x9, x10), x11, []) s.1) [.int .i64 y, .int .i64 sl] (y, sl) rfl HOS.out ⟨[], shSeat_O.2 ⟨rfl, rfl⟩, List.nodup_nil, fun q hq => by cases hq⟩ (Nat.le_refl _) hbs (Nat.le_refl _) hbs rfl (by omega) ?_; intro A' c' w8 ho8 hb8 hs8 hk8; have hB8 := HBL.out.below hb8 (Nat.lt_succ_self _); have f8' := hB8.cell; have z8' := hB8.frozen))
   have hz9 : (w8.setCell ⟨w3.heap.size, 3, none⟩ (.slice A' (k + 1) c')).heap.size = w8.heap.size := by simp [World.setCell]
   have HN9 := hd_ (hB8.set_ 3 (.slice A' (k + 1) c'))
   rw [HTK.out] at ho8
   have HO9 := hd_ ((ho8.setCell (p := ⟨w3.heap.size, 3, none⟩) (by dsimp only; omega) (.slice A' (k + 1) c')).more (Nat.le_refl _) (Nat.le_of_eq hz9.symm))
   have HB9 := hd_ (((HBE.out.trans (HBv.out.mono (by omega))).trans (hb8.mono (Nat.le_succ _) |>.trans (Below.refl _ _))).setCell (p := ⟨w3.heap.size, 3, none⟩) (Nat.le_refl _) (.slice A' (k + 1) c'))
   clear f8' z8' hB8 ho8 hb8 hk8
   go_roundw
   case rel => exact ⟨k + 1, A', c', by omega, by go_num, hd_ HNX.out, HB9.out, HN9, HO9⟩
   case measure => simp [intOf]; omega
 ·obtain rfl : k = l.length := by omega
  have i1 : ¬ ((l.length : Nat) : Int) < (l.length : Int) := by omega
  have HSQ := hd_ (show (l.take l.length).map (fun s => seatFor ((x0, x1, []), (x3, x4, x5, x6), (x7, x8, x9, x10), x11, []) s.1) = seatsOf ((x0, x1, []), (x3, x4, x5, x6), (x7, x8, x9, x10), x11, []) (root, l) by rw [List.take_length]; rfl)
  rw [HSQ.out] at HOS
  have HNZ := hd_ (show (seatsOf ((x0, x1, []), (x3, x4, x5, x6), (x7, x8, x9, x10), x11, []) (root, l)).any (fun s => decide (s.2 = 0)) = false from by
   rw [List.any_eq_false]
   intro s hs
   unfold seatsOf at hs
   obtain ⟨t, ht, rfl⟩ := List.mem_map.1 hs
   obtain ⟨j, hj, rfl⟩ := List.getElem_of_mem ht
   have := HNO.out j hj
   rw [List.getD_eq_getElem?_getD, List.getElem?_eq_getElem hj] at this
   simpa using this)
  have f := HKr.out.cell
  by_cases hbig : 2000000000 < x3 + 1
  ·have i4 : (x3 == 2000000000) = true := by rw [beq_iff_eq]; omega
   have HC := hd_ (show beginCode ((x0, x1, []), (x3, x4, x5, x6), (x7, x8, x9, x10), x11, []) (root, l) n = 4 from by unfold beginCode; rw [if_neg (by rw [HOK.out]; simp), if_neg (by rw [HZK.out]; simp), if_neg (by rw [HNZ.out]; simp), if_pos hbig])
   clear hbig
   go_wp2_with fail
   go_ret
   exact ⟨by rw [HC.out]; rfl, HBlr.out, fun h => by rw [HC.out] at h; cases h⟩
  ·have i4 : (x3 == 2000000000) = false := by rw [beq_eq_false_iff_ne]; omega
   have HTOK := hd_ (show topP (nextTop ((x0, x1, []), (x3, x4, x5, x6), (x7, x8, x9, x10), x11, []) (root, l) n) = true from by
    have hc := HOK.out
    simp only [Bool.and_eq_true] at hc
    exact nextTop_ok hc.1.1 hc.1.2 hc.2 HNZ.out hbig)
   have HC := hd_ (show beginCode ((x0, x1, []), (x3, x4, x5, x6), (x7, x8, x9, x10), x11, []) (root, l) n = 0 from by unfold beginCode; rw [if_neg (by rw [HOK.out]; simp), if_neg (by rw [HZK.out]; simp), if_neg (by rw [HNZ.out]; simp), if_neg hbig])
   have HOUT := hd_ (show beginOut ((x0, x1, []), (x3, x4, x5, x6), (x7, x8, x9, x10), x11, []) (root, l) n = ((x0, x1, [((x3 + 1) % 2, mkB (topBytes (nextTop ((x0, x1, []), (x3, x4, x5, x6), (x7, x8, x9, x10), x11, []) (root, l) n)))]), (x3, x4, x5, x6), nextTop ((x0, x1, []), (x3, x4, x5, x6), (x7, x8, x9, x10), x11, []) (root, l) n, x11, []) by unfold beginOut; rw [if_pos HC.out]; rfl)
   have HLS := hd_ (show (seatsOf ((x0, x1, []), (x3, x4, x5, x6), (x7, x8, x9, x10), x11, []) (root, l)).length = l.length by unfold seatsOf; rw [List.length_map])
   have hrem : Int.tmod (x3 + 1) 2 = (x3 + 1) % 2 := Int.tmod_eq_emod_of_nonneg (by omega)
   have z := HKr.out.frozen
   have f8 := HBL.out.cell
   have hwl := HBL.out.lt
   clear hbig
   go_upto_region 17 with fail
   clear f z f8
   have HBz := hd_ (Out.refl [g] wr)
   have hset : ∀ (V : World) (j : Nat) (u : Value), Out [g] wr V → Out [g] wr (V.setCell ⟨g, j, none⟩ u) := fun V j u h => h.setCell (List.mem_singleton.2 rfl) u
   have HO11 := hd_ (hset _ 10 (.slice A7 l.length c7) (hset _ 9 (.int .i64 n) (hset _ 8 (.int .i64 root) (hset wr 7 (.int .i64 (x3 + 1)) HBz.out))))
   have HN11 : Hid (Blk ((((wr.setCell ⟨g, 7, none⟩ (.int .i64 (x3 + 1))).setCell ⟨g, 8, none⟩ (.int .i64 root)).setCell ⟨g, 9, none⟩ (.int .i64 n)).setCell ⟨g, 10, none⟩ (.slice A7 l.length c7)) g 44 #[.int .i64 x0, .slice B1 x1.length d1, .slice B2 0 d2, .int .i64 x3, .int .i64 x4, .int .i64 x5, .slice B6 x6.length d6, .int .i64 (x3 + 1), .int .i64 root, .int .i64 n, .slice A7 l.length c7, .slice B11 x11.length d11, .slice B12 0 d12]) := hd_ (by
    have := (((HKr.out.set_ 7 (.int .i64 (x3 + 1))).set_ 8 (.int .i64 root)).set_ 9 (.int .i64 n)).set_ 10 (.slice A7 l.length c7)
    simpa only [List.setIfInBounds_toArray, List.set_cons_zero, List.set_cons_succ] using this)
   clear hset HBz
   generalize ((((wr.setCell ⟨g, 7, none⟩ (.int .i64 (x3 + 1))).setCell ⟨g, 8, none⟩ (.int .i64 root)).setCell ⟨g, 9, none⟩ (.int .i64 n)).setCell ⟨g, 10, none⟩ (.slice A7 l.length c7)) = w11 at *
   have hs11 := HO11.out.size
   have HTB := hd_ (show Blk w11 w3.heap.size 42 _ from (HO11.out.block w3.heap.size hwl (fun h => by have := List.mem_singleton.1 h; omega)).trans HBL.out)
   have HOS11 := hd_ (HOS.out.outOf HO11.out (.inl (by omega)))
   have htd : ∀ i, w11.drew.cell? ⟨w3.heap.size, i, none⟩ = (#[.int .i64 (x3 + 1), .int .i64 root, .int .i64 n, .slice A7 l.length c7] : Array Value)[i]? := (show Blk w11.drew _ _ _ from HTB.out.drewN 1).cell
   have HPT := hd_ (putTopP_any (nextTop ((x0, x1, []), (x3, x4, x5, x6), (x7, x8, x9, x10), x11, []) (root, l) n) [.int .i64 (x3 + 1), .int .i64 root, .int .i64 n, .slice A7 l.length c7] (w3.heap.size + 1) wr.heap.size w11.drew (shTop_R.2 ⟨A7, c7, by rw [HLS.out], rowG_ofC (t := 88) (c := c7) (by
    rw [HLS.out]
    exact (Sh.row 88 shSeat).R_below HOS11.out.reads (Below.refl w11.heap.size w11).drew (by omega))⟩) (by show wr.heap.size ≤ w11.heap.size; omega) (by show (seatsOf ((x0, x1, []), (x3, x4, x5, x6), (x7, x8, x9, x10), x11, []) (root, l)).length ≤ _; rw [HLS.out]; omega))
   refine AnyT.region (fun _ => false) (fun V => ∀ i, V.cell? ⟨w3.heap.size, i, none⟩ = (#[.int .i64 (x3 + 1), .int .i64 root, .int .i64 n, .slice A7 l.length c7] : Array Value)[i]?) (by kernel_rfl) htd (fun hHeld => ?_)
   clear htd
   (refine tA 0 90 ?_; simp only [pz])
   (refine tA 1 91 ?_; simp only [pz])
   (refine tA 2 92 ?_; simp only [pz])
   (refine tA 3 93 ?_; simp only [pz])
   (refine tK 4 94 ?_; simp only [pz])
   (refine tA 5 95 ?_; simp only [pz])
   (refine tK 6 96 ?_; simp only [pz])
   refine oNe 7 fun K hK => ?_
   go_simp
   refine HPT.out.mono ?_; rintro e1 p1 ⟨rfl, hbp⟩
   go_simp
   have hbp := (Below.refl w11.heap.size w11).drew.trans hbp
   have hsp := hbp.size
   have HBP := hd_ hbp
   have HTP := hd_ (HTB.out.below hbp (by omega))
   refine hK.out _ _ HTP.out.cell (fun hHeld => ?_)
   clear hK K hbp HPT
   (try simp only [pz])
   have oX := HO.out.toS
   obtain ⟨SD, SR, oD, oR, hD, hR, dDR⟩ := OwnS.cut (a := shDisk) (us := [.int .i64 x0, .slice B1 x1.length d1, .slice B2 ([] : List TyPut).length d2]) (x := (x0, x1, [])) oX rfl
   obtain ⟨_, SE, _, oE, _, hE, _⟩ := OwnS.cut (us := [.int .i64 x0]) (x := x0) oD rfl
   obtain ⟨S1, SP, o1, oP, h1, hP, dP⟩ := OwnS.cut (us := [.slice B1 x1.length d1]) (x := x1) oE rfl
   obtain ⟨ST, SU, oT, oU, hT, hU, dTU⟩ := OwnS.cut (a := shTop) (us := [.int .i64 x3, .int .i64 x4, .int .i64 x5, .slice B6 x6.length d6]) (x := (x3, x4, x5, x6)) oR rfl
   obtain ⟨_, SV, _, oV, _, hV, _⟩ := OwnS.cut (a := shTop) (us := [.int .i64 x7, .int .i64 x8, .int .i64 x9, .slice B10 x10.length d10]) (x := (x7, x8, x9, x10)) oU rfl
   obtain ⟨SN, SI, oN, oI, hN, hI, dNI⟩ := OwnS.cut (us := [.slice B11 x11.length d11]) (x := x11) oV rfl
   have bS : ∀ c, SD c ∨ SR c → lo ≤ c ∧ c < g := fun c h => h.elim (hD c) (hR c)
   have hgw : g < wr.heap.size := by omega
   have mv : ∀ {α : Type} {s : Sh α} {S : Nat → Prop} {vs : List Value} {x : α}, OwnS s W S vs x → (∀ c, S c → lo ≤ c ∧ c < g) → OwnS s p1 S vs x := fun h hS =>
    ((h.belowW HBWr.out).keep (T := fun b => b = g) (KeepS.ofOut HO11.out fun q hq => List.mem_singleton.1 hq) (fun b hb e => by have := hS b hb; omega)).belowW HBP.out
   have oP1 := mv oP (fun c h => bS c (.inl (hE c (hP c h))))
   have HN12 := hd_ (HN11.out.below HBP.out (by omega))
   refine oNe 8 fun K hK => ?_
   go_simp
   refine (diskPutI_any g 44 #[.int .i64 x0, .slice B1 x1.length d1, .slice B2 0 d2, .int .i64 x3, .int .i64 x4, .int .i64 x5, .slice B6 x6.length d6, .int .i64 (x3 + 1), .int .i64 root, .int .i64 n, .slice A7 l.length c7, .slice B11 x11.length d11, .slice B12 0 d12] B2 d2 SP ((x3 + 1) % 2) (mkB (topBytes (nextTop ((x0, x1, []), (x3, x4, x5, x6), (x7, x8, x9, x10), x11, []) (root, l) n))) p1 HN12.out rfl oP1 (fun h => by have := bS g (.inl (hE g (hP g h))); omega)).mono ?_
   rintro e1 p2 ⟨rfl, A', c', hk2, oQ, hks⟩
   go_simp
   have hsp2 := hks.size
   have HTQ := hd_ (show Blk p2 w3.heap.size 42 _ from (hks.block w3.heap.size (by omega) (fun h => by
    rcases h with h | h
    ·have := bS _ (.inl (hE _ (hP _ h))); omega
    ·omega)).trans HTP.out)
   refine hK.out _ _ HTQ.out.cell (fun hHeld => ?_)
   clear hK K
   (try simp only [pz])
   refine AnyT.done (by kernel_rfl) ?_ _
   have mw : ∀ {α : Type} {s : Sh α} {S : Nat → Prop} {vs : List Value} {x : α}, OwnS s p1 S vs x → (∀ c, S c → c ≠ g) → (∀ c, S c → ¬ SP c) → OwnS s p2 S vs x := fun h h1 h2 =>
    h.keep hks (fun b hb hh => hh.elim (h2 b hb) (h1 b hb))
   have q1 := mw (mv o1 (fun c h => bS c (.inl (hE c (h1 c h))))) (fun c h e => by have := bS c (.inl (hE c (h1 c h))); omega) (fun c h => dP c h)
   have qT := mw (mv oT (fun c h => bS c (.inr (hT c h)))) (fun c h e => by have := bS c (.inr (hT c h)); omega) (fun c h k => dDR c (hE c (hP c k)) (hT c h))
   have qN := mw (mv oN (fun c h => bS c (.inr (hU c (hV c (hN c h)))))) (fun c h e => by have := bS c (.inr (hU c (hV c (hN c h)))); omega) (fun c h k => dDR c (hE c (hP c k)) (hU c (hV c (hN c h))))
   have qI := mw (mv oI (fun c h => bS c (.inr (hU c (hV c (hI c h)))))) (fun c h e => by have := bS c (.inr (hU c (hV c (hI c h)))); omega) (fun c h k => dDR c (hE c (hP c k)) (hU c (hV c (hI c h))))
   have qC := mw (HOS11.out.toS.belowW HBP.out) (fun c h e => by omega) (fun c h k => by have := bS c (.inl (hE c (hP c k))); omega)
   have HFIN := hd_ (show Own shCache p2 lo p2.heap.size [.int .i64 x0, .slice B1 x1.length d1, .slice A' 1 c', .int .i64 x3, .int .i64 x4, .int .i64 x5, .slice B6 x6.length d6, .int .i64 (x3 + 1), .int .i64 root, .int .i64 n, .slice A7 l.length c7, .slice B11 x11.length d11, .slice B12 0 d12] ((x0, x1, [((x3 + 1) % 2, mkB (topBytes (nextTop ((x0, x1, []), (x3, x4, x5, x6), (x7, x8, x9, x10), x11, []) (root, l) n)))]), (x3, x4, x5, x6), nextTop ((x0, x1, []), (x3, x4, x5, x6), (x7, x8, x9, x10), x11, []) (root, l) n, x11, []) from by
    have gD := ((show OwnS shI p2 (fun _ => False) [.int .i64 x0] x0 from OwnS.one p2 x0).prod (q1.prod oQ (fun b k1 k2 => by
     rcases k2 with k2 | k2
     ·exact dP b k1 k2
     ·have := bS b (.inl (hE b (h1 b k1))); omega)) (fun b k => k.elim)).mono (S' := fun b => SD b ∨ p1.heap.size ≤ b) (fun b hb _ => by
     rcases hb with hb | hb | hb | hb
     ·exact hb.elim
     ·exact .inl (hE b (h1 b hb))
     ·exact .inl (hE b (hP b hb))
     ·exact .inr hb)
    have gC := ((show OwnS shI p2 (fun _ => False) [.int .i64 (x3 + 1)] (x3 + 1) from OwnS.one p2 (x3 + 1)).prod ((show OwnS shI p2 (fun _ => False) [.int .i64 root] root from OwnS.one p2 root).prod ((show OwnS shI p2 (fun _ => False) [.int .i64 n] n from OwnS.one p2 n).prod qC (fun b k => k.elim)) (fun b k => k.elim)) (fun b k => k.elim)).mono (S' := fun b => w3.heap.size + 1 ≤ b ∧ b < wr.heap.size) (fun b hb _ => by
     rcases hb with hb | hb | hb | hb
     ·exact hb.elim
     ·exact hb.elim
     ·exact hb.elim
     ·exact hb)
    have gV := (qN.prod qI (fun b k1 k2 => dNI b k1 k2)).mono (S' := SV) (fun b hb _ => hb.elim (hN b) (hI b))
    have gU := (gC.prod gV (fun b k1 k2 => by have := bS b (.inr (hU b (hV b k2))); omega)).mono (S' := fun b => SU b ∨ (w3.heap.size + 1 ≤ b ∧ b < wr.heap.size)) (fun b hb _ => hb.elim .inr fun h => .inl (hV b h))
    have gR := (qT.prod gU (fun b k1 k2 => by
     rcases k2 with k2 | k2
     ·exact dTU b k1 k2
     ·have := bS b (.inr (hT b k1)); omega)).mono (S' := fun b => SR b ∨ (w3.heap.size + 1 ≤ b ∧ b < wr.heap.size)) (fun b hb _ => hb.elim (fun h => .inl (hT b h)) fun h => h.elim (fun h => .inl (hU b h)) .inr)
    have gX := (gD.prod gR (fun b k1 k2 => by
     rcases k1 with k1 | k1 <;> rcases k2 with k2 | k2
     ·exact dDR b k1 k2
     ·have := bS b (.inl k1); omega
     ·have := bS b (.inr k2); omega
     ·omega)).mono (S' := fun b => lo ≤ b ∧ b < p2.heap.size) (fun b hb hlt => by
     refine ⟨?_, hlt⟩
     rcases hb with (hb | hb) | hb | hb
     ·exact (bS b (.inl hb)).1
     ·omega
     ·exact (bS b (.inr hb)).1
     ·omega)
    exact OwnS.own (s := shCache) gX (fun b h => h))
   have HBL2 := hd_ (show Below lo W p2 from ((HBlr.out.trans (HO11.out.belowN (show lo ≤ wr.heap.size by omega) (fun q hq => by have := List.mem_singleton.1 hq; omega))).trans (HBP.out.mono (by omega))).trans (hks.below (by omega) (fun b hb => hb.elim (fun h => (bS b (.inl (hE b (hP b h)))).1) (fun h => by omega))))
   have HKF := hd_ (show Blk p2 g 44 #[.int .i64 x0, .slice B1 x1.length d1, .slice A' 1 c', .int .i64 x3, .int .i64 x4, .int .i64 x5, .slice B6 x6.length d6, .int .i64 (x3 + 1), .int .i64 root, .int .i64 n, .slice A7 l.length c7, .slice B11 x11.length d11, .slice B12 0 d12] from by
    simpa only [List.setIfInBounds_toArray, List.set_cons_zero, List.set_cons_succ] using hk2)
   clear hHeld oX oD oR oE o1 oP oT oU oV oN oI mv mw oP1 q1 qT qN qI qC hk2 oQ hks
   go_wp2_with fail
   go_ret
   exact ⟨by rw [HC.out]; rfl, HBL2.out, fun _ => ⟨_, HKF.out, by rw [HOUT.out]; exact HFIN.out⟩⟩
end Go.Proofs.YtnnabkldceklmaaGreatDoor
