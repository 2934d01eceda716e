/- Walks: slices.Repeat of one text six times; the program's NewScreen. -/
import Derived.Test.YtmeholhmadeehaaGreatDoorJoinFLAg
import Derived.Test.YtmeholhmadeehaaGreatDoorShelfR
import Derived.Laws.CopyOwn
import Derived.Deep.RegionLawGrows
import Derived.Test.YtmeholhmadeehaaGreatDoorJoinFLAd
namespace Go.Proofs.YtmeholhmadeehaaGreatDoor
open Go.RowKit

def sixOf (k : Nat) (y : ByteArray) : List Value := List.replicate k (.string y) ++ List.replicate (6 - k) (.string ByteArray.empty)
theorem sixOf_len {k : Nat} (h : k ≤ 6) (y : ByteArray) : (sixOf k y).length = 6 := by simp [sixOf]; omega
theorem sixOf_splice (k m : Nat) (h : k + m ≤ 6) (y : ByteArray) : splice (sixOf k y) k (List.replicate m (.string y)) = sixOf (k + m) y := by
  unfold splice sixOf
  rw [List.take_append_of_le_length (by simp), List.take_of_length_le (by simp), List.length_replicate, List.drop_append, List.drop_eq_nil_of_le (by simp)]
  simp only [List.length_replicate, List.nil_append, List.drop_replicate]
  rw [show 6 - k - (k + m - k) = 6 - (k + m) by omega, ← List.append_assoc, List.replicate_append_replicate]
theorem sixOf_get (k j : Nat) (h : j < k) (y : ByteArray) : (sixOf k y)[j]? = some (.string y) := by
  unfold sixOf
  rw [List.getElem?_append_left (by simpa using h), List.getElem?_replicate, if_pos h]

theorem sizeString : (Tryz.prog.info? 9).map (·.size) = some 1 := by kernel_rfl

theorem copy6 (W : World) (y : ByteArray) (g k m d d' s s' : Nat) (ad : Addr) (hg : W.heap[g]? = some (.cells (sixOf k y).toArray 9 (0, 0))) (hk : k + m ≤ 6) (hm : m = Nat.min s d)
    (hsrc : ∀ j, j < m → W.cell? (ad.add j) = some (.string y)) :
    ∃ W', (Builtin.copy_ #[22, 22] 3 #[.slice (some ⟨g, k, none⟩) d d', .slice (some ad) s s']).run Tryz.prog W = .ok (.int .i64 m) W' ∧ W'.heap[g]? = some (.cells (sixOf (k + m) y).toArray 9 (0, 0)) ∧ Below g W W' := by
  have hrun := run_copy_row (P := Tryz.prog) W 22 22 3 9 g k d d' ad s s' (sixOf k y).toArray 9 (List.replicate m (.string y)) Tryz.underlying22 sizeString hg (by simpa using hm)
    (fun j v hj => by
      rw [List.getElem?_replicate] at hj
      split at hj
      · injection hj with hj; subst hj; exact hsrc j (by assumption)
      · cases hj) (by have := sixOf_len (show k ≤ 6 by omega) y; simp; omega) (fun v hv => by rw [(List.mem_replicate.1 hv).2]; rfl)
  have h3 := sixOf_splice k m hk y
  unfold splice at h3
  rw [List.length_replicate] at h3
  refine ⟨W.setRow g (sixOf (k + m) y).toArray, ?_, setRow_heap W g _ _ 9 _ hg, below_setRow (Below.refl _ _) (Nat.le_refl _) _⟩
  rw [hrun, ← h3]
  simp [goInt]

theorem six_src {W : World} {y : ByteArray} {g k m : Nat} (hg : W.heap[g]? = some (.cells (sixOf k y).toArray 9 (0, 0))) (hm : m ≤ k) : ∀ j, j < m → W.cell? ((⟨g, 0, none⟩ : Addr).add j) = some (.string y) := fun j hj => by
  have : (⟨g, 0, none⟩ : Addr).add j = ⟨g, j, none⟩ := by unfold Addr.add; split <;> simp_all
  rw [this]
  have := sixOf_get k j (by omega) y
  simp [World.cell?, hg, this]

set_option maxHeartbeats 2000000 in
set_option maxRecDepth 100000 in
theorem repeat6_any (y : ByteArray) (b c : Nat) (w : World) (hy : w.cell? ⟨b, 0, none⟩ = some (.string y)) (hb : b < w.heap.size) :
    Calls Tryz.prog 83 #[.slice (some ⟨b, 0, none⟩) 1 c, .int .i64 6] w fun e w' => e = .returned (.slice (some ⟨w.heap.size, 0, none⟩) 6 6) ∧ OwnO w' w.heap.size w.heap.size 0 6 (List.replicate 6 y) ∧ Below w.heap.size w w' := by
  have hmk : ∀ W : World, (Instr.makeSlice 22 (.int .i64 6) (.int .i64 6)).run Tryz.prog W = .ok (.slice (some ⟨W.heap.size, 0, none⟩) 6 6) (W.alloc (.cells (sixOf 0 y).toArray 9)) :=
    fun W => make_row (P := Tryz.prog) Value.string ByteArray.empty 22 9 Tryz.underlying22 (by omega) rfl infoString 6 (by omega) W
  have HM := Lib.hid (Tryz.bits_Mul 1 6 (by omega) (by omega))
  have hD := (Below.refl w.heap.size w).alloc (Nat.le_refl _) (.cells (sixOf 0 y).toArray 9)
  obtain ⟨w2, hr2, hh2, hb2⟩ := copy6 (w.alloc (.cells (sixOf 0 y).toArray 9)) y w.heap.size 0 1 6 6 1 c ⟨b, 0, none⟩ (heap_alloc_new w _) (by omega) rfl (fun j hj => by
    obtain rfl : j = 0 := by omega
    exact (World.cell?_of_block (hD.block b hb)).trans hy)
  have H2 := Lib.hid (show w2.heap[w.heap.size]? = some (.cells (sixOf 1 y).toArray 9 (0, 0)) ∧ Below w.heap.size w w2 from ⟨hh2, hD.trans hb2⟩)
  clear hy hh2 hb2 hD
  go_enter Tryz.func83, Tryz.ntmps83
  go_wp2_with fail
  refine (HM.out _).mono ?_
  rintro e1 w1 ⟨rfl, rfl⟩
  go_wp2_with fail
  clear hmk hr2
  go_loopw [8] (fun n wr => ∃ k : Nat, (k = 1 ∨ k = 2 ∨ k = 4 ∨ k = 6) ∧ n = .int .i64 k ∧ wr.heap[w1.heap.size]? = some (.cells (sixOf k y).toArray 9 (0, 0)) ∧ Below w1.heap.size w1 wr) (fun n _ => 6 - (intOf n).toNat)
  case atStart => exact ⟨1, by omega, rfl, H2.out.1, H2.out.2⟩
  case round =>
    obtain ⟨k, hk, rfl, hh, hb3⟩ := hrel
    have hhd : wr.drew.heap[w1.heap.size]? = some (.cells (sixOf k y).toArray 9 (0, 0)) := hh
    have hbd : Below w1.heap.size w1 wr.drew := hb3.drew
    rcases hk with rfl | rfl | rfl | rfl
    · obtain ⟨w4, hr, hh4, hb4⟩ := copy6 wr.drew y w1.heap.size 1 1 5 5 1 6 ⟨w1.heap.size, 0, none⟩ hhd (by omega) rfl (six_src hhd (by omega))
      have H4 := Lib.hid (And.intro hh4 (hbd.trans hb4))
      clear hh hb3 hhd hbd hh4 hb4
      go_wp2_with fail
      go_region
      go_wp2_with fail
      go_roundw
      case rel => exact ⟨2, by omega, rfl, H4.out.1, H4.out.2⟩
      case measure => simp [intOf]
    · obtain ⟨w4, hr, hh4, hb4⟩ := copy6 wr.drew y w1.heap.size 2 2 4 4 2 6 ⟨w1.heap.size, 0, none⟩ hhd (by omega) rfl (six_src hhd (by omega))
      have H4 := Lib.hid (And.intro hh4 (hbd.trans hb4))
      clear hh hb3 hhd hbd hh4 hb4
      go_wp2_with fail
      go_region
      go_wp2_with fail
      go_roundw
      case rel => exact ⟨4, by omega, rfl, H4.out.1, H4.out.2⟩
      case measure => simp [intOf]
    · obtain ⟨w4, hr, hh4, hb4⟩ := copy6 wr.drew y w1.heap.size 4 2 2 2 4 6 ⟨w1.heap.size, 0, none⟩ hhd (by omega) rfl (six_src hhd (by omega))
      have H4 := Lib.hid (And.intro hh4 (hbd.trans hb4))
      clear hh hb3 hhd hbd hh4 hb4
      go_wp2_with fail
      go_region
      go_wp2_with fail
      go_roundw
      case rel => exact ⟨6, by omega, rfl, H4.out.1, H4.out.2⟩
      case measure => simp [intOf]
    · have H4 := Lib.hid (And.intro hh hb3)
      clear hh hb3 hhd hbd
      go_wp2_with fail
      go_ret
      refine ⟨rfl, ⟨Nat.le_refl _, _, H4.out.1, ?_, ?_, ?_, ?_⟩, H4.out.2⟩
      · simp [sixOf]
      · simp
      · unfold maxLen; omega
      · simp [sixOf]

end Go.Proofs.YtmeholhmadeehaaGreatDoor

/- Walks of the program's NewScreen, begin, show, write, ShowOn. -/
namespace Go.Proofs.YtmeholhmadeehaaGreatDoor
open Go.RowKit

theorem repeat_blanks : (⟨(Lib.repeatL (⟨#[32]⟩ : ByteArray).data.toList 20).toArray⟩ : ByteArray) = blanks 20 := by
  unfold blanks
  have : Lib.repeatL (⟨#[32]⟩ : ByteArray).data.toList 20 = List.replicate 20 (32 : UInt8) := by decide
  rw [this]

theorem repeatBlanks_any (w : World) : Calls Tryz.prog 78 #[.string ⟨#[32]⟩, .int .i64 20] w fun e w' => e = .returned (.string (blanks 20)) ∧ Below w.heap.size w w' := by
  have := Tryz.strings_Repeat ⟨#[32]⟩ 20 w (by omega) (by decide)
  rw [repeat_blanks] at this
  exact this

set_option maxHeartbeats 1000000 in
theorem implNewScreen_any (w : World) :
    Calls Tryz.prog 48 #[] w fun e w' => ∃ v, e = .returned v ∧ OwnScr w' w.heap.size v blankScr ∧ Below w.heap.size w w' := by
  have HB := Lib.hid (Blk.new w 29 #[.int .i64 0, .int .i64 0, .slice none 0 0])
  have HD := Lib.hid ((Below.refl w.heap.size w).alloc (Nat.le_refl _) (.cells #[.int .i64 0, .int .i64 0, .slice none 0 0] 29))
  go_enter Tryz.func48, Tryz.ntmps48
  go_wp2_with fail
  refine (repeatBlanks_any _).mono ?_
  rintro e1 w1 ⟨rfl, hb1⟩
  have HB1 := Lib.hid (HB.out.below hb1 HB.out.lt)
  have HD1 := Lib.hid (HD.out.trans (hb1.mono HD.out.size))
  have g1 := HB1.out.lt
  obtain ⟨Y, hY⟩ : ∃ Y, Y = blanks 20 := ⟨_, rfl⟩
  rw [← hY]
  have HY := Lib.hid hY
  clear hb1 HB HD hY
  go_wp2_with fail
  have hbx := (Below.refl w1.heap.size w1).alloc (Nat.le_refl _) (.cells #[.string Y] 9)
  refine (repeat6_any Y w1.heap.size 1 _ (by simp) (by simp)).mono ?_
  rintro e2 w2 ⟨rfl, hO, hb2⟩
  have B2 := (HB1.out.below hbx HB1.out.lt).below hb2 (HB1.out.below hbx HB1.out.lt).lt
  have D2 := (HD1.out.trans (hbx.mono HD1.out.size)).trans (hb2.mono (HD1.out.trans (hbx.mono HD1.out.size)).size)
  have f := B2.cell
  have z := B2.frozen
  have h1 := hO.1
  have HO := Lib.hid hO; have HD2 := Lib.hid D2
  clear hO D2 B2 hb2 hbx HB1 HD1
  go_wp2_with fail
  refine bodyPost_ret (v := .agg #[.int .i64 0, .int .i64 0, .slice (some ⟨w1.heap.size + 1, 0, none⟩) 6 6]) (by simp [results, Tryz.results48, go_sem, f]) rfl ⟨_, rfl, ?_, ?_⟩
  · have hO2 := HO.out
    rw [World.heap_size_alloc', HY.out] at hO2
    refine ⟨some ⟨w1.heap.size + 1, 0, none⟩, 6, rfl, own_mono (base := w1.heap.size + 1) (OwnO.to_own (cap := 6) ?_) (by omega)⟩
    iterate 3 (with_reducible refine OwnO.far ?_ (by simp; try omega) _)
    exact hO2
  · iterate 3 (with_reducible refine Below.setCell ?_ (by simp; try omega) _)
    exact HD2.out

/-- append(rows, y), the rows a part of a block of the call's own; inside a region that draws its order. -/
theorem step_appO {P : Program} {ops : Array Oper} {o : Oper} {a : Go.Act} {K : Go.Act → World → Prop} {Q : Exit → Go.Act → World → Prop} {E : Prop} (hgd : o.guard = none) (s x : Operand) (t e : TypeId)
    (ho : o.op = .call { callee := .builtin .append, args := #[s, x], argTypes := #[t, t] }) (ht : P.underlying t = some (.slice e)) (he : e = 9)
    (hinfo : (P.info? e).map (fun i => (i.zero, i.size, i.bytes)) = some (some (.string ⟨#[]⟩), 1, 16))
    (w : World) (base b off cap n : Nat) (xs : List ByteArray) (y : ByteArray) (hs : a.eval s = .slice (some ⟨b, off, none⟩) n cap) (hn : xs.length = n) (hown : OwnO w base b off cap xs)
    (hx : a.eval x = .slice (some ⟨w.heap.size, 0, none⟩) 1 1) (hlen : n ≤ 1000000) (hbase : base ≤ w.heap.size)
    (h : ∀ b' off' c' w', OwnO w' base b' off' c' (xs ++ [y]) → (b' = b ∨ w.heap.size < b') → (∀ i, i < w.heap.size → i ≠ b → w'.heap[i]? = w.heap[i]?) → Below base w w' → K (a.put o.dst (.slice (some ⟨b', off', none⟩) (n + 1) c')) w') :
    if Region.wanted o (yielded ops a.tmps) = true then Oper.wp P o a (w.alloc (.cells #[.string y] e)) K Q else E := by
  subst he hn
  obtain ⟨i0, hi0, hz0, hz1, hz2⟩ := info_parts hinfo
  have hlt := hown.lt
  have hbx := (Below.refl w.heap.size w).alloc (Nat.le_refl _) (.cells #[.string y] 9)
  have hOa := hown.alloc (.cells #[.string y] 9)
  have hnew : ∀ j u, [Value.string y][j]? = some u → (w.alloc (.cells #[.string y] 9)).cell? ((⟨w.heap.size, 0, none⟩ : Addr).add j) = some u := by
    intro j u hj
    match j, hj with
    | 0, hj => simp at hj; subst hj; simp [Addr.add]
  have hone : ∀ u ∈ [Value.string y], u.oneCell' = true := by intro u hu; simp at hu; subst hu; rfl
  by_cases hroom : xs.length + 1 ≤ cap
  · obtain ⟨hbb, cur, hB, hsz, hl, hm, htk⟩ := id hOa
    have hin : off + xs.length * 1 + 0 < cur.size := by omega
    refine step_append_room hgd s x t ho 9 i0 1 ht hi0 hz1 b off xs.length cap hs ⟨w.heap.size, 0, none⟩ 1 1 [.string y] hx rfl hnew hone hroom ?_ ?_
    · intro j hj
      obtain rfl : j = 0 := by simpa using hj
      refine ⟨?_, hB.frozen _⟩
      rw [hB.cell, Array.getElem?_eq_getElem hin]; rfl
    · have hset : (w.alloc (.cells #[.string y] 9)).setCells b (off + xs.length * 1) [.string y] = (w.alloc (.cells #[.string y] 9)).setCell ⟨b, off + xs.length * 1, none⟩ (.string y) := rfl
      rw [hset]
      refine h b off cap _ ⟨hbb, _, hB.set_ (off + xs.length * 1) (.string y), by simpa using hsz, by simpa using hroom, hm, ?_⟩ (.inl rfl) ?_ ?_
      · rw [Array.toList_setIfInBounds, List.length_append, List.map_append, ← htk, List.drop_set, if_neg (by omega), List.length_singleton]
        rw [List.take_succ_eq_append_getElem (by simp; omega)]
        congr 1
        · rw [List.take_set_of_le (by omega)]
        · simp
      · intro i hi hne
        rw [Below.heap_setCell _ _ _ _ (by simpa using hne), hbx.block i hi]
      · exact ((Below.refl base w).alloc hbase _).setCell (p := ⟨b, off + xs.length * 1, none⟩) hown.1 _
  · refine step_append_grows hgd s x t ho 9 i0 _ 1 16 ht hi0 hz0 hz1 hz2 rfl (by decide) (some ⟨b, off, none⟩) xs.length cap (xs.map Value.string) hs (by intro h; cases h) (by simp) ?_ ⟨w.heap.size, 0, none⟩ 1 1 [.string y] hx rfl hnew hone (by omega) (by unfold maxLen; omega) (by omega) ?_
    · intro bb hbb j u hj
      injection hbb with hbb
      subst hbb
      rw [List.getElem?_map] at hj
      rcases Nat.lt_or_ge j xs.length with hlt' | hge
      · rw [List.getElem?_eq_getElem hlt'] at hj
        simp only [Option.map_some, Option.some.injEq] at hj
        have hadd : (⟨b, off, none⟩ : Addr).add j = ⟨b, off + j, none⟩ := by unfold Addr.add; split <;> simp_all
        rw [hadd, hOa.get hlt', ← hj, List.getD_eq_getElem?_getD, List.getElem?_eq_getElem hlt']
        rfl
      · rw [List.getElem?_eq_none hge] at hj; cases hj
    · intro v' w' r1 r2
      have hl2 : (xs ++ [y]).length = xs.length + 1 := by simp
      have hBl : Below (w.heap.size + 1) (w.alloc (.cells #[.string y] 9)) w' := Below.of_grown r2 (by simp) (by intro k hk; cases hk)
      rcases r1.2 with ⟨e1, e2⟩ | ⟨g, cap', cur, e1, _⟩
      · omega
      · subst e1
        have r1' : w'.ownsRow (w.alloc (.cells #[.string y] 9)).heap.size 9 1 (.slice (some ⟨g, 0, none⟩) (xs.length + 1) cap') (xs.length + 1) ((xs ++ [y]).map Value.string) := by
          rw [List.map_append]; exact r1
        obtain ⟨b', hb', hO'⟩ := OwnO.of_own r1' (by omega)
        injection hb' with hb'
        injection hb' with hb'
        subst hb'
        have hge := hO'.1
        rw [World.heap_size_alloc'] at hge
        exact h g 0 cap' w' ⟨by omega, hO'.2⟩ (.inr (by omega)) (fun i hi _ => (hBl.block i (by omega)).trans (hbx.block i hi)) (((Below.refl base w).alloc hbase _).trans (hBl.mono (by omega)))

theorem OwnO.tail {w : World} {base b off cap : Nat} {xs : List ByteArray} (h : OwnO w base b off cap xs) (h0 : 0 < xs.length) : OwnO w base b (off + 1) (cap - 1) (xs.drop 1) := by
  obtain ⟨h1, cur, hB, hs, hl, hm, ht⟩ := h
  refine ⟨h1, cur, hB, by omega, by simp; omega, by omega, ?_⟩
  rw [List.map_drop, ← ht, List.drop_take, List.drop_drop, List.length_drop]
theorem OwnO.cap_ge {w : World} {base b off cap : Nat} {xs : List ByteArray} (h : OwnO w base b off cap xs) : xs.length ≤ cap := by
  obtain ⟨_, _, _, _, h, _⟩ := h
  exact h

/-- Blocks g and b alone may have changed; there may be new ones. -/
structure Touch (g b : Nat) (w w' : World) : Prop where
  os : w'.os = w.os
  tape : w'.tape = w.tape
  output : w'.output = w.output
  size : w.heap.size ≤ w'.heap.size
  block : ∀ i, i < w.heap.size → i ≠ g → i ≠ b → w'.heap[i]? = w.heap[i]?
theorem Touch.refl (g b : Nat) (w : World) : Touch g b w w := ⟨rfl, rfl, rfl, Nat.le_refl _, fun _ _ _ _ => rfl⟩
theorem Touch.trans {g b b1 : Nat} {w w1 w2 : World} (h : Touch g b w w1) (k : Touch g b1 w1 w2) (hb : b1 = b ∨ w.heap.size ≤ b1) : Touch g b w w2 :=
  ⟨k.os.trans h.os, k.tape.trans h.tape, k.output.trans h.output, Nat.le_trans h.size k.size, fun i hi h1 h2 => (k.block i (Nat.lt_of_lt_of_le hi h.size) h1 (by omega)).trans (h.block i hi h1 h2)⟩
theorem Touch.call {g b : Nat} {w w1 w2 : World} (h : Touch g b w w1) (k : Below w1.heap.size w1 w2) : Touch g b w w2 :=
  ⟨k.os.trans h.os, k.tape.trans h.tape, k.output.trans h.output, Nat.le_trans h.size k.size, fun i hi h1 h2 => (k.block i (Nat.lt_of_lt_of_le hi h.size)).trans (h.block i hi h1 h2)⟩
theorem Touch.set {g b : Nat} {w w1 : World} (h : Touch g b w w1) {p : Addr} (hp : p.block = g ∨ p.block = b) (u : Value) : Touch g b w (w1.setCell p u) :=
  ⟨h.os, h.tape, h.output, by simpa [World.setCell] using h.size, fun i hi h1 h2 => (Below.heap_setCell w1 p u i (by omega)).trans (h.block i hi h1 h2)⟩
theorem Touch.drew {g b : Nat} {w w1 : World} (h : Touch g b w w1) : Touch g b w w1.drew := ⟨h.os, h.tape, h.output, h.size, h.block⟩
theorem Touch.below {g b base : Nat} {w w1 : World} (h : Touch g b w w1) (hg : base ≤ g) (hb : base ≤ b) (hB : base ≤ w.heap.size) : Below base w w1 := ⟨h.os, h.tape, h.output, h.size, fun i hi => h.block i (by omega) (by omega) (by omega)⟩

/-- Three cells of an array, from o on. -/
def put3 (cs : Array Value) (o : Nat) (r c v : Value) : Array Value := ((cs.setIfInBounds o r).setIfInBounds (o + 1) c).setIfInBounds (o + 2) v
theorem put3_size (cs : Array Value) (o : Nat) (r c v : Value) : (put3 cs o r c v).size = cs.size := by simp [put3]
theorem put3_get (cs : Array Value) (o : Nat) (r c v : Value) (h : o + 2 < cs.size) : (put3 cs o r c v)[o]? = some r ∧ (put3 cs o r c v)[o + 1]? = some c ∧ (put3 cs o r c v)[o + 2]? = some v := by
  unfold put3
  refine ⟨?_, ?_, ?_⟩ <;> simp [Array.getElem?_setIfInBounds] <;> omega
theorem put3_row (cs : Array Value) (o : Nat) (r c v r' : Value) : (put3 cs o r c v).setIfInBounds o r' = put3 cs o r' c v := by
  unfold put3
  rw [Array.setIfInBounds_comm v r' (by omega), Array.setIfInBounds_comm c r' (by omega), Array.setIfInBounds_setIfInBounds]
theorem put3_col (cs : Array Value) (o : Nat) (r c v c' : Value) : (put3 cs o r c v).setIfInBounds (o + 1) c' = put3 cs o r c' v := by
  unfold put3
  rw [Array.setIfInBounds_comm v c' (by omega), Array.setIfInBounds_setIfInBounds]
theorem put3_rows (cs : Array Value) (o : Nat) (r c v v' : Value) : (put3 cs o r c v).setIfInBounds (o + 2) v' = put3 cs o r c v' := by
  unfold put3
  rw [Array.setIfInBounds_setIfInBounds]

/-- A screen inside block g, from cell o on; its rows in block b. -/
structure ScrX (w : World) (base g o : Nat) (t : TypeId) (cs : Array Value) (b off cap : Nat) (s : Scr) : Prop where
  ne : g ≠ b
  room : o + 2 < cs.size
  blk : Blk w g t (put3 cs o (.int .i64 s.row) (.int .i64 s.col) (.slice (some ⟨b, off, none⟩) s.rows.length cap))
  own : OwnO w base b off cap s.rows

section
variable {w w' : World} {base g o : Nat} {t : TypeId} {cs : Array Value} {b off cap : Nat} {s : Scr}
theorem ScrX.f0 (h : ScrX w base g o t cs b off cap s) : w.cell? ⟨g, o, none⟩ = some (.int .i64 s.row) := by rw [h.blk.cell]; exact (put3_get _ _ _ _ _ h.room).1
theorem ScrX.f1 (h : ScrX w base g o t cs b off cap s) : w.cell? ⟨g, o + 1, none⟩ = some (.int .i64 s.col) := by rw [h.blk.cell]; exact (put3_get _ _ _ _ _ h.room).2.1
theorem ScrX.f2 (h : ScrX w base g o t cs b off cap s) : w.cell? ⟨g, o + 2, none⟩ = some (.slice (some ⟨b, off, none⟩) s.rows.length cap) := by rw [h.blk.cell]; exact (put3_get _ _ _ _ _ h.room).2.2
theorem ScrX.f2_of (h : ScrX w base g o t cs b off cap s) (hB : Blk w' g t (put3 cs o (.int .i64 s.row) (.int .i64 s.col) (.slice (some ⟨b, off, none⟩) s.rows.length cap))) : w'.cell? ⟨g, o + 2, none⟩ = some (.slice (some ⟨b, off, none⟩) s.rows.length cap) := by rw [hB.cell]; exact (put3_get _ _ _ _ _ h.room).2.2
theorem Blk.same {cs : Array Value} (h : Blk w g t cs) (hk : w'.heap[g]? = w.heap[g]?) : Blk w' g t cs := hk.trans h
theorem ScrX.call (h : ScrX w base g o t cs b off cap s) (hb : Below w.heap.size w w') : ScrX w' base g o t cs b off cap s := ⟨h.ne, h.room, h.blk.below hb h.blk.lt, h.own.below hb⟩
theorem ScrX.drew (h : ScrX w base g o t cs b off cap s) : ScrX w.drew base g o t cs b off cap s := ⟨h.ne, h.room, h.blk, h.own⟩
theorem ScrX.row_ (h : ScrX w base g o t cs b off cap s) (n : Int) : ScrX (w.setCell ⟨g, o, none⟩ (.int .i64 n)) base g o t cs b off cap ⟨n, s.col, s.rows⟩ :=
  ⟨h.ne, h.room, by have := h.blk.set_ o (.int .i64 n); rwa [put3_row] at this, h.own.far (p := ⟨g, o, none⟩) (fun e => h.ne e.symm) _⟩
theorem ScrX.col_ (h : ScrX w base g o t cs b off cap s) (n : Int) : ScrX (w.setCell ⟨g, o + 1, none⟩ (.int .i64 n)) base g o t cs b off cap ⟨s.row, n, s.rows⟩ :=
  ⟨h.ne, h.room, by have := h.blk.set_ (o + 1) (.int .i64 n); rwa [put3_col] at this, h.own.far (p := ⟨g, o + 1, none⟩) (fun e => h.ne e.symm) _⟩
theorem ScrX.rows_ (h : ScrX w base g o t cs b off cap s) {b' off' cap' : Nat} {xs : List ByteArray} (hne : g ≠ b') (hO : OwnO w base b' off' cap' xs) :
    ScrX (w.setCell ⟨g, o + 2, none⟩ (.slice (some ⟨b', off', none⟩) xs.length cap')) base g o t cs b' off' cap' ⟨s.row, s.col, xs⟩ :=
  ⟨hne, h.room, by have := h.blk.set_ (o + 2) (.slice (some ⟨b', off', none⟩) xs.length cap'); rwa [put3_rows] at this, hO.far (p := ⟨g, o + 2, none⟩) (fun e => hne e.symm) _⟩
theorem ScrX.put (h : ScrX w base g o t cs b off cap s) {j : Nat} (hj : j < s.rows.length) (y : ByteArray) : ScrX (w.setCell ⟨b, off + j, none⟩ (.string y)) base g o t cs b off cap ⟨s.row, s.col, s.rows.set j y⟩ :=
  ⟨h.ne, h.room, by
    show Blk _ g t (put3 cs o (.int .i64 s.row) (.int .i64 s.col) (.slice (some ⟨b, off, none⟩) (s.rows.set j y).length cap))
    rw [List.length_set]
    exact h.blk.far (p := ⟨b, off + j, none⟩) h.ne _, h.own.put hj y⟩
end

/-- The screen goes over from s to s'. -/
def ScrStep (w : World) (base g o : Nat) (t : TypeId) (cs : Array Value) (b : Nat) (w' : World) (s' : Scr) : Prop :=
  ∃ b' off' cap', ScrX w' base g o t cs b' off' cap' s' ∧ (b' = b ∨ w.heap.size ≤ b') ∧ Touch g b w w'

set_option maxHeartbeats 2000000 in
set_option maxRecDepth 100000 in
theorem begin_any (s : Scr) (base g o : Nat) (t : TypeId) (cs : Array Value) (b off cap : Nat) (w : World) (hp : ScrX w base g o t cs b off cap s) (hb : base ≤ w.heap.size) (hl : s.rows.length = 6) (h0 : 0 ≤ s.row) (h5 : s.row ≤ 5) :
    Calls Tryz.prog 37 #[.pointer (some ⟨g, o, none⟩)] w fun e w' => e = .returned (.tuple #[]) ∧ ScrStep w base g o t cs b w' (newRow s) := by
  by_cases hr : s.row < 5
  · have f0 := hp.f0
    have f1 := hp.f1
    have z := hp.blk.frozen
    have HN := Lib.hid (show newRow s = ⟨s.row + 1, 0, s.rows⟩ by unfold newRow; rw [if_pos hr])
    have HP := Lib.hid hp
    clear hp
    go_enter Tryz.func37, Tryz.ntmps37
    go_wp2_with fail
    refine bodyPost_ret (v := .tuple #[]) (by simp [results, Tryz.results37, go_sem]) rfl ?_
    refine ⟨rfl, b, off, cap, ?_, .inl rfl, ?_⟩
    · rw [HN.out]
      exact (HP.out.col_ 0).row_ (s.row + 1)
    · exact ((Touch.refl g b w).set (p := ⟨g, o + 1, none⟩) (.inl rfl) _).set (p := ⟨g, o, none⟩) (.inl rfl) _
  · have hr5 : s.row = 5 := by omega
    have HN := Lib.hid (show newRow s = ⟨5, 0, s.rows.drop 1 ++ [blanks 20]⟩ by unfold newRow; rw [if_neg hr])
    obtain ⟨row, col, rows⟩ := s
    dsimp only at *
    subst hr5
    have f0 := hp.f0
    have f1 := hp.f1
    have z := hp.blk.frozen
    have hcap : 6 ≤ cap := by have := hp.own.cap_ge; dsimp only at this; omega
    have hc1 : ¬ (cap = 1) := by omega
    have hgl := hp.blk.lt
    have HL := Lib.hid hl
    have l6 : rows.length ≤ 6 := by omega
    have g6 : 6 ≤ rows.length := by omega
    have hne := hp.ne
    have HP0 := Lib.hid (hp.col_ 0); have HD0 := Lib.hid ((Touch.refl g b w).set (p := ⟨g, o + 1, none⟩) (.inl rfl) (.int .i64 0))
    clear hp hr h5 h0 hl
    go_enter Tryz.func37, Tryz.ntmps37
    go_wp2_with fail
    clear f0 f1 z
    have hdl : (rows.drop 1).length = rows.length - 1 := List.length_drop ..
    have HDL := Lib.hid hdl; clear hdl
    have hi1 : (1 : Int) ≤ (rows.length : Int) := by omega
    have hi2 : (rows.length : Int) ≤ (cap : Int) := by omega
    have hsW : (w.setCell ⟨g, o + 1, none⟩ (.int .i64 0)).heap.size = w.heap.size := by simp [World.setCell]
    have HSW := Lib.hid hsW; clear hsW
    generalize w.setCell ⟨g, o + 1, none⟩ (.int .i64 0) = W1 at *
    have fd := HP0.out.f2
    have HP1 := Lib.hid HP0.out.drew; have HD1 := Lib.hid HD0.out.drew
    go_region_law
      (first | (refine step_appO (by rfl) (.tmp 22) (.tmp 24) 22 9 (by rfl) Tryz.underlying22 rfl infoString w2 base b (off + 1) (cap - 1) (rows.length - 1) (rows.drop 1) (blanks 20) (by rfl) HDL.out HO2.out (by rfl) (by omega) hb2' ?_; intro b3 o3 c3 w3 hO3 hbb3 hk3 hb3; have B3 := HP2.out.blk.same (hk3 g hg2 hne); have f3 := HP2.out.f2_of B3; have z3 := B3.frozen (o + 2)) | (go_simp; go_at_call 78; (with_reducible refine (repeatBlanks_any _).mono ?_); rintro e2 w2 ⟨rfl, hb2⟩; have HP2 := Lib.hid (HP1.out.call hb2); have HO2 := Lib.hid (HP2.out.own.tail (show 0 < rows.length by omega)); have HD2 := Lib.hid (HD1.out.call hb2); have hg2 := HP2.out.blk.lt; have hb2' := Nat.le_trans hb HD2.out.size; have hs2 := hb2.size; have f2 := HP2.out.f2; have fo2 := fun o => (HP2.out.call ((Below.refl w2.heap.size w2).alloc (Nat.le_refl _) o)).f2; clear hb2))
    all_goals
      go_wp2_with fail
      go_end0
      rw [HN.out]
      have hgb : g ≠ b3 := by rcases hbb3 with h | h <;> omega
      have hlen : (rows.drop 1 ++ [blanks 20]).length = rows.length - 1 + 1 := by simp
      have hsW := HSW.out
      have hsD : W1.drew.heap.size = W1.heap.size := rfl
      refine ⟨rfl, b3, o3, c3, ⟨hgb, HP2.out.room, ?_, hO3.far (p := ⟨g, o + 2, none⟩) (fun h => hgb h.symm) _⟩, by rcases hbb3 with h | h <;> omega, ?_⟩
      · have h4 := Blk.set_ B3 (o + 2) (.slice (some ⟨b3, o3, none⟩) (rows.length - 1 + 1) c3)
        rw [put3_rows, ← hlen] at h4
        rw [← hlen]
        exact h4
      · refine (HD2.out.trans (b1 := b) ⟨hb3.os, hb3.tape, hb3.output, hb3.size, fun i hi _ h2 => hk3 i hi h2⟩ (.inl rfl)).set (p := ⟨g, o + 2, none⟩) (.inl rfl) _

set_option maxHeartbeats 2000000 in
set_option maxRecDepth 100000 in
theorem show_any (s : Scr) (c : Nat) (base g o : Nat) (t : TypeId) (cs : Array Value) (b off cap : Nat) (w : World) (hp : ScrX w base g o t cs b off cap s) (hb : base ≤ w.heap.size) (hf : Fine s) (hc : c ≤ 127) :
    Calls Tryz.prog 77 #[.pointer (some ⟨g, o, none⟩), .int .u8 c] w fun e w' => e = .returned (.tuple #[]) ∧ ScrStep w base g o t cs b w' (putCh s (UInt8.ofNat c)) := by
  have f0 := hp.f0; have f1 := hp.f1; have f2 := hp.f2
  obtain ⟨k, hk⟩ := Int.eq_ofNat_of_zero_le hf.row0
  obtain ⟨j, hj⟩ := Int.eq_ofNat_of_zero_le hf.col0
  obtain ⟨row, col, rows⟩ := s
  dsimp only at *
  subst hk hj
  have hl := hf.len; have h5 := hf.row5; have h19 := hf.col19
  dsimp only at hl h5 h19
  have hkl : k < rows.length := by omega
  have hrow := hp.own.get hkl
  have hX : (rows.getD k ByteArray.empty).size = 20 := hf.size _ (by
    rw [List.getD_eq_getElem?_getD, List.getElem?_eq_getElem hkl]
    exact List.getElem_mem _)
  have HF := Lib.hid hf; have HP := Lib.hid hp
  have hki : (k : Int) < (rows.length : Int) := by omega
  have HL := Lib.hid hl
  have l6 : rows.length ≤ 6 := by omega
  have g6 : 6 ≤ rows.length := by omega
  clear hf hp hl
  generalize hXX : rows.getD k ByteArray.empty = X at *
  have HXX := Lib.hid hXX
  have HX := Lib.hid hX
  have x1 : X.size ≤ 20 := by omega
  have x2 : 20 ≤ X.size := by omega
  clear hX hXX
  go_enter Tryz.func77, Tryz.ntmps77
  go_wp2_with fail
  go_quiet (fail)
  have HP0 : Hid (ScrX (w.drewN nq) base g o t cs b off cap ⟨k, j, rows⟩) := ⟨HP.out.ne, HP.out.room, HP.out.blk, HP.out.own⟩
  have HD0 : Hid (Touch g b w (w.drewN nq)) := ⟨rfl, rfl, rfl, Nat.le_refl _, fun _ _ _ _ => rfl⟩
  generalize w.drewN nq = w0 at *
  clear HP f0 f1 f2 hrow
  have f0 := HP0.out.f0; have f1 := HP0.out.f1; have f2 := HP0.out.f2
  have hck := HP0.out.own.get hkl
  rw [HXX.out] at hck
  have hzk := HP0.out.own.frozen (off + k)
  have hw1 : IntKind.i64.wrap ((j : Int) + 1) = (j : Int) + 1 := IntWalk.i64_in _ (by omega)
  have hj0 : (0 : Int) ≤ (j : Int) := by omega
  have hj1 : (j : Int) ≤ (X.size : Int) := by omega
  have hj2 : (j : Int) + 1 ≤ (X.size : Int) := by omega
  have hm1 : ¬ (9223372036854775807 < min j X.size + 1) := by omega
  have hm2 : ¬ (9223372036854775807 < min j X.size + 1 + (X.size - (j + 1))) := by omega
  have hen := encode_one c (by omega)
  go_wp2_with fail
  go_region
  have HP2 : Hid (ScrX (w0.setCell ⟨b, off + k, none⟩ (.string (X.extract 0 j ++ ⟨#[UInt8.ofNat c]⟩ ++ X.extract (j + 1) X.size))).drew base g o t cs b off cap ⟨k, j, rows.set k (putAt X j (UInt8.ofNat c))⟩) :=
    (HP0.out.put hkl (putAt X j (UInt8.ofNat c))).drew
  have HD2 : Hid (Touch g b w (w0.setCell ⟨b, off + k, none⟩ (.string (X.extract 0 j ++ ⟨#[UInt8.ofNat c]⟩ ++ X.extract (j + 1) X.size))).drew) :=
    (HD0.out.set (p := ⟨b, off + k, none⟩) (.inr rfl) _).drew
  generalize (w0.setCell ⟨b, off + k, none⟩ (.string (X.extract 0 j ++ ⟨#[UInt8.ofNat c]⟩ ++ X.extract (j + 1) X.size))).drew = w2 at *
  clear f0 f1 f2 hck hzk hm1 hm2 hen HP0 HD0 hw1
  have hRR : rows.getD k ByteArray.empty = X := HXX.out
  have HPC := Lib.hid (show putCh ⟨k, j, rows⟩ (UInt8.ofNat c) = if (j : Int) + 1 = 20 then newRow ⟨k, 20, rows.set k (putAt X j (UInt8.ofNat c))⟩ else ⟨k, (j : Int) + 1, rows.set k (putAt X j (UInt8.ofNat c))⟩ by
    unfold putCh setRow
    simp only [Int.toNat_natCast, hRR])
  have HSF := Lib.hid (show (rows.set k (putAt X j (UInt8.ofNat c))).length = 6 by rw [List.length_set]; exact HL.out)
  have h5' : k ≤ 5 := by omega
  clear hRR
  have f1 := HP2.out.f1
  have z := HP2.out.blk.frozen
  have HP3 := Lib.hid (fun cc : Int => HP2.out.col_ cc)
  have HD3 := Lib.hid (fun cc : Int => HD2.out.set (p := ⟨g, o + 1, none⟩) (.inl rfl) (.int .i64 cc))
  by_cases hj20 : (j : Int) + 1 = 20
  · have e20 : ((j : Int) + 1 == 20) = true := by rw [beq_iff_eq]; exact hj20
    have HJ := Lib.hid hj20; clear hj20
    go_wp2_with fail
    have hp3 := HP3.out ((j : Int) + 1)
    have hp3' : ScrX (w2.setCell ⟨g, o + 1, none⟩ (.int .i64 ((j : Int) + 1))) base g o t cs b off cap ⟨k, 20, rows.set k (putAt X j (UInt8.ofNat c))⟩ := by
      rwa [show (⟨(k : Int), (j : Int) + 1, rows.set k (putAt X j (UInt8.ofNat c))⟩ : Scr) = ⟨k, 20, rows.set k (putAt X j (UInt8.ofNat c))⟩ by rw [HJ.out]] at hp3
    refine (begin_any ⟨k, 20, rows.set k (putAt X j (UInt8.ofNat c))⟩ base g o t cs b off cap _ hp3' (Nat.le_trans hb (HD3.out _).size) HSF.out (by simp) (by simp; omega)).mono ?_
    rintro e4 w4 ⟨rfl, b4, o4, c4, hp4, hbb4, ht4⟩
    have HP4 := Lib.hid (⟨b4, o4, c4, hp4, by have := (HD3.out ((j : Int) + 1)).size; omega, (HD3.out _).trans ht4 (.inl rfl)⟩ : ScrStep w base g o t cs b w4 (newRow ⟨k, 20, rows.set k (putAt X j (UInt8.ofNat c))⟩))
    clear hp4 ht4 hp3' HP3 HD3
    go_wp2_with fail
    go_end0
    rw [HPC.out, if_pos HJ.out]
    exact ⟨rfl, HP4.out⟩
  · have e20 : ((j : Int) + 1 == 20) = false := by rw [beq_eq_false_iff_ne]; exact hj20
    have HJ := Lib.hid hj20; clear hj20
    go_wp2_with fail
    go_end0
    rw [HPC.out, if_neg HJ.out]
    exact ⟨rfl, b, off, cap, HP3.out _, .inl rfl, HD3.out _⟩

end Go.Proofs.YtmeholhmadeehaaGreatDoor

/- Walks for NewDevices: keys; devices without files. -/
namespace Go.Proofs.YtmeholhmadeehaaGreatDoor
open Go.RowKit

def keyB (x : ByteArray) : Bool := decide (x.size ≤ 80)
def keysB (xs : List ByteArray) : Bool := xs.all keyB

set_option maxHeartbeats 400000 in
theorem l31Keys_any (A : Option Addr) (n c lo hi : Nat) (xs : List ByteArray) (w : World) (ha : StrR w lo hi A n xs) (hn : n ≤ 1048576) (hb : ∀ x ∈ xs, x.size ≤ 1048576) :
    Calls Tryz.prog 62 #[.slice A n c] w fun e w' => e = .returned (.bool (keysB xs)) ∧ w = w' := by
  have hl := ha.1
  go_enter Tryz.func62, Tryz.ntmps62
  have HL := Lib.hid hl; clear hl
  go_wp2
  go_loop [3] (fun i => ∃ k : Nat, k ≤ n ∧ i = .int .i64 k ∧ (xs.take k).all keyB = true) (fun i => n - (intOf i).toNat)
  case atStart => exact ⟨0, Nat.zero_le _, rfl, rfl⟩
  case round =>
    obtain ⟨k, hk, rfl, ht⟩ := hrel
    have HT := Lib.hid ht; clear ht
    by_cases hlt : k < n
    · obtain ⟨b, off, rfl, _, _, hcell⟩ := ha.at_ hlt
      have hkl : k < xs.length := by rw [HL.out]; exact hlt
      have hx : (xs.getD k ByteArray.empty).size ≤ 1048576 := by
        rw [List.getD_eq_getElem?_getD, List.getElem?_eq_getElem hkl]
        exact hb _ (List.getElem_mem _)
      have HS := Lib.hid (all_take_succ keyB ByteArray.empty xs k hkl)
      have HF := Lib.hid (all_false_at keyB ByteArray.empty xs k hkl)
      generalize xs.getD k ByteArray.empty = X at *
      clear hb ha
      by_cases hs : X.size ≤ 80
      · have HB := Lib.hid (show keyB X = true by simp [keyB, hs])
        go_wp2
        go_round
        case rel => exact ⟨k + 1, by omega, by go_num, by rw [HS.out, HT.out, HB.out]; rfl⟩
        case measure => simp [intOf]; omega
      · have HB := Lib.hid (show keyB X = false by simp [keyB]; omega)
        go_wp2
        go_ret
        refine ⟨?_, rfl⟩
        unfold keysB
        rw [HF.out HB.out]
        rfl
    · go_wp2
      go_ret
      obtain rfl : k = n := by omega
      refine ⟨?_, rfl⟩
      have h1 := HT.out
      rw [List.take_of_length_le (by rw [HL.out]; omega)] at h1
      unfold keysB
      rw [h1]
      rfl

theorem keysFit_pays (w : World) : PredAt Tryz.prog 82 #[] Value.string (fun x : ByteArray => decide (80 < x.size)) w := by
  intro W x hb
  unfold FnGives
  by_cases h : 80 < x.size
  all_goals
    go_enter Tryz.func82, Tryz.ntmps82
    go_wp2
    go_ret
    exact ⟨by simp [h]; omega, 0, rfl⟩

theorem any_keys (xs : List ByteArray) : (xs.any fun x => decide (80 < x.size)) = !keysB xs := by
  unfold keysB
  induction xs with
  | nil => rfl
  | cons x xs ih =>
    simp only [List.any_cons, List.all_cons, ih, Bool.not_and]
    congr 1
    unfold keyB
    rw [Bool.eq_iff_iff]
    simp

set_option maxHeartbeats 400000 in
theorem keysFit_any (A : Option Addr) (n c lo hi : Nat) (xs : List ByteArray) (w : World) (ha : StrR w lo hi A n xs) (hn : n ≤ 1048576) :
    Calls Tryz.prog 47 #[.slice A n c] w fun e w' => e = .returned (.bool (keysB xs)) ∧ Below w.heap.size w w' := by
  have hl := ha.1
  subst hl
  by_cases h0 : 0 < xs.length
  · obtain ⟨b, off, rfl, _, _, hc⟩ := ha.2 h0
    have HC := Lib.hid (fun (W : World) (hW : ∀ j, j < xs.length → W.cell? ⟨b, off + j, none⟩ = some (Value.string (xs.getD j ByteArray.empty))) =>
      Tryz.slices_ContainsFunc Value.string (fun x : ByteArray => decide (80 < x.size)) 82 #[] (enters_of Tryz.func82 (by kernel_rfl) rfl) b off xs.length c xs W (keysFit_pays W) (Nat.le_refl _) (by omega)
        (fun j hj => by rw [hW j hj, List.getD_eq_getElem?_getD, List.getElem?_eq_getElem hj]; simp [hj]))
    clear ha
    have HH := Lib.hid hc; clear hc
    go_enter Tryz.func47, Tryz.ntmps47
    go_wp2_with fail
    refine (HC.out _ HH.out).mono ?_
    rintro e w1 ⟨rfl, q, rfl⟩
    rw [List.take_length, any_keys]
    go_wp2
    go_ret
    exact ⟨by simp, below_drewN' w q⟩
  · have hx : xs = [] := List.eq_nil_of_length_eq_zero (by omega)
    subst hx
    have HC := Lib.hid (Tryz.slices_ContainsFunc_empty (α := ByteArray) A c (.func (.func 82) #[] #[]) w)
    clear ha h0
    go_enter Tryz.func47, Tryz.ntmps47
    go_wp2_with fail
    refine HC.out.mono ?_
    rintro e w1 ⟨rfl, rfl⟩
    go_wp2
    go_ret
    exact ⟨rfl, Below.refl _ _⟩

/-- A copy of texts: whatever it is called by, the row is the call's own. -/
theorem cloneStrs_any (A : Option Addr) (n c lo hi : Nat) (xs : List ByteArray) (w : World) (ha : StrR w lo hi A n xs) (hn : n ≤ 1048576) :
    Calls Tryz.prog 49 #[.slice A n c] w fun e w' => ∃ v, e = .returned v ∧ OwnStrs w' w.heap.size 9 v xs ∧ Below w.heap.size w w' := by
  have hl := ha.1
  subst hl
  by_cases h0 : 0 < xs.length
  · obtain ⟨b, off, rfl, _, _, hc⟩ := ha.2 h0
    refine (Tryz.slices_Clone_string b off xs.length c xs w (Nat.le_refl _) (by omega) hc).mono fun e w' ⟨v, he, ho, _, hb⟩ => ?_
    rw [List.take_length] at ho
    refine ⟨v, he, ⟨?_, ho⟩, hb⟩
    rcases ho.2 with ⟨_, h1⟩ | ⟨g, cap, cur, hv, _⟩
    · omega
    · exact ⟨_, _, hv⟩
  · have hx : xs = [] := List.eq_nil_of_length_eq_zero (by omega)
    subst hx
    cases A with
    | none => exact (Tryz.slices_Clone_string_nil 0 c w).mono fun e w' ⟨he, hw⟩ => ⟨_, he, by rw [hw]; exact OwnR.nil_ _ _ _, by rw [hw]; exact Below.refl _ _⟩
    | some a =>
      refine (Tryz.slices_Clone_string_zero a c w).mono fun e w' ⟨v, he, ho, hv, hb⟩ => ⟨v, he, ⟨?_, ho⟩, hb⟩
      rcases ho.2 with ⟨h1, _⟩ | ⟨g, cap, cur, hv, _⟩
      · exact absurd h1 hv
      · exact ⟨_, _, hv⟩

set_option maxHeartbeats 1000000 in
theorem l03Subs_any (A : Option Addr) (n c lo hi : Nat) (xs : List ByteArray) (w : World) (ha : StrR w lo hi A n xs) (hhi : hi ≤ w.heap.size) (hn : n ≤ 1048576) :
    Calls Tryz.prog 26 #[.slice A n c] w fun e w' => ∃ v, e = .returned v ∧ OwnStrs w' w.heap.size 9 v xs ∧ Below w.heap.size w w' := by
  have hl := ha.1
  subst hl
  have hbo := (Below.refl w.heap.size w).alloc (Nat.le_refl _) (.cells #[] 9)
  by_cases h0 : 0 < xs.length
  · obtain ⟨b, off, rfl, _, hbh, hc⟩ := ha.2 h0
    have HC := Lib.hid (fun j (hj : j < xs.length) => (World.cell?_of_block (hbo.block b (by omega))).trans (hc j hj))
    have HB := Lib.hid hbo
    clear ha hc hbo
    go_enter Tryz.func26, Tryz.ntmps26
    go_wp2_with (at_builtin; refine wpList_appAll rfl (.tmp 3) (.tmp 4) 22 9 rfl Tryz.underlying22 infoString _ _ b off xs _ _ rfl rfl rfl HC.out h0 (by omega) ?_; intro v1 w1 hown1 hb1)
    go_ret
    exact ⟨_, rfl, hown1.mono (by simp), HB.out.trans (hb1.mono HB.out.size)⟩
  · have hx : xs = [] := List.eq_nil_of_length_eq_zero (by omega)
    subst hx
    have HO := Lib.hid (OwnR.none_ (enc := Value.string) w w.heap.size 9 (Nat.le_refl _))
    have HB := Lib.hid hbo
    clear ha h0 hbo
    cases A with
    | none =>
      go_enter Tryz.func26, Tryz.ntmps26
      go_wp2
      go_ret
      exact ⟨_, rfl, HO.out, HB.out⟩
    | some a =>
      go_enter Tryz.func26, Tryz.ntmps26
      go_wp2
      go_ret
      exact ⟨_, rfl, HO.out, HB.out⟩

end Go.Proofs.YtmeholhmadeehaaGreatDoor
