/- A screen behind a pointer; blanks; a new row (the reference's). -/
import Derived.Test.YtmeholhmadeehaaGreatDoorJoinFLAe
import Derived.BigRegion
import Derived.StillTailTactics
import Derived.Deep.RegionLaw
import Derived.Deep.RegionHeld3
import Derived.Deep.CutRange
import Derived.Deep.DeepCutAuto
namespace Go.Proofs.YtmeholhmadeehaaGreatDoor
open Go.RowKit

/-- Texts in a block of the call's own, from an offset on. -/
def OwnO (w : World) (base b off cap : Nat) (xs : List ByteArray) : Prop :=
  base ≤ b ∧ ∃ cur, Blk w b 9 cur ∧ cur.size = off + cap ∧ xs.length ≤ cap ∧ cap ≤ maxLen ∧ (cur.toList.drop off).take xs.length = xs.map Value.string

theorem OwnO.get {w : World} {base b off cap : Nat} {xs : List ByteArray} (h : OwnO w base b off cap xs) {j : Nat} (hj : j < xs.length) : w.cell? ⟨b, off + j, none⟩ = some (.string (xs.getD j ByteArray.empty)) := by
  obtain ⟨_, cur, hB, hs, hl, _, ht⟩ := h
  rw [hB.cell, ← Array.getElem?_toList]
  have h2 : ((cur.toList.drop off).take xs.length)[j]? = cur.toList[off + j]? := by rw [List.getElem?_take, if_pos hj, List.getElem?_drop]
  rw [← h2, ht, List.getElem?_map, List.getElem?_eq_getElem hj]
  simp [List.getD_eq_getElem?_getD, List.getElem?_eq_getElem hj]
theorem OwnO.frozen {w : World} {base b off cap : Nat} {xs : List ByteArray} (h : OwnO w base b off cap xs) (i : Nat) : w.frozen? ⟨b, i, none⟩ = false := by
  obtain ⟨_, cur, hB, _⟩ := h
  exact hB.frozen i
theorem OwnO.lt {w : World} {base b off cap : Nat} {xs : List ByteArray} (h : OwnO w base b off cap xs) : b < w.heap.size := by
  obtain ⟨_, cur, hB, _⟩ := h
  exact hB.lt
theorem OwnO.keep {w w' : World} {base b off cap : Nat} {xs : List ByteArray} (h : OwnO w base b off cap xs) (hk : w'.heap[b]? = w.heap[b]?) : OwnO w' base b off cap xs := by
  obtain ⟨h1, cur, hB, r⟩ := h
  exact ⟨h1, cur, hk.trans hB, r⟩
theorem OwnO.below {w w' : World} {base b off cap : Nat} {xs : List ByteArray} (h : OwnO w base b off cap xs) (hb : Below w.heap.size w w') : OwnO w' base b off cap xs := h.keep (hb.block b h.lt)
theorem OwnO.far {w : World} {base b off cap : Nat} {xs : List ByteArray} (h : OwnO w base b off cap xs) {p : Addr} (hp : b ≠ p.block) (u : Value) : OwnO (w.setCell p u) base b off cap xs := h.keep (Below.heap_setCell w p u b hp)
theorem OwnO.put {w : World} {base b off cap : Nat} {xs : List ByteArray} (h : OwnO w base b off cap xs) {j : Nat} (_ : j < xs.length) (y : ByteArray) : OwnO (w.setCell ⟨b, off + j, none⟩ (.string y)) base b off cap (xs.set j y) := by
  obtain ⟨h1, cur, hB, hs, hl, hm, ht⟩ := h
  refine ⟨h1, _, hB.set_ (off + j) (.string y), by simpa using hs, by simpa using hl, hm, ?_⟩
  rw [Array.toList_setIfInBounds, List.length_set, List.map_set, ← ht, List.drop_set]
  rw [if_neg (by omega), List.take_set]
  congr 1
  omega
theorem OwnO.of_own {w : World} {base : Nat} {A : Option Addr} {n c : Nat} {xs : List ByteArray} (h : w.ownsRow base 9 1 (.slice A n c) n (xs.map Value.string)) (hn : 0 < n) : ∃ b, A = some ⟨b, 0, none⟩ ∧ OwnO w base b 0 c xs := by
  have hl : xs.length = n := by have := h.1; simpa using this
  rcases h.2 with ⟨_, h0⟩ | ⟨g, cap, cur, hv, hg, hh, hnc, hcm, hsz, htk⟩
  · omega
  · injection hv with hA _ hc
    subst hc
    exact ⟨g, hA, hg, cur, hh, by rw [hsz]; omega, by omega, hcm, by rw [List.drop_zero, hl]; simpa using htk⟩
theorem OwnO.to_own {w : World} {base b cap : Nat} {xs : List ByteArray} (h : OwnO w base b 0 cap xs) : w.ownsRow base 9 1 (.slice (some ⟨b, 0, none⟩) xs.length cap) xs.length (xs.map Value.string) := by
  obtain ⟨h1, cur, hB, hs, hl, hm, ht⟩ := h
  exact ⟨by simp, .inr ⟨b, cap, cur, rfl, h1, hB, hl, hm, by rw [hs]; omega, by simpa using ht⟩⟩

/-- A screen behind a pointer: its three cells in block g, its rows in a block of the call's own. -/
def ScrP (w : World) (base g : Nat) (s : Scr) : Prop :=
  base ≤ g ∧ ∃ b off cap, g ≠ b ∧ Blk w g 29 #[.int .i64 s.row, .int .i64 s.col, .slice (some ⟨b, off, none⟩) s.rows.length cap] ∧ OwnO w base b off cap s.rows

theorem ScrP.below {w w' : World} {base g : Nat} {s : Scr} (h : ScrP w base g s) (hb : Below w.heap.size w w') : ScrP w' base g s := by
  obtain ⟨h1, b, off, cap, hne, hB, hO⟩ := h
  exact ⟨h1, b, off, cap, hne, hB.below hb hB.lt, hO.below hb⟩

theorem infoByte : (Tryz.prog.info? 5).map (fun i => (i.zero, i.size, i.bytes)) = some (some (.int .u8 0), 1, 1) := by kernel_rfl

abbrev encB : UInt8 → Value := fun c => .int .u8 (c.toNat : Int)

theorem convert_own {w : World} {base : Nat} {v : Value} {xs : List UInt8} (h : OwnR encB w base 5 v xs) :
    (convert 39 9 v).run Tryz.prog w = .ok (.string ⟨xs.toArray⟩) w := by
  obtain ⟨⟨A, c, rfl⟩, ho⟩ := h
  by_cases h0 : 0 < xs.length
  · obtain ⟨b, off, rfl, _, _, hc⟩ := (RowR.of_own (enc := encB) (d := 0) ho).2 h0
    have := run_convert_bytes_arg (P := Tryz.prog) w 39 5 Tryz.underlying39 Tryz.underlying5 b off xs.length c (xs.map fun c => (c.toNat : Int)) (by simp) (fun i hi => by
      rw [hc i hi]
      simp [List.getD_eq_getElem?_getD, List.getElem?_eq_getElem hi]) 9 Tryz.underlying9
    have e : strOfNums (xs.map fun c => (c.toNat : Int)) = ⟨xs.toArray⟩ := by
      unfold strOfNums
      rw [List.map_map]
      have : ((fun n : Int => UInt8.ofNat n.toNat) ∘ fun c : UInt8 => (c.toNat : Int)) = id := by
        funext c
        simp
      rw [this, List.map_id]
    rw [this, e]
  · have hx : xs = [] := List.eq_nil_of_length_eq_zero (by omega)
    subst hx
    cases A with
    | none => exact run_convert_bytes_nil (P := Tryz.prog) w 39 5 Tryz.underlying39 Tryz.underlying5 _ _ 9 Tryz.underlying9
    | some a =>
      rw [run_convert_bytes_string w 39 9 5 _ _ _ Tryz.underlying39 Tryz.underlying5 Tryz.underlying9, run_bytesToString w a _ _ [] (by simp [loadCells, loadCellsFrom])]
      rfl

set_option maxHeartbeats 1000000 in
theorem l31Blanks_any (n : Int) (w : World) (hn0 : 0 ≤ n) (hn : n ≤ 1000) :
    Calls Tryz.prog 100 #[.int .i64 n] w fun e w' => e = .returned (.string (blanks n.toNat)) ∧ Below w.heap.size w w' := by
  obtain ⟨m, rfl⟩ := Int.eq_ofNat_of_zero_le hn0
  rw [Int.toNat_natCast]
  go_enter Tryz.func100, Tryz.ntmps100
  go_wp2_with fail
  go_loopw [3, 4] (fun v i wr => ∃ k : Nat, k ≤ m ∧ i = .int .i64 k ∧ OwnR encB wr w.heap.size 5 v (List.replicate k (32 : UInt8)) ∧ Below w.heap.size w wr) (fun _ i _ => m - (intOf i).toNat)
  case atStart => exact ⟨0, Nat.zero_le _, rfl, OwnR.none_ _ _ _ (Nat.le_refl _), (Below.refl _ _).alloc (Nat.le_refl _) _⟩
  case round =>
    obtain ⟨k, hk, rfl, hown, hbel⟩ := hrel
    by_cases hlt : k < m
    · have HR := Lib.hid (show List.replicate k (32 : UInt8) ++ [32] = List.replicate (k + 1) 32 from List.replicate_append_replicate (m := 1))
      have hl : (List.replicate k (32 : UInt8)).length ≤ 1000000000 := by simp; omega
      generalize List.replicate k (32 : UInt8) = L at *
      go_wp2_with (at_builtin; refine wpList_app1 (enc := encB) rfl (.tmp 11) (.tmp 12) 39 5 rfl Tryz.underlying39 rfl (by omega) (fun _ => rfl) infoByte wr w.heap.size _ L (32 : UInt8) rfl hown rfl hl hbel.size ?_; intro v1 w1 hown1 hb1)
      go_roundw
      case rel => exact ⟨k + 1, by omega, by go_num, by rw [← HR.out]; exact hown1, hbel.trans hb1⟩
      case measure => simp [intOf]; omega
    · obtain rfl : k = m := by omega
      have hcv := convert_own hown
      have HC := Lib.hid (show ByteArray.mk (List.replicate k (32 : UInt8)).toArray = blanks k from rfl)
      generalize List.replicate k (32 : UInt8) = L at *
      clear hown
      go_wp2_with fail
      go_ret
      exact ⟨by rw [← HC.out]; rfl, hbel⟩

end Go.Proofs.YtmeholhmadeehaaGreatDoor

/- Walks of the reference's l31Row, l31Put. -/
namespace Go.Proofs.YtmeholhmadeehaaGreatDoor
open Go.RowKit

/-- append([]string{}, src...): a literal without capacity must grow. -/
theorem wpList_appAll {P : Program} {ops : Array Oper} {rest : List Oper} {o : Oper} {a : Go.Act} {Q : Exit → Go.Act → World → Prop} (hgd : o.guard = none) (s x : Operand) (t e : TypeId)
    (ho : o.op = .call { callee := .builtin .append, args := #[s, x], argTypes := #[t, t] }) (ht : P.underlying t = some (.slice e))
    (hinfo : (P.info? e).map (fun i => (i.zero, i.size, i.bytes)) = some (some (.string ⟨#[]⟩), 1, 16))
    (w : World) (A0 : Option Addr) (b off : Nat) (xs : List ByteArray) (n c : Nat) (hxl : xs.length = n) (hs : a.eval s = .slice A0 0 0)
    (hx : a.eval x = .slice (some ⟨b, off, none⟩) n c) (hc : ∀ j, j < xs.length → w.cell? ⟨b, off + j, none⟩ = some (.string (xs.getD j ByteArray.empty))) (h0 : 0 < xs.length) (hlen : xs.length ≤ 1000000000)
    (h : ∀ v' w', OwnStrs w' w.heap.size e v' xs → Below w.heap.size w w' → wpList P ops Q rest (a.put o.dst v') w') : wpList P ops Q (o :: rest) a w := by
  subst hxl
  obtain ⟨i0, hi0, hz0, hz1, hz2⟩ := info_parts hinfo
  refine wpList_append_grows _ hgd s x t ho e i0 _ 1 16 ht hi0 hz0 hz1 hz2 rfl (by decide) A0 0 0 [] hs (fun _ => ⟨rfl, rfl⟩) rfl (by intro b _ j u hj; simp at hj) ⟨b, off, none⟩ xs.length c (xs.map Value.string) hx (by simp) ?_ ?_ (by omega) (by unfold maxLen; omega) (by omega) ?_
  · intro j u hj
    rw [List.getElem?_map] at hj
    rcases Nat.lt_or_ge j xs.length with hlt | hge
    · rw [List.getElem?_eq_getElem hlt] at hj
      simp only [Option.map_some, Option.some.injEq] at hj
      have hadd : (⟨b, off, none⟩ : Addr).add j = ⟨b, off + j, none⟩ := by unfold Addr.add; split <;> simp_all
      rw [hadd, hc j hlt, ← hj, List.getD_eq_getElem?_getD, List.getElem?_eq_getElem hlt]
      rfl
    · rw [List.getElem?_eq_none hge] at hj; cases hj
  · intro u hu
    obtain ⟨y, _, rfl⟩ := List.mem_map.1 hu
    rfl
  · intro v' w' h1 h2
    rw [Nat.zero_add, List.nil_append] at h1
    refine h v' w' ⟨?_, h1⟩ (Below.of_grown h2 (Nat.le_refl _) (by intro k hk; cases hk))
    rcases h1.2 with ⟨e1, e2⟩ | ⟨g, cap, cur, e1, _⟩
    · omega
    · exact ⟨some ⟨g, 0, none⟩, cap, e1⟩

theorem OwnO.alloc {w : World} {base b off cap : Nat} {xs : List ByteArray} (h : OwnO w base b off cap xs) (o : Obj) : OwnO (w.alloc o) base b off cap xs := h.keep (Below.heap_alloc w o b h.lt)
theorem OwnO.get1 {w : World} {base b off cap : Nat} {xs : List ByteArray} (h : OwnO w base b off cap xs) : ∀ j, j < (xs.drop 1).length → w.cell? ⟨b, off + 1 + j, none⟩ = some (.string ((xs.drop 1).getD j ByteArray.empty)) := by
  intro j hj
  rw [List.length_drop] at hj
  have := h.get (j := 1 + j) (by omega)
  rw [← Nat.add_assoc] at this
  rw [this]
  rw [Nat.add_comm 1 j]
  simp [List.getD_eq_getElem?_getD]

set_option maxHeartbeats 1000000 in
theorem l31Row_any (s : Scr) (base g : Nat) (w : World) (hp : ScrP w base g s) (hb : base ≤ w.heap.size) (hl : s.rows.length = 6) (h0 : 0 ≤ s.row) (h5 : s.row ≤ 5) :
    Calls Tryz.prog 67 #[.pointer (some ⟨g, 0, none⟩)] w fun e w' => e = .returned (.tuple #[]) ∧ ScrP w' base g (newRow s) ∧ Below base w w' := by
  obtain ⟨hbg, b, off, cap, hne, hB, hO⟩ := hp
  by_cases hr : s.row < 5
  · have f := hB.cell
    have z := hB.frozen
    have hn6 : (s.row + 1 == 6) = false := by rw [beq_eq_false_iff_ne]; omega
    have HN := Lib.hid (show newRow s = ⟨s.row + 1, 0, s.rows⟩ by unfold newRow; rw [if_pos hr])
    have HB := Lib.hid hB; have HO := Lib.hid hO
    clear hB hO
    go_enter Tryz.func67, Tryz.ntmps67
    go_wp2_with fail
    go_end0
    refine ⟨rfl, ?_, ?_⟩
    · rw [HN.out]
      refine ⟨hbg, b, off, cap, hne, ?_, ?_⟩
      · exact (HB.out.set_ 1 (.int .i64 0)).set_ 0 (.int .i64 (s.row + 1))
      · exact (HO.out.far (p := ⟨g, 1, none⟩) (fun h => hne h.symm) _).far (p := ⟨g, 0, none⟩) (fun h => hne h.symm) _
    · exact ((Below.refl base w).setCell (p := ⟨g, 1, none⟩) hbg _).setCell (p := ⟨g, 0, none⟩) hbg _
  · have hr5 : s.row = 5 := by omega
    have HN := Lib.hid (show newRow s = ⟨5, 0, s.rows.drop 1 ++ [blanks 20]⟩ by unfold newRow; rw [if_neg hr])
    obtain ⟨row, col, rows⟩ := s
    dsimp only at *
    subst hr5
    have f := hB.cell
    have z := hB.frozen
    have hcap : 6 ≤ cap := by obtain ⟨_, cur, _, _, h3, _⟩ := hO; omega
    have hc1 : ¬ (cap = 1) := by omega
    have hgl := hB.lt
    have hgn : w.heap.size ≠ g := by omega
    have HB := Lib.hid hB; have HO := Lib.hid hO
    have HL := Lib.hid hl
    have l6 : rows.length ≤ 6 := by omega
    have g6 : 6 ≤ rows.length := by omega
    clear hB hO hr h5 h0 hl
    go_enter Tryz.func67, Tryz.ntmps67
    have HW := Lib.hid (fun (o : Obj) => ((HO.out.far (p := ⟨g, 1, none⟩) (fun h => hne h.symm) (.int .i64 0)).far (p := ⟨g, 0, none⟩) (fun h => hne h.symm) (.int .i64 6)).alloc o)
    have HBW := Lib.hid (fun (o : Obj) => ((HB.out.set_ 1 (.int .i64 0)).set_ 0 (.int .i64 6)).alloc o)
    have HDW := Lib.hid (fun (o : Obj) => (((Below.refl base w).setCell (p := ⟨g, 1, none⟩) hbg (.int .i64 0)).setCell (p := ⟨g, 0, none⟩) hbg (.int .i64 6)).alloc (by simp [World.setCell]; omega) o)
    have hdl : (rows.drop 1).length = rows.length - 1 := List.length_drop ..
    have HDL := Lib.hid hdl; clear hdl
    go_wp2_with (at_builtin; refine wpList_appAll rfl (.tmp 19) (.tmp 24) 22 9 rfl Tryz.underlying22 infoString _ _ b (off + 1) (rows.drop 1) _ _ HDL.out rfl rfl (HW.out _).get1 (by rw [HDL.out]; omega) (by rw [HDL.out]; omega) ?_; intro v1 w1 hown1 hb1)
    have B1 := (HBW.out _).below hb1 (HBW.out _).lt
    have D1 := (HDW.out _).trans (hb1.mono (Nat.le_trans hb (HDW.out _).size))
    have hown1' := hown1.mono (base' := w.heap.size + 1) (by simp [World.setCell])
    have s1 : w.heap.size + 1 ≤ w1.heap.size := by have := hb1.size; simp [World.setCell] at this; omega
    clear hb1 hown1 HW HBW HDW f z
    have HB1 := Lib.hid B1; have HD1 := Lib.hid D1; have HO1 := Lib.hid hown1'
    clear B1 D1 hown1'
    refine (l31Blanks_any 20 _ (by omega) (by omega)).mono ?_
    rintro e2 w2 ⟨rfl, hb2⟩
    have B2 := HB1.out.below hb2 HB1.out.lt
    have D2 := HD1.out.trans (hb2.mono (Nat.le_trans hb HD1.out.size))
    have hown2 := HO1.out.below hb2
    have s2 : w.heap.size + 1 ≤ w2.heap.size := Nat.le_trans s1 hb2.size
    clear hb2 HB1 HD1 HO1
    have HB2 := Lib.hid B2; have HD2 := Lib.hid D2
    clear B2 D2
    have b20 : blanks (Int.toNat 20) = blanks 20 := rfl
    rw [b20]
    clear b20
    go_wp2_with (at_builtin; refine wpList_app1 (enc := Value.string) rfl (.tmp 25) (.tmp 27) 22 9 rfl Tryz.underlying22 rfl (by omega) (fun _ => rfl) infoString w2 (w.heap.size + 1) _ (rows.drop 1) _ rfl hown2 rfl (by rw [HDL.out]; omega) s2 ?_; intro v3 w3 hown3 hb3; obtain ⟨⟨A3, c3, rfl⟩, ho3⟩ := hown3; have B3 := HB2.out.below hb3 (by omega); have f := B3.cell; have z := B3.frozen)
    have D3 := HD2.out.trans (hb3.mono (by omega))
    have hlen : (rows.drop 1 ++ [blanks 20]).length = rows.length - 1 + 1 := by simp
    obtain ⟨b3, hA3, hO3⟩ := OwnO.of_own ho3 (by rw [hlen]; omega)
    have hbb := hO3.1
    go_end0
    rw [← hlen, HN.out, hA3]
    refine ⟨rfl, ⟨hbg, b3, 0, c3, by omega, ?_, ?_⟩, ?_⟩
    · exact (B3.set_ 2 _).set_ 0 _
    · refine OwnO.far (p := ⟨g, 0, none⟩) (OwnO.far (p := ⟨g, 2, none⟩) ?_ (by simp; omega) _) (by simp; omega) _
      exact ⟨by omega, hO3.2⟩
    · exact (D3.setCell (p := ⟨g, 2, none⟩) hbg _).setCell (p := ⟨g, 0, none⟩) hbg _

theorem run_one_byte_drew {P : Program} (src dst e : TypeId) (hs : P.underlying src = some (.slice e)) (he : P.underlying e = some (.int .u8)) (hd : P.underlying dst = some .string) (w : World) (n : Int) (c : Nat) :
    (convert src dst (.slice (some ⟨w.heap.size, 0, none⟩) 1 c)).run P (w.alloc (.cells #[.int .u8 n] e)).drew = .ok (.string ⟨#[UInt8.ofNat n.toNat]⟩) (w.alloc (.cells #[.int .u8 n] e)).drew := by
  have h := run_convert_bytes_arg (P := P) (w.alloc (.cells #[.int .u8 n] e)).drew src e hs he w.heap.size 0 1 c [n] rfl (fun i hi => by
    obtain rfl : i = 0 := by omega
    show (w.alloc (.cells #[.int .u8 n] e)).cell? _ = _
    simp) dst hd
  exact h

theorem World.heap_size_alloc' (w : World) (o : Obj) : (w.alloc o).heap.size = w.heap.size + 1 := by simp

theorem putAt_eq (r : ByteArray) (col : Nat) (c : UInt8) (hr : r.size = 20) : r.extract 0 col ++ ⟨#[c]⟩ ++ r.extract (col + 1) 20 = putAt r col c := by unfold putAt; rw [hr]

set_option maxHeartbeats 2000000 in
set_option maxRecDepth 100000 in
theorem l31Put_any (s : Scr) (c : Nat) (base g : Nat) (w : World) (hp : ScrP w base g s) (hb : base ≤ w.heap.size) (hf : Fine s) (_ : c ≤ 255) :
    Calls Tryz.prog 66 #[.pointer (some ⟨g, 0, none⟩), .int .u8 c] w fun e w' => e = .returned (.tuple #[]) ∧ ScrP w' base g (putCh s (UInt8.ofNat c)) ∧ Below base w w' := by
  obtain ⟨hbg, b, off, cap, hne, hB, hO⟩ := hp
  have f := hB.cell
  have z := hB.frozen
  have hgl := hB.lt
  have hgn : w.heap.size ≠ g := by omega
  obtain ⟨k, hk⟩ := Int.eq_ofNat_of_zero_le hf.row0
  obtain ⟨j, hj⟩ := Int.eq_ofNat_of_zero_le hf.col0
  obtain ⟨row, col, rows⟩ := s
  dsimp only at *
  subst hk hj
  have hl := hf.len; have h5 := hf.row5; have h19 := hf.col19
  dsimp only at hl h5 h19
  have hkl : k < rows.length := by omega
  have hrow := hO.get hkl
  have hX : (rows.getD k ByteArray.empty).size = 20 := hf.size _ (by
    rw [List.getD_eq_getElem?_getD, List.getElem?_eq_getElem hkl]
    exact List.getElem_mem _)
  have hbn : b ≠ w.heap.size := by have := hO.lt; omega
  have HF := Lib.hid hf; have HB := Lib.hid hB; have HO := Lib.hid hO
  have hki : (k : Int) < (rows.length : Int) := by omega
  have HL := Lib.hid hl
  have l6 : rows.length ≤ 6 := by omega
  have g6 : 6 ≤ rows.length := by omega
  clear hf hB hO hl
  generalize hXX : rows.getD k ByteArray.empty = X at *
  have HXX := Lib.hid hXX
  have HX := Lib.hid hX
  have x1 : X.size ≤ 20 := by omega
  have x2 : 20 ≤ X.size := by omega
  clear hX hXX
  go_enter Tryz.func66, Tryz.ntmps66
  go_wp2_with fail
  go_quiet (fail)
  have HB0 := Lib.hid (HB.out.drewN nq)
  have HO0 := Lib.hid (show OwnO (w.drewN nq) base b off cap rows from HO.out)
  have HD0 := Lib.hid ((below_drewN' w nq).mono hb)
  have hs0 : (w.drewN nq).heap.size = w.heap.size := rfl
  generalize w.drewN nq = w0 at *
  clear HB HO f z hrow hgn hbn
  have hgl0 : g < w0.heap.size := HB0.out.lt
  have hgn : w0.heap.size ≠ g := by omega
  have hb0 : base ≤ w0.heap.size := by omega
  clear hs0 hgl
  have f := HB0.out.cell
  have z := HB0.out.frozen
  go_wp2_with (at_builtin; refine wpList_appAll rfl (.tmp 16) (.tmp 20) 22 9 rfl Tryz.underlying22 infoString _ _ b off rows _ _ rfl rfl rfl (fun j hj => ((HO0.out.alloc _)).get hj) (by omega) (by omega) ?_; intro v1 w1 hown1 hb1; obtain ⟨⟨A1, c1, rfl⟩, ho1⟩ := hown1)
  clear f z
  obtain ⟨b1, hA1, hO1⟩ := OwnO.of_own ho1 (by omega)
  have hbb := hO1.1
  rw [World.heap_size_alloc'] at hbb
  have B1 := (HB0.out.alloc (.cells #[] 9)).below hb1 (HB0.out.alloc _).lt
  have D1 := (HD0.out.alloc hb0 (.cells #[] 9)).trans (hb1.mono (by simp; omega))
  have s1 := hb1.size
  clear hb1 ho1 HO0 HB0 HD0
  have f := B1.cell
  have hc1k := hO1.get hkl
  rw [HXX.out, Nat.zero_add] at hc1k
  have hz1k := hO1.frozen k
  have hcv := run_one_byte_drew (P := Tryz.prog) 39 9 5 Tryz.underlying39 Tryz.underlying5 Tryz.underlying9
  rw [hA1]
  have hb1l : b1 < w1.heap.size := hO1.lt
  have hb1n : w1.heap.size ≠ b1 := by omega
  have hgn1 : w1.heap.size ≠ g := by have := B1.lt; omega
  have hj0 : (0 : Int) ≤ (j : Int) := by omega
  have hj1 : (j : Int) ≤ (X.size : Int) := by omega
  have hj2 : (j : Int) + 1 ≤ (X.size : Int) := by omega
  have fo := fun (o : Obj) i => (B1.alloc o).cell i
  have hko := fun (o : Obj) => (hO1.alloc o).get hkl
  rw [HXX.out, Nat.zero_add] at hko
  have hzo := fun (o : Obj) => (hO1.alloc o).frozen k
  have hm1 : ¬ (9223372036854775807 < min j X.size + 1) := by omega
  have hm2 : ¬ (9223372036854775807 < min j X.size + 1 + (X.size - (j + 1))) := by omega
  have HB1 := Lib.hid B1; have HO1 := Lib.hid hO1; have HD1 := Lib.hid D1
  have hRR : rows.getD k ByteArray.empty = X := HXX.out
  have HPC := Lib.hid (show putCh ⟨k, j, rows⟩ (UInt8.ofNat c) = if (j : Int) + 1 = 20 then newRow ⟨k, 20, rows.set k (putAt X j (UInt8.ofNat c))⟩ else ⟨k, (j : Int) + 1, rows.set k (putAt X j (UInt8.ofNat c))⟩ by
    unfold putCh setRow
    simp only [Int.toNat_natCast, hRR])
  have HSF := Lib.hid (show (rows.set k (putAt X j (UInt8.ofNat c))).length = 6 by rw [List.length_set]; exact HL.out)
  have h5' : k ≤ 5 := by omega
  clear B1 hO1 D1 h5 hRR
  go_region
  have B2 : Blk (((w1.setCell ⟨b1, k, none⟩ (.string (X.extract 0 j ++ ⟨#[UInt8.ofNat c]⟩ ++ X.extract (j + 1) X.size))).alloc (.cells #[.int .u8 c] 5)).drew) g 29 #[.int .i64 k, .int .i64 j, .slice (some ⟨b, off, none⟩) rows.length cap] :=
    (HB1.out.far (p := ⟨b1, k, none⟩) (by simp; omega) _).alloc _
  have O2 : OwnO (((w1.setCell ⟨b1, k, none⟩ (.string (X.extract 0 j ++ ⟨#[UInt8.ofNat c]⟩ ++ X.extract (j + 1) X.size))).alloc (.cells #[.int .u8 c] 5)).drew) (w0.heap.size + 1) b1 0 c1 (rows.set k (putAt X j (UInt8.ofNat c))) := by
    have h := (HO1.out.put hkl (putAt X j (UInt8.ofNat c))).alloc (.cells #[.int .u8 c] 5)
    rw [Nat.zero_add] at h
    exact ⟨hbb, h.2⟩
  have D2 : Below base w (((w1.setCell ⟨b1, k, none⟩ (.string (X.extract 0 j ++ ⟨#[UInt8.ofNat c]⟩ ++ X.extract (j + 1) X.size))).alloc (.cells #[.int .u8 c] 5)).drew) :=
    ((HD1.out.setCell (p := ⟨b1, k, none⟩) (by simp; omega) _).alloc (by have := HD1.out.size; simp [World.setCell]; omega) _).drew
  generalize ((w1.setCell ⟨b1, k, none⟩ (.string (X.extract 0 j ++ ⟨#[UInt8.ofNat c]⟩ ++ X.extract (j + 1) X.size))).alloc (.cells #[.int .u8 c] 5)).drew = w2 at *
  clear fo hko hzo hcv hc1k hz1k hm1 hm2 f HB1 HO1 HD1
  have f := B2.cell
  have z := B2.frozen
  have HB2 := Lib.hid B2; have HO2 := Lib.hid O2; have HD2 := Lib.hid D2
  have hgb : g ≠ b1 := by omega
  clear B2 O2 D2
  have P3 : ∀ cc : Int, ScrP ((w2.setCell ⟨g, 2, none⟩ (.slice (some ⟨b1, 0, none⟩) rows.length c1)).setCell ⟨g, 1, none⟩ (.int .i64 cc)) base g ⟨k, cc, rows.set k (putAt X j (UInt8.ofNat c))⟩ := by
    intro cc
    refine ⟨hbg, b1, 0, c1, hgb, ?_, ?_⟩
    · show Blk _ g 29 #[.int .i64 k, .int .i64 cc, .slice (some ⟨b1, 0, none⟩) (rows.set k (putAt X j (UInt8.ofNat c))).length c1]
      rw [List.length_set]
      exact (HB2.out.set_ 2 _).set_ 1 _
    · refine OwnO.far (p := ⟨g, 1, none⟩) (OwnO.far (p := ⟨g, 2, none⟩) ?_ (fun h => hgb h.symm) _) (fun h => hgb h.symm) _
      exact ⟨by omega, HO2.out.2⟩
  have D3 : ∀ cc : Int, Below base w ((w2.setCell ⟨g, 2, none⟩ (.slice (some ⟨b1, 0, none⟩) rows.length c1)).setCell ⟨g, 1, none⟩ (.int .i64 cc)) := fun cc => (HD2.out.setCell (p := ⟨g, 2, none⟩) hbg _).setCell (p := ⟨g, 1, none⟩) hbg _
  have HP3 := Lib.hid P3; have HD3 := Lib.hid D3
  clear P3 D3
  by_cases hj20 : (j : Int) + 1 = 20
  · have e20 : ((j : Int) + 1 == 20) = true := by rw [beq_iff_eq]; exact hj20
    have HJ := Lib.hid hj20; clear hj20
    go_wp2_with fail
    have hp3 := HP3.out ((j : Int) + 1)
    have hp3' : ScrP ((w2.setCell ⟨g, 2, none⟩ (.slice (some ⟨b1, 0, none⟩) rows.length c1)).setCell ⟨g, 1, none⟩ (.int .i64 ((j : Int) + 1))) base g ⟨k, 20, rows.set k (putAt X j (UInt8.ofNat c))⟩ := by
      have := HP3.out ((j : Int) + 1)
      rwa [show (⟨(k : Int), (j : Int) + 1, rows.set k (putAt X j (UInt8.ofNat c))⟩ : Scr) = ⟨k, 20, rows.set k (putAt X j (UInt8.ofNat c))⟩ by rw [HJ.out]] at this
    refine (l31Row_any ⟨k, 20, rows.set k (putAt X j (UInt8.ofNat c))⟩ base g _ hp3' (Nat.le_trans hb (HD3.out _).size) HSF.out (by simp) (by simp; omega)).mono ?_
    rintro e4 w4 ⟨rfl, hp4, hb4⟩
    have HP4 := Lib.hid hp4; have HD4 := Lib.hid ((HD3.out _).trans hb4)
    clear hp4 hb4 hp3 hp3' HP3 HD3
    go_wp2_with fail
    go_end0
    rw [HPC.out, if_pos HJ.out]
    exact ⟨rfl, HP4.out, HD4.out⟩
  · have e20 : ((j : Int) + 1 == 20) = false := by rw [beq_eq_false_iff_ne]; exact hj20
    have HJ := Lib.hid hj20; clear hj20
    go_wp2_with fail
    go_end0
    rw [HPC.out, if_neg HJ.out]
    exact ⟨rfl, HP3.out _, HD3.out _⟩

end Go.Proofs.YtmeholhmadeehaaGreatDoor

/- Walks of the reference's NewScreen, l31Show. -/
namespace Go.Proofs.YtmeholhmadeehaaGreatDoor
open Go.RowKit

/-- append(out, x) inside a region that draws its order. -/
theorem step_app1 {α : Type} {enc : α → Value} {P : Program} {ops : Array Oper} {o : Oper} {a : Go.Act} {K : Go.Act → World → Prop} {Q : Exit → Go.Act → World → Prop} {E : Prop} (hgd : o.guard = none) (s x : Operand) (t e : TypeId)
    (ho : o.op = .call { callee := .builtin .append, args := #[s, x], argTypes := #[t, t] }) (ht : P.underlying t = some (.slice e))
    {z : Value} {by_ : Nat} (hzz : z.cells.size = 1) (hby : by_ ≤ 16) (hone : ∀ x : α, (enc x).oneCell' = true) (hinfo : (P.info? e).map (fun i => (i.zero, i.size, i.bytes)) = some (some z, 1, by_))
    (w : World) (base : Nat) (v : Value) (xs : List α) (y : α) (hs : a.eval s = v) (hown : OwnR enc w base e v xs)
    (hx : a.eval x = .slice (some ⟨w.heap.size, 0, none⟩) 1 1) (hlen : xs.length ≤ 1000000000) (hbase : base ≤ w.heap.size)
    (h : ∀ A' c' w', w'.ownsRow base e 1 (.slice A' (xs ++ [y]).length c') (xs ++ [y]).length ((xs ++ [y]).map enc) → Below base w w' → K (a.put o.dst (.slice A' (xs ++ [y]).length c')) w') :
    if Region.wanted o (yielded ops a.tmps) = true then Oper.wp P o a (w.alloc (.cells #[enc y] e)) K Q else E := by
  have hw : Region.wanted o (yielded ops a.tmps) = true := by simp [Region.wanted, hgd]
  rw [if_pos hw]
  obtain ⟨i0, hi0, hz0, hz1, hz2⟩ := info_parts hinfo
  refine wp_append_own _ s x t ho base e i0 _ 1 by_ ht hi0 hz0 hz1 hz2 hzz (by decide) v xs.length (xs.map enc) hs (hown.2.alloc _) ⟨w.heap.size, 0, none⟩ 1 1 [enc y] hx rfl ?_ ?_ (by unfold maxLen; omega) (Nat.le_trans (Nat.mul_le_mul_left _ hby) (by omega)) (by simp; omega) ?_
  · intro j u hj
    match j, hj with
    | 0, hj => simp at hj; subst hj; simp [Addr.add]
  · intro u hu; simp at hu; subst hu; exact hone y
  · intro v' w' h1 h2 _
    have hB : Below base w w' := ((Below.refl base w).alloc hbase _).grown h2 (by simp; omega) (fun k hk => by
      have := hown.2.lt k hk
      omega)
    have e3 : (xs ++ [y]).length = xs.length + 1 := by simp
    rcases h1.2 with ⟨e1, e2⟩ | ⟨g, cap, cur, e1, _⟩
    · omega
    · rw [e1] at h1 ⊢
      rw [← e3] at h1 ⊢
      refine h _ _ w' ?_ hB
      rw [List.map_append]
      exact h1

/-- Two blocks of the call's own behind w0: the result's and the local variable's; the rows so far lie behind them. -/
def NewSt (w0 w : World) (k : Nat) : Prop :=
  Blk w w0.heap.size 29 #[.int .i64 0, .int .i64 0, .slice none 0 0] ∧ (∃ v, Blk w (w0.heap.size + 1) 29 #[.int .i64 0, .int .i64 0, v] ∧ OwnStrs w (w0.heap.size + 1 + 1) 9 v (List.replicate k (blanks 20))) ∧ Below w0.heap.size w0 w

set_option maxHeartbeats 2000000 in
set_option maxRecDepth 100000 in
theorem specNewScreen_any (w : World) :
    Calls Tryz.prog 69 #[] w fun e w' => ∃ v, e = .returned v ∧ OwnScr w' w.heap.size v blankScr ∧ Below w.heap.size w w' := by
  go_enter Tryz.func69, Tryz.ntmps69
  go_wp2_with fail
  go_loopw [2] (fun i wr => ∃ k : Nat, k ≤ 6 ∧ i = .int .i64 k ∧ NewSt w wr k) (fun i _ => 6 - (intOf i).toNat)
  case atStart =>
    refine ⟨0, by omega, rfl, ?_, ⟨.slice none 0 0, ?_, OwnR.nil_ _ _ _⟩, ?_⟩
    · exact (Blk.new w _ _).alloc _
    · have := Blk.new (w.alloc (.cells #[.int .i64 0, .int .i64 0, .slice none 0 0] 29)) 29 #[.int .i64 0, .int .i64 0, .slice none 0 0]
      simpa using this
    · exact ((Below.refl _ _).alloc (Nat.le_refl _) _).alloc (by simp) _
  case round =>
    obtain ⟨k, hk, rfl, hA, ⟨v, hB, hO⟩, hD⟩ := hrel
    by_cases hlt : k < 6
    · have HR := Lib.hid (show List.replicate k (blanks 20) ++ [blanks 20] = List.replicate (k + 1) (blanks 20) from List.replicate_append_replicate (m := 1))
      have HC := Lib.hid (fun W => l31Blanks_any 20 W (by omega) (by omega))
      have hll : (List.replicate k (blanks 20)).length ≤ 6 := by simp; omega
      rw [show blanks (Int.toNat 20) = blanks 20 from rfl] at HC
      generalize List.replicate k (blanks 20) = L at *
      obtain ⟨B20, hB20⟩ : ∃ B20, B20 = blanks 20 := ⟨_, rfl⟩
      have HR20 := Lib.hid hB20
      rw [← hB20] at HC HR
      clear hB20
      obtain ⟨⟨A1, c1, rfl⟩, ho⟩ := hO
      have f := hB.cell
      have z := hB.frozen
      have hBd : Blk wr.drew (w.heap.size + 1) 29 #[.int .i64 0, .int .i64 0, .slice A1 L.length c1] := hB
      have hod : wr.drew.ownsRow (w.heap.size + 1 + 1) 9 1 (.slice A1 L.length c1) L.length (L.map Value.string) := ho
      have hDd : Below w.heap.size w wr.drew := hD.drew
      have hAd : Blk wr.drew w.heap.size 29 #[.int .i64 0, .int .i64 0, .slice none 0 0] := hA
      go_wp2_with fail
      have fd := hBd.cell
      go_region_law
        (first | (refine step_app1 (enc := Value.string) (by rfl) (.tmp 9) (.tmp 11) 22 9 (by rfl) Tryz.underlying22 rfl (by omega) (fun _ => rfl) infoString w2 (w.heap.size + 1 + 1) _ L _ (by rfl) ⟨⟨_, _, rfl⟩, O2⟩ (by rfl) (by omega) s2 ?_; intro A3 c3 w3 ho3 hb3; have B3 := B2.below hb3 (by omega); have f3 := B3.cell; have z3 := B3.frozen) | (go_simp; go_at_call 100; refine (HC.out _).mono ?_; rintro e2 w2 ⟨rfl, hb2⟩; have B2 := hBd.below hb2 hBd.lt; have O2 := own_below hod hb2; have s2 : w.heap.size + 1 + 1 ≤ w2.heap.size := Nat.le_trans hBd.lt hb2.size; have f2 := B2.cell; have fo2 := fun o => (B2.alloc o).cell))
      all_goals
        have A3' := (hAd.below hb2 hAd.lt).below hb3 (by omega)
        have D3 := (hDd.trans (hb2.mono hDd.size)).trans (hb3.mono (by omega))
        have hlen : (L ++ [B20]).length = L.length + 1 := by simp
        have HS : Hid (NewSt w (w3.setCell ⟨w.heap.size + 1, 2, none⟩ (.slice A3 (L.length + 1) c3)) (k + 1)) := by
          refine ⟨A3'.far (p := ⟨w.heap.size + 1, 2, none⟩) (by simp) _, ⟨.slice A3 (L.length + 1) c3, B3.set_ 2 _, ?_⟩, D3.setCell (p := ⟨w.heap.size + 1, 2, none⟩) (by simp) _⟩
          have h := ownsRow_setCell_below ho3 (a := ⟨w.heap.size + 1, 2, none⟩) (by simp) (.slice A3 (L.length + 1) c3)
          rw [← HR20.out, ← HR.out]
          rw [hlen] at h
          exact ⟨⟨A3, c3, by rw [hlen]⟩, by rw [hlen]; exact h⟩
        clear A3' D3 B3 ho3 hb3 B2 O2 s2 hb2 hlen hBd hod hDd hAd hB ho hA hD
        go_wp2_with fail
        go_roundw
        case rel => exact ⟨k + 1, by omega, by go_num, HS.out⟩
        case measure => simp [intOf]; omega
    · obtain rfl : k = 6 := by omega
      have hl6 : (List.replicate 6 (blanks 20)).length = 6 := by simp
      obtain ⟨⟨A1, c1, rfl⟩, ho⟩ := hO
      have HL6 := Lib.hid hl6
      rw [hl6] at ho hB
      clear hl6
      have HO := Lib.hid ho
      have HRP := Lib.hid (show List.replicate 6 (blanks 20) = blankScr.rows from rfl)
      generalize List.replicate 6 (blanks 20) = L at *
      have f := hB.cell
      have f0 := hA.cell
      have z0 := hA.frozen
      have HD := Lib.hid hD
      clear hA hB hD ho
      go_wp2_with fail
      refine bodyPost_ret (v := .agg #[.int .i64 0, .int .i64 0, .slice A1 6 c1]) (by simp [results, Tryz.results69, go_sem, f0]) rfl ⟨_, rfl, ⟨A1, c1, by show _ = Value.agg #[.int .i64 0, .int .i64 0, .slice A1 blankScr.rows.length c1]; rw [← HRP.out, HL6.out], ?_⟩, ?_⟩
      · rw [← HRP.out, HL6.out]
        refine own_mono (base := w.heap.size + 1 + 1) ?_ (by omega)
        iterate 3 (with_reducible refine ownsRow_setCell_below ?_ (by simp; try omega) _)
        exact HO.out
      · iterate 3 (with_reducible refine Below.setCell ?_ (by simp; try omega) _)
        exact HD.out

/-- append([]string{}, src...) inside a region that draws its order. -/
theorem step_appAll {P : Program} {ops : Array Oper} {o : Oper} {a : Go.Act} {K : Go.Act → World → Prop} {Q : Exit → Go.Act → World → Prop} {E : Prop} (hgd : o.guard = none) (s x : Operand) (t e : TypeId)
    (ho : o.op = .call { callee := .builtin .append, args := #[s, x], argTypes := #[t, t] }) (ht : P.underlying t = some (.slice e))
    (hinfo : (P.info? e).map (fun i => (i.zero, i.size, i.bytes)) = some (some (.string ⟨#[]⟩), 1, 16))
    (w : World) (a0 : Addr) (b off : Nat) (xs : List ByteArray) (c : Nat) (hs : a.eval s = .slice (some a0) 0 0)
    (hx : a.eval x = .slice (some ⟨b, off, none⟩) xs.length c) (hc : ∀ j, j < xs.length → w.cell? ⟨b, off + j, none⟩ = some (.string (xs.getD j ByteArray.empty))) (h0 : 0 < xs.length) (hlen : xs.length ≤ 1000000000)
    (h : ∀ b' c' w', OwnO w' w.heap.size b' 0 c' xs → Below w.heap.size w w' → K (a.put o.dst (.slice (some ⟨b', 0, none⟩) xs.length c')) w') (he : e = 9) :
    if Region.wanted o (yielded ops a.tmps) = true then Oper.wp P o a w K Q else E := by
  have hw : Region.wanted o (yielded ops a.tmps) = true := by simp [Region.wanted, hgd]
  rw [if_pos hw]
  obtain ⟨i0, hi0, hz0, hz1, hz2⟩ := info_parts hinfo
  obtain ⟨v', w', hrun, r1, r2⟩ := run_append_arg_grows (P := P) w t o.type e i0 _ 1 16 ht hi0 hz0 hz1 hz2 rfl (by decide) a0 0 0 [] rfl (by intro j u hj; simp at hj) ⟨b, off, none⟩ xs.length c (xs.map Value.string) (by simp) (by
    intro j u hj
    rw [List.getElem?_map] at hj
    rcases Nat.lt_or_ge j xs.length with hlt | hge
    · rw [List.getElem?_eq_getElem hlt] at hj
      simp only [Option.map_some, Option.some.injEq] at hj
      have hadd : (⟨b, off, none⟩ : Addr).add j = ⟨b, off + j, none⟩ := by unfold Addr.add; split <;> simp_all
      rw [hadd, hc j hlt, ← hj, List.getD_eq_getElem?_getD, List.getElem?_eq_getElem hlt]
      rfl
    · rw [List.getElem?_eq_none hge] at hj; cases hj) (by omega) (by unfold maxLen; omega) (by omega)
  unfold Oper.wp
  simp [execOp, ho, resolve, invoke, builtin, hs, hx, hrun, Result.andThen]
  rw [Nat.zero_add, List.nil_append] at r1
  subst he
  rcases r1.2 with ⟨e1, e2⟩ | ⟨g, cap, cur, e1, _⟩
  · omega
  · subst e1
    obtain ⟨b', hb', hO'⟩ := OwnO.of_own r1 h0
    rw [hb']
    exact h b' cap w' hO' (Below.of_grown r2 (Nat.le_refl _) (by intro k hk; cases hk))

theorem OwnO.mono {w : World} {base base' b off cap : Nat} {xs : List ByteArray} (h : OwnO w base b off cap xs) (hb : base' ≤ base) : OwnO w base' b off cap xs := ⟨Nat.le_trans hb h.1, h.2⟩
theorem OwnO.reads {w : World} {base b off cap : Nat} {xs : List ByteArray} (h : OwnO w base b off cap xs) : StrR w base w.heap.size (some ⟨b, off, none⟩) xs.length xs :=
  ⟨rfl, fun _ => ⟨b, off, rfl, h.1, h.lt, fun _ hj => h.get hj⟩⟩

theorem ScrP.mono {w : World} {base base' g : Nat} {s : Scr} (h : ScrP w base g s) (hb : base' ≤ base) : ScrP w base' g s := by
  obtain ⟨h1, b, off, cap, hne, hB, hO⟩ := h
  exact ⟨by omega, b, off, cap, hne, hB, ⟨by have := hO.1; omega, hO.2⟩⟩

/-- The screen's cells, and what holds behind a store to its column. -/
theorem ScrP.col {w : World} {base g : Nat} {s : Scr} (h : ScrP w base g s) (n : Int) : ScrP (w.setCell ⟨g, 1, none⟩ (.int .i64 n)) base g ⟨s.row, n, s.rows⟩ := by
  obtain ⟨h1, b, off, cap, hne, hB, hO⟩ := h
  exact ⟨h1, b, off, cap, hne, hB.set_ 1 _, hO.far (p := ⟨g, 1, none⟩) (fun h => hne h.symm) _⟩

def colOf (w : World) (g : Nat) : Nat := match w.cell? ⟨g, 1, none⟩ with
  | some (.int _ n) => ((8 - n % 8) % 8).toNat
  | _ => 0
theorem ScrP.colOf {w : World} {base g : Nat} {s : Scr} (h : ScrP w base g s) : colOf w g = ((8 - s.col % 8) % 8).toNat := by
  obtain ⟨h1, b, off, cap, hne, hB, hO⟩ := h
  unfold Go.Proofs.YtmeholhmadeehaaGreatDoor.colOf
  rw [hB.cell]
  rfl
theorem putCh_col {s : Scr} (h : Fine s) (c : UInt8) (h8 : s.col % 8 ≠ 0) : ((8 - (putCh s c).col % 8) % 8).toNat < ((8 - s.col % 8) % 8).toNat := by
  have h0 := h.col0; have h9 := h.col19
  have : (putCh s c).col = if s.col + 1 = 20 then 0 else s.col + 1 := by
    unfold putCh
    split
    · unfold newRow; split <;> rfl
    · rfl
  rw [this]
  split <;> omega

theorem Blk.new' {w : World} {g : Nat} (h : g = w.heap.size) (t : TypeId) (cs : Array Value) : Blk (w.alloc (.cells cs t)) g t cs := by subst h; exact Blk.new w t cs
theorem Blk.drew1 {w : World} {g : Nat} {t : TypeId} {cs : Array Value} (h : Blk w g t cs) : Blk w.drew g t cs := h

/-- What stands while l31Show makes its copy: the parameter's block, the result's. -/
def CopyHeld (w0 : World) (cs : Array Value) (w : World) : Prop :=
  Blk w w0.heap.size 29 cs ∧ Blk w (w0.heap.size + 1) 29 #[.int .i64 0, .int .i64 0, .slice none 0 0] ∧ Below w0.heap.size w0 w
theorem CopyHeld.size {w0 w : World} {cs : Array Value} (h : CopyHeld w0 cs w) : w0.heap.size + 1 + 1 ≤ w.heap.size := h.2.1.lt
theorem CopyHeld.alloc {w0 w : World} {cs : Array Value} (h : CopyHeld w0 cs w) (o : Obj) : CopyHeld w0 cs (w.alloc o) := ⟨h.1.alloc o, h.2.1.alloc o, h.2.2.alloc h.2.2.size o⟩
theorem CopyHeld.below {w0 w w' : World} {cs : Array Value} (h : CopyHeld w0 cs w) (hb : Below w.heap.size w w') : CopyHeld w0 cs w' := ⟨h.1.below hb h.1.lt, h.2.1.below hb h.2.1.lt, h.2.2.trans (hb.mono h.2.2.size)⟩
theorem CopyHeld.set {w0 w : World} {cs : Array Value} (h : CopyHeld w0 cs w) {p : Addr} (hp : w0.heap.size + 1 + 1 ≤ p.block) (u : Value) : CopyHeld w0 cs (w.setCell p u) :=
  ⟨h.1.far (by omega) u, h.2.1.far (by omega) u, h.2.2.setCell (by omega) u⟩
theorem CopyHeld.below0 {w0 w : World} {cs : Array Value} (h : CopyHeld w0 cs w) : Below w0.heap.size w0 w := h.2.2
theorem CopyHeld.both {w0 w : World} {cs : Array Value} (h : CopyHeld w0 cs w) : (∀ i, w.cell? ⟨w0.heap.size, i, none⟩ = cs[i]?) ∧ CopyHeld w0 cs w := ⟨h.1.cell, h⟩

theorem CopyHeld.drew {w0 w : World} {cs : Array Value} (h : CopyHeld w0 cs w) : CopyHeld w0 cs w.drew := ⟨h.1, h.2.1, h.2.2.drew⟩
theorem CopyHeld.of_both {w0 w : World} {cs : Array Value} (h : (∀ i, w.cell? ⟨w0.heap.size, i, none⟩ = cs[i]?) ∧ CopyHeld w0 cs w) : CopyHeld w0 cs w := h.2

/-- What stands at the head of each round of l31Show: the result's block, the screen behind the pointer. -/
def ShowSt (w0 w : World) (g : Nat) (s : Scr) : Prop :=
  Blk w (w0.heap.size + 1) 29 #[.int .i64 0, .int .i64 0, .slice none 0 0] ∧ ScrP w (w0.heap.size + 1 + 1) g s ∧ Below w0.heap.size w0 w

theorem ShowSt.next {w0 w w' : World} {g : Nat} {s s' : Scr} (h : ShowSt w0 w g s) (hp : ScrP w' (w0.heap.size + 1 + 1) g s') (hb : Below (w0.heap.size + 1 + 1) w w') : ShowSt w0 w' g s' :=
  ⟨h.1.below hb (by omega), hp, h.2.2.trans (hb.mono (by omega))⟩
theorem ShowSt.size {w0 w : World} {g : Nat} {s : Scr} (h : ShowSt w0 w g s) : w0.heap.size + 1 + 1 ≤ w.heap.size := h.1.lt

theorem showTo_succ (s : Scr) (text : ByteArray) (k : Nat) : showTo s text (k + 1) = showCh (showTo s text k) (text.get! k) := rfl

theorem ShowSt.made_new {w w1 : World} {cs : Array Value} {s : Scr} {B b1 c1 : Nat} (R1 : CopyHeld w cs w1) (hO1 : OwnO w1 B b1 0 c1 s.rows) (hB : w.heap.size + 1 + 1 ≤ B) :
    ShowSt w (w1.alloc (.cells #[.int .i64 s.row, .int .i64 s.col, .slice (some ⟨b1, 0, none⟩) s.rows.length c1] 29)) w1.heap.size s := by
  have hlt := hO1.lt
  refine ⟨R1.2.1.alloc _, ⟨R1.size, b1, 0, c1, by omega, Blk.new _ _ _, ?_⟩, R1.2.2.alloc R1.2.2.size _⟩
  have := hO1.alloc (.cells #[.int .i64 s.row, .int .i64 s.col, .slice (some ⟨b1, 0, none⟩) s.rows.length c1] 29)
  exact ⟨by have := this.1; omega, this.2⟩
theorem ShowSt.made_set {w w1 : World} {cs : Array Value} {s : Scr} {B b1 c1 g : Nat} (R1 : CopyHeld w cs w1) (B2 : Blk w1 g 29 #[.int .i64 0, .int .i64 0, .slice none 0 0]) (hO1 : OwnO w1 B b1 0 c1 s.rows) (hg : w.heap.size + 1 + 1 ≤ g) (hB : g < B) :
    ShowSt w (((w1.setCell ⟨g, 0, none⟩ (.int .i64 s.row)).setCell ⟨g, 1, none⟩ (.int .i64 s.col)).setCell ⟨g, 2, none⟩ (.slice (some ⟨b1, 0, none⟩) s.rows.length c1)) g s := by
  have h1 := hO1.1
  refine ⟨?_, ⟨hg, b1, 0, c1, by omega, ((B2.set_ 0 _).set_ 1 _).set_ 2 _, ?_⟩, ?_⟩
  · exact ((R1.2.1.far (p := ⟨g, 0, none⟩) (by simp; omega) _).far (p := ⟨g, 1, none⟩) (by simp; omega) _).far (p := ⟨g, 2, none⟩) (by simp; omega) _
  · have := ((hO1.far (p := ⟨g, 0, none⟩) (by simp; omega) (.int .i64 s.row)).far (p := ⟨g, 1, none⟩) (by simp; omega) (.int .i64 s.col)).far (p := ⟨g, 2, none⟩) (by simp; omega) (.slice (some ⟨b1, 0, none⟩) s.rows.length c1)
    exact ⟨by omega, this.2⟩
  · exact ((R1.2.2.setCell (p := ⟨g, 0, none⟩) (by simp; omega) _).setCell (p := ⟨g, 1, none⟩) (by simp; omega) _).setCell (p := ⟨g, 2, none⟩) (by simp; omega) _

/-- A whole screen stored behind the pointer. -/
theorem ScrP.store {w : World} {base g : Nat} {s : Scr} (h : ScrP w base g s) {A : Option Addr} {n c : Nat} {s' : Scr} (hn : n = s'.rows.length) (h0 : 0 < n) (B : Nat) (hgB : g < B) (_ : base ≤ B) (ho : w.ownsRow B 9 1 (.slice A n c) n (s'.rows.map Value.string)) :
    ScrP (((w.setCell ⟨g, 0, none⟩ (.int .i64 s'.row)).setCell ⟨g, 1, none⟩ (.int .i64 s'.col)).setCell ⟨g, 2, none⟩ (.slice A n c)) base g s' := by
  obtain ⟨hbg, _, _, _, _, hBk, _⟩ := h
  obtain ⟨b1, rfl, hO1⟩ := OwnO.of_own ho h0
  have h1 := hO1.1
  subst hn
  refine ⟨hbg, b1, 0, c, by omega, ((hBk.set_ 0 _).set_ 1 _).set_ 2 _, ?_⟩
  have := ((hO1.far (p := ⟨g, 0, none⟩) (by simp; omega) (.int .i64 s'.row)).far (p := ⟨g, 1, none⟩) (by simp; omega) (.int .i64 s'.col)).far (p := ⟨g, 2, none⟩) (by simp; omega) (.slice (some ⟨b1, 0, none⟩) s'.rows.length c)
  exact ⟨by omega, this.2⟩

set_option maxHeartbeats 400000 in
theorem l00Max_col (n : Int) (w : World) (h0 : -1 ≤ n) (h1 : n ≤ 100) :
    Calls Tryz.prog 68 #[.int .i64 0, .int .i64 n] w fun e w' => e = .returned (.int .i64 (if 0 < n + 1 then n else 0)) ∧ w = w' := by
  by_cases h : 0 ≤ n
  · rw [if_pos (by omega)]
    go_enter Tryz.func68, Tryz.ntmps68
    go_wp2
    all_goals (go_ret; try (exact ⟨rfl, rfl⟩))
    all_goals (refine ⟨?_, rfl⟩; first | (exfalso; omega) | (congr 2; omega))
  · rw [if_neg (by omega)]
    go_enter Tryz.func68, Tryz.ntmps68
    go_wp2
    all_goals (go_ret; try (exact ⟨rfl, rfl⟩))
    all_goals (refine ⟨?_, rfl⟩; first | (exfalso; omega) | (congr 2; omega))

set_option maxHeartbeats 4000000 in
set_option maxRecDepth 100000 in
theorem l31Show_own (s : Scr) (text : ByteArray) (v : Value) (lo hi : Nat) (w : World) (hx : ScrR w lo hi v s) (hhi : hi ≤ w.heap.size) (hf : Fine s) (ht : text.size ≤ 1048576) :
    Calls Tryz.prog 27 #[v, .string text] w fun e w' => ∃ S0 b off cap, S0 = showTo s text text.size ∧ e = .returned (.agg #[.int .i64 S0.row, .int .i64 S0.col, .slice (some ⟨b, off, none⟩) S0.rows.length cap]) ∧ OwnO w' w.heap.size b off cap S0.rows ∧ Below w.heap.size w w' := by
  obtain ⟨A, c, rfl, hA⟩ := hx
  have hl := hf.len
  obtain ⟨b, off, rfl, _, hbhi, hcell⟩ := hA.2 (by omega)
  have HF := Lib.hid hf
  have HL := Lib.hid hl
  have l0 : 0 < s.rows.length := by omega
  have l6 : s.rows.length ≤ 1000000000 := by omega
  have HC := Lib.hid (fun W (hb : Below w.heap.size w W) j (hj : j < s.rows.length) => (World.cell?_of_block (hb.block b (by omega))).trans (hcell j hj))
  clear hA hcell hf hl
  go_enter Tryz.func27, Tryz.ntmps27
  go_upto_region 1 with fail
  go_cut [5] from 8 to 16 (fun o wc => ∃ g, o = .pointer (some ⟨g, 0, none⟩) ∧ ShowSt w wc g s)
  case first =>
    have H0 : CopyHeld w #[.int .i64 s.row, .int .i64 s.col, .slice (some ⟨b, off, none⟩) s.rows.length c] ((w.alloc (.cells #[.int .i64 s.row, .int .i64 s.col, .slice (some ⟨b, off, none⟩) s.rows.length c] 29)).alloc (.cells #[.int .i64 0, .int .i64 0, .slice none 0 0] 29)) :=
      ⟨by (repeat' (first | (with_reducible refine Blk.new' ?_ _ _; simp; done) | with_reducible refine Blk.drew1 ?_ | with_reducible refine Blk.alloc ?_ _)), by (repeat' (first | (with_reducible refine Blk.new' ?_ _ _; simp; done) | with_reducible refine Blk.drew1 ?_ | with_reducible refine Blk.alloc ?_ _)), by (repeat' (first | exact Below.refl _ _ | refine Below.drew ?_ | refine Below.alloc ?_ (by simp <;> omega) _))⟩
    have Hd : CopyHeld w #[.int .i64 s.row, .int .i64 s.col, .slice (some ⟨b, off, none⟩) s.rows.length c] ((w.alloc (.cells #[.int .i64 s.row, .int .i64 s.col, .slice (some ⟨b, off, none⟩) s.rows.length c] 29)).alloc (.cells #[.int .i64 0, .int .i64 0, .slice none 0 0] 29)).drew := H0.below (below_drewN' _ 1)
    have HH0 := Lib.hid H0; have HHd := Lib.hid Hd
    clear H0 Hd
    go_region_held3 (fun w' => (∀ i, w'.cell? ⟨w.heap.size, i, none⟩ = (#[.int .i64 s.row, .int .i64 s.col, .slice (some ⟨b, off, none⟩) s.rows.length c] : Array Value)[i]?) ∧ CopyHeld w #[.int .i64 s.row, .int .i64 s.col, .slice (some ⟨b, off, none⟩) s.rows.length c] w')
      ((refine CopyHeld.both ?_; repeat' (first | with_reducible assumption | with_reducible exact HH0.out | with_reducible exact HHd.out | with_reducible exact R1 | with_reducible refine CopyHeld.set ?_ (by first | (simp; done) | omega | (simp; omega)) _ | with_reducible refine CopyHeld.alloc ?_ _ | with_reducible refine CopyHeld.drew ?_)))
      (first | (refine step_appAll (by rfl) (.tmp 12) (.tmp 14) 22 9 (by rfl) Tryz.underlying22 infoString _ _ b off s.rows _ (by rfl) (by rfl) (HC.out _ (CopyHeld.below0 (cs := #[.int .i64 s.row, .int .i64 s.col, .slice (some ⟨b, off, none⟩) s.rows.length c]) (by (first | with_reducible assumption | exact CopyHeld.of_both (by with_reducible assumption))))) l0 l6 ?_ rfl; intro b1 c1 w1 hO1 hb1; have R1 : CopyHeld w #[.int .i64 s.row, .int .i64 s.col, .slice (some ⟨b, off, none⟩) s.rows.length c] w1 := CopyHeld.below (by (first | with_reducible assumption | exact CopyHeld.of_both (by with_reducible assumption))) hb1; have s1 := R1.size; (try (refine (have B2 : Blk w1 (w.heap.size + 1 + 1) 29 #[.int .i64 0, .int .i64 0, .slice none 0 0] := ?hB2; ?_); (case hB2 => (refine Blk.below ?_ hb1 ?_; (focus ((repeat' (first | (with_reducible refine Blk.new' ?_ _ _; simp; done) | with_reducible refine Blk.drew1 ?_ | with_reducible refine Blk.alloc ?_ _)); done)); simp; try omega)); have f2 := B2.cell; have z2 := B2.frozen)); (try (refine (have B2 : Blk w1 (w.heap.size + 1 + 1 + 1) 29 #[.int .i64 0, .int .i64 0, .slice none 0 0] := ?hB2; ?_); (case hB2 => (refine Blk.below ?_ hb1 ?_; (focus ((repeat' (first | (with_reducible refine Blk.new' ?_ _ _; simp; done) | with_reducible refine Blk.drew1 ?_ | with_reducible refine Blk.alloc ?_ _)); done)); simp; try omega)); have f2 := B2.cell; have z2 := B2.frozen))))
    all_goals (go_wp2_with fail; go_meet)
    all_goals first | exact ⟨_, rfl, ShowSt.made_new R1 hO1 (by simp)⟩ | exact ⟨_, rfl, ShowSt.made_set R1 B2 hO1 (by simp) (by simp)⟩
  case rest =>
    obtain ⟨g, rfl, hS⟩ := hcut
    have HS := Lib.hid hS
    clear hS
    go_wp2_with fail
    go_loopw [6] (fun i wr => ∃ k : Nat, k ≤ text.size ∧ i = .int .i64 k ∧ ShowSt w wr g (showTo s text k)) (fun i _ => text.size - (intOf i).toNat)
    case atStart => exact ⟨0, Nat.zero_le _, rfl, HS.out⟩
    case round =>
      obtain ⟨k, hk, rfl, hSt⟩ := hrel
      have hFk := showTo_fine HF.out text k
      by_cases hlt : k < text.size
      · have HB := Lib.hid (byte_at hlt)
        have h255 := byte_le text[k]
        have HSC := Lib.hid (show showTo s text (k + 1) = showCh (showTo s text k) text[k] by rw [showTo_succ, byte_at hlt])
        obtain ⟨S1, hS1⟩ : ∃ S1, S1 = showTo s text (k + 1) := ⟨_, rfl⟩
        rw [← hS1] at HSC
        have HT := Lib.hid hS1.symm
        clear hS1
        generalize showTo s text k = S0 at *
        have hp := hSt.2.1
        have hsz := hSt.size
        have c0 := hFk.col0; have c19 := hFk.col19
        obtain ⟨hbg, b0, o0, cap0, hne0, hB0, hO0⟩ := id hp
        have hgl := hB0.lt
        have f := hB0.cell
        have z := hB0.frozen
        have HST := Lib.hid hSt; have HFK := Lib.hid hFk; have HP := Lib.hid hp
        have HB0 := Lib.hid hB0; have HO0 := Lib.hid hO0
        clear hSt hFk hp hB0 hO0 HC HL
        cases hsh : showsB text[k].toNat
        case true =>
          have HSH := Lib.hid hsh
          have HS1 := Lib.hid (show S1 = putCh S0 text[k] by
            rw [HSC.out]; unfold showCh
            rw [if_pos (by simpa [showsB] using hsh)])
          clear hsh
          go_wp2_with (go_at_call 65; refine (l22Shows_any _ _ h255).mono ?_; rintro e' w' ⟨rfl, rfl⟩; rw [HSH.out])
          refine (l31Put_any S0 text[k].toNat (w.heap.size + 1 + 1) g _ HP.out hsz HFK.out h255).mono ?_
          rintro e1 w1 ⟨rfl, hp1, hb1⟩
          rw [UInt8.ofNat_toNat] at hp1
          have HST1 := Lib.hid (HST.out.next hp1 hb1)
          clear hp1 hb1 f z
          go_wp2_with fail
          go_roundw
          case rel => exact ⟨k + 1, by omega, by go_num, by rw [HT.out, HS1.out]; exact HST1.out⟩
          case measure => simp [intOf]; omega
        case false =>
          have hno : ¬ (32 ≤ text[k].toNat ∧ text[k].toNat ≤ 126) := by simpa [showsB] using hsh
          have HSH := Lib.hid hsh
          clear hsh
          rcases (show text[k].toNat = 10 ∨ text[k].toNat = 13 ∨ text[k].toNat = 8 ∨ text[k].toNat = 9 ∨ text[k].toNat = 12 ∨ (text[k].toNat ≠ 10 ∧ text[k].toNat ≠ 13 ∧ text[k].toNat ≠ 8 ∧ text[k].toNat ≠ 9 ∧ text[k].toNat ≠ 12) by omega) with hq | hq | hq | hq | hq | hq
          · have HS1 := Lib.hid (show S1 = newRow S0 by rw [HSC.out]; unfold showCh; rw [if_neg hno, if_pos (by omega)])
            have t10 : ((text[k].toNat : Int) == 10) = true := by rw [beq_iff_eq]; omega
            clear hno hq
            go_wp2_with (go_at_call 65; refine (l22Shows_any _ _ h255).mono ?_; rintro e' w' ⟨rfl, rfl⟩; rw [HSH.out])
            refine (l31Row_any S0 (w.heap.size + 1 + 1) g _ HP.out hsz HFK.out.len HFK.out.row0 HFK.out.row5).mono ?_
            rintro e1 w1 ⟨rfl, hp1, hb1⟩
            have HST1 := Lib.hid (HST.out.next hp1 hb1)
            clear hp1 hb1 f z
            go_wp2_with fail
            go_roundw
            case rel => exact ⟨k + 1, by omega, by go_num, by rw [HT.out, HS1.out]; exact HST1.out⟩
            case measure => simp [intOf]; omega
          · have HS1 := Lib.hid (show S1 = ⟨S0.row, 0, S0.rows⟩ by rw [HSC.out]; unfold showCh; rw [if_neg hno, if_neg (by omega), if_pos (by omega)])
            have t10 : ((text[k].toNat : Int) == 10) = false := by rw [beq_eq_false_iff_ne]; omega
            have t13 : ((text[k].toNat : Int) == 13) = true := by rw [beq_iff_eq]; omega
            clear hno hq
            have HST1 := Lib.hid (HST.out.next (HP.out.col 0) ((Below.refl _ _).setCell (p := ⟨g, 1, none⟩) hbg _))
            go_wp2_with (go_at_call 65; refine (l22Shows_any _ _ h255).mono ?_; rintro e' w' ⟨rfl, rfl⟩; rw [HSH.out])
            go_roundw
            case rel => exact ⟨k + 1, by omega, by go_num, by rw [HT.out, HS1.out]; exact HST1.out⟩
            case measure => simp [intOf]; omega
          · have HS1 := Lib.hid (show S1 = ⟨S0.row, if 0 < S0.col then S0.col - 1 else 0, S0.rows⟩ by rw [HSC.out]; unfold showCh; rw [if_neg hno, if_neg (by omega), if_neg (by omega), if_pos (by omega)])
            have t10 : ((text[k].toNat : Int) == 10) = false := by rw [beq_eq_false_iff_ne]; omega
            have t13 : ((text[k].toNat : Int) == 13) = false := by rw [beq_eq_false_iff_ne]; omega
            have t8 : ((text[k].toNat : Int) == 8) = true := by rw [beq_iff_eq]; omega
            clear hno hq
            have HST1 := Lib.hid (HST.out.next (HP.out.col (if 0 < S0.col then S0.col - 1 else 0)) ((Below.refl _ _).setCell (p := ⟨g, 1, none⟩) hbg _))
            have HM := Lib.hid (l00Max_col (S0.col - 1))
            rw [show S0.col - 1 + 1 = S0.col by omega] at HM
            generalize (if 0 < S0.col then S0.col - 1 else 0) = M at *
            go_wp2_with (go_at_call 65; refine (l22Shows_any _ _ h255).mono ?_; rintro e' w' ⟨rfl, rfl⟩; rw [HSH.out])
            refine (HM.out _ (by omega) (by omega)).mono ?_
            rintro e1 w1 ⟨rfl, rfl⟩
            go_wp2_with fail
            go_roundw
            case rel => exact ⟨k + 1, by omega, by go_num, by rw [HT.out, HS1.out]; exact HST1.out⟩
            case measure => simp [intOf]; omega
          · have HS1 := Lib.hid (show S1 = tabTo 8 (putCh S0 32) by rw [HSC.out]; unfold showCh; rw [if_neg hno, if_neg (by omega), if_neg (by omega), if_neg (by omega), if_pos (by omega)])
            have t10 : ((text[k].toNat : Int) == 10) = false := by rw [beq_eq_false_iff_ne]; omega
            have t13 : ((text[k].toNat : Int) == 13) = false := by rw [beq_eq_false_iff_ne]; omega
            have t8 : ((text[k].toNat : Int) == 8) = false := by rw [beq_eq_false_iff_ne]; omega
            have t9 : ((text[k].toNat : Int) == 9) = true := by rw [beq_iff_eq]; omega
            clear hno hq
            have HE := Lib.hid (tabTo_end 8 (putCh_fine HFK.out 32) (by have := (putCh_fine HFK.out 32).col0; omega))
            have HFP := Lib.hid (putCh_fine HFK.out 32)
            go_wp2_with (go_at_call 65; refine (l22Shows_any _ _ h255).mono ?_; rintro e' w' ⟨rfl, rfl⟩; rw [HSH.out])
            refine (l31Put_any S0 32 (w.heap.size + 1 + 1) g _ HP.out hsz HFK.out (by omega)).mono ?_
            rintro e1 w1 ⟨rfl, hp1, hb1⟩
            rw [show UInt8.ofNat 32 = 32 from rfl] at hp1
            have HST1 := Lib.hid (HST.out.next hp1 hb1)
            have HEX := Lib.hid (⟨8, putCh S0 32, HST1.out, HFP.out, rfl, by have := HFP.out.col0; omega⟩ : ∃ (f : Nat) (S' : Scr), ShowSt w w1 g S' ∧ Fine S' ∧ tabTo f S' = tabTo 8 (putCh S0 32) ∧ (8 - S'.col % 8 ≤ f ∨ S'.col % 8 = 0))
            clear hp1 hb1 f z HST1 HE HFP
            generalize tabTo 8 (putCh S0 32) = T8 at *
            go_wp2_with fail
            go_loopw [55] (fun _ wq => ∃ (f : Nat) (S' : Scr), ShowSt w wq g S' ∧ Fine S' ∧ tabTo f S' = T8 ∧ (8 - S'.col % 8 ≤ f ∨ S'.col % 8 = 0)) (fun _ wq => colOf wq g)
            case atStart => exact HEX.out
            case round =>
              obtain ⟨f, S', hS', hF', hT', hc'⟩ := hrel
              have d0 := hF'.col0; have d19 := hF'.col19
              obtain ⟨hbg', b', o', cap', hne', hB', hO'⟩ := id hS'.2.1
              have f' := hB'.cell
              have HS' := Lib.hid hS'; have HF' := Lib.hid hF'; have HT' := Lib.hid hT'; have HC' := Lib.hid hc'
              clear hS' hF' hT' hc' hB' hO' hbg' hne'
              by_cases h8 : S'.col % 8 = 0
              · have HST1 : Hid (ShowSt w wr g T8) := by
                  have : tabTo f S' = S' := by
                    cases f with
                    | zero => rfl
                    | succ n => unfold tabTo; rw [if_pos h8]
                  rw [← HT'.out, this]
                  exact HS'
                have n8 : (S'.col % 8 != 0) = false := by rw [h8]; rfl
                clear h8
                go_wp2_with fail
                go_roundw
                case rel => exact ⟨k + 1, by omega, by go_num, by rw [HT.out, HS1.out]; exact HST1.out⟩
                case measure => simp [intOf]; omega
              · have n8 : (S'.col % 8 != 0) = true := by rw [bne_iff_ne]; exact h8
                have H8 := Lib.hid h8
                clear h8
                go_wp2_with fail
                refine (l31Put_any S' 32 (w.heap.size + 1 + 1) g _ HS'.out.2.1 HS'.out.size HF'.out (by omega)).mono ?_
                rintro e2 w2 ⟨rfl, hp2, hb2⟩
                rw [show UInt8.ofNat 32 = 32 from rfl] at hp2
                have HST2 := Lib.hid (HS'.out.next hp2 hb2)
                have HM2 := Lib.hid (show colOf w2 g < colOf wr g by rw [hp2.colOf, HS'.out.2.1.colOf]; exact putCh_col HF'.out 32 H8.out)
                have HR2 : Hid (∃ (f : Nat) (S' : Scr), ShowSt w w2 g S' ∧ Fine S' ∧ tabTo f S' = T8 ∧ (8 - S'.col % 8 ≤ f ∨ S'.col % 8 = 0)) := by
                  have e0 := putCh_col HF'.out 32 H8.out
                  have h8 := H8.out
                  have e1 := (putCh_fine HF'.out 32).col0
                  cases f with
                  | zero => exfalso; rcases HC'.out with h | h <;> omega
                  | succ n =>
                    refine ⟨n, putCh S' 32, HST2.out, putCh_fine HF'.out 32, ?_, ?_⟩
                    · rw [← HT'.out]
                      show _ = tabTo (n + 1) S'
                      rw [tabTo, if_neg h8]
                    · rcases HC'.out with h | h <;> omega
                clear hp2 hb2 f'
                go_wp2_with fail
                go_roundw
                case rel => exact HR2.out
                case measure => exact HM2.out
          · have HS1 := Lib.hid (show S1 = blankScr by rw [HSC.out]; unfold showCh; rw [if_neg hno, if_neg (by omega), if_neg (by omega), if_neg (by omega), if_neg (by omega), if_pos (by omega)])
            have t10 : ((text[k].toNat : Int) == 10) = false := by rw [beq_eq_false_iff_ne]; omega
            have t13 : ((text[k].toNat : Int) == 13) = false := by rw [beq_eq_false_iff_ne]; omega
            have t8 : ((text[k].toNat : Int) == 8) = false := by rw [beq_eq_false_iff_ne]; omega
            have t9 : ((text[k].toNat : Int) == 9) = false := by rw [beq_eq_false_iff_ne]; omega
            have t12 : ((text[k].toNat : Int) == 12) = true := by rw [beq_iff_eq]; omega
            clear hno hq
            go_wp2_with (go_at_call 65; refine (l22Shows_any _ _ h255).mono ?_; rintro e' w' ⟨rfl, rfl⟩; rw [HSH.out])
            refine (specNewScreen_any _).mono ?_
            rintro e1 w1 ⟨v1, rfl, ⟨A1, c1, rfl, ho1⟩, hb1⟩
            have hp1 := HP.out.below hb1
            have HST1 := Lib.hid ((HST.out.next hp1 (hb1.mono hsz)).next (hp1.store (s' := blankScr) rfl (by simp [blankScr]) _ hgl hsz ho1) ((((Below.refl _ _).setCell (p := ⟨g, 0, none⟩) hbg _).setCell (p := ⟨g, 1, none⟩) hbg _).setCell (p := ⟨g, 2, none⟩) hbg _))
            have B1 := HB0.out.below hb1 hgl
            clear f z hp1 ho1
            have f := B1.cell
            have z := B1.frozen
            generalize hbs : blankScr = BS at *
            clear hbs
            go_wp2_with fail
            go_roundw
            case rel => exact ⟨k + 1, by omega, by go_num, by rw [HT.out, HS1.out]; exact HST1.out⟩
            case measure => simp [intOf]; omega
          · have HS1 := Lib.hid (show S1 = S0 by rw [HSC.out]; unfold showCh; rw [if_neg hno, if_neg hq.1, if_neg hq.2.1, if_neg hq.2.2.1, if_neg hq.2.2.2.1, if_neg hq.2.2.2.2])
            have t10 : ((text[k].toNat : Int) == 10) = false := by rw [beq_eq_false_iff_ne]; omega
            have t13 : ((text[k].toNat : Int) == 13) = false := by rw [beq_eq_false_iff_ne]; omega
            have t8 : ((text[k].toNat : Int) == 8) = false := by rw [beq_eq_false_iff_ne]; omega
            have t9 : ((text[k].toNat : Int) == 9) = false := by rw [beq_eq_false_iff_ne]; omega
            have t12 : ((text[k].toNat : Int) == 12) = false := by rw [beq_eq_false_iff_ne]; omega
            clear hno hq
            have HST1 := HST
            go_wp2_with (go_at_call 65; refine (l22Shows_any _ _ h255).mono ?_; rintro e' w' ⟨rfl, rfl⟩; rw [HSH.out])
            go_roundw
            case rel => exact ⟨k + 1, by omega, by go_num, by rw [HT.out, HS1.out]; exact HST1.out⟩
            case measure => simp [intOf]; omega
      · obtain rfl : k = text.size := by omega
        obtain ⟨S0, hS0⟩ : ∃ S0, S0 = showTo s text text.size := ⟨_, rfl⟩
        rw [← hS0] at hSt
        have hp := hSt.2.1
        obtain ⟨hbg, b0, o0, cap0, hne0, hB0, hO0⟩ := id hp
        have f := hB0.cell
        have f1 := hSt.1.cell
        have z1 := hSt.1.frozen
        have g1 := hSt.1.lt
        have HST := Lib.hid hSt; have HO0 := Lib.hid hO0
        have hb0 := hO0.1
        clear hSt hFk hp hB0 hO0 HC HL
        have HE := Lib.hid hS0
        clear hS0
        go_wp2_with fail
        refine bodyPost_ret (v := .agg #[.int .i64 S0.row, .int .i64 S0.col, .slice (some ⟨b0, o0, none⟩) S0.rows.length cap0]) (by simp [results, Tryz.results27, go_sem, f1]) rfl ⟨S0, b0, o0, cap0, HE.out, rfl, ?_, ?_⟩
        · refine OwnO.mono (base := w.heap.size + 1 + 1) ?_ (by omega)
          iterate 3 (with_reducible refine OwnO.far ?_ (by simp; try omega) _)
          exact HO0.out
        · iterate 3 (with_reducible refine Below.setCell ?_ (by simp; try omega) _)
          exact HST.out.2.2

theorem l31Show_any (s : Scr) (text : ByteArray) (v : Value) (lo hi : Nat) (w : World) (hx : ScrR w lo hi v s) (hhi : hi ≤ w.heap.size) (hf : Fine s) (ht : text.size ≤ 1048576) :
    Calls Tryz.prog 27 #[v, .string text] w fun e w' => ∃ v', e = .returned v' ∧ ScrR w' w.heap.size w'.heap.size v' (showTo s text text.size) ∧ Below w.heap.size w w' := by
  refine (l31Show_own s text v lo hi w hx hhi hf ht).mono ?_
  rintro e w' ⟨S0, b, off, cap, hS, rfl, hO, hb⟩
  rw [← hS]
  exact ⟨_, rfl, ⟨_, _, rfl, hO.reads⟩, hb⟩

end Go.Proofs.YtmeholhmadeehaaGreatDoor
