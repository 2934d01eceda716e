/- Walks of the reference's l31Row, l31Put. -/
import Derived.Test.YtbpopkaafellgaaDoorScreenP
import Derived.BigRegion
import Derived.StillTailTactics
namespace Go.Proofs.YtbpopkaafellgaaDoor
open Go.RowKit

/-- append([]string{}, src...): a literal without capacity must grow. -/
theorem wpList_appAll {P : Program} {ops : Array Oper} {rest : List Oper} {o : Oper} {a : Go.Act} {Q : Exit → Go.Act → World → Prop} (hgd : o.guard = none) (s x : Operand) (t e : TypeId)
    (ho : o.op = .call { callee := .builtin .append, args := #[s, x], argTypes := #[t, t] }) (ht : P.underlying t = some (.slice e))
    (hinfo : (P.info? e).map (fun i => (i.zero, i.size, i.bytes)) = some (some (.string ⟨#[]⟩), 1, 16))
    (w : World) (A0 : Option Addr) (b off : Nat) (xs : List ByteArray) (n c : Nat) (hxl : xs.length = n) (hs : a.eval s = .slice A0 0 0)
    (hx : a.eval x = .slice (some ⟨b, off, none⟩) n c) (hc : ∀ j, j < xs.length → w.cell? ⟨b, off + j, none⟩ = some (.string (xs.getD j ByteArray.empty))) (h0 : 0 < xs.length) (hlen : xs.length ≤ 1000000000)
    (h : ∀ v' w', OwnStrs w' w.heap.size e v' xs → Below w.heap.size w w' → wpList P ops Q rest (a.put o.dst v') w') : wpList P ops Q (o :: rest) a w := by
  subst hxl
  obtain ⟨i0, hi0, hz0, hz1, hz2⟩ := info_parts hinfo
  refine wpList_append_grows _ hgd s x t ho e i0 _ 1 16 ht hi0 hz0 hz1 hz2 rfl (by decide) A0 0 0 [] hs (fun _ => ⟨rfl, rfl⟩) rfl (by intro b _ j u hj; simp at hj) ⟨b, off, none⟩ xs.length c (xs.map Value.string) hx (by simp) ?_ ?_ (by omega) (by unfold maxLen; omega) (by omega) ?_
  · intro j u hj
    rw [List.getElem?_map] at hj
    rcases Nat.lt_or_ge j xs.length with hlt | hge
    · rw [List.getElem?_eq_getElem hlt] at hj
      simp only [Option.map_some, Option.some.injEq] at hj
      have hadd : (⟨b, off, none⟩ : Addr).add j = ⟨b, off + j, none⟩ := by unfold Addr.add; split <;> simp_all
      rw [hadd, hc j hlt, ← hj, List.getD_eq_getElem?_getD, List.getElem?_eq_getElem hlt]
      rfl
    · rw [List.getElem?_eq_none hge] at hj; cases hj
  · intro u hu
    obtain ⟨y, _, rfl⟩ := List.mem_map.1 hu
    rfl
  · intro v' w' h1 h2
    rw [Nat.zero_add, List.nil_append] at h1
    refine h v' w' ⟨?_, h1⟩ (Below.of_grown h2 (Nat.le_refl _) (by intro k hk; cases hk))
    rcases h1.2 with ⟨e1, e2⟩ | ⟨g, cap, cur, e1, _⟩
    · omega
    · exact ⟨some ⟨g, 0, none⟩, cap, e1⟩

theorem OwnO.alloc {w : World} {base b off cap : Nat} {xs : List ByteArray} (h : OwnO w base b off cap xs) (o : Obj) : OwnO (w.alloc o) base b off cap xs := h.keep (Below.heap_alloc w o b h.lt)
theorem OwnO.get1 {w : World} {base b off cap : Nat} {xs : List ByteArray} (h : OwnO w base b off cap xs) : ∀ j, j < (xs.drop 1).length → w.cell? ⟨b, off + 1 + j, none⟩ = some (.string ((xs.drop 1).getD j ByteArray.empty)) := by
  intro j hj
  rw [List.length_drop] at hj
  have := h.get (j := 1 + j) (by omega)
  rw [← Nat.add_assoc] at this
  rw [this]
  rw [Nat.add_comm 1 j]
  simp [List.getD_eq_getElem?_getD]

set_option maxHeartbeats 1000000 in
theorem l31Row_any (s : Scr) (base g : Nat) (w : World) (hp : ScrP w base g s) (hb : base ≤ w.heap.size) (hl : s.rows.length = 6) (h0 : 0 ≤ s.row) (h5 : s.row ≤ 5) :
    Calls Tryd.prog 40 #[.pointer (some ⟨g, 0, none⟩)] w fun e w' => e = .returned (.tuple #[]) ∧ ScrP w' base g (newRow s) ∧ Below base w w' := by
  obtain ⟨hbg, b, off, cap, hne, hB, hO⟩ := hp
  by_cases hr : s.row < 5
  · have f := hB.cell
    have z := hB.frozen
    have hn6 : (s.row + 1 == 6) = false := by rw [beq_eq_false_iff_ne]; omega
    have HN := Lib.hid (show newRow s = ⟨s.row + 1, 0, s.rows⟩ by unfold newRow; rw [if_pos hr])
    have HB := Lib.hid hB; have HO := Lib.hid hO
    clear hB hO
    go_enter Tryd.func40, Tryd.ntmps40
    go_wp2_with fail
    go_end0
    refine ⟨rfl, ?_, ?_⟩
    · rw [HN.out]
      refine ⟨hbg, b, off, cap, hne, ?_, ?_⟩
      · exact (HB.out.set_ 1 (.int .i64 0)).set_ 0 (.int .i64 (s.row + 1))
      · exact (HO.out.far (p := ⟨g, 1, none⟩) (fun h => hne h.symm) _).far (p := ⟨g, 0, none⟩) (fun h => hne h.symm) _
    · exact ((Below.refl base w).setCell (p := ⟨g, 1, none⟩) hbg _).setCell (p := ⟨g, 0, none⟩) hbg _
  · have hr5 : s.row = 5 := by omega
    have HN := Lib.hid (show newRow s = ⟨5, 0, s.rows.drop 1 ++ [blanks 20]⟩ by unfold newRow; rw [if_neg hr])
    obtain ⟨row, col, rows⟩ := s
    dsimp only at *
    subst hr5
    have f := hB.cell
    have z := hB.frozen
    have hcap : 6 ≤ cap := by obtain ⟨_, cur, _, _, h3, _⟩ := hO; omega
    have hc1 : ¬ (cap = 1) := by omega
    have hgl := hB.lt
    have hgn : w.heap.size ≠ g := by omega
    have HB := Lib.hid hB; have HO := Lib.hid hO
    have HL := Lib.hid hl
    have l6 : rows.length ≤ 6 := by omega
    have g6 : 6 ≤ rows.length := by omega
    clear hB hO hr h5 h0 hl
    go_enter Tryd.func40, Tryd.ntmps40
    have HW := Lib.hid (fun (o : Obj) => ((HO.out.far (p := ⟨g, 1, none⟩) (fun h => hne h.symm) (.int .i64 0)).far (p := ⟨g, 0, none⟩) (fun h => hne h.symm) (.int .i64 6)).alloc o)
    have HBW := Lib.hid (fun (o : Obj) => ((HB.out.set_ 1 (.int .i64 0)).set_ 0 (.int .i64 6)).alloc o)
    have HDW := Lib.hid (fun (o : Obj) => (((Below.refl base w).setCell (p := ⟨g, 1, none⟩) hbg (.int .i64 0)).setCell (p := ⟨g, 0, none⟩) hbg (.int .i64 6)).alloc (by simp [World.setCell]; omega) o)
    have hdl : (rows.drop 1).length = rows.length - 1 := List.length_drop ..
    have HDL := Lib.hid hdl; clear hdl
    go_wp2_with (at_builtin; refine wpList_appAll rfl (.tmp 19) (.tmp 24) 24 9 rfl Tryd.underlying24 infoString _ _ b (off + 1) (rows.drop 1) _ _ HDL.out rfl rfl (HW.out _).get1 (by rw [HDL.out]; omega) (by rw [HDL.out]; omega) ?_; intro v1 w1 hown1 hb1)
    have B1 := (HBW.out _).below hb1 (HBW.out _).lt
    have D1 := (HDW.out _).trans (hb1.mono (Nat.le_trans hb (HDW.out _).size))
    have hown1' := hown1.mono (base' := w.heap.size + 1) (by simp [World.setCell])
    have s1 : w.heap.size + 1 ≤ w1.heap.size := by have := hb1.size; simp [World.setCell] at this; omega
    clear hb1 hown1 HW HBW HDW f z
    have HB1 := Lib.hid B1; have HD1 := Lib.hid D1; have HO1 := Lib.hid hown1'
    clear B1 D1 hown1'
    refine (l31Blanks_any 20 _ (by omega) (by omega)).mono ?_
    rintro e2 w2 ⟨rfl, hb2⟩
    have B2 := HB1.out.below hb2 HB1.out.lt
    have D2 := HD1.out.trans (hb2.mono (Nat.le_trans hb HD1.out.size))
    have hown2 := HO1.out.below hb2
    have s2 : w.heap.size + 1 ≤ w2.heap.size := Nat.le_trans s1 hb2.size
    clear hb2 HB1 HD1 HO1
    have HB2 := Lib.hid B2; have HD2 := Lib.hid D2
    clear B2 D2
    have b20 : blanks (Int.toNat 20) = blanks 20 := rfl
    rw [b20]
    clear b20
    go_wp2_with (at_builtin; refine wpList_app1 (enc := Value.string) rfl (.tmp 25) (.tmp 27) 24 9 rfl Tryd.underlying24 rfl (by omega) (fun _ => rfl) infoString w2 (w.heap.size + 1) _ (rows.drop 1) _ rfl hown2 rfl (by rw [HDL.out]; omega) s2 ?_; intro v3 w3 hown3 hb3; obtain ⟨⟨A3, c3, rfl⟩, ho3⟩ := hown3; have B3 := HB2.out.below hb3 (by omega); have f := B3.cell; have z := B3.frozen)
    have D3 := HD2.out.trans (hb3.mono (by omega))
    have hlen : (rows.drop 1 ++ [blanks 20]).length = rows.length - 1 + 1 := by simp
    obtain ⟨b3, hA3, hO3⟩ := OwnO.of_own ho3 (by rw [hlen]; omega)
    have hbb := hO3.1
    go_end0
    rw [← hlen, HN.out, hA3]
    refine ⟨rfl, ⟨hbg, b3, 0, c3, by omega, ?_, ?_⟩, ?_⟩
    · exact (B3.set_ 2 _).set_ 0 _
    · refine OwnO.far (p := ⟨g, 0, none⟩) (OwnO.far (p := ⟨g, 2, none⟩) ?_ (by simp; omega) _) (by simp; omega) _
      exact ⟨by omega, hO3.2⟩
    · exact (D3.setCell (p := ⟨g, 2, none⟩) hbg _).setCell (p := ⟨g, 0, none⟩) hbg _

theorem run_one_byte_drew {P : Program} (src dst e : TypeId) (hs : P.underlying src = some (.slice e)) (he : P.underlying e = some (.int .u8)) (hd : P.underlying dst = some .string) (w : World) (n : Int) (c : Nat) :
    (convert src dst (.slice (some ⟨w.heap.size, 0, none⟩) 1 c)).run P (w.alloc (.cells #[.int .u8 n] e)).drew = .ok (.string ⟨#[UInt8.ofNat n.toNat]⟩) (w.alloc (.cells #[.int .u8 n] e)).drew := by
  have h := run_convert_bytes_arg (P := P) (w.alloc (.cells #[.int .u8 n] e)).drew src e hs he w.heap.size 0 1 c [n] rfl (fun i hi => by
    obtain rfl : i = 0 := by omega
    show (w.alloc (.cells #[.int .u8 n] e)).cell? _ = _
    simp) dst hd
  exact h

theorem World.heap_size_alloc' (w : World) (o : Obj) : (w.alloc o).heap.size = w.heap.size + 1 := by simp

theorem putAt_eq (r : ByteArray) (col : Nat) (c : UInt8) (hr : r.size = 20) : r.extract 0 col ++ ⟨#[c]⟩ ++ r.extract (col + 1) 20 = putAt r col c := by unfold putAt; rw [hr]

set_option maxHeartbeats 2000000 in
set_option maxRecDepth 100000 in
theorem l31Put_any (s : Scr) (c : Nat) (base g : Nat) (w : World) (hp : ScrP w base g s) (hb : base ≤ w.heap.size) (hf : Fine s) (_ : c ≤ 255) :
    Calls Tryd.prog 39 #[.pointer (some ⟨g, 0, none⟩), .int .u8 c] w fun e w' => e = .returned (.tuple #[]) ∧ ScrP w' base g (putCh s (UInt8.ofNat c)) ∧ Below base w w' := by
  obtain ⟨hbg, b, off, cap, hne, hB, hO⟩ := hp
  have f := hB.cell
  have z := hB.frozen
  have hgl := hB.lt
  have hgn : w.heap.size ≠ g := by omega
  obtain ⟨k, hk⟩ := Int.eq_ofNat_of_zero_le hf.row0
  obtain ⟨j, hj⟩ := Int.eq_ofNat_of_zero_le hf.col0
  obtain ⟨row, col, rows⟩ := s
  dsimp only at *
  subst hk hj
  have hl := hf.len; have h5 := hf.row5; have h19 := hf.col19
  dsimp only at hl h5 h19
  have hkl : k < rows.length := by omega
  have hrow := hO.get hkl
  have hX : (rows.getD k ByteArray.empty).size = 20 := hf.size _ (by
    rw [List.getD_eq_getElem?_getD, List.getElem?_eq_getElem hkl]
    exact List.getElem_mem _)
  have hbn : b ≠ w.heap.size := by have := hO.lt; omega
  have HF := Lib.hid hf; have HB := Lib.hid hB; have HO := Lib.hid hO
  have hki : (k : Int) < (rows.length : Int) := by omega
  have HL := Lib.hid hl
  have l6 : rows.length ≤ 6 := by omega
  have g6 : 6 ≤ rows.length := by omega
  clear hf hB hO hl
  generalize hXX : rows.getD k ByteArray.empty = X at *
  have HXX := Lib.hid hXX
  have HX := Lib.hid hX
  have x1 : X.size ≤ 20 := by omega
  have x2 : 20 ≤ X.size := by omega
  clear hX hXX
  go_enter Tryd.func39, Tryd.ntmps39
  go_wp2_with fail
  go_quiet (fail)
  have HB0 := Lib.hid (HB.out.drewN nq)
  have HO0 := Lib.hid (show OwnO (w.drewN nq) base b off cap rows from HO.out)
  have HD0 := Lib.hid ((below_drewN' w nq).mono hb)
  have hs0 : (w.drewN nq).heap.size = w.heap.size := rfl
  generalize w.drewN nq = w0 at *
  clear HB HO f z hrow hgn hbn
  have hgl0 : g < w0.heap.size := HB0.out.lt
  have hgn : w0.heap.size ≠ g := by omega
  have hb0 : base ≤ w0.heap.size := by omega
  clear hs0 hgl
  have f := HB0.out.cell
  have z := HB0.out.frozen
  go_wp2_with (at_builtin; refine wpList_appAll rfl (.tmp 16) (.tmp 20) 24 9 rfl Tryd.underlying24 infoString _ _ b off rows _ _ rfl rfl rfl (fun j hj => ((HO0.out.alloc _)).get hj) (by omega) (by omega) ?_; intro v1 w1 hown1 hb1; obtain ⟨⟨A1, c1, rfl⟩, ho1⟩ := hown1)
  clear f z
  obtain ⟨b1, hA1, hO1⟩ := OwnO.of_own ho1 (by omega)
  have hbb := hO1.1
  rw [World.heap_size_alloc'] at hbb
  have B1 := (HB0.out.alloc (.cells #[] 9)).below hb1 (HB0.out.alloc _).lt
  have D1 := (HD0.out.alloc hb0 (.cells #[] 9)).trans (hb1.mono (by simp; omega))
  have s1 := hb1.size
  clear hb1 ho1 HO0 HB0 HD0
  have f := B1.cell
  have hc1k := hO1.get hkl
  rw [HXX.out, Nat.zero_add] at hc1k
  have hz1k := hO1.frozen k
  have hcv := run_one_byte_drew (P := Tryd.prog) 22 9 5 Tryd.underlying22 Tryd.underlying5 Tryd.underlying9
  rw [hA1]
  have hb1l : b1 < w1.heap.size := hO1.lt
  have hb1n : w1.heap.size ≠ b1 := by omega
  have hgn1 : w1.heap.size ≠ g := by have := B1.lt; omega
  have hj0 : (0 : Int) ≤ (j : Int) := by omega
  have hj1 : (j : Int) ≤ (X.size : Int) := by omega
  have hj2 : (j : Int) + 1 ≤ (X.size : Int) := by omega
  have fo := fun (o : Obj) i => (B1.alloc o).cell i
  have hko := fun (o : Obj) => (hO1.alloc o).get hkl
  rw [HXX.out, Nat.zero_add] at hko
  have hzo := fun (o : Obj) => (hO1.alloc o).frozen k
  have hm1 : ¬ (9223372036854775807 < min j X.size + 1) := by omega
  have hm2 : ¬ (9223372036854775807 < min j X.size + 1 + (X.size - (j + 1))) := by omega
  have HB1 := Lib.hid B1; have HO1 := Lib.hid hO1; have HD1 := Lib.hid D1
  have hRR : rows.getD k ByteArray.empty = X := HXX.out
  have HPC := Lib.hid (show putCh ⟨k, j, rows⟩ (UInt8.ofNat c) = if (j : Int) + 1 = 20 then newRow ⟨k, 20, rows.set k (putAt X j (UInt8.ofNat c))⟩ else ⟨k, (j : Int) + 1, rows.set k (putAt X j (UInt8.ofNat c))⟩ by
    unfold putCh setRow
    simp only [Int.toNat_natCast, hRR])
  have HSF := Lib.hid (show (rows.set k (putAt X j (UInt8.ofNat c))).length = 6 by rw [List.length_set]; exact HL.out)
  have h5' : k ≤ 5 := by omega
  clear B1 hO1 D1 h5 hRR
  go_region
  have B2 : Blk (((w1.setCell ⟨b1, k, none⟩ (.string (X.extract 0 j ++ ⟨#[UInt8.ofNat c]⟩ ++ X.extract (j + 1) X.size))).alloc (.cells #[.int .u8 c] 5)).drew) g 26 #[.int .i64 k, .int .i64 j, .slice (some ⟨b, off, none⟩) rows.length cap] :=
    (HB1.out.far (p := ⟨b1, k, none⟩) (by simp; omega) _).alloc _
  have O2 : OwnO (((w1.setCell ⟨b1, k, none⟩ (.string (X.extract 0 j ++ ⟨#[UInt8.ofNat c]⟩ ++ X.extract (j + 1) X.size))).alloc (.cells #[.int .u8 c] 5)).drew) (w0.heap.size + 1) b1 0 c1 (rows.set k (putAt X j (UInt8.ofNat c))) := by
    have h := (HO1.out.put hkl (putAt X j (UInt8.ofNat c))).alloc (.cells #[.int .u8 c] 5)
    rw [Nat.zero_add] at h
    exact ⟨hbb, h.2⟩
  have D2 : Below base w (((w1.setCell ⟨b1, k, none⟩ (.string (X.extract 0 j ++ ⟨#[UInt8.ofNat c]⟩ ++ X.extract (j + 1) X.size))).alloc (.cells #[.int .u8 c] 5)).drew) :=
    ((HD1.out.setCell (p := ⟨b1, k, none⟩) (by simp; omega) _).alloc (by have := HD1.out.size; simp [World.setCell]; omega) _).drew
  generalize ((w1.setCell ⟨b1, k, none⟩ (.string (X.extract 0 j ++ ⟨#[UInt8.ofNat c]⟩ ++ X.extract (j + 1) X.size))).alloc (.cells #[.int .u8 c] 5)).drew = w2 at *
  clear fo hko hzo hcv hc1k hz1k hm1 hm2 f HB1 HO1 HD1
  have f := B2.cell
  have z := B2.frozen
  have HB2 := Lib.hid B2; have HO2 := Lib.hid O2; have HD2 := Lib.hid D2
  have hgb : g ≠ b1 := by omega
  clear B2 O2 D2
  have P3 : ∀ cc : Int, ScrP ((w2.setCell ⟨g, 2, none⟩ (.slice (some ⟨b1, 0, none⟩) rows.length c1)).setCell ⟨g, 1, none⟩ (.int .i64 cc)) base g ⟨k, cc, rows.set k (putAt X j (UInt8.ofNat c))⟩ := by
    intro cc
    refine ⟨hbg, b1, 0, c1, hgb, ?_, ?_⟩
    · show Blk _ g 26 #[.int .i64 k, .int .i64 cc, .slice (some ⟨b1, 0, none⟩) (rows.set k (putAt X j (UInt8.ofNat c))).length c1]
      rw [List.length_set]
      exact (HB2.out.set_ 2 _).set_ 1 _
    · refine OwnO.far (p := ⟨g, 1, none⟩) (OwnO.far (p := ⟨g, 2, none⟩) ?_ (fun h => hgb h.symm) _) (fun h => hgb h.symm) _
      exact ⟨by omega, HO2.out.2⟩
  have D3 : ∀ cc : Int, Below base w ((w2.setCell ⟨g, 2, none⟩ (.slice (some ⟨b1, 0, none⟩) rows.length c1)).setCell ⟨g, 1, none⟩ (.int .i64 cc)) := fun cc => (HD2.out.setCell (p := ⟨g, 2, none⟩) hbg _).setCell (p := ⟨g, 1, none⟩) hbg _
  have HP3 := Lib.hid P3; have HD3 := Lib.hid D3
  clear P3 D3
  by_cases hj20 : (j : Int) + 1 = 20
  · have e20 : ((j : Int) + 1 == 20) = true := by rw [beq_iff_eq]; exact hj20
    have HJ := Lib.hid hj20; clear hj20
    go_wp2_with fail
    have hp3 := HP3.out ((j : Int) + 1)
    have hp3' : ScrP ((w2.setCell ⟨g, 2, none⟩ (.slice (some ⟨b1, 0, none⟩) rows.length c1)).setCell ⟨g, 1, none⟩ (.int .i64 ((j : Int) + 1))) base g ⟨k, 20, rows.set k (putAt X j (UInt8.ofNat c))⟩ := by
      have := HP3.out ((j : Int) + 1)
      rwa [show (⟨(k : Int), (j : Int) + 1, rows.set k (putAt X j (UInt8.ofNat c))⟩ : Scr) = ⟨k, 20, rows.set k (putAt X j (UInt8.ofNat c))⟩ by rw [HJ.out]] at this
    refine (l31Row_any ⟨k, 20, rows.set k (putAt X j (UInt8.ofNat c))⟩ base g _ hp3' (Nat.le_trans hb (HD3.out _).size) HSF.out (by simp) (by simp; omega)).mono ?_
    rintro e4 w4 ⟨rfl, hp4, hb4⟩
    have HP4 := Lib.hid hp4; have HD4 := Lib.hid ((HD3.out _).trans hb4)
    clear hp4 hb4 hp3 hp3' HP3 HD3
    go_wp2_with fail
    go_end0
    rw [HPC.out, if_pos HJ.out]
    exact ⟨rfl, HP4.out, HD4.out⟩
  · have e20 : ((j : Int) + 1 == 20) = false := by rw [beq_eq_false_iff_ne]; exact hj20
    have HJ := Lib.hid hj20; clear hj20
    go_wp2_with fail
    go_end0
    rw [HPC.out, if_neg HJ.out]
    exact ⟨rfl, HP3.out _, HD3.out _⟩

end Go.Proofs.YtbpopkaafellgaaDoor
