/- Walks of the program's write and ShowOn. -/
import Derived.Test.YtbpopkaafellgaaDoorScreenJ
import Derived.Lib.ConvBytes
namespace Go.Proofs.YtbpopkaafellgaaDoor
open Go.RowKit

/-- []byte(s): a row of bytes in a new block. -/
theorem bytes_of (w : World) (s : ByteArray) : ∃ cap w', (convert 9 22 (.string s)).run Tryd.prog w = .ok (.slice (some ⟨w.heap.size, 0, none⟩) s.size cap) w' ∧
    (∀ j (hj : j < s.size), w'.cell? ⟨w.heap.size, j, none⟩ = some (.int .u8 (s[j].toNat : Int))) ∧ Below w.heap.size w w' ∧ w'.heap.size = w.heap.size + 1 := by
  refine ⟨_, _, Lib.run_convert_string_bytes w _ _ 5 s Tryd.underlying9 Tryd.underlying22 Tryd.underlying5, fun j hj => ?_, ?_, Lib.bytesWorld_size _ _ _⟩
  · rw [Lib.bytesWorld_cell w 5 s j hj]
    have : s.data.toList.getD j 0 = s[j] := by
      have h : j < s.data.toList.length := by simpa using hj
      rw [List.getD_eq_getElem?_getD, List.getElem?_eq_getElem h]
      rfl
    rw [this]
  · exact ⟨rfl, rfl, rfl, by rw [Lib.bytesWorld_size]; omega, fun k hk => Lib.bytesWorld_at_old w _ s k hk⟩

/-- A whole screen stored. -/
theorem ScrX.store {w : World} {base g o : Nat} {t : TypeId} {cs : Array Value} {b off cap : Nat} {s : Scr} (h : ScrX w base g o t cs b off cap s) {B : Nat} {A : Option Addr} {n c : Nat} {s' : Scr} (hn : n = s'.rows.length) (h0 : 0 < n) (hgB : g < B) (hB : base ≤ B)
    (ho : w.ownsRow B 9 1 (.slice A n c) n (s'.rows.map Value.string)) :
    ∃ b', B ≤ b' ∧ ScrX (((w.setCell ⟨g, o, none⟩ (.int .i64 s'.row)).setCell ⟨g, o + 1, none⟩ (.int .i64 s'.col)).setCell ⟨g, o + 2, none⟩ (.slice A n c)) base g o t cs b' 0 c s' := by
  obtain ⟨b1, rfl, hO1⟩ := OwnO.of_own ho h0
  have h1 := hO1.1
  subst hn
  have hne : g ≠ b1 := by omega
  have hO2 : OwnO w base b1 0 c s'.rows := ⟨by omega, hO1.2⟩
  exact ⟨b1, h1, ((h.row_ s'.row).col_ s'.col).rows_ hne ((hO2.far (p := ⟨g, o, none⟩) (fun e => hne e.symm) _).far (p := ⟨g, o + 1, none⟩) (fun e => hne e.symm) _)⟩

/-- What stands at the head of each round of write: the screen, the text's bytes, what else was there. -/
def WrSt (w0 : World) (base g o : Nat) (t : TypeId) (cs : Array Value) (b : Nat) (text : ByteArray) (w : World) (s : Scr) : Prop :=
  (∃ b' off' cap', ScrX w base g o t cs b' off' cap' s ∧ (b' = b ∨ w0.heap.size < b')) ∧ (∀ j (hj : j < text.size), w.cell? ⟨w0.heap.size, j, none⟩ = some (.int .u8 (text[j].toNat : Int))) ∧ w0.heap.size < w.heap.size ∧ Touch g b w0 w

theorem WrSt.next {w0 : World} {base g o : Nat} {t : TypeId} {cs : Array Value} {b b1 : Nat} {text : ByteArray} {w w' : World} {s' : Scr}
    (hbb : b1 = b ∨ w0.heap.size < b1) (hg : g < w0.heap.size) (hb0 : b < w0.heap.size) (hT : ∀ j (hj : j < text.size), w.cell? ⟨w0.heap.size, j, none⟩ = some (.int .u8 (text[j].toNat : Int))) (hs : w0.heap.size < w.heap.size) (ht : Touch g b w0 w) (h : ScrStep w base g o t cs b1 w' s') : WrSt w0 base g o t cs b text w' s' := by
  obtain ⟨b2, o2, c2, hp, hb2, ht2⟩ := h
  refine ⟨⟨b2, o2, c2, hp, by omega⟩, fun j hj => ?_, by have := ht2.size; omega, ht.trans ht2 (by omega)⟩
  exact (World.cell?_of_block (ht2.block w0.heap.size hs (by omega) (by omega))).trans (hT j hj)

def colOfO (w : World) (g o : Nat) : Nat := match w.cell? ⟨g, o + 1, none⟩ with
  | some (.int _ n) => ((8 - n % 8) % 8).toNat
  | _ => 0
theorem ScrX.colOfO {w : World} {base g o : Nat} {t : TypeId} {cs : Array Value} {b off cap : Nat} {s : Scr} (h : ScrX w base g o t cs b off cap s) : colOfO w g o = ((8 - s.col % 8) % 8).toNat := by
  unfold Go.Proofs.YtbpopkaafellgaaDoor.colOfO
  rw [h.f1]

-- PRINTED by wip/gen_write.py
set_option maxHeartbeats 4000000 in
set_option maxRecDepth 100000 in
theorem write_any (s : Scr) (text : ByteArray) (base g o : Nat) (t : TypeId) (cs : Array Value) (b off cap : Nat) (w : World) (hp : ScrX w base g o t cs b off cap s) (hb : base ≤ w.heap.size) (hf : Fine s) (ht : text.size ≤ 1048576) :
    Calls Tryd.prog 19 #[.pointer (some ⟨g, o, none⟩), .string text] w fun e w' => e = .returned (.tuple #[]) ∧ ScrStep w base g o t cs b w' (showTo s text text.size) := by
  obtain ⟨cap1, w1, hr, hcells, hbw, hsz⟩ := bytes_of w text
  have hgl := hp.blk.lt
  have hbl := hp.own.lt
  have HF := Lib.hid hf
  have HST : Hid (WrSt w base g o t cs b text w1 s) := ⟨⟨b, off, cap, hp.call hbw, .inl rfl⟩, hcells, by omega, (Touch.refl g b w).call hbw⟩
  clear hp hf hcells hbw hsz
  go_enter Tryd.func19, Tryd.ntmps19
  go_wp2_with fail
  clear hr
  go_loopw [9] (fun i wr => ∃ k : Nat, k ≤ text.size ∧ i = .int .i64 k ∧ WrSt w base g o t cs b text wr (showTo s text k)) (fun i _ => text.size - (intOf i).toNat)
  case atStart => exact ⟨0, Nat.zero_le _, rfl, HST.out⟩
  case round =>
    obtain ⟨k, hk, rfl, hSt⟩ := hrel
    have hFk := showTo_fine HF.out text k
    by_cases hlt : k < text.size
    · have h255 := byte_le text[k]
      have HSC := Lib.hid (show showTo s text (k + 1) = showCh (showTo s text k) text[k] by rw [showTo_succ, byte_at hlt])
      obtain ⟨S1, hS1⟩ : ∃ S1, S1 = showTo s text (k + 1) := ⟨_, rfl⟩
      rw [← hS1] at HSC
      have HT := Lib.hid hS1.symm
      clear hS1
      generalize showTo s text k = S0 at *
      obtain ⟨⟨b0, o0, cap0, hp, hbb⟩, hcl, hsw, htc⟩ := hSt
      have hcell := hcl k hlt
      have c0 := hFk.col0; have c19 := hFk.col19
      have hgl0 := hp.blk.lt
      have hbw0 : base ≤ wr.heap.size := by omega
      have HN := Lib.hid (fun (W : World) (S' : Scr) (h : ScrStep wr base g o t cs b0 W S') => WrSt.next hbb hgl hbl hcl hsw htc h)
      have HFK := Lib.hid hFk; have HP := Lib.hid hp; have HBB := Lib.hid hbb; have HCL := Lib.hid hcl
      have f1 := hp.f1
      have z := hp.blk.frozen
      clear hFk hp hcl htc HST
      by_cases hsh : 32 ≤ text[k].toNat ∧ text[k].toNat ≤ 126
      · have HS1 := Lib.hid (show S1 = putCh S0 text[k] by rw [HSC.out]; unfold showCh; rw [if_pos hsh])
        obtain ⟨h32, h126⟩ := hsh
        go_wp2_with fail
        refine (show_any S0 text[k].toNat base g o t cs b0 o0 cap0 _ HP.out hbw0 HFK.out (by omega)).mono ?_
        rintro e1 w1 ⟨rfl, hp1⟩
        rw [UInt8.ofNat_toNat] at hp1
        have HST1 := Lib.hid (HN.out _ _ hp1)
        clear f1 z hp1 hcell
        go_wp2_with fail
        go_roundw
        case rel => exact ⟨k + 1, by omega, by go_num, by rw [HT.out, HS1.out]; exact HST1.out⟩
        case measure => simp [intOf]; omega
      have hor : text[k].toNat < 32 ∨ 126 < text[k].toNat := by omega
      have HW : Hid (text[k].toNat < 32 ∨ 126 < text[k].toNat) := Lib.hid hor
      clear hor
      by_cases hq10 : text[k].toNat = 10
      · have HS1 := Lib.hid (show S1 = newRow S0 by rw [HSC.out]; unfold showCh; rw [if_neg hsh, if_pos (by omega)])
        have t10 : ((text[k].toNat : Int) == 10) = true := by rw [beq_iff_eq]; omega
        have hlo : text[k].toNat < 32 := by omega
        clear HW hsh hq10
        go_wp2_with fail
        refine (begin_any S0 base g o t cs b0 o0 cap0 _ HP.out hbw0 HFK.out.len HFK.out.row0 HFK.out.row5).mono ?_
        rintro e1 w1 ⟨rfl, hp1⟩
        have HST1 := Lib.hid (HN.out _ _ hp1)
        clear f1 z hp1 hcell
        go_wp2_with fail
        go_roundw
        case rel => exact ⟨k + 1, by omega, by go_num, by rw [HT.out, HS1.out]; exact HST1.out⟩
        case measure => simp [intOf]; omega
      by_cases hq13 : text[k].toNat = 13
      · have HS1 := Lib.hid (show S1 = ⟨S0.row, 0, S0.rows⟩ by rw [HSC.out]; unfold showCh; rw [if_neg hsh, if_neg (by omega), if_pos (by omega)])
        have t10 : ((text[k].toNat : Int) == 10) = false := by rw [beq_eq_false_iff_ne]; omega
        have t13 : ((text[k].toNat : Int) == 13) = true := by rw [beq_iff_eq]; omega
        have hlo : text[k].toNat < 32 := by omega
        clear HW hsh hq10 hq13
        have HST1 := Lib.hid (HN.out _ _ ⟨b0, o0, cap0, HP.out.col_ 0, .inl rfl, (Touch.refl _ _ _).set (p := ⟨g, o + 1, none⟩) (.inl rfl) _⟩)
        go_wp2_with fail
        go_roundw
        case rel => exact ⟨k + 1, by omega, by go_num, by rw [HT.out, HS1.out]; exact HST1.out⟩
        case measure => simp [intOf]; omega
      by_cases hq8 : text[k].toNat = 8
      · have HS1 := Lib.hid (show S1 = ⟨S0.row, if 0 < S0.col then S0.col - 1 else 0, S0.rows⟩ by rw [HSC.out]; unfold showCh; rw [if_neg hsh, if_neg (by omega), if_neg (by omega), if_pos (by omega)])
        have t10 : ((text[k].toNat : Int) == 10) = false := by rw [beq_eq_false_iff_ne]; omega
        have t13 : ((text[k].toNat : Int) == 13) = false := by rw [beq_eq_false_iff_ne]; omega
        have t8 : ((text[k].toNat : Int) == 8) = true := by rw [beq_iff_eq]; omega
        have hlo : text[k].toNat < 32 := by omega
        clear HW hsh hq10 hq13 hq8
        have HST1 := Lib.hid (HN.out _ _ ⟨b0, o0, cap0, HP.out.col_ (if 0 < S0.col then S0.col - 1 else 0), .inl rfl, (Touch.refl _ _ _).set (p := ⟨g, o + 1, none⟩) (.inl rfl) _⟩)
        have hmx : max 0 (S0.col - 1) = (if 0 < S0.col then S0.col - 1 else 0) := by split <;> omega
        generalize (if 0 < S0.col then S0.col - 1 else 0) = M at *
        go_wp2_with fail
        go_roundw
        case rel => exact ⟨k + 1, by omega, by go_num, by rw [HT.out, HS1.out]; exact HST1.out⟩
        case measure => simp [intOf]; omega
      by_cases hq9 : text[k].toNat = 9
      · have HS1 := Lib.hid (show S1 = tabTo 8 (putCh S0 32) by rw [HSC.out]; unfold showCh; rw [if_neg hsh, if_neg (by omega), if_neg (by omega), if_neg (by omega), if_pos (by omega)])
        have t10 : ((text[k].toNat : Int) == 10) = false := by rw [beq_eq_false_iff_ne]; omega
        have t13 : ((text[k].toNat : Int) == 13) = false := by rw [beq_eq_false_iff_ne]; omega
        have t8 : ((text[k].toNat : Int) == 8) = false := by rw [beq_eq_false_iff_ne]; omega
        have t9 : ((text[k].toNat : Int) == 9) = true := by rw [beq_iff_eq]; omega
        have hlo : text[k].toNat < 32 := by omega
        clear HW hsh hq10 hq13 hq8 hq9
        have HFP := Lib.hid (putCh_fine HFK.out 32)
        go_wp2_with fail
        refine (show_any S0 32 base g o t cs b0 o0 cap0 _ HP.out hbw0 HFK.out (by omega)).mono ?_
        rintro e1 w1 ⟨rfl, hp1⟩
        rw [show UInt8.ofNat 32 = 32 from rfl] at hp1
        have HEX := Lib.hid (⟨8, putCh S0 32, HN.out _ _ hp1, HFP.out, rfl, by have := HFP.out.col0; omega⟩ : ∃ (f : Nat) (S' : Scr), WrSt w base g o t cs b text w1 S' ∧ Fine S' ∧ tabTo f S' = tabTo 8 (putCh S0 32) ∧ (8 - S'.col % 8 ≤ f ∨ S'.col % 8 = 0))
        clear hp1 f1 z hcell HFP
        generalize tabTo 8 (putCh S0 32) = T8 at *
        go_wp2_with fail
        go_loopw [55] (fun _ wq => ∃ (f : Nat) (S' : Scr), WrSt w base g o t cs b text wq S' ∧ Fine S' ∧ tabTo f S' = T8 ∧ (8 - S'.col % 8 ≤ f ∨ S'.col % 8 = 0)) (fun _ wq => colOfO wq g o)
        case atStart => exact HEX.out
        case round =>
          obtain ⟨f, S', hS', hF', hT', hc'⟩ := hrel
          have d0 := hF'.col0; have d19 := hF'.col19
          obtain ⟨⟨b', o', cap', hp', hbb'⟩, hcl', hsw', htc'⟩ := id hS'
          have f' := hp'.f1
          have hbw' : base ≤ wr.heap.size := by omega
          have HS' := Lib.hid hS'; have HF' := Lib.hid hF'; have HT' := Lib.hid hT'; have HC' := Lib.hid hc'; have HPP := Lib.hid hp'
          have HN' := Lib.hid (fun (W : World) (S' : Scr) (h : ScrStep wr base g o t cs b' W S') => WrSt.next hbb' hgl hbl hcl' hsw' htc' h)
          clear hS' hF' hT' hc' hp' hcl' htc'
          by_cases h8 : S'.col % 8 = 0
          · have HST1 : Hid (WrSt w base g o t cs b text wr T8) := by
                have : tabTo f S' = S' := by
                  cases f with
                  | zero => rfl
                  | succ n => unfold tabTo; rw [if_pos h8]
                rw [← HT'.out, this]
                exact HS'
            have n8 : (S'.col % 8 != 0) = false := by rw [h8]; rfl
            clear h8
            go_wp2_with fail
            go_roundw
            case rel => exact ⟨k + 1, by omega, by go_num, by rw [HT.out, HS1.out]; exact HST1.out⟩
            case measure => simp [intOf]; omega
          · have n8 : (S'.col % 8 != 0) = true := by rw [bne_iff_ne]; exact h8
            have H8 := Lib.hid h8
            clear h8
            go_wp2_with fail
            refine (show_any S' 32 base g o t cs b' o' cap' _ HPP.out hbw' HF'.out (by omega)).mono ?_
            rintro e2 w2 ⟨rfl, hp2⟩
            rw [show UInt8.ofNat 32 = 32 from rfl] at hp2
            have HST2 := Lib.hid (HN'.out _ _ hp2)
            have HM2 := Lib.hid (show colOfO w2 g o < colOfO wr g o by obtain ⟨_, _, _, hq, _⟩ := hp2; rw [hq.colOfO, HPP.out.colOfO]; exact putCh_col HF'.out 32 H8.out)
            have HR2 : Hid (∃ (f : Nat) (S' : Scr), WrSt w base g o t cs b text w2 S' ∧ Fine S' ∧ tabTo f S' = T8 ∧ (8 - S'.col % 8 ≤ f ∨ S'.col % 8 = 0)) := by
              have e0 := putCh_col HF'.out 32 H8.out
              have h8 := H8.out
              have e1 := (putCh_fine HF'.out 32).col0
              cases f with
              | zero => exfalso; rcases HC'.out with h | h <;> omega
              | succ n =>
                refine ⟨n, putCh S' 32, HST2.out, putCh_fine HF'.out 32, ?_, ?_⟩
                · rw [← HT'.out]
                  show _ = tabTo (n + 1) S'
                  rw [tabTo, if_neg h8]
                · rcases HC'.out with h | h <;> omega
            clear hp2 f'
            go_wp2_with fail
            go_roundw
            case rel => exact HR2.out
            case measure => exact HM2.out
      by_cases hq12 : text[k].toNat = 12
      · have HS1 := Lib.hid (show S1 = blankScr by rw [HSC.out]; unfold showCh; rw [if_neg hsh, if_neg (by omega), if_neg (by omega), if_neg (by omega), if_neg (by omega), if_pos (by omega)])
        have t10 : ((text[k].toNat : Int) == 10) = false := by rw [beq_eq_false_iff_ne]; omega
        have t13 : ((text[k].toNat : Int) == 13) = false := by rw [beq_eq_false_iff_ne]; omega
        have t8 : ((text[k].toNat : Int) == 8) = false := by rw [beq_eq_false_iff_ne]; omega
        have t9 : ((text[k].toNat : Int) == 9) = false := by rw [beq_eq_false_iff_ne]; omega
        have t12 : ((text[k].toNat : Int) == 12) = true := by rw [beq_iff_eq]; omega
        have hlo : text[k].toNat < 32 := by omega
        clear HW hsh hq10 hq13 hq8 hq9 hq12
        go_wp2_with fail
        refine (implNewScreen_any _).mono ?_
        rintro e1 w1 ⟨v1, rfl, ⟨A1, c1, rfl, ho1⟩, hb1⟩
        have hp1 := HP.out.call hb1
        obtain ⟨b5, hb5, hp5⟩ := hp1.store (s' := blankScr) rfl (by simp [blankScr]) hgl0 hbw0 ho1
        have HST1 := Lib.hid (HN.out _ _ ⟨b5, 0, c1, hp5, .inr hb5, ((((Touch.refl _ _ _).call hb1).set (p := ⟨g, o, none⟩) (.inl rfl) _).set (p := ⟨g, o + 1, none⟩) (.inl rfl) _).set (p := ⟨g, o + 2, none⟩) (.inl rfl) _⟩)
        clear f1 z hcell
        have f0 := hp1.f0; have f1 := hp1.f1; have f2 := hp1.f2; have z := hp1.blk.frozen
        clear hp1 ho1 hp5
        generalize hbs : blankScr = BS at *
        clear hbs
        go_wp2_with fail
        go_roundw
        case rel => exact ⟨k + 1, by omega, by go_num, by rw [HT.out, HS1.out]; exact HST1.out⟩
        case measure => simp [intOf]; omega
      have HS1 := Lib.hid (show S1 = S0 by rw [HSC.out]; unfold showCh; rw [if_neg hsh, if_neg (by omega), if_neg (by omega), if_neg (by omega), if_neg (by omega), if_neg (by omega)])
      have t10 : ((text[k].toNat : Int) == 10) = false := by rw [beq_eq_false_iff_ne]; omega
      have t13 : ((text[k].toNat : Int) == 13) = false := by rw [beq_eq_false_iff_ne]; omega
      have t8 : ((text[k].toNat : Int) == 8) = false := by rw [beq_eq_false_iff_ne]; omega
      have t9 : ((text[k].toNat : Int) == 9) = false := by rw [beq_eq_false_iff_ne]; omega
      have t12 : ((text[k].toNat : Int) == 12) = false := by rw [beq_eq_false_iff_ne]; omega
      rcases HW.out with hlo | hhi
      all_goals
        clear HW hsh hq10 hq13 hq8 hq9 hq12
        have HST1 : Hid (WrSt w base g o t cs b text wr S0) := HN.out _ _ ⟨b0, o0, cap0, HP.out, .inl rfl, Touch.refl _ _ _⟩
        clear f1 z
        go_wp2_with fail
        go_roundw
        case rel => exact ⟨k + 1, by omega, by go_num, by rw [HT.out, HS1.out]; exact HST1.out⟩
        case measure => simp [intOf]; omega
    · obtain rfl : k = text.size := by omega
      obtain ⟨⟨b0, o0, cap0, hp, hbb⟩, hcl, hsw, htc⟩ := hSt
      have HE := Lib.hid (⟨b0, o0, cap0, hp, by omega, htc⟩ : ScrStep w base g o t cs b wr (showTo s text text.size))
      clear hFk hp hcl htc HST
      go_wp2_with fail
      go_end0
      exact ⟨rfl, HE.out⟩

set_option maxHeartbeats 2000000 in
theorem implShowOn_any (s : Scr) (text : ByteArray) (v : Value) (lo hi : Nat) (w : World) (hx : ScrR w lo hi v s) (hhi : hi ≤ w.heap.size) (hs : ScrSmall s) (ht : text.size ≤ 1048576) :
    Calls Tryd.prog 7 #[v, .string text] w fun e w' => ∃ v', e = .returned v' ∧ OwnScr w' w.heap.size v' (showOnP s text) ∧ Below w.heap.size w w' := by
  obtain ⟨A, c, rfl, hA⟩ := id hx
  have H0 := CopyHeld.start w #[.int .i64 s.row, .int .i64 s.col, .slice A s.rows.length c]
  have HX := Lib.hid hx; have HS := Lib.hid hs
  have HH0 := Lib.hid H0
  clear hx hs hA H0
  go_enter Tryd.func7, Tryd.ntmps7
  go_wp2_with fail
  refine (implScreenOk_any s _ lo hi _ (HX.out.below HH0.out.below0 hhi) (Nat.le_trans hhi HH0.out.below0.size) HS.out).mono ?_
  rintro e1 w1 ⟨rfl, hb1⟩
  have R1 := HH0.out.below hb1
  clear hb1 HH0
  have f := R1.1.cell
  have f1 := R1.2.1.cell
  have z1 := R1.2.1.frozen
  have HR1 := Lib.hid R1
  clear R1
  cases hb : scrB s
  · have HP := Lib.hid (show showOnP s text = noScr by unfold showOnP; rw [hb]; rfl)
    clear hb
    go_wp2_with fail
    refine bodyPost_ret (v := .agg #[.int .i64 0, .int .i64 0, .slice none 0 0]) (by simp [results, Tryd.results7, go_sem, f1]) rfl ⟨_, rfl, ?_, ?_⟩
    · rw [HP.out]; exact ⟨none, 0, rfl, World.ownsRow_nil _ _ _ _⟩
    · iterate 3 (with_reducible refine Below.setCell ?_ (by simp; try omega) _)
      exact HR1.out.below0
  · have hF := Fine.of_scrB hb
    have HF := Lib.hid hF
    have HPl := Lib.hid (show showOnP s text = showTo s text text.size by unfold showOnP; rw [hb]; rfl)
    have hl6 : s.rows.length ≤ 1048576 := by have := hF.len; omega
    have hl0 : 0 < s.rows.length := by have := hF.len; omega
    have HFT := Lib.hid (showTo_fine hF text text.size)
    clear hb hF
    go_wp2_with fail
    refine (copyScreen_any s _ lo hi _ (HX.out.below HR1.out.below0 hhi) (Nat.le_trans hhi HR1.out.below0.size) hl0 hl6).mono ?_
    rintro e2 w2 ⟨rfl, ⟨b, cap, hP⟩, hb2⟩
    have R2 := HR1.out.below hb2
    have g2 := HR1.out.size
    have hsz2 := hb2.size
    clear f f1 z1 hb2
    have HX2 : Hid (ScrX w2 (w.heap.size + 1 + 1) w1.heap.size 0 26 #[.int .i64 0, .int .i64 0, .int .i64 0] b 0 cap s) := ⟨hP.2.1, by simp, hP.2.2.1, (hP.mono g2).2.2.2⟩
    have hbb := HX2.out.own.1
    have HR2 := Lib.hid R2; clear R2 hP HR1
    go_wp2_with fail
    refine (write_any s text (w.heap.size + 1 + 1) w1.heap.size 0 _ _ b 0 cap _ HX2.out (by omega) HF.out ht).mono ?_
    rintro e3 w3 ⟨rfl, b3, o3, c3, hp3, hb3, ht3⟩
    have R3 := HR2.out.below' (ht3.below g2 hbb (by omega))
    have hFT := HFT.out
    obtain ⟨S0, hS0⟩ : ∃ S0, S0 = showTo s text text.size := ⟨_, rfl⟩
    rw [← hS0] at hp3 hFT
    have HS0 := Lib.hid hS0
    have f0 := hp3.f0; have f1 := hp3.f1; have f2 := hp3.f2
    have hsz3 := ht3.size
    have HRd : Hid (ScrR w3 (w.heap.size + 1 + 1) w3.heap.size (.agg #[.int .i64 S0.row, .int .i64 S0.col, .slice (some ⟨b3, o3, none⟩) S0.rows.length c3]) S0) := ⟨_, _, rfl, hp3.own.reads⟩
    have hl0' : 0 < S0.rows.length := by have := hFT.len; omega
    have hl6' : S0.rows.length ≤ 1048576 := by have := hFT.len; omega
    have HR3 := Lib.hid R3; clear R3 HR2 HX2 hp3 ht3 hFT hS0
    go_wp2_with fail
    refine (copyScreen_any S0 _ _ _ _ HRd.out (Nat.le_refl _) hl0' hl6').mono ?_
    rintro e4 w4 ⟨rfl, ⟨b4, cap4, hP4⟩, hb4⟩
    have R4 := HR3.out.below hb4
    have hsz4 := hb4.size
    have HT4 : Hid (TabSt w w4 #[.int .i64 s.row, .int .i64 s.col, .slice A s.rows.length c] w3.heap.size b4 cap4 S0) := ⟨R4, hP4.mono (by omega)⟩
    clear f0 f1 f2
    have f := hP4.2.2.1.cell
    have f1 := R4.2.1.cell
    have z1 := R4.2.1.frozen
    clear R4 hP4 hb4 HR3 HRd
    go_wp2_with fail
    refine bodyPost_ret (v := .agg #[.int .i64 S0.row, .int .i64 S0.col, .slice (some ⟨b4, 0, none⟩) S0.rows.length cap4]) (by simp [results, Tryd.results7, go_sem, f1]) rfl ⟨_, rfl, ?_, ?_⟩
    · rw [HPl.out, ← HS0.out]
      exact TabSt.ends HT4.out
    · iterate 3 (with_reducible refine Below.setCell ?_ (by simp; try omega) _)
      exact HT4.out.1.below0

theorem showOnP_small (s : Scr) (text : ByteArray) : (showOnP s text).rows.length ≤ 1048576 := by
  unfold showOnP
  split
  · rename_i h
    have := (showTo_fine (Fine.of_scrB h) text text.size).len
    omega
  · simp [noScr]

end Go.Proofs.YtbpopkaafellgaaDoor
