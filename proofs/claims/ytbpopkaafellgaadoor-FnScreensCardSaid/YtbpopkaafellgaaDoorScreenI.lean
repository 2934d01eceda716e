/- Walks of the program's copyScreen, show (within a row), TabTo. -/
import Derived.Test.YtbpopkaafellgaaDoorScreenV
namespace Go.Proofs.YtbpopkaafellgaaDoor
open Go.RowKit

/-- A screen behind a pointer, its rows at a known place. -/
def ScrPA (w : World) (base g b off cap : Nat) (s : Scr) : Prop :=
  base ≤ g ∧ g ≠ b ∧ Blk w g 26 #[.int .i64 s.row, .int .i64 s.col, .slice (some ⟨b, off, none⟩) s.rows.length cap] ∧ OwnO w base b off cap s.rows
theorem ScrPA.p {w : World} {base g b off cap : Nat} {s : Scr} (h : ScrPA w base g b off cap s) : ScrP w base g s := ⟨h.1, b, off, cap, h.2.1, h.2.2.1, h.2.2.2⟩
theorem ScrPA.below {w w' : World} {base g b off cap : Nat} {s : Scr} (h : ScrPA w base g b off cap s) (hb : Below w.heap.size w w') : ScrPA w' base g b off cap s :=
  ⟨h.1, h.2.1, h.2.2.1.below hb h.2.2.1.lt, h.2.2.2.below hb⟩
theorem ScrPA.mono {w : World} {base base' g b off cap : Nat} {s : Scr} (h : ScrPA w base g b off cap s) (hb : base' ≤ base) : ScrPA w base' g b off cap s :=
  ⟨by have := h.1; omega, h.2.1, h.2.2.1, ⟨by have := h.2.2.2.1; omega, h.2.2.2.2⟩⟩
theorem ScrPA.own {w : World} {base g b cap : Nat} {s : Scr} (h : ScrPA w base g b 0 cap s) : OwnScr w base (.agg #[.int .i64 s.row, .int .i64 s.col, .slice (some ⟨b, 0, none⟩) s.rows.length cap]) s :=
  ⟨_, _, rfl, h.2.2.2.to_own⟩

set_option maxHeartbeats 1000000 in
theorem copyScreen_any (s : Scr) (v : Value) (lo hi : Nat) (w : World) (hx : ScrR w lo hi v s) (hhi : hi ≤ w.heap.size) (h0 : 0 < s.rows.length) (hs : s.rows.length ≤ 1048576) :
    Calls Tryd.prog 18 #[v] w fun e w' => e = .returned (.pointer (some ⟨w.heap.size, 0, none⟩)) ∧ (∃ b cap, ScrPA w' w.heap.size w.heap.size b 0 cap s) ∧ Below w.heap.size w w' := by
  obtain ⟨A, c, rfl, hA⟩ := hx
  obtain ⟨b, off, rfl, _, hb, hc⟩ := hA.2 h0
  have hbo := fun o => (Below.refl w.heap.size w).alloc (Nat.le_refl _) o
  have HC := Lib.hid (fun o j (hj : j < s.rows.length) => (World.cell?_of_block ((hbo o).block b (by omega))).trans (hc j hj))
  have HD := Lib.hid (hbo (.cells #[.int .i64 s.row, .int .i64 s.col, .slice (some ⟨b, off, none⟩) s.rows.length c] 26))
  have HB := Lib.hid (Blk.new w 26 #[.int .i64 s.row, .int .i64 s.col, .slice (some ⟨b, off, none⟩) s.rows.length c])
  clear hA hc hbo
  go_enter Tryd.func18, Tryd.ntmps18
  go_wp2_with fail
  refine (Tryd.slices_Clone_string b off s.rows.length c s.rows _ (Nat.le_refl _) (by omega) (HC.out _)).mono ?_
  rintro e1 w1 ⟨v1, rfl, ho, -, hb1⟩
  rw [List.take_length] at ho
  obtain ⟨A1, c1, rfl⟩ : ∃ A1 c1, v1 = .slice A1 s.rows.length c1 := by
    rcases ho.2 with ⟨_, h1⟩ | ⟨g, cap, cur, hv, _⟩
    · omega
    · exact ⟨_, _, hv⟩
  obtain ⟨b1, rfl, hO⟩ := OwnO.of_own ho h0
  have B1 := HB.out.below hb1 HB.out.lt
  have D1 := HD.out.trans (hb1.mono HD.out.size)
  have h1 := hO.1
  rw [World.heap_size_alloc'] at h1
  have f := B1.cell
  have z := B1.frozen
  have HB1 := Lib.hid B1; have HD1 := Lib.hid D1; have HO := Lib.hid hO
  clear B1 D1 hO hb1 ho
  go_wp2_with fail
  go_ret
  refine ⟨rfl, ⟨b1, c1, Nat.le_refl _, by omega, ?_, ?_⟩, ?_⟩
  · exact HB1.out.set_ 2 _
  · have := HO.out.far (p := ⟨w.heap.size, 2, none⟩) (by simp; omega) (.slice (some ⟨b1, 0, none⟩) s.rows.length c1)
    exact ⟨by omega, this.2⟩
  · exact HD1.out.setCell (p := ⟨w.heap.size, 2, none⟩) (by simp) _

theorem encode_one (c : Nat) (hc : c < 128) : Utf8.encode (c : Int) = ⟨#[UInt8.ofNat c]⟩ := by
  have hv : Utf8.valid (c : Int) = true := by unfold Utf8.valid; simp; omega
  unfold Utf8.encode
  simp [hv, hc]

set_option maxHeartbeats 2000000 in
set_option maxRecDepth 100000 in
theorem show_stay (s : Scr) (c : Nat) (base g b off cap : Nat) (w : World) (hp : ScrPA w base g b off cap s) (hb : base ≤ w.heap.size) (hf : Fine s) (hc : c ≤ 127) (h20 : s.col + 1 < 20) :
    Calls Tryd.prog 20 #[.pointer (some ⟨g, 0, none⟩), .int .u8 c] w fun e w' => e = .returned (.tuple #[]) ∧ ScrPA w' base g b off cap (putCh s (UInt8.ofNat c)) ∧ Below base w w' := by
  obtain ⟨hbg, hne, hB, hO⟩ := hp
  have f := hB.cell
  obtain ⟨k, hk⟩ := Int.eq_ofNat_of_zero_le hf.row0
  obtain ⟨j, hj⟩ := Int.eq_ofNat_of_zero_le hf.col0
  obtain ⟨row, col, rows⟩ := s
  dsimp only at *
  subst hk hj
  have hl := hf.len; have h5 := hf.row5; have h19 := hf.col19
  dsimp only at hl h5 h19
  have hkl : k < rows.length := by omega
  have hrow := hO.get hkl
  have hX : (rows.getD k ByteArray.empty).size = 20 := hf.size _ (by
    rw [List.getD_eq_getElem?_getD, List.getElem?_eq_getElem hkl]
    exact List.getElem_mem _)
  have HF := Lib.hid hf; have HB := Lib.hid hB; have HO := Lib.hid hO
  have hki : (k : Int) < (rows.length : Int) := by omega
  have HL := Lib.hid hl
  have l6 : rows.length ≤ 6 := by omega
  have g6 : 6 ≤ rows.length := by omega
  clear hf hB hO hl
  generalize hXX : rows.getD k ByteArray.empty = X at *
  have HXX := Lib.hid hXX
  have HX := Lib.hid hX
  have x1 : X.size ≤ 20 := by omega
  have x2 : 20 ≤ X.size := by omega
  clear hX hXX
  go_enter Tryd.func20, Tryd.ntmps20
  go_wp2_with fail
  go_quiet (fail)
  have HB0 := Lib.hid (HB.out.drewN nq)
  have HO0 := Lib.hid (show OwnO (w.drewN nq) base b off cap rows from HO.out)
  have HD0 := Lib.hid ((below_drewN' w nq).mono hb)
  generalize w.drewN nq = w0 at *
  clear HB HO f hrow
  have f := HB0.out.cell
  have hck := HO0.out.get hkl
  rw [HXX.out] at hck
  have hzk := HO0.out.frozen (off + k)
  have hw1 : IntKind.i64.wrap ((j : Int) + 1) = (j : Int) + 1 := IntWalk.i64_in _ (by omega)
  have hj0 : (0 : Int) ≤ (j : Int) := by omega
  have hj1 : (j : Int) ≤ (X.size : Int) := by omega
  have hj2 : (j : Int) + 1 ≤ (X.size : Int) := by omega
  have hm1 : ¬ (9223372036854775807 < min j X.size + 1) := by omega
  have hm2 : ¬ (9223372036854775807 < min j X.size + 1 + (X.size - (j + 1))) := by omega
  have hen := encode_one c (by omega)
  go_wp2_with fail
  go_region
  have B2 : Blk (w0.setCell ⟨b, off + k, none⟩ (.string (X.extract 0 j ++ ⟨#[UInt8.ofNat c]⟩ ++ X.extract (j + 1) X.size))).drew g 26 #[.int .i64 k, .int .i64 j, .slice (some ⟨b, off, none⟩) rows.length cap] :=
    HB0.out.far (p := ⟨b, off + k, none⟩) hne _
  have O2 : OwnO (w0.setCell ⟨b, off + k, none⟩ (.string (X.extract 0 j ++ ⟨#[UInt8.ofNat c]⟩ ++ X.extract (j + 1) X.size))).drew base b off cap (rows.set k (putAt X j (UInt8.ofNat c))) :=
    HO0.out.put hkl (putAt X j (UInt8.ofNat c))
  have D2 : Below base w (w0.setCell ⟨b, off + k, none⟩ (.string (X.extract 0 j ++ ⟨#[UInt8.ofNat c]⟩ ++ X.extract (j + 1) X.size))).drew :=
    (HD0.out.setCell (p := ⟨b, off + k, none⟩) HO0.out.1 _).drew
  generalize (w0.setCell ⟨b, off + k, none⟩ (.string (X.extract 0 j ++ ⟨#[UInt8.ofNat c]⟩ ++ X.extract (j + 1) X.size))).drew = w2 at *
  clear f hck hzk hm1 hm2 hen HB0 HO0 HD0 hw1
  have hRR : rows.getD k ByteArray.empty = X := HXX.out
  have HPC := Lib.hid (show putCh ⟨k, j, rows⟩ (UInt8.ofNat c) = ⟨k, (j : Int) + 1, rows.set k (putAt X j (UInt8.ofNat c))⟩ by
    unfold putCh setRow
    simp only [Int.toNat_natCast, hRR]
    rw [if_neg (by omega)])
  clear hRR
  have f := B2.cell
  have z := B2.frozen
  have HB2 := Lib.hid B2; have HO2 := Lib.hid O2; have HD2 := Lib.hid D2
  have e20 : ((j : Int) + 1 == 20) = false := by rw [beq_eq_false_iff_ne]; omega
  clear B2 O2 D2
  go_wp2_with fail
  go_end0
  rw [HPC.out]
  refine ⟨rfl, ⟨hbg, hne, ?_, ?_⟩, ?_⟩
  · show Blk _ g 26 #[.int .i64 k, .int .i64 ((j : Int) + 1), .slice (some ⟨b, off, none⟩) (rows.set k (putAt X j (UInt8.ofNat c))).length cap]
    rw [List.length_set]
    exact HB2.out.set_ 1 _
  · exact HO2.out.far (p := ⟨g, 1, none⟩) (fun h => hne h.symm) _
  · exact HD2.out.setCell (p := ⟨g, 1, none⟩) hbg _

def colAt (w : World) (g : Nat) : Int := match w.cell? ⟨g, 1, none⟩ with
  | some (.int _ n) => n
  | _ => 0
theorem ScrPA.colAt {w : World} {base g b off cap : Nat} {s : Scr} (h : ScrPA w base g b off cap s) : colAt w g = s.col := by
  unfold Go.Proofs.YtbpopkaafellgaaDoor.colAt
  rw [h.2.2.1.cell]
  rfl

/-- What stands in TabTo: the parameter's block, the result's, the copy. -/
def TabSt (w0 w : World) (cs : Array Value) (g b cap : Nat) (s : Scr) : Prop :=
  CopyHeld w0 cs w ∧ ScrPA w (w0.heap.size + 1 + 1) g b 0 cap s

theorem CopyHeld.below' {w0 w w' : World} {cs : Array Value} (h : CopyHeld w0 cs w) (hb : Below (w0.heap.size + 1 + 1) w w') : CopyHeld w0 cs w' :=
  ⟨h.1.below hb (by omega), h.2.1.below hb (by omega), h.2.2.trans (hb.mono (by omega))⟩

/-- The screen is stored into the result's block. -/
theorem TabSt.ends {w0 w : World} {cs : Array Value} {g b cap : Nat} {s : Scr} (h : TabSt w0 w cs g b cap s) {u0 u1 u2 : Value} :
    OwnScr (((w.setCell ⟨w0.heap.size + 1, 0, none⟩ u0).setCell ⟨w0.heap.size + 1, 1, none⟩ u1).setCell ⟨w0.heap.size + 1, 2, none⟩ u2) w0.heap.size (.agg #[.int .i64 s.row, .int .i64 s.col, .slice (some ⟨b, 0, none⟩) s.rows.length cap]) s := by
  have hO := h.2.2.2.2
  have h1 := hO.1
  have hO2 := ((hO.far (p := ⟨w0.heap.size + 1, 0, none⟩) (by simp; omega) u0).far (p := ⟨w0.heap.size + 1, 1, none⟩) (by simp; omega) u1).far (p := ⟨w0.heap.size + 1, 2, none⟩) (by simp; omega) u2
  exact ⟨_, _, rfl, own_mono hO2.to_own (by omega)⟩

set_option maxHeartbeats 2000000 in
theorem implTabTo_any (s : Scr) (col : Int) (v : Value) (lo hi : Nat) (w : World) (hx : ScrR w lo hi v s) (hhi : hi ≤ w.heap.size) (hs : ScrSmall s) :
    Calls Tryd.prog 10 #[v, .int .i64 col] w fun e w' => ∃ v', e = .returned v' ∧ OwnScr w' w.heap.size v' (tabToP s col) ∧ Below w.heap.size w w' := by
  obtain ⟨A, c, rfl, hA⟩ := id hx
  have H0 := CopyHeld.start w #[.int .i64 s.row, .int .i64 s.col, .slice A s.rows.length c]
  have HX := Lib.hid hx; have HS := Lib.hid hs
  have HH0 := Lib.hid H0
  clear hx hs hA H0
  go_enter Tryd.func10, Tryd.ntmps10
  go_wp2_with fail
  refine (implScreenOk_any s _ lo hi _ (HX.out.below HH0.out.below0 hhi) (Nat.le_trans hhi HH0.out.below0.size) HS.out).mono ?_
  rintro e1 w1 ⟨rfl, hb1⟩
  have R1 := HH0.out.below hb1
  clear hb1 HH0
  have f := R1.1.cell
  have f1 := R1.2.1.cell
  have z1 := R1.2.1.frozen
  have HR1 := Lib.hid R1
  clear R1
  cases hb : scrB s
  · have HP := Lib.hid (show tabToP s col = noScr by unfold tabToP; rw [hb]; rfl)
    clear hb
    go_wp2_with fail
    refine bodyPost_ret (v := .agg #[.int .i64 0, .int .i64 0, .slice none 0 0]) (by simp [results, Tryd.results10, go_sem, f1]) rfl ⟨_, rfl, ?_, ?_⟩
    · rw [HP.out]; exact ⟨none, 0, rfl, World.ownsRow_nil _ _ _ _⟩
    · iterate 3 (with_reducible refine Below.setCell ?_ (by simp; try omega) _)
      exact HR1.out.below0
  · have hF := Fine.of_scrB hb
    have c0 := hF.col0; have c19 := hF.col19
    have HF := Lib.hid hF
    have HB := Lib.hid hb
    have hl6 : s.rows.length ≤ 1048576 := by have := hF.len; omega
    have hl0 : 0 < s.rows.length := by have := hF.len; omega
    clear hb hF
    go_wp2_with fail
    refine (copyScreen_any s _ lo hi _ (HX.out.below HR1.out.below0 hhi) (Nat.le_trans hhi HR1.out.below0.size) hl0 hl6).mono ?_
    rintro e2 w2 ⟨rfl, ⟨b, cap, hP⟩, hb2⟩
    have R2 : TabSt w w2 #[.int .i64 s.row, .int .i64 s.col, .slice A s.rows.length c] w1.heap.size b cap s := ⟨HR1.out.below hb2, hP.mono HR1.out.size⟩
    clear f f1 z1 hP hb2
    have HR2 := Lib.hid R2; clear R2
    have g2 := HR1.out.size
    generalize w1.heap.size = g at *
    obtain ⟨m, hm, hP⟩ : ∃ m : Nat, ((20 ≤ col ∧ m = 0) ∨ (col < 20 ∧ col ≤ s.col ∧ m = 0) ∨ (col < 20 ∧ s.col < col ∧ (m : Int) = col - s.col)) ∧ tabToP s col = putsTo s m := by
      by_cases hc : 20 ≤ col ∨ col ≤ s.col
      · exact ⟨0, by omega, by unfold tabToP; rw [HB.out, if_pos rfl, if_pos hc]; rfl⟩
      · exact ⟨(col - s.col).toNat, by omega, by unfold tabToP; rw [HB.out, if_pos rfl, if_neg hc]⟩
    have HM := Lib.hid hm; have HP := Lib.hid hP
    have hm19 : s.col + m ≤ 19 := by omega
    clear hm hP
    go_wp2_with fail
    go_loopw [22] (fun _ wr => ∃ k : Nat, k ≤ m ∧ TabSt w wr #[.int .i64 s.row, .int .i64 s.col, .slice A s.rows.length c] g b cap (putsTo s k)) (fun _ wr => (20 - colAt wr g).toNat)
    case atStart => exact ⟨0, Nat.zero_le _, HR2.out⟩
    case round =>
      obtain ⟨k, hk, hSt⟩ := hrel
      obtain ⟨hcol, hFk⟩ := putsTo_col HF.out k (by omega)
      have HK := Lib.hid (show putsTo s (k + 1) = putCh (putsTo s k) 32 from rfl)
      have HC1 := Lib.hid (fun h : k < m => (putsTo_col HF.out (k + 1) (by omega)).1)
      obtain ⟨S2, hS2⟩ : ∃ S2, S2 = putsTo s (k + 1) := ⟨_, rfl⟩
      have HS2 := Lib.hid hS2
      rw [← hS2] at HK HC1
      clear hS2
      obtain ⟨S1, hS1⟩ : ∃ S1, S1 = putsTo s k := ⟨_, rfl⟩
      have HS1 := Lib.hid hS1
      rw [← hS1] at HK hcol hFk hSt
      clear hS1
      have hA1 := hSt.2
      have B1 := hA1.2.2.1
      have f := B1.cell
      have HST := Lib.hid hSt; have HFK := Lib.hid hFk; have HCOL := Lib.hid hcol
      clear hSt hFk hA1 B1
      have hm := HM.out
      by_cases hlt : k < m
      · have t1 : decide (col < 20) = true := by rw [decide_eq_true_eq]; omega
        have t2 : decide (S1.col < col) = true := by rw [decide_eq_true_eq]; omega
        have h20 : S1.col + 1 < 20 := by omega
        clear hm hcol
        go_wp2_with fail
        refine (show_stay S1 32 (w.heap.size + 1 + 1) g b 0 cap _ HST.out.2 HST.out.1.size HFK.out (by omega) h20).mono ?_
        rintro e3 w3 ⟨rfl, hp3, hb3⟩
        rw [show UInt8.ofNat 32 = 32 from rfl, ← HK.out] at hp3
        have HST3 : Hid (TabSt w w3 #[.int .i64 s.row, .int .i64 s.col, .slice A s.rows.length c] g b cap S2) := ⟨HST.out.1.below' hb3, hp3⟩
        have HMM := Lib.hid (show (20 - colAt w3 g).toNat < (20 - colAt wr g).toNat by
          rw [hp3.colAt, HST.out.2.colAt, HC1.out hlt, HCOL.out]; omega)
        clear hp3 hb3 f
        go_wp2_with fail
        go_roundw
        case rel => exact ⟨k + 1, by omega, by rw [← HS2.out]; exact HST3.out⟩
        case measure => exact HMM.out
      · have hkm : k = m := by omega
        have HE := Lib.hid (show tabToP s col = S1 by rw [HP.out, HS1.out, hkm])
        have f1 := HST.out.1.2.1.cell
        have z1 := HST.out.1.2.1.frozen
        have hb0 := HST.out.2.2.2.2.1
        have hg0 := HST.out.2.1
        rcases (show 20 ≤ col ∨ (col < 20 ∧ col ≤ S1.col) by omega) with h20 | ⟨h20, hle⟩
        · have t1 : decide (col < 20) = false := by rw [decide_eq_false_iff_not]; omega
          clear hm hcol h20 hkm hlt hk
          go_wp2_with fail
          refine bodyPost_ret (v := .agg #[.int .i64 S1.row, .int .i64 S1.col, .slice (some ⟨b, 0, none⟩) S1.rows.length cap]) (by simp [results, Tryd.results10, go_sem, f1]) rfl ⟨_, rfl, ?_, ?_⟩
          · rw [HE.out]
            exact TabSt.ends HST.out
          · iterate 3 (with_reducible refine Below.setCell ?_ (by simp; try omega) _)
            exact HST.out.1.below0
        · have t1 : decide (col < 20) = true := by rw [decide_eq_true_eq]; omega
          have t2 : decide (S1.col < col) = false := by rw [decide_eq_false_iff_not]; omega
          clear hm hcol h20 hkm hlt hk hle
          go_wp2_with fail
          refine bodyPost_ret (v := .agg #[.int .i64 S1.row, .int .i64 S1.col, .slice (some ⟨b, 0, none⟩) S1.rows.length cap]) (by simp [results, Tryd.results10, go_sem, f1]) rfl ⟨_, rfl, ?_, ?_⟩
          · rw [HE.out]
            exact TabSt.ends HST.out
          · iterate 3 (with_reducible refine Below.setCell ?_ (by simp; try omega) _)
            exact HST.out.1.below0

end Go.Proofs.YtbpopkaafellgaaDoor
