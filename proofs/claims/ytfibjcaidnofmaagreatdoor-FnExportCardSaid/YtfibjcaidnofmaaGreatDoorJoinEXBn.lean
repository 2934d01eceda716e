/- Killing, by the reference. -/
import Derived.Test.YtfibjcaidnofmaaGreatDoorJoinEXBm
import Derived.Test.YtfibjcaidnofmaaGreatDoorJoinEXBe
import Derived.Test.YtfibjcaidnofmaaGreatDoorJoinEXAg
namespace Go.Proofs.YtfibjcaidnofmaaGreatDoor
open Go.RowKit

theorem takeR {w : World} {lo hi : Nat} {A : Option Addr} {n : Nat} {xs : List ByteArray} (h : StrR w lo hi A n xs) {k : Nat} (hk : k ≤ n) : StrR w lo hi A k (xs.take k) := by
  refine ⟨by rw [List.length_take, h.1]; omega, fun hn => ?_⟩
  obtain ⟨b, off, e, h1, h2, hc⟩ := h.2 (by omega)
  refine ⟨b, off, e, h1, h2, fun j hj => ?_⟩
  rw [hc j (by omega), List.getD_eq_getElem?_getD, List.getD_eq_getElem?_getD, List.getElem?_take, if_pos hj]
/-- A node of a tree of one's own. -/
theorem node_own_at {w : World} {lo hi : Nat} {A : Option Addr} {c : Nat} {ts : List TyNode} (h : Own (Sh.row 32 shNode) w lo hi [.slice A ts.length c] ts) {j : Nat} (hj : j < ts.length) :
    ∃ g A1 c1, A = some ⟨g, 0, none⟩ ∧ lo ≤ g ∧ g < hi ∧ w.cell? ⟨g, j * 3, none⟩ = some (.string (ts.getD j shNode.d).1) ∧ w.cell? ⟨g, j * 3 + 1, none⟩ = some (.slice A1 (ts.getD j shNode.d).2.1.length c1) ∧ w.cell? ⟨g, j * 3 + 2, none⟩ = some (.string (ts.getD j shNode.d).2.2) ∧
      StrR w lo hi A1 (ts.getD j shNode.d).2.1.length (ts.getD j shNode.d).2.1 ∧ (ts.getD j shNode.d).2.1.length ≤ c1 := by
  obtain ⟨F, hO, hN, hr⟩ := h
  obtain ⟨g, d, rfl, hlot, hds, _, hval, rfl⟩ := Lot.start hO hN (by omega)
  have hg := hr g (List.mem_cons_self ..)
  have hx : (d[j]!).2.2 = ts.getD j shNode.d := by
    rw [← hval, List.getD_eq_getElem?_getD, List.getElem?_map, Array.getElem?_toList, getElem!_pos d j (by omega), Array.getElem?_eq_getElem (by omega)]; rfl
  have hrg := hlot.range (j := j) (by omega)
  obtain ⟨h1, h2⟩ := hlot.at_ (j := j) (by omega)
  rw [hx] at h1
  generalize ts.getD j shNode.d = x at *
  have hF : ∀ b ∈ (d[j]!).2.1, lo ≤ b ∧ b < hi := fun b hb => hr b (List.mem_cons_of_mem _ (List.mem_flatMap.2 ⟨_, get_in (show j < d.size by omega), hb⟩))
  generalize d[j]! = q at *
  obtain ⟨us, Fq, y⟩ := q
  dsimp only at h1 hrg hF
  have hR := shNode.O_R h1 hF
  obtain ⟨x0, x1, x2⟩ := x
  obtain ⟨A1, c1, F1, rfl, _, h3⟩ := shNode_O.1 h1
  obtain ⟨A1', c1', e, hst⟩ := shNode_strR hR
  simp only [List.cons.injEq, Value.slice.injEq] at e
  simp only [true_and, and_true] at e
  obtain ⟨rfl, rfl⟩ := e
  obtain ⟨ho, _⟩ := own_of_O h3
  refine ⟨g, A1, c1, rfl, hg.1, hg.2, hrg 0 _ rfl, hrg 1 _ rfl, hrg 2 _ rfl, hst, ?_⟩
  rcases ho.2 with ⟨e1, e2⟩ | ⟨g', cap, cur, e1, _, _, hn, _⟩
  · show x1.length ≤ _; omega
  · injection e1 with e1 e2 e3
    show x1.length ≤ _; omega

set_option maxHeartbeats 1000000 in
theorem l03Begins_any (A B : Option Addr) (c d : Nat) (xs ys : List ByteArray) (lo hi lo' hi' : Nat) (w : World) (h : StrR w lo hi A xs.length xs) (hc : xs.length ≤ c) (h' : StrR w lo' hi' B ys.length ys) (hhi : hi ≤ w.heap.size) (hhi' : hi' ≤ w.heap.size) (_ : xs.length ≤ 1048576) (hm : ys.length ≤ 1048576) :
    Calls Tryz.prog 233 #[.slice A xs.length c, .slice B ys.length d] w fun e w' => ∃ b : Bool, e = .returned (.bool b) ∧ Below w.heap.size w w' := by
  by_cases hl : ys.length ≤ xs.length
  · have hle : (ys.length : Int) ≤ (xs.length : Int) := by omega
    have hlc : ¬ (c : Int) < (ys.length : Int) := by omega
    have HS := Lib.hid (fun C => sameSubs_n A B C d (xs.take ys.length) ys lo hi lo' hi' w (by
      rw [List.length_take, Nat.min_eq_left hl]; exact takeR h hl) h' hhi hhi' (by rw [List.length_take]; omega) hm)
    rw [List.length_take, Nat.min_eq_left hl] at HS
    clear h h'
    go_enter Tryz.func233, Tryz.ntmps233
    go_wp2_with fail
    refine (HS.out c).mono ?_
    rintro e1 w1 ⟨rfl, hb1⟩
    have HB := Lib.hid hb1
    clear hb1
    go_wp2_with fail
    go_ret
    exact ⟨_, rfl, HB.out⟩
  · have hle : ¬ (ys.length : Int) ≤ (xs.length : Int) := by omega
    clear h h'
    go_enter Tryz.func233, Tryz.ntmps233
    go_wp2_with fail
    go_ret
    exact ⟨.inl rfl, Below.refl _ _⟩

set_option maxHeartbeats 1000000 in
theorem l03In_any (A B : Option Addr) (c d : Nat) (nm0 vl nm : ByteArray) (xs ys : List ByteArray) (lo hi lo' hi' : Nat) (w : World) (h : StrR w lo hi A xs.length xs) (hc : xs.length ≤ c) (h' : StrR w lo' hi' B ys.length ys) (hhi : hi ≤ w.heap.size) (hhi' : hi' ≤ w.heap.size) (hn : xs.length ≤ 1048576) (hm : ys.length ≤ 1048576) :
    Calls Tryz.prog 209 #[.agg #[.string nm0, .slice A xs.length c, .string vl], .string nm, .slice B ys.length d] w fun e w' => ∃ b : Bool, e = .returned (.bool b) ∧ Below w.heap.size w w' := by
  have hb := (Below.refl w.heap.size w).alloc (Nat.le_refl _) (.cells #[.string nm0, .slice A xs.length c, .string vl] 32)
  have HS := Lib.hid (l03Begins_any A B c d xs ys lo hi lo' hi' _ (h.below hb hhi) hc (h'.below hb hhi') (Nat.le_trans hhi hb.size) (Nat.le_trans hhi' hb.size) hn hm)
  have HB := Lib.hid hb
  clear h h' hb
  by_cases he : nm0 = nm
  · subst he
    go_enter Tryz.func209, Tryz.ntmps209
    go_wp2_with fail
    refine HS.out.mono ?_
    rintro e1 w1 ⟨b, rfl, hb1⟩
    have HB1 := Lib.hid (HB.out.trans (hb1.mono HB.out.size))
    clear hb1
    go_wp2_with fail
    go_ret
    exact ⟨_, rfl, HB1.out⟩
  · have hne : (nm0.toList == nm.toList) = false := by
      rw [beq_eq_false_iff_ne, Lib.toList_data, Lib.toList_data]
      intro e
      exact he (ByteArray.ext (Array.toList_inj.1 e))
    go_enter Tryz.func209, Tryz.ntmps209
    go_wp2_with fail
    go_ret
    exact ⟨_, rfl, HB.out⟩

set_option maxHeartbeats 8000000 in
set_option maxRecDepth 100000 in
theorem l03Kill_any (A : Option Addr) (c lo hi : Nat) (ts : List TyNode) (nm : ByteArray) (B : Option Addr) (d lo' hi' : Nat) (ys : List ByteArray) (w : World) (h : Own shTree w lo hi [.slice A ts.length c] ts) (hy : StrR w lo' hi' B ys.length ys) (hhi : hi ≤ w.heap.size) (hhi' : hi' ≤ w.heap.size) (hs : SmT ts) (hys : ys.length ≤ 1048576) :
    Calls Tryz.prog 175 #[.agg #[.slice A ts.length c], .string nm, .slice B ys.length d] w fun e w' => ∃ A' c' ts', e = .returned (.agg #[.slice A' ts'.length c']) ∧ Own shTree w' w.heap.size w'.heap.size [.slice A' ts'.length c'] ts' ∧ (∀ x ∈ ts', x ∈ ts) ∧ ts'.length ≤ ts.length ∧ Below w.heap.size w w' := by
  have hb1 := (Below.refl w.heap.size w).alloc (Nat.le_refl _) (.cells #[.slice A ts.length c] 26)
  have hb2 := hb1.alloc (by simp) (.cells #[.slice none 0 0] 26)
  have B1 := Lib.hid ((Blk.new w 26 #[.slice A ts.length c]).alloc (.cells #[.slice none 0 0] 26))
  have B2 := Lib.hid (show Blk ((w.alloc (.cells #[.slice A ts.length c] 26)).alloc (.cells #[.slice none 0 0] 26)) (w.heap.size + 1) 26 #[.slice none 0 0] from by
    have := Blk.new (w.alloc (.cells #[.slice A ts.length c] 26)) 26 #[.slice none 0 0]
    simpa using this)
  have hz2 : ((w.alloc (.cells #[.slice A ts.length c] 26)).alloc (.cells #[.slice none 0 0] 26)).heap.size = w.heap.size + 2 := by simp
  have HN := Lib.hid h; have HY := Lib.hid hy; have HS := Lib.hid hs; have HB2 := Lib.hid hb2
  have hn := hs.1
  clear h hy hs hb1 hb2
  go_enter Tryz.func175, Tryz.ntmps175
  go_upto_region 1 with fail
  generalize (w.alloc (.cells #[.slice A ts.length c] 26)).alloc (.cells #[.slice none 0 0] 26) = wa at *
  have HL := Lib.hid (lit0_own (t := 32) (k := shNode.k) wa (w.heap.size + 2) (by omega))
  go_wp2_with fail
  have hbL := (Below.refl wa.heap.size wa).alloc (Nat.le_refl _) (.cells #[] 32)
  have B1L := Lib.hid (B1.out.alloc (.cells #[] 32)); have B2L := Lib.hid (B2.out.alloc (.cells #[] 32))
  have HBL := Lib.hid (HB2.out.trans (hbL.mono (by omega)))
  have hzL : (wa.alloc (.cells #[] 32)).heap.size = w.heap.size + 3 := by simp; omega
  clear hbL B1 B2 HB2
  rw [hz2] at HL
  go_loopw [7, 8] (fun v i wr => ∃ (k : Nat) (zs : List TyNode), k ≤ ts.length ∧ i = .int .i64 k ∧ zs.length ≤ k ∧ (∀ x ∈ zs, x ∈ ts) ∧ RdRow shNode 32 wr (w.heap.size + 2) 0 w.heap.size v zs ∧ Below (w.heap.size + 2) (wa.alloc (.cells #[] 32)) wr) (fun _ i _ => ts.length - (intOf i).toNat)
  case atStart => exact ⟨0, [], Nat.zero_le _, rfl, Nat.le_refl _, (fun x hx => by cases hx), RdRow.nil_ HL.out, Below.refl _ _⟩
  case round =>
    obtain ⟨k, zs, hk, rfl, hzl, hzs, hrd, hb⟩ := hrel
    have B1r := B1L.out.below hb (by omega)
    have HB1r := Lib.hid B1r
    have HB2r := Lib.hid (B2L.out.below hb (by omega))
    have HZS := Lib.hid hzs; have HRD := Lib.hid hrd
    have hbw := HBL.out.trans (hb.mono (by omega))
    have hszr : w.heap.size + 3 ≤ wr.heap.size := by have := hb.size; omega
    have HBW := Lib.hid hbw; have HBR := Lib.hid hb
    have f1 := B1r.cell
    clear hzs hrd hb B1r
    by_cases hlt : k < ts.length
    · obtain ⟨g, A1, c1, rfl, hg1, hg2, e0, e1, e2, hst, hc1⟩ := node_own_at (HN.out.below hbw hhi) hlt
      have HX := Lib.hid (HS.out.2 _ (getD_in (d := shNode.d) hlt))
      have HXM := Lib.hid (show ts.getD k shNode.d ∈ ts from getD_in hlt)
      generalize ts.getD k shNode.d = X at *
      obtain ⟨y0, y1, y2⟩ := X
      dsimp only at e0 e1 e2 hst hc1
      have hn1 : y1.length ≤ 1048576 := HX.out.1
      have HIN := Lib.hid (l03In_any A1 B c1 d y0 y2 nm y1 ys lo hi lo' hi' wr hst hc1 (HY.out.below hbw hhi') (by omega) (by omega) hn1 hys)
      have HST := Lib.hid hst
      have i1 : (k : Int) < (ts.length : Int) := by omega
      clear hst hbw
      go_wp2_with fail
      refine HIN.out.mono ?_
      rintro e5 w5 ⟨b5, rfl, hb5⟩
      have HB15 := Lib.hid (HB1r.out.below hb5 HB1r.out.lt)
      have HRD5 := Lib.hid (HRD.out.below hb5 (by omega))
      have E5 := Lib.hid (show w5.cell? ⟨g, k * 3, none⟩ = some (.string y0) ∧ w5.cell? ⟨g, k * 3 + 1, none⟩ = some (.slice A1 y1.length c1) ∧ w5.cell? ⟨g, k * 3 + 2, none⟩ = some (.string y2) from ⟨(hb5.cell (p := ⟨g, _, none⟩) (by dsimp only; omega)).trans e0, (hb5.cell (p := ⟨g, _, none⟩) (by dsimp only; omega)).trans e1, (hb5.cell (p := ⟨g, _, none⟩) (by dsimp only; omega)).trans e2⟩)
      have HST5 := Lib.hid (HST.out.below hb5 (by omega))
      have HBR5 := Lib.hid (HBR.out.trans (hb5.mono (by omega)))
      have hs5 := hb5.size
      clear hb5 e0 e1 e2 f1
      have f1 := HB15.out.cell
      obtain ⟨e0, e1, e2⟩ := E5.out
      cases b5 with
      | true =>
        go_wp2_with fail
        go_roundw
        case rel => exact ⟨k + 1, zs, by omega, by go_num, by omega, HZS.out, HRD5.out, HBR5.out⟩
        case measure => simp [intOf]; omega
      | false =>
        have hba := (Below.refl w5.heap.size w5).alloc (Nat.le_refl _) (.cells #[.string y0, .slice A1 y1.length c1, .string y2] 32)
        have HRA := Lib.hid (HRD5.out.below hba (by omega))
        have HN2 := Lib.hid (show ∀ (j : Nat) (u : Value), ([.string y0, .slice A1 y1.length c1, .string y2] : List Value)[j]? = some u → (w5.alloc (.cells #[.string y0, .slice A1 y1.length c1, .string y2] 32)).cell? ⟨w5.heap.size, 0 + j, none⟩ = some u from fun j u hj => by rw [Nat.zero_add]; exact ((Blk.new w5 32 #[.string y0, .slice A1 y1.length c1, .string y2]).cell j).trans (by simpa using hj))
        have HE2 := Lib.hid (show ∀ j, j < [(y0, y1, y2)].length → shNode.R (w5.alloc (.cells #[.string y0, .slice A1 y1.length c1, .string y2] 32)) 0 w.heap.size (elemAt shNode.k [.string y0, .slice A1 y1.length c1, .string y2] j) ([(y0, y1, y2)].getD j shNode.d) from fun j hj => by
          obtain rfl : j = 0 := by simpa using hj
          exact shNode.R_below (strR_shNode (x := (y0, y1, y2)) (HST5.out.more (Nat.zero_le _) hhi)) hba (by omega))
        have hz5 : (w5.alloc (.cells #[.string y0, .slice A1 y1.length c1, .string y2] 32)).heap.size = w5.heap.size + 1 := by simp
        have HBA := Lib.hid (HBR5.out.trans (hba.mono (by omega)))
        clear hba
        go_wp2_with (at_builtin; refine wpList_app_rd (s := shNode) rfl (.tmp 26) (.tmp 32) 24 rfl Tryz.underlying24 rfl (by decide) (by decide) infoNode _ (w.heap.size + 2) 0 w.heap.size _ zs [(y0, y1, y2)] w5.heap.size 0 1 [.string y0, .slice A1 y1.length c1, .string y2] rfl HRA.out rfl rfl HN2.out (by simp [Value.oneCell']) HE2.out (by simp; omega) (by omega) (by rw [hz5]; omega) ?_; intro v8 w8 hr8 hb8)
        go_roundw
        case rel => exact ⟨k + 1, zs ++ [(y0, y1, y2)], by omega, by go_num, by rw [List.length_append]; simp; omega, (fun x hx => by
          rcases List.mem_append.1 hx with hx | hx
          · exact HZS.out x hx
          · rw [List.mem_singleton.1 hx]; exact HXM.out), hr8, HBA.out.trans hb8⟩
        case measure => simp [intOf]; omega
    · have i1 : ¬ (k : Int) < (ts.length : Int) := by omega
      obtain ⟨A4, c4, rfl, hg4, -⟩ := HRD.out.row (Nat.zero_le _) (by omega)
      have HOW := Lib.hid (l03Own_any A4 c4 0 wr.heap.size zs wr hg4 (Nat.le_refl _) ⟨by omega, fun x hx => HS.out.2 x (HZS.out x hx)⟩)
      clear hg4 hbw
      go_wp2_with fail
      refine HOW.out.mono ?_
      rintro e5 w5 ⟨⟨B5, d5, rfl, ho5⟩, hb5⟩
      have HB5 := Lib.hid (HBW.out.trans (hb5.mono (by omega)))
      have HO5 := Lib.hid ho5
      have hB25 := HB2r.out.below hb5 (by omega)
      have f2 := hB25.cell
      have z2 := hB25.frozen
      have hs5 := hb5.size
      clear ho5 hb5 hB25
      go_wp2_with fail
      refine bodyPost_ret (v := .agg #[.slice B5 zs.length d5]) (by simp [results, Tryz.results175, go_sem, f2]) rfl ⟨B5, d5, zs, rfl, ?_, HZS.out, by omega, ?_⟩
      · exact ((show Own shTree w5 wr.heap.size w5.heap.size [.slice B5 zs.length d5] zs from HO5.out).setCell (by dsimp only; omega) _).more (by omega) (by simp [World.setCell])
      · exact HB5.out.setCell (by dsimp only; omega) _

end Go.Proofs.YtfibjcaidnofmaaGreatDoor

/- Drawn trees: changes drawn and done. -/
namespace Go.Proofs.YtfibjcaidnofmaaGreatDoor
open Go.RowKit

section
variable {w0 w w' : World} {p lo hi n c K g : Nat} {A : Option Addr}
theorem Out.moved (h : Out [g] w w') : Moved g w w' := ⟨h.os, h.tape, h.output, h.size, fun k hk hn => h.block k hk (by simpa using hn)⟩
theorem Moved.out (h : Moved p w0 w) (ho : Out [g] w w') (hg : w0.heap.size ≤ g) : Moved p w0 w' := h.trans_below (ho.below1 hg h.size)
theorem Src.out (h : Src w p lo hi A n c K) (ho : Out [g] w w') (hg : g ≠ p) (hg2 : hi ≤ g) : Src w' p lo hi A n c K := by
  obtain ⟨k, hk, sd, hs⟩ := h.src
  exact ⟨⟨k, hk, sd, (ho.block p (Blk.lt hs) (by simpa using hg.symm)).trans hs⟩, h.bytes.keep fun b _ h2 => ho.block b (by have := h.le; omega) (by simp; omega), h.few, h.apart, Nat.le_trans h.le ho.size⟩
end
/-- A drawn node is small. -/
def NSm (x : TyNode) : Prop := x.1.size ≤ 24 ∧ x.2.1.length ≤ 5 ∧ (∀ y ∈ x.2.1, y.size ≤ 24) ∧ x.2.2.size ≤ 65
def TSm (m : Nat) (ts : List TyNode) : Prop := ts.length ≤ m ∧ ∀ x ∈ ts, NSm x
theorem TSm.smT {m : Nat} {ts : List TyNode} (h : TSm m ts) (hm : m ≤ 1000) : SmT ts :=
  ⟨by have := h.1; omega, fun x hx => ⟨by have := (h.2 x hx).2.1; omega, fun y hy => by have := (h.2 x hx).2.2.1 y hy; omega⟩⟩
theorem TSm.more {m m' : Nat} {ts : List TyNode} (h : TSm m ts) (hm : m ≤ m') : TSm m' ts := ⟨Nat.le_trans h.1 hm, h.2⟩
theorem TSm.ins {m : Nat} {ts : List TyNode} {x : TyNode} (h : TSm m ts) (hx : NSm x) : TSm (m + 1) (insOne befP keyT ts x) := by
  obtain ⟨hp1, _⟩ := put_is ts x
  rw [hp1]
  have h1 := h.1
  refine ⟨?_, fun y hy => ?_⟩
  · rw [List.length_append, List.length_take, List.length_cons, List.length_drop]
    split <;> omega
  · rcases List.mem_append.1 hy with hy | hy
    · exact h.2 y (List.mem_of_mem_take hy)
    · rcases List.mem_cons.1 hy with rfl | hy
      · exact hx
      · exact h.2 y (List.mem_of_mem_drop hy)

set_option maxHeartbeats 4000000 in
set_option maxRecDepth 100000 in
theorem l03Do_any (A : Option Addr) (c lo hi m : Nat) (ts : List TyNode) (kind : Int) (nm vl : ByteArray) (B : Option Addr) (d lo' hi' : Nat) (ys : List ByteArray) (w : World) (h : Own shTree w lo hi [.slice A ts.length c] ts) (hy : StrR w lo' hi' B ys.length ys) (hhi : hi ≤ w.heap.size) (hhi' : hi' ≤ w.heap.size) (hs : TSm m ts) (hm : m < 120) (hx : NSm (nm, ys, vl)) :
    Calls Tryz.prog 132 #[.agg #[.slice A ts.length c], .agg #[.int .i64 kind, .string nm, .slice B ys.length d, .string vl]] w fun e w' => ∃ A' c' ts', e = .returned (.tuple #[.agg #[.slice A' ts'.length c'], .int .i64 0]) ∧ Own shTree w' w.heap.size w'.heap.size [.slice A' ts'.length c'] ts' ∧ TSm (m + 1) ts' ∧ Below w.heap.size w w' := by
  have hsT := hs.smT (by omega)
  have hb1 := (Below.refl w.heap.size w).alloc (Nat.le_refl _) (.cells #[.slice A ts.length c] 26)
  have hb2 := hb1.alloc (by simp) (.cells #[.int .i64 kind, .string nm, .slice B ys.length d, .string vl] 137)
  have hb3 := hb2.alloc (by simp; omega) (.cells #[.slice none 0 0] 26)
  obtain ⟨W3, hW3⟩ : ∃ W3, W3 = ((w.alloc (.cells #[.slice A ts.length c] 26)).alloc (.cells #[.int .i64 kind, .string nm, .slice B ys.length d, .string vl] 137)).alloc (.cells #[.slice none 0 0] 26) := ⟨_, rfl⟩
  have hz3 : W3.heap.size = w.heap.size + 3 := by rw [hW3]; simp
  have B0 := Lib.hid (show Blk W3 w.heap.size 26 #[.slice A ts.length c] from by rw [hW3]; exact ((Blk.new w 26 #[.slice A ts.length c]).alloc _).alloc _)
  have B1 := Lib.hid (show Blk W3 (w.heap.size + 1) 137 #[.int .i64 kind, .string nm, .slice B ys.length d, .string vl] from by
    rw [hW3]
    have := Blk.new (w.alloc (.cells #[.slice A ts.length c] 26)) 137 #[.int .i64 kind, .string nm, .slice B ys.length d, .string vl]
    rw [heap_alloc_size1] at this
    exact this.alloc _)
  have B2 := Lib.hid (show Blk W3 (w.heap.size + 1 + 1) 26 #[.slice none 0 0] from by
    rw [hW3]
    have := Blk.new ((w.alloc (.cells #[.slice A ts.length c] 26)).alloc (.cells #[.int .i64 kind, .string nm, .slice B ys.length d, .string vl] 137)) 26 #[.slice none 0 0]
    rw [heap_alloc_size1, heap_alloc_size1] at this
    exact this)
  rw [← hW3] at hb3
  have h3 := h.below hb3 hhi
  have hy3 := hy.below hb3 hhi'
  have HB3 := Lib.hid hb3
  have HS := Lib.hid hs; have HX := Lib.hid hx
  obtain ⟨hlen, hc, hA⟩ := own_addr h3
  have f1 := B1.out.cell
  have f0 := B0.out.cell
  by_cases hk : kind = 1
  · subst hk
    have HP := Lib.hid (l03Put_any A c lo hi ts nm vl B d lo' hi' ys W3 (own_row h3) hc hy3 (by omega) (by omega) hsT ⟨by have := hx.2.1; show ys.length ≤ _; have h0 : ys.length ≤ 5 := this; omega, fun y hy' => by have := hx.2.2.1 y hy'; omega⟩ (by have := hs.1; omega) hA)
    have HI := Lib.hid (hs.ins hx)
    generalize insOne befP keyT ts (nm, ys, vl) = RES at *
    clear h hy h3 hy3 hs hx hsT hb1 hb2 hb3 hlen
    go_enter Tryz.func132, Tryz.ntmps132
    go_upto_region 1 with fail
    rw [← hW3]
    clear hW3
    go_wp2_with fail
    refine HP.out.mono ?_
    rintro e5 w5 ⟨⟨A5, c5, rfl, ho5⟩, hb5⟩
    have HO5 := Lib.hid ho5
    have HB5 := Lib.hid (HB3.out.trans (hb5.mono (by omega)))
    have hB25 := B2.out.below hb5 B2.out.lt
    have f2 := hB25.cell; have z2 := hB25.frozen 0
    have hs5 := hb5.size
    clear ho5 hb5 hB25 f0 f1
    go_wp2_with fail
    refine bodyPost_ret (v := .tuple #[.agg #[.slice A5 RES.length c5], .int .i64 0]) (by simp [results, Tryz.results132, go_sem, f2]) rfl ⟨A5, c5, RES, rfl, ?_, HI.out, ?_⟩
    · exact (HO5.out.setCell (by dsimp only; omega) _).more (by omega) (by simp [World.setCell])
    · exact HB5.out.setCell (by dsimp only; omega) _
  · have HP := Lib.hid (l03Kill_any A c lo hi ts nm B d lo' hi' ys W3 h3 hy3 (by omega) (by omega) hsT (by have := hx.2.1; have h0 : ys.length ≤ 5 := this; omega))
    clear h hy h3 hy3 hs hx hsT hb1 hb2 hb3 hlen
    go_enter Tryz.func132, Tryz.ntmps132
    go_upto_region 1 with fail
    rw [← hW3]
    clear hW3
    go_wp2_with fail
    refine HP.out.mono ?_
    rintro e5 w5 ⟨A5, c5, ts', rfl, ho5, hm5, hl5, hb5⟩
    have HO5 := Lib.hid ho5; have HM5 := Lib.hid hm5
    have HB5 := Lib.hid (HB3.out.trans (hb5.mono (by omega)))
    have hB25 := B2.out.below hb5 B2.out.lt
    have f2 := hB25.cell; have z2 := hB25.frozen 0
    have hs5 := hb5.size
    clear ho5 hm5 hb5 hB25 f0 f1
    go_wp2_with fail
    refine bodyPost_ret (v := .tuple #[.agg #[.slice A5 ts'.length c5], .int .i64 0]) (by simp [results, Tryz.results132, go_sem, f2]) rfl ⟨A5, c5, ts', rfl, ?_, ⟨by have := HS.out.1; omega, fun x hx => HS.out.2 x (HM5.out x hx)⟩, ?_⟩
    · exact (HO5.out.setCell (by dsimp only; omega) _).more (by omega) (by simp [World.setCell])
    · exact HB5.out.setCell (by dsimp only; omega) _

set_option maxHeartbeats 4000000 in
set_option maxRecDepth 100000 in
theorem l03Change_any (p lo hi : Nat) (A : Option Addr) (n c K : Nat) (w : World) (h : Src w p lo hi A n c K) (hK : K ≤ 600000000) :
    Calls Tryz.prog 133 #[.pointer (some ⟨p, 0, none⟩)] w fun e w' => ∃ kind nm v vl, e = .returned (.agg #[.int .i64 kind, .string nm, v, .string vl]) ∧ ∃ xs, OwnStrs w' w.heap.size 9 v xs ∧ NSm (nm, xs, vl) ∧ Src w' p lo hi A n c (K + 20) ∧ Moved p w w' := by
  have hpl := h.lt
  have hhi := h.le
  have hA := h.alloc (.cells #[.int .i64 0, .string ⟨#[]⟩, .slice none 0 0, .string ⟨#[]⟩] 137)
  have hz : (w.alloc (.cells #[.int .i64 0, .string ⟨#[]⟩, .slice none 0 0, .string ⟨#[]⟩] 137)).heap.size = w.heap.size + 1 := by simp
  have B0 := Lib.hid (Blk.new w 137 #[.int .i64 0, .string ⟨#[]⟩, .slice none 0 0, .string ⟨#[]⟩])
  have M0 := Lib.hid (Moved.alloc w (.cells #[.int .i64 0, .string ⟨#[]⟩, .slice none 0 0, .string ⟨#[]⟩] 137) p)
  have HO1 := Lib.hid (oneS p lo hi A n c K _ hA (by omega) 5 (by omega) (by omega))
  clear h hA
  go_enter Tryz.func133, Tryz.ntmps133
  go_wp2_with fail
  generalize w.alloc (.cells #[.int .i64 0, .string ⟨#[]⟩, .slice none 0 0, .string ⟨#[]⟩] 137) = wa at *
  refine HO1.out.mono ?_
  rintro e1 w1 ⟨b, rfl, hs1, hm1⟩
  have HB1 := Lib.hid (B0.out.moved hm1 (by omega))
  have HM1 := Lib.hid (M0.out.trans hm1)
  have HN1 := Lib.hid (l03Name_any p lo hi A n c _ w1 hs1 (by omega))
  have hz1 := hm1.size
  clear hs1 hm1 B0 M0 HO1
  cases b with
  | true =>
    go_wp2_with fail
    refine HN1.out.mono ?_
    rintro e2 w2 ⟨nm, hnm, rfl, hs2, hm2⟩
    have hnm24 := l03NameTs_size nm hnm
    have HM2 := Lib.hid (HM1.out.trans hm2)
    have HB2 := Lib.hid (HB1.out.moved hm2 (by omega))
    have HN2 := Lib.hid (l03Some_any p lo hi A n c _ w2 hs2 (by omega))
    have hz2 := hm2.size
    clear hs2 hm2 HN1 HB1 hnm
    go_wp2_with fail
    refine HN2.out.mono ?_
    rintro e3 w3 ⟨v, rfl, xs, ho, hx4, hx24, hs3, hm3⟩
    have HB3 := Lib.hid (HB2.out.moved hm3 (by omega))
    obtain ⟨A5, c5, hv⟩ := ho.1
    subst hv
    have HOv := Lib.hid ho; have HS3 := Lib.hid hs3; have HM3 := Lib.hid (HM2.out.trans hm3); have H24 := Lib.hid hx24
    have hz3 := hm3.size
    clear ho hs3 hm3 HB2 HN2 hx24
    go_wp2_with (first
      | fail
      | (refine wpList_storeAll rfl 137 (.tmp 2) (.tmp 9) rfl w.heap.size #[.int .i64 2, .string nm, .slice A5 xs.length c5, .string ⟨#[]⟩] rfl rfl HB3.out (by kernel_rfl) rfl (by simp [Value.oneCell']) ?_; intro wF hbF hoF hzF))
    refine bodyPost_ret (results_cell_row (P := Tryz.prog) rfl _ _ w.heap.size 137 #[.int .i64 2, .string nm, .slice A5 xs.length c5, .string ⟨#[]⟩] (0, 0) _ rfl hbF Tryz.underlying137 rfl (by kernel_rfl)) rfl ⟨2, nm, _, ⟨#[]⟩, rfl, xs, (HOv.out.moved hoF.moved (by omega)).mono (by omega), ⟨hnm24, by show xs.length ≤ 5; omega, H24.out, by show 0 ≤ 65; omega⟩, (HS3.out.out hoF (by omega) (by omega)).more (by omega), HM3.out.out hoF (Nat.le_refl _)⟩
  | false =>
    go_wp2_with fail
    refine HN1.out.mono ?_
    rintro e2 w2 ⟨nm, hnm, rfl, hs2, hm2⟩
    have hnm24 := l03NameTs_size nm hnm
    have HM2 := Lib.hid (HM1.out.trans hm2)
    have HB2 := Lib.hid (HB1.out.moved hm2 (by omega))
    have HN2 := Lib.hid (l03Some_any p lo hi A n c _ w2 hs2 (by omega))
    have hz2 := hm2.size
    clear hs2 hm2 HN1 HB1 hnm
    go_wp2_with fail
    refine HN2.out.mono ?_
    rintro e3 w3 ⟨v, rfl, xs, ho, hx4, hx24, hs3, hm3⟩
    have HB3 := Lib.hid (HB2.out.moved hm3 (by omega))
    obtain ⟨A5, c5, hv⟩ := ho.1
    subst hv
    have HT := Lib.hid (textS p lo hi A n c _ w3 hs3 (by omega) l03ValTs (by decide) (by decide))
    have HOv := Lib.hid ho; have HM3 := Lib.hid (HM2.out.trans hm3); have H24 := Lib.hid hx24
    have hz3 := hm3.size
    clear ho hs3 hm3 HB2 HN2 hx24
    go_wp2_with fail
    refine HT.out.mono ?_
    rintro e4 w4 ⟨vl, hvl, rfl, hs4, hm4⟩
    have hvl24 := l03ValTs_size vl hvl
    have HB4 := Lib.hid (HB3.out.moved hm4 (by omega))
    have HO4 := Lib.hid (HOv.out.moved hm4 (by omega)); have HS4 := Lib.hid hs4; have HM4 := Lib.hid (HM3.out.trans hm4)
    clear hs4 hm4 HB3 HOv HM3 hvl HT
    go_wp2_with (first
      | fail
      | (refine wpList_storeAll rfl 137 (.tmp 2) (.tmp 17) rfl w.heap.size #[.int .i64 1, .string nm, .slice A5 xs.length c5, .string vl] rfl rfl HB4.out (by kernel_rfl) rfl (by simp [Value.oneCell']) ?_; intro wF hbF hoF hzF))
    refine bodyPost_ret (results_cell_row (P := Tryz.prog) rfl _ _ w.heap.size 137 #[.int .i64 1, .string nm, .slice A5 xs.length c5, .string vl] (0, 0) _ rfl hbF Tryz.underlying137 rfl (by kernel_rfl)) rfl ⟨1, nm, _, vl, rfl, xs, (HO4.out.moved hoF.moved (by omega)).mono (by omega), ⟨hnm24, by show xs.length ≤ 5; omega, H24.out, by show vl.size ≤ 65; omega⟩, (HS4.out.out hoF (by omega) (by omega)).more (by omega), HM4.out.out hoF (Nat.le_refl _)⟩

end Go.Proofs.YtfibjcaidnofmaaGreatDoor
