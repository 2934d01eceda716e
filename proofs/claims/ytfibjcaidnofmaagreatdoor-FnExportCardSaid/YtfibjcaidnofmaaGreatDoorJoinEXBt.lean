/- SameTree of the reference, at two readings of one tree. -/
import Derived.Test.YtfibjcaidnofmaaGreatDoorJoinEXBm
import Derived.Test.YtfibjcaidnofmaaGreatDoorJoinEXAi
import Derived.Test.YtfibjcaidnofmaaGreatDoorJoinEXBr
import Derived.Test.YtfibjcaidnofmaaGreatDoorJoinEXBs
import Derived.Test.YtfibjcaidnofmaaGreatDoorJoinEXBb
import Derived.Test.YtfibjcaidnofmaaGreatDoorJoinEXAg
import Derived.Test.YtfibjcaidnofmaaGreatDoorJoinEXBo
import Derived.Test.YtfibjcaidnofmaaGreatDoorJoinEXAt
namespace Go.Proofs.YtfibjcaidnofmaaGreatDoor
open Go.RowKit

theorem sameB_self {α : Type} (x : α) : sameB x x = true := by unfold sameB; exact @decide_eq_true _ (Classical.propDecidable _) rfl

set_option maxHeartbeats 4000000 in
set_option maxRecDepth 100000 in
theorem l03SameNode_any (A B : Option Addr) (c d : Nat) (nm vl : ByteArray) (xs : List ByteArray) (lo hi lo' hi' : Nat) (w : World) (h : StrR w lo hi A xs.length xs) (h' : StrR w lo' hi' B xs.length xs) (hhi : hi ≤ w.heap.size) (hhi' : hi' ≤ w.heap.size) (hn : xs.length ≤ 1048576) :
    Calls Tryz.prog 49 #[.agg #[.string nm, .slice A xs.length c, .string vl], .agg #[.string nm, .slice B xs.length d, .string vl]] w fun e w' => e = .returned (.bool true) ∧ Below w.heap.size w w' := by
  have hb := ((Below.refl w.heap.size w).alloc (Nat.le_refl _) (.cells #[.string nm, .slice A xs.length c, .string vl] 32)).alloc (by simp) (.cells #[.string nm, .slice B xs.length d, .string vl] 32)
  have HS := Lib.hid (sameSubs_n A B c d xs xs lo hi lo' hi' _ (h.below hb hhi) (h'.below hb hhi') (Nat.le_trans hhi hb.size) (Nat.le_trans hhi' hb.size) hn hn)
  rw [sameB_self] at HS
  have HB := Lib.hid hb
  clear h h' hb
  go_enter Tryz.func49, Tryz.ntmps49
  go_wp2_with fail
  refine HS.out.mono ?_
  rintro e1 w1 ⟨rfl, hb1⟩
  have HB1 := Lib.hid (HB.out.trans (hb1.mono HB.out.size))
  clear hb1
  go_wp2_with fail
  go_ret
  exact ⟨rfl, HB1.out⟩

set_option maxHeartbeats 8000000 in
set_option maxRecDepth 100000 in
theorem sameTree_any (A B : Option Addr) (c d : Nat) (ts : List TyNode) (lo hi lo' hi' : Nat) (w : World) (h : RowG shNode w lo hi A ts) (h' : RowG shNode w lo' hi' B ts) (hhi : hi ≤ w.heap.size) (hhi' : hi' ≤ w.heap.size) (hs : SmT ts) :
    Calls Tryz.prog 15 #[.agg #[.slice A ts.length c], .agg #[.slice B ts.length d]] w fun e w' => e = .returned (.bool true) ∧ Below w.heap.size w w' := by
  have hb := ((Below.refl w.heap.size w).alloc (Nat.le_refl _) (.cells #[.slice A ts.length c] 26)).alloc (by simp) (.cells #[.slice B ts.length d] 26)
  obtain ⟨W2, hW2⟩ : ∃ W2, W2 = (w.alloc (.cells #[.slice A ts.length c] 26)).alloc (.cells #[.slice B ts.length d] 26) := ⟨_, rfl⟩
  have hz2 : W2.heap.size = w.heap.size + 2 := by rw [hW2]; simp
  have B0 := Lib.hid (show Blk W2 w.heap.size 26 #[.slice A ts.length c] from by rw [hW2]; exact (Blk.new w 26 #[.slice A ts.length c]).alloc _)
  have B1 := Lib.hid (show Blk W2 (w.heap.size + 1) 26 #[.slice B ts.length d] from by
    rw [hW2]
    have := Blk.new (w.alloc (.cells #[.slice A ts.length c] 26)) 26 #[.slice B ts.length d]
    rw [heap_alloc_size1] at this
    exact this)
  rw [← hW2] at hb
  have HR := Lib.hid (show (Sh.row 32 shNode).R w lo hi [.slice A ts.length c] ts from ⟨A, c, rfl, h⟩)
  have HR' := Lib.hid (show (Sh.row 32 shNode).R w lo' hi' [.slice B ts.length d] ts from ⟨B, d, rfl, h'⟩)
  have HB := Lib.hid hb; have HSM := Lib.hid hs
  have hn := hs.1
  have f0 := B0.out.cell; have f1 := B1.out.cell
  clear h h' hb hs
  go_enter Tryz.func15, Tryz.ntmps15
  go_upto_region 1 with fail
  rw [← hW2]
  clear hW2
  go_wp2_with fail
  clear f0 f1
  go_loopw [5] (fun i wr => ∃ k : Nat, k ≤ ts.length ∧ i = .int .i64 k ∧ Below W2.heap.size W2 wr) (fun i _ => ts.length - (intOf i).toNat)
  case atStart => exact ⟨0, Nat.zero_le _, rfl, Below.refl _ _⟩
  case round =>
    obtain ⟨k, hk, rfl, hb⟩ := hrel
    have hB0 := B0.out.below hb B0.out.lt
    have hB1 := B1.out.below hb B1.out.lt
    have hbw := HB.out.trans (hb.mono (by omega))
    have HBW := Lib.hid hbw; have HBR := Lib.hid hb
    have s1 := hb.size
    by_cases hlt : k < ts.length
    · obtain ⟨-, b, off, rfl, hb1, hb2, A1, c1, e0, e1, e2, hX⟩ := shNode_at ((Sh.row 32 shNode).R_below HR.out hbw hhi) hlt
      obtain ⟨-, b', off', rfl, hb1', hb2', A1', c1', e0', e1', e2', hX'⟩ := shNode_at ((Sh.row 32 shNode).R_below HR'.out hbw hhi') hlt
      have HX := Lib.hid (HSM.out.2 _ (getD_in (d := shNode.d) hlt))
      generalize ts.getD k shNode.d = X at *
      obtain ⟨y0, y1, y2⟩ := X
      dsimp only at e0 e1 e2 e0' e1' e2'
      have i1 : (k : Int) < (ts.length : Int) := by omega
      have hn1 : y1.length ≤ 1048576 := HX.out.1
      have HST := Lib.hid (shNode_str1 hX); have HST' := Lib.hid (shNode_str1 hX')
      have HBD := Lib.hid (show Below W2.heap.size W2 wr.drew from hb.trans (below_drewN' wr 1 |>.mono s1))
      have hS : ((∀ i, wr.drew.cell? ⟨w.heap.size, i, none⟩ = (#[.slice (some ⟨b, off, none⟩) ts.length c] : Array Value)[i]?) ∧ (∀ i, wr.drew.cell? ⟨w.heap.size + 1, i, none⟩ = (#[.slice (some ⟨b', off', none⟩) ts.length d] : Array Value)[i]?)) ∧
          (wr.drew.cell? ⟨b, off + k * 3, none⟩ = some (.string y0) ∧ wr.drew.cell? ⟨b, off + k * 3 + 1, none⟩ = some (.slice A1 y1.length c1) ∧ wr.drew.cell? ⟨b, off + k * 3 + 2, none⟩ = some (.string y2)) ∧
          (wr.drew.cell? ⟨b', off' + k * 3, none⟩ = some (.string y0) ∧ wr.drew.cell? ⟨b', off' + k * 3 + 1, none⟩ = some (.slice A1' y1.length c1') ∧ wr.drew.cell? ⟨b', off' + k * 3 + 2, none⟩ = some (.string y2)) :=
        ⟨⟨hB0.cell, hB1.cell⟩, ⟨e0, e1, e2⟩, ⟨e0', e1', e2'⟩⟩
      have HSS := Lib.hid hS
      have HN := Lib.hid (l03SameNode_any A1 A1' c1 c1' y0 y2 y1 lo hi lo' hi' wr.drew HST.out HST'.out (show hi ≤ wr.heap.size by omega) (show hi' ≤ wr.heap.size by omega) hn1)
      have s2 : wr.drew.heap.size = wr.heap.size := rfl
      have f0 := hB0.cell
      clear hX hX' hbw hb hB1 hS
      go_upto_region 6 with fail
      clear hB0 f0 e0 e1 e2 e0' e1' e2'
      refine AnyT.region (fun _ => false) (fun W => ((∀ i, W.cell? ⟨w.heap.size, i, none⟩ = (#[.slice (some ⟨b, off, none⟩) ts.length c] : Array Value)[i]?) ∧ (∀ i, W.cell? ⟨w.heap.size + 1, i, none⟩ = (#[.slice (some ⟨b', off', none⟩) ts.length d] : Array Value)[i]?)) ∧
          (W.cell? ⟨b, off + k * 3, none⟩ = some (.string y0) ∧ W.cell? ⟨b, off + k * 3 + 1, none⟩ = some (.slice A1 y1.length c1) ∧ W.cell? ⟨b, off + k * 3 + 2, none⟩ = some (.string y2)) ∧
          (W.cell? ⟨b', off' + k * 3, none⟩ = some (.string y0) ∧ W.cell? ⟨b', off' + k * 3 + 1, none⟩ = some (.slice A1' y1.length c1') ∧ W.cell? ⟨b', off' + k * 3 + 2, none⟩ = some (.string y2))) (by kernel_rfl) HSS.out (fun hHeld => ?_)
      generalize wr.drew = w4 at *
      ((refine AnyT.takeAny 0 20 ?_ rfl (by kernel_rfl) (by kernel_rfl) (by kernel_rfl) rfl rfl (fun _ _ _ _ h => h) rfl ?_ (by assumption) ?_); rotate_left; (intro w; go_simp; (try (with_reducible rfl))); simp only [Act.put, List.setIfInBounds_toArray, List.set_cons_zero, List.set_cons_succ])
      ((refine AnyT.take 1 21 ?_ rfl (by kernel_rfl) (by kernel_rfl) (by kernel_rfl) (by kernel_rfl) rfl (by kernel_rfl) rfl (fun _ _ _ _ h => h) rfl ?_ (by assumption) ?_); rotate_left; (intro w hSw; (try dsimp only at hSw); go_simp; (try (with_reducible rfl))); simp only [Act.put, List.setIfInBounds_toArray, List.set_cons_zero, List.set_cons_succ])
      ((refine AnyT.takeAny 2 22 ?_ rfl (by kernel_rfl) (by kernel_rfl) (by kernel_rfl) rfl rfl (fun _ _ _ _ h => h) rfl ?_ (by assumption) ?_); rotate_left; (intro w; go_simp; (try (with_reducible rfl))); simp only [Act.put, List.setIfInBounds_toArray, List.set_cons_zero, List.set_cons_succ])
      ((refine AnyT.takeAny 3 23 ?_ rfl (by kernel_rfl) (by kernel_rfl) (by kernel_rfl) rfl rfl (fun _ _ _ _ h => h) rfl ?_ (by assumption) ?_); rotate_left; (intro w; go_simp; (try (with_reducible rfl))); simp only [Act.put, List.setIfInBounds_toArray, List.set_cons_zero, List.set_cons_succ])
      ((refine AnyT.take 4 24 ?_ rfl (by kernel_rfl) (by kernel_rfl) (by kernel_rfl) (by kernel_rfl) rfl (by kernel_rfl) rfl (fun _ _ _ _ h => h) rfl ?_ (by assumption) ?_); rotate_left; (intro w hSw; (try dsimp only at hSw); go_simp; (try (with_reducible rfl))); simp only [Act.put, List.setIfInBounds_toArray, List.set_cons_zero, List.set_cons_succ])
      ((refine AnyT.takeAny 5 25 ?_ rfl (by kernel_rfl) (by kernel_rfl) (by kernel_rfl) rfl rfl (fun _ _ _ _ h => h) rfl ?_ (by assumption) ?_); rotate_left; (intro w; go_simp; (try (with_reducible rfl))); simp only [Act.put, List.setIfInBounds_toArray, List.set_cons_zero, List.set_cons_succ])
      ((refine AnyT.take 6 26 ?_ rfl (by kernel_rfl) (by kernel_rfl) (by kernel_rfl) (by kernel_rfl) rfl (by kernel_rfl) rfl (fun _ _ _ _ h => h) rfl ?_ (by assumption) ?_); rotate_left; (intro w hSw; (try dsimp only at hSw); go_simp; (try (with_reducible rfl))); simp only [Act.put, List.setIfInBounds_toArray, List.set_cons_zero, List.set_cons_succ])
      ((refine AnyT.takeAny 7 27 ?_ rfl (by kernel_rfl) (by kernel_rfl) (by kernel_rfl) rfl rfl (fun _ _ _ _ h => h) rfl ?_ (by assumption) ?_); rotate_left; (intro w; go_simp; (try (with_reducible rfl))); simp only [Act.put, List.setIfInBounds_toArray, List.set_cons_zero, List.set_cons_succ])
      ((refine AnyT.takeAny 8 28 ?_ rfl (by kernel_rfl) (by kernel_rfl) (by kernel_rfl) rfl rfl (fun _ _ _ _ h => h) rfl ?_ (by assumption) ?_); rotate_left; (intro w; go_simp; (try (with_reducible rfl))); simp only [Act.put, List.setIfInBounds_toArray, List.set_cons_zero, List.set_cons_succ])
      ((refine AnyT.take 9 29 ?_ rfl (by kernel_rfl) (by kernel_rfl) (by kernel_rfl) (by kernel_rfl) rfl (by kernel_rfl) rfl (fun _ _ _ _ h => h) rfl ?_ (by assumption) ?_); rotate_left; (intro w hSw; (try dsimp only at hSw); go_simp; (try (with_reducible rfl))); simp only [Act.put, List.setIfInBounds_toArray, List.set_cons_zero, List.set_cons_succ])
      ((refine AnyT.one (i := 10) (by kernel_rfl) rfl (fun K hK => ?_)))
      go_simp
      refine HN.out.mono ?_
      rintro e5 w5 ⟨rfl, hb5⟩
      have HB5 := Lib.hid (HBD.out.trans (hb5.mono (by omega)))
      have hc5 : ∀ (g i : Nat), g < w4.heap.size → w5.cell? ⟨g, i, none⟩ = w4.cell? ⟨g, i, none⟩ := fun g i hg => hb5.cell (p := ⟨g, i, none⟩) hg
      go_simp
      obtain ⟨⟨q1, q2⟩, ⟨q3, q4, q5⟩, ⟨q6, q7, q8⟩⟩ := HSS.out
      refine hK.out _ _ ⟨⟨fun i => (hc5 _ i (by omega)).trans (q1 i), fun i => (hc5 _ i (by omega)).trans (q2 i)⟩, ⟨(hc5 _ _ (by omega)).trans q3, (hc5 _ _ (by omega)).trans q4, (hc5 _ _ (by omega)).trans q5⟩, ⟨(hc5 _ _ (by omega)).trans q6, (hc5 _ _ (by omega)).trans q7, (hc5 _ _ (by omega)).trans q8⟩⟩ (fun hHeld => ?_)
      clear hK K hb5 hc5 HN q1 q2 q3 q4 q5 q6 q7 q8
      (try simp only [Act.put, List.setIfInBounds_toArray, List.set_cons_zero, List.set_cons_succ])
      ((refine AnyT.takeAny 11 31 ?_ rfl (by kernel_rfl) (by kernel_rfl) (by kernel_rfl) rfl rfl (fun _ _ _ _ h => h) rfl ?_ (by assumption) ?_); rotate_left; (intro w; go_simp; (try (with_reducible rfl))); simp only [Act.put, List.setIfInBounds_toArray, List.set_cons_zero, List.set_cons_succ])
      refine AnyT.done (by kernel_rfl) ?_ _
      clear hHeld
      go_wp2_with fail
      go_roundw
      case rel => exact ⟨k + 1, by omega, by go_num, HB5.out⟩
      case measure => simp [intOf]; omega
    · have i1 : ¬ (k : Int) < (ts.length : Int) := by omega
      have f0 := hB0.cell
      clear hB1 hbw hb
      go_wp2_with fail
      go_ret
      exact ⟨rfl, HBW.out⟩

end Go.Proofs.YtfibjcaidnofmaaGreatDoor

/- FnExport returns true for all drawn inputs: the walk of the law. -/
namespace Go.Proofs.YtfibjcaidnofmaaGreatDoor
open Go.RowKit

theorem text_shows {ns : List Nod} (h : ∀ x ∈ ns, nodB x = true) (n : Nat) : ∀ c ∈ textT n ns, c = 10 ∨ showsC c = true := by
  intro c hc
  unfold textT at hc
  rcases List.mem_append.1 hc with hc | hc
  · right
    unfold headL at hc
    rcases List.mem_append.1 hc with hc | hc
    · exact (show ∀ c ∈ ([110, 111, 100, 101, 115, 32] : List UInt8), showsC c = true by decide) c hc
    · exact shows_dig (decDigits_dig _ c hc)
  · rcases List.mem_cons.1 hc with rfl | hc
    · exact .inl rfl
    · unfold bodyT at hc
      obtain ⟨l, hl, hc⟩ := List.mem_flatten.1 hc
      obtain ⟨x, hx, rfl⟩ := List.mem_map.1 hl
      rcases List.mem_append.1 hc with hc | hc
      · exact .inr (shows_line x (h x hx) c hc)
      · exact .inl (List.mem_singleton.1 hc)
/-- What the law holds of the drawn tree while it goes on. -/
structure ExSt (w W : World) (g lo : Nat) (A : Option Addr) (c : Nat) (ts : List TyNode) : Prop where
  var : Blk W g 26 #[.slice A ts.length c]
  own : Own shTree W lo g [.slice A ts.length c] ts
  mov : Below w.heap.size w W
  lt : w.heap.size ≤ g
theorem ExSt.below {w W W' : World} {g lo : Nat} {A : Option Addr} {c : Nat} {ts : List TyNode} (h : ExSt w W g lo A c ts) (hb : Below W.heap.size W W') : ExSt w W' g lo A c ts :=
  ⟨h.var.below hb h.var.lt, h.own.below hb (Nat.le_of_lt h.var.lt), h.mov.trans (hb.mono h.mov.size), h.lt⟩
theorem nods_all {ns : List Nod} (h : treB ns = true) : ∀ x ∈ ns, nodB x = true := fun x hx => by
  obtain ⟨i, hi, e⟩ := List.getElem_of_mem hx
  have := treB_nod h i hi
  rw [List.getD_eq_getElem?_getD, List.getElem?_eq_getElem hi] at this
  rw [← e]; exact this

set_option maxHeartbeats 32000000 in
set_option maxRecDepth 100000 in
theorem law_Export (A B : Option Addr) (n c m d : Nat) (w : World) (hA : BytesR w 0 w.heap.size A n) (hB : BytesR w 0 w.heap.size B m) (hE : EnvR w) :
    Calls Tryz.prog 5 #[.slice A n c, .slice B m d] w fun e w' => e = .returned (.bool true) ∧ Below w.heap.size w w' := by
  have HL := Lib.hid (b10Long_any A B n c m d w)
  by_cases hbig : 1048576 < n ∨ 1048576 < m
  · have hd : (decide (1048576 < n) || decide (1048576 < m)) = true := by
      rcases hbig with h | h <;> simp [h]
    rw [hd] at HL
    go_enter Tryz.func5, Tryz.ntmps5
    go_wp2_with fail
    refine HL.out.mono ?_
    rintro e1 w1 ⟨rfl, hb1⟩
    have HB1 := Lib.hid hb1
    clear hb1
    go_wp2_with fail
    go_ret
    exact ⟨rfl, HB1.out⟩
  have hn : n ≤ 1048576 := by omega
  have hm : m ≤ 1048576 := by omega
  have hd : (decide (1048576 < n) || decide (1048576 < m)) = false := by simp; omega
  rw [hd] at HL
  have HA := Lib.hid hA; have HBY := Lib.hid hB; have HE := Lib.hid hE
  clear hA hB hE hbig hd
  go_enter Tryz.func5, Tryz.ntmps5
  go_wp2_with fail
  refine HL.out.mono ?_
  rintro e1 w1 ⟨rfl, hb1⟩
  have HB1 := Lib.hid hb1
  have s1 := hb1.size
  have HD := Lib.hid (drawExportTree_any 0 w.heap.size A n c w1 (HA.out.keep fun b _ h2 => hb1.block b h2) s1 hn)
  clear hb1 HL
  go_wp2_with fail
  refine HD.out.mono ?_
  rintro e2 w2 ⟨A5, c5, ts, rfl, ho2, hsm2, hb2⟩
  have s2 := hb2.size
  have hba := (Below.refl w2.heap.size w2).alloc (Nat.le_refl _) (.cells #[.slice A5 ts.length c5] 26)
  have hz3 : (w2.alloc (.cells #[.slice A5 ts.length c5] 26)).heap.size = w2.heap.size + 1 := by simp
  have H3 := Lib.hid (show ExSt w (w2.alloc (.cells #[.slice A5 ts.length c5] 26)) w2.heap.size w1.heap.size A5 c5 ts from ⟨Blk.new w2 26 #[.slice A5 ts.length c5], ho2.below hba (Nat.le_refl _), HB1.out.trans ((hb2.trans (hba.mono s2)).mono s1), by omega⟩)
  have HSM := Lib.hid hsm2
  clear ho2 hsm2 hb2 hba HD HB1
  go_upto_region 4 with fail
  change Code.wp _ _ _ _ (w2.alloc (.cells #[.slice A5 ts.length c5] 26))
  generalize w2.alloc (.cells #[.slice A5 ts.length c5] 26) = w3 at *
  generalize w2.heap.size = g5 at *
  have hts : ts.length ≤ 10 := HSM.out.1
  obtain ⟨NS, hNS⟩ : ∃ NS, NS = ts.map nodOf := ⟨_, rfl⟩
  have HNS := Lib.hid hNS
  have hNl : NS.length = ts.length := by rw [hNS, List.length_map]
  have HNL := Lib.hid hNl
  have HSN := Lib.hid (show NodsSmall NS by rw [hNS]; exact HSM.out.nods (by omega))
  have HTR := Lib.hid (fun (W : World) (h : ExSt w W g5 w1.heap.size A5 c5 ts) => show TreR W w1.heap.size g5 (.agg #[.slice A5 ts.length c5]) NS by rw [hNS]; exact treR_own h.own.reads)
  have HEX := Lib.hid (implExportTree_any NS (.agg #[.slice A5 ts.length c5]) w1.heap.size g5 w3 (HTR.out w3 H3.out) (by omega) HSN.out (HE.out.below H3.out.mov).1)
  have f5 := H3.out.var.cell
  clear hNS hNl
  cases hT : treB NS with
  | false =>
    have h1 : exportC NS = 1 := by unfold exportC; rw [hT]; rfl
    rw [h1] at HEX
    have HTO := Lib.hid (fun (W : World) (h : ExSt w W g5 w1.heap.size A5 c5 ts) (hg : g5 ≤ W.heap.size) => specTreeOk_any NS _ _ _ W (HTR.out W h) hg HSN.out)
    rw [hT] at HTO
    clear h1 hT
    go_wp2_with fail
    refine HEX.out.mono ?_
    rintro e4 w4 ⟨rfl, hb4⟩
    have H4 := Lib.hid (H3.out.below hb4)
    clear hb4 HEX f5 H3
    have f5 := H4.out.var.cell
    go_wp2_with fail
    refine (HTO.out w4 H4.out (Nat.le_of_lt H4.out.var.lt)).mono ?_
    rintro e5 w5 ⟨rfl, hb5⟩
    have H5 := Lib.hid (H4.out.below hb5)
    clear hb5 f5 H4
    go_wp2_with fail
    go_ret
    exact ⟨rfl, H5.out.mov⟩
  | true =>
    have HTB := Lib.hid hT
    have h1 : exportC NS = 0 := by unfold exportC; rw [hT, if_pos rfl]
    have hex : exportP NS = textT NS.length NS := by unfold exportP; rw [hT, if_pos rfl, linesTo_text]
    rw [h1, hex] at HEX
    have hnb := nods_all hT
    obtain ⟨S, hS⟩ : ∃ S : ByteArray, S = ⟨(textT NS.length NS).toArray⟩ := ⟨_, rfl⟩
    rw [← hS] at HEX
    have HS := Lib.hid (show S.data.toList = textT NS.length NS by rw [hS])
    have HSH := Lib.hid (show ∀ c ∈ S.data.toList, c = 10 ∨ showsC c = true by rw [HS.out]; exact text_shows hnb _)
    have hSz : S.size ≤ 1000000 := by
      have h2 := body_len NS hnb
      have h3 := headT_len NS.length (by rw [HNL.out]; omega)
      have h4 : (headL NS.length).length + 1 = (headT NS.length).length := by unfold headL headT; simp
      have h5 : S.data.toList.length = S.size := by simp
      rw [HS.out] at h5
      unfold textT at h5
      rw [List.length_append, List.length_cons] at h5
      have := HNL.out
      omega
    clear h1 hex hT hnb hS
    go_wp2_with fail
    refine HEX.out.mono ?_
    rintro e4 w4 ⟨rfl, hb4⟩
    have H4 := Lib.hid (H3.out.below hb4)
    clear hb4 HEX f5 H3
    go_wp2_with fail
    go_loopw [8] (fun i wr => ∃ j : Nat, j ≤ S.size ∧ i = .int .i64 j ∧ w4 = wr) (fun i _ => S.size - (intOf i).toNat)
    case atStart => exact ⟨0, Nat.zero_le _, rfl, rfl⟩
    case round =>
      obtain ⟨j, hj, rfl, rfl⟩ := hrel
      by_cases hlt : j < S.size
      · have i1 : (j : Int) < (S.size : Int) := by omega
        have hc := HSH.out S[j] (List.mem_of_getElem? (get_list S j hlt))
        by_cases h10 : S[j] = 10
        · have q1 : ((S[j].toNat : Int) != 10) = false := by rw [h10]; rfl
          clear hc h10
          go_wp2_with fail
          go_roundw
          case rel => exact ⟨j + 1, by omega, by go_num, by trivial⟩
          case measure => simp [intOf]; omega
        · have q1 : ((S[j].toNat : Int) == 10) = false := by rw [beq_eq_false_iff_ne]; exact fun e => h10 (u8_eq (by have : S[j].toNat = 10 := (by omega); rw [this]; rfl))
          have q1' : ((S[j].toNat : Int) != 10) = true := by unfold bne; rw [q1]; rfl
          have hs := hc.resolve_left h10
          clear q1
          unfold showsC at hs
          rw [decide_eq_true_eq] at hs
          have q2 : ¬ (S[j].toNat : Int) < 32 := by omega
          have q3 : ¬ (126 : Int) < (S[j].toNat : Int) := by omega
          clear hc h10 hs
          go_wp2_with fail
          go_roundw
          case rel => exact ⟨j + 1, by omega, by go_num, by trivial⟩
          case measure => simp [intOf]; omega
      · obtain rfl : j = S.size := by omega
        have i1 : ¬ ((S.size : Nat) : Int) < ((S.size : Nat) : Int) := by omega
        have hIM := implImportTree_any S (by omega) w4 (HE.out.below H4.out.mov)
        rw [HS.out, import_text HTB.out (List.Perm.refl NS) (by rw [HNL.out]; omega)] at hIM
        have HIM := Lib.hid hIM
        have HNT := Lib.hid (show NS.map tyOf = ts by rw [HNS.out, List.map_map]; exact List.map_id _)
        clear hIM hlt hj
        go_wp2_with fail
        refine HIM.out.mono ?_
        rintro e9 w9 ⟨⟨A9, c9, rfl, ho9⟩, hb9⟩
        dsimp only at ho9
        rw [HNT.out, HNL.out] at ho9
        rw [HNL.out]
        have hba := (Below.refl w9.heap.size w9).alloc (Nat.le_refl _) (.cells #[.slice A9 ts.length c9] 26)
        have HX := Lib.hid (show Blk (w9.alloc (.cells #[.slice A9 ts.length c9] 26)) w9.heap.size 26 #[.slice A9 ts.length c9] ∧ Own shTree (w9.alloc (.cells #[.slice A9 ts.length c9] 26)) w4.heap.size w9.heap.size [.slice A9 ts.length c9] ts from ⟨Blk.new w9 26 #[.slice A9 ts.length c9], ho9.below hba (Nat.le_refl _)⟩)
        have H10 := Lib.hid (H4.out.below (hb9.trans (hba.mono hb9.size)))
        clear ho9 hba hb9 HIM H4
        go_upto_region 13 with fail
        generalize w9.alloc (.cells #[.slice A9 ts.length c9] 26) = w10 at *
        generalize w9.heap.size = g9 at *
        have f5 := H10.out.var.cell
        have HPK := Lib.hid (packTree_any NS (.agg #[.slice A5 ts.length c5]) w1.heap.size g5 w10 (HTR.out w10 H10.out) (Nat.le_of_lt H10.out.var.lt) HSN.out (HE.out.below H10.out.mov).1)
        go_wp2_with fail
        refine HPK.out.mono ?_
        rintro e11 w11 ⟨rfl, hb11⟩
        have H11 := Lib.hid (H10.out.below hb11)
        have HX11 := Lib.hid (And.intro (HX.out.1.below hb11 HX.out.1.lt) (HX.out.2.below hb11 (Nat.le_of_lt HX.out.1.lt)))
        have HUP := Lib.hid (unpackTree_any NS w11 HTB.out HSN.out (HE.out.below H11.out.mov).1)
        clear hb11 HPK f5 H10 HX
        go_wp2_with fail
        refine HUP.out.mono ?_
        rintro e12 w12 ⟨⟨A12, c12, rfl, ho12⟩, hb12⟩
        rw [HNT.out, HNL.out] at ho12
        rw [HNL.out]
        have hba := (Below.refl w12.heap.size w12).alloc (Nat.le_refl _) (.cells #[.slice A12 ts.length c12] 26)
        have hb13 := hb12.trans (hba.mono hb12.size)
        have HY := Lib.hid (show Blk (w12.alloc (.cells #[.slice A12 ts.length c12] 26)) w12.heap.size 26 #[.slice A12 ts.length c12] ∧ Own shTree (w12.alloc (.cells #[.slice A12 ts.length c12] 26)) w11.heap.size w12.heap.size [.slice A12 ts.length c12] ts from ⟨Blk.new w12 26 #[.slice A12 ts.length c12], Own.below (s := shTree) ho12 hba (Nat.le_refl _)⟩)
        have H13 := Lib.hid (H11.out.below hb13)
        have HX13 := Lib.hid (And.intro (HX11.out.1.below hb13 HX11.out.1.lt) (HX11.out.2.below hb13 (Nat.le_of_lt HX11.out.1.lt)))
        clear ho12 hba hb12 hb13 HUP H11 HX11
        go_upto_region 14 with fail
        generalize w12.alloc (.cells #[.slice A12 ts.length c12] 26) = w13 at *
        generalize w12.heap.size = g12 at *
        have HDR := Lib.hid (drawReadPlain_any 0 w.heap.size B m d w13 (HBY.out.keep fun b _ h2 => H13.out.mov.block b h2) H13.out.mov.size hm)
        go_wp2_with fail
        refine HDR.out.mono ?_
        rintro e14 w14 ⟨u, rfl, huz, hb14⟩
        have H14 := Lib.hid (H13.out.below hb14)
        have HX14 := Lib.hid (And.intro (HX13.out.1.below hb14 HX13.out.1.lt) (HX13.out.2.below hb14 (Nat.le_of_lt HX13.out.1.lt)))
        have HY14 := Lib.hid (And.intro (HY.out.1.below hb14 HY.out.1.lt) (HY.out.2.below hb14 (Nat.le_of_lt HY.out.1.lt)))
        clear hb14 HDR H13 HX13 HY
        have HRP := Lib.hid (implReadPlain_any u (by omega) w14 (HE.out.below H14.out.mov))
        have hR : rdI u.data.toList = if ¬ 64 < (sI u.data.toList).1.length ∧ plainP (sI u.data.toList).1 = u.data.toList then ((sI u.data.toList).1, true) else ([], false) := rfl
        generalize (sI u.data.toList).1 = s at *
        have HFIN := Lib.hid (fun (W : World) (h : ExSt w W g5 w1.heap.size A5 c5 ts) (hx : Blk W g9 26 #[.slice A9 ts.length c9] ∧ Own shTree W w4.heap.size g9 [.slice A9 ts.length c9] ts) => sameTree_any A9 A5 c9 c5 ts _ _ _ _ W (rowG_of_shape hx.2.reads) (rowG_of_shape h.own.reads) (Nat.le_of_lt hx.1.lt) (Nat.le_of_lt h.var.lt) (HSM.out.smT (by omega)))
        have HFIN2 := Lib.hid (fun (W : World) (h : ExSt w W g5 w1.heap.size A5 c5 ts) (hx : Blk W g12 26 #[.slice A12 ts.length c12] ∧ Own shTree W w11.heap.size g12 [.slice A12 ts.length c12] ts) => sameTree_any A12 A5 c12 c5 ts _ _ _ _ W (rowG_of_shape hx.2.reads) (rowG_of_shape h.own.reads) (Nat.le_of_lt hx.1.lt) (Nat.le_of_lt h.var.lt) (HSM.out.smT (by omega)))
        by_cases hcond : ¬ 64 < s.length ∧ plainP s = u.data.toList
        · rw [if_pos hcond] at hR
          rw [hR] at HRP
          have hPT := fun (W : World) (h : EnvIn W) => implPlainText_any ⟨s.toArray⟩ W h
          have hsz : (⟨s.toArray⟩ : ByteArray).size = s.length := List.size_toArray
          rw [if_neg (show ¬ 64 < (⟨s.toArray⟩ : ByteArray).size by rw [hsz]; exact hcond.1)] at hPT
          have hPT2 : ∀ (W : World), EnvIn W → Calls Tryz.prog 25 #[.string ⟨s.toArray⟩] W fun e w' => e = .returned (.string ⟨(plainP s).toArray⟩) ∧ Below W.heap.size W w' := hPT
          have HPT := Lib.hid hPT2
          have hq : ((⟨(plainP s).toArray⟩ : ByteArray).toList == u.toList) = true := by rw [bytes_eq, decide_eq_true hcond.2]
          clear hR hcond hsz hPT hPT2
          generalize (⟨(plainP s).toArray⟩ : ByteArray) = PB at *
          change Hid (Calls _ _ _ _ fun e w' => e = .returned (.tuple #[.string ⟨s.toArray⟩, .bool true]) ∧ _) at HRP
          generalize (⟨s.toArray⟩ : ByteArray) = SB at *
          go_wp2_with fail
          refine HRP.out.mono ?_
          rintro e15 w15 ⟨rfl, hb15⟩
          have H15 := Lib.hid (H14.out.below hb15)
          have HX15 := Lib.hid (And.intro (HX14.out.1.below hb15 HX14.out.1.lt) (HX14.out.2.below hb15 (Nat.le_of_lt HX14.out.1.lt)))
          have HY15 := Lib.hid (And.intro (HY14.out.1.below hb15 HY14.out.1.lt) (HY14.out.2.below hb15 (Nat.le_of_lt HY14.out.1.lt)))
          clear hb15 HRP H14 HX14 HY14
          go_wp2_with fail
          refine (HPT.out w15 (HE.out.below H15.out.mov).1).mono ?_
          rintro e16 w16 ⟨rfl, hb16⟩
          have H16 := Lib.hid (H15.out.below hb16)
          have HX16 := Lib.hid (And.intro (HX15.out.1.below hb16 HX15.out.1.lt) (HX15.out.2.below hb16 (Nat.le_of_lt HX15.out.1.lt)))
          have HY16 := Lib.hid (And.intro (HY15.out.1.below hb16 HY15.out.1.lt) (HY15.out.2.below hb16 (Nat.le_of_lt HY15.out.1.lt)))
          clear hb16 HPT H15 HX15 HY15
          have f5 := H16.out.var.cell
          have f6 := HX16.out.1.cell
          have f7 := HY16.out.1.cell
          go_wp2_with fail
          refine (HFIN.out w16 H16.out HX16.out).mono ?_
          rintro e17 w17 ⟨rfl, hb17⟩
          have H17 := Lib.hid (H16.out.below hb17)
          have HY17 := Lib.hid (And.intro (HY16.out.1.below hb17 HY16.out.1.lt) (HY16.out.2.below hb17 (Nat.le_of_lt HY16.out.1.lt)))
          clear hb17 f5 f6 f7 H16 HX16 HY16
          have f5 := H17.out.var.cell
          have f7 := HY17.out.1.cell
          go_wp2_with fail
          refine (HFIN2.out w17 H17.out HY17.out).mono ?_
          rintro e18 w18 ⟨rfl, hb18⟩
          have H18 := Lib.hid (H17.out.below hb18)
          clear hb18 f5 f7 H17 HY17
          go_wp2_with fail
          go_ret
          exact ⟨rfl, H18.out.mov⟩
        · rw [if_neg hcond] at hR
          rw [hR] at HRP
          change Hid (Calls _ _ _ _ fun e w' => e = .returned (.tuple #[.string ⟨#[]⟩, .bool false]) ∧ _) at HRP
          clear hR hcond
          go_wp2_with fail
          refine HRP.out.mono ?_
          rintro e15 w16 ⟨rfl, hb15⟩
          have H16 := Lib.hid (H14.out.below hb15)
          have HX16 := Lib.hid (And.intro (HX14.out.1.below hb15 HX14.out.1.lt) (HX14.out.2.below hb15 (Nat.le_of_lt HX14.out.1.lt)))
          have HY16 := Lib.hid (And.intro (HY14.out.1.below hb15 HY14.out.1.lt) (HY14.out.2.below hb15 (Nat.le_of_lt HY14.out.1.lt)))
          clear hb15 HRP H14 HX14 HY14
          have f5 := H16.out.var.cell
          have f6 := HX16.out.1.cell
          have f7 := HY16.out.1.cell
          go_wp2_with fail
          refine (HFIN.out w16 H16.out HX16.out).mono ?_
          rintro e17 w17 ⟨rfl, hb17⟩
          have H17 := Lib.hid (H16.out.below hb17)
          have HY17 := Lib.hid (And.intro (HY16.out.1.below hb17 HY16.out.1.lt) (HY16.out.2.below hb17 (Nat.le_of_lt HY16.out.1.lt)))
          clear hb17 f5 f6 f7 H16 HX16 HY16
          have f5 := H17.out.var.cell
          have f7 := HY17.out.1.cell
          go_wp2_with fail
          refine (HFIN2.out w17 H17.out HY17.out).mono ?_
          rintro e18 w18 ⟨rfl, hb18⟩
          have H18 := Lib.hid (H17.out.below hb18)
          clear hb18 f5 f7 H17 HY17
          go_wp2_with fail
          go_ret
          exact ⟨rfl, H18.out.mov⟩
end Go.Proofs.YtfibjcaidnofmaaGreatDoor
