/- A row of nodes that is being sorted in place: swaps, comparisons. -/
import Derived.Test.YtfibjcaidnofmaaGreatDoorJoinEXBe
import Derived.Test.YtfibjcaidnofmaaGreatDoorJoinEXAj
import Derived.Test.YtfibjcaidnofmaaGreatDoorJoinEXAq
import Derived.Test.YtfibjcaidnofmaaGreatDoorJoinEXAx
import Derived.Test.YtfibjcaidnofmaaGreatDoorJoinEXAo
import Derived.Test.YtfibjcaidnofmaaGreatDoorJoinEXBc
import Derived.Test.YtfibjcaidnofmaaGreatDoorJoinEXAp
import Derived.Test.YtfibjcaidnofmaaGreatDoorJoinEXAc
import Derived.Test.YtfibjcaidnofmaaGreatDoorJoinEXAr
namespace Go.Proofs.YtfibjcaidnofmaaGreatDoor
open Go.RowKit
open Go.Sort hiding Below

abbrev ElN := List Value × List Nat × TyNode
def keyT (x : TyNode) : ByteArray × List ByteArray := (x.1, x.2.1)
def ltQ (p q : ElN) : Bool := befP (keyT p.2.2) (keyT q.2.2)
theorem swo_ltQ : SWO ltQ where
  irrefl _ := sto_befP.swo.irrefl _
  trans _ _ _ := sto_befP.swo.trans _ _ _
  ntrans _ _ _ := sto_befP.swo.ntrans _ _ _
def SmN (x : TyNode) : Prop := x.2.1.length ≤ 1048576 ∧ ∀ y ∈ x.2.1, y.size ≤ 65536
theorem sizeINode : (Tryz.prog.info? 32).map (·.size) = some 3 := by kernel_rfl

theorem Lot.swap {α : Type} [Inhabited α] {s : Sh α} {t : TypeId} {w0 w : World} {g c i j : Nat} {d : Array (List Value × List Nat × α)} (h : Lot s t w0 w g c d) (hi : i < d.size) (hj : j < d.size) :
    Lot s t w0 ((w.setCells g (i * s.k) (d[j]!).1).setCells g (j * s.k) (d[i]!).1) g c (swp d i j) :=
  (h.put hi _ (h.at_ hj)).put (j := j) (by simpa using hj) _ (h.at_ hi)

/-- The comparing function of ImportTree, whose world is T. -/
def CmpN (T : World → Prop) : Prop := ∀ (x y : TyNode) (us vs : List Value) (w : World), T w → SmN x → SmN y → shNode.R w 0 w.heap.size us x → shNode.R w 0 w.heap.size vs y →
  Calls Tryz.prog 46 #[.agg us.toArray, .agg vs.toArray] w fun e w' => (∃ v : Int, e = .returned (.int .i64 v) ∧ (befP (keyT x) (keyT y) = decide (v < 0))) ∧ Below w.heap.size w w'
structure LotN (T : World → Prop) (w0 w : World) (g c : Nat) (d : Array ElN) : Prop where
  lot : Lot shNode 32 w0 w g c d
  small : ∀ k, k < d.size → SmN (d[k]!).2.2
  few : d.size ≤ 120
  tabs : ∀ w', Out [g] w0 w' → T w'
section
variable {T : World → Prop} {w0 w w' : World} {g c i j : Nat} {d : Array ElN}
theorem LotN.below (h : LotN T w0 w g c d) (hb : Below w.heap.size w w') : LotN T w0 w' g c d := ⟨h.lot.below hb, h.small, h.few, h.tabs⟩
theorem LotN.swap (h : LotN T w0 w g c d) (hi : i < d.size) (hj : j < d.size) : LotN T w0 ((w.setCells g (i * 3) (d[j]!).1).setCells g (j * 3) (d[i]!).1) g c (swp d i j) :=
  ⟨h.lot.swap hi hj, fun k hk => by
    rw [size_swp] at hk
    rw [swp_get d hi hj k]
    split
    · exact h.small _ (by assumption)
    · split
      · exact h.small _ (by assumption)
      · exact h.small _ hk, by rw [size_swp]; exact h.few, h.tabs⟩
theorem LotN.range (h : LotN T w0 w g c d) (hi : i < d.size) : w.rangeAt g (i * 3) (d[i]!).1 := h.lot.range hi
theorem LotN.there (h : LotN T w0 w g c d) (hi : i < d.size) {n : Nat} (hn : n = 3) : w.there g (i * 3) n := h.lot.there hi hn
theorem LotN.len (h : LotN T w0 w g c d) (hi : i < d.size) : (d[i]!).1.length = 3 := h.lot.len hi
theorem LotN.there2 (h : LotN T w0 w g c d) (hj : j < d.size) {n : Nat} (hn : n = 3) (vs : List Value) : (w.setCells g (i * 3) vs).there g (j * 3) n := World.there_setCells (h.there hj hn) _ _ _
theorem LotN.one (h : LotN T w0 w g c d) (hi : i < d.size) : ((d[i]!).1.toArray).all (·.oneCell') = true := by
  have h1 := h.lot.reads hi
  obtain ⟨x0, x1, x2⟩ := (d[i]!).2.2
  obtain ⟨A1, c1, e, _⟩ := shNode_R.1 h1
  rw [e]; simp [Value.oneCell']
theorem LotN.sz (h : LotN T w0 w g c d) (hi : i < d.size) : (d[i]!).1.toArray.size = 3 := by rw [List.size_toArray]; exact h.len hi
theorem LotN.szL (h : LotN T w0 w g c d) (hi : i < d.size) : (Tryz.prog.info? 32).map (·.size) = some (d[i]!).1.length := by rw [sizeINode, h.len hi]
theorem LotN.szA (h : LotN T w0 w g c d) (hi : i < d.size) : (Tryz.prog.info? 32).map (·.size) = some (d[i]!).1.toArray.size := by rw [sizeINode, h.sz hi]
theorem LotN.cmp (h : LotN T w0 w g c d) (HC : CmpN T) (hi : i < d.size) (hj : j < d.size) :
    Calls Tryz.prog 46 #[.agg (d[i]!).1.toArray, .agg (d[j]!).1.toArray] w fun e w' => (∃ v : Int, e = .returned (.int .i64 v) ∧ (ltQ d[i]! d[j]! = decide (v < 0))) ∧ Below w.heap.size w w' :=
  HC _ _ _ _ _ (h.tabs _ h.lot.out) (h.small _ hi) (h.small _ hj) (h.lot.reads hi) (h.lot.reads hj)
/-- Two elements at hand, their cells opaque. -/
structure Pair (T : World → Prop) (w0 w : World) (g c : Nat) (d : Array ElN) (i j : Nat) (xi xj : List Value) : Prop where
  ri : w.rangeAt g (i * 3) xi
  rj : w.rangeAt g (j * 3) xj
  si : (Tryz.prog.info? 32).map (·.size) = some xi.length
  sj : (Tryz.prog.info? 32).map (·.size) = some xj.length
  ti : w.there g (i * 3) xj.toArray.size
  tj : (w.setCells g (i * 3) xj).there g (j * 3) xi.toArray.size
  ai : (Tryz.prog.info? 32).map (·.size) = some xi.toArray.size
  aj : (Tryz.prog.info? 32).map (·.size) = some xj.toArray.size
  oi : xi.toArray.all (·.oneCell') = true
  oj : xj.toArray.all (·.oneCell') = true
  lot : LotN T w0 w g c d
  sw : LotN T w0 ((w.setCells g (i * 3) xj).setCells g (j * 3) xi) g c (swp d i j)
  cmp : CmpN T → Calls Tryz.prog 46 #[.agg xi.toArray, .agg xj.toArray] w fun e w' => (∃ v : Int, e = .returned (.int .i64 v) ∧ (ltQ d[i]! d[j]! = decide (v < 0))) ∧ Below w.heap.size w w'
theorem LotN.pair (h : LotN T w0 w g c d) (hi : i < d.size) (hj : j < d.size) : ∃ xi xj, Pair T w0 w g c d i j xi xj :=
  ⟨(d[i]!).1, (d[j]!).1, h.range hi, h.range hj, h.szL hi, h.szL hj, h.there hi (h.sz hj), h.there2 hj (h.sz hi) _, h.szA hi, h.szA hj, h.one hi, h.one hj, h, h.swap hi hj, fun HC => h.cmp HC hi hj⟩
end

end Go.Proofs.YtfibjcaidnofmaaGreatDoor

/- Nodes in two ways of saying; the comparison that ImportTree sorts by. -/
namespace Go.Proofs.YtfibjcaidnofmaaGreatDoor
open Go.RowKit

def nodOf (x : TyNode) : Nod := ⟨x.1, x.2.1, x.2.2⟩
def tyOf (x : Nod) : TyNode := (x.name, x.subs, x.value)
theorem map_nodOf (ns : List Nod) : (ns.map tyOf).map nodOf = ns := by rw [List.map_map]; exact List.map_id _

section
variable {w : World} {lo hi : Nat} {t : TypeId}
theorem shNode_strR {vs : List Value} {x : TyNode} (h : shNode.R w lo hi vs x) : ∃ A c, vs = [.string x.1, .slice A x.2.1.length c, .string x.2.2] ∧ StrR w lo hi A x.2.1.length x.2.1 := by
  obtain ⟨x0, x1, x2⟩ := x
  obtain ⟨A1, c1, e, g⟩ := shNode_R.1 h
  exact ⟨A1, c1, e, rowR_of_G g⟩
theorem strR_shNode {A : Option Addr} {c : Nat} {x : TyNode} (h : StrR w lo hi A x.2.1.length x.2.1) : shNode.R w lo hi [.string x.1, .slice A x.2.1.length c, .string x.2.2] x := by
  obtain ⟨x0, x1, x2⟩ := x
  exact shNode_R.2 ⟨A, c, rfl, rowG_of_R h⟩
theorem getD_map_nod (xs : List TyNode) (j : Nat) (hj : j < xs.length) : (xs.map nodOf).getD j nodD = nodOf (xs.getD j shNode.d) := by
  rw [List.getD_eq_getElem?_getD, List.getD_eq_getElem?_getD, List.getElem?_map, List.getElem?_eq_getElem hj]; rfl
theorem nodesR_of {A : Option Addr} {n c : Nat} {xs : List TyNode} (h : (Sh.row t shNode).R w lo hi [.slice A n c] xs) : NodesR w lo hi A n (xs.map nodOf) := by
  obtain ⟨A', c', e, h⟩ := h
  injection e with e _
  injection e with e1 e2 e3
  subst e1 e2
  refine ⟨by simp, fun hn => ?_⟩
  obtain ⟨b, off, rfl, h1, h2, hc⟩ := h hn
  refine ⟨b, off, rfl, h1, h2, fun j hj => ?_⟩
  obtain ⟨us, h3, h4⟩ := hc j hj
  rw [getD_map_nod xs j hj]
  generalize xs.getD j shNode.d = x at *
  obtain ⟨A1, c1, rfl, h5⟩ := shNode_strR h4
  exact ⟨A1, c1, by simpa [shNode_k, nodOf] using h3 0 (by simp), by simpa [shNode_k, nodOf] using h3 1 (by simp), by simpa [shNode_k, nodOf] using h3 2 (by simp), h5⟩
end

set_option maxHeartbeats 1000000 in
theorem cmpN_holds : CmpN TabsIn := by
  intro x y us vs w hT hx hy hu hv
  obtain ⟨A, c, rfl, ha⟩ := shNode_strR hu
  obtain ⟨B, d, rfl, hb⟩ := shNode_strR hv
  obtain ⟨x0, x1, x2⟩ := x
  obtain ⟨y0, y1, y2⟩ := y
  have hb2 := ((Below.refl w.heap.size w).alloc (Nat.le_refl _) (.cells #[.string x0, .slice A x1.length c, .string x2] 32)).alloc (by simp) (.cells #[.string y0, .slice B y1.length d, .string y2] 32)
  have HC := Lib.hid (compareLocations_any x0 y0 A B x1.length y1.length c d 0 w.heap.size 0 w.heap.size x1 y1 _ (hT.below hb2) (ha.below hb2 (Nat.le_refl _)) (hb.below hb2 (Nat.le_refl _)) hb2.size hb2.size hx.1 hy.1 hx.2 hy.2)
  have HB := Lib.hid hb2
  clear hT hu hv ha hb hb2
  go_enter Tryz.func46, Tryz.ntmps46
  go_wp2_with fail
  refine HC.out.mono ?_
  rintro e1 w1 ⟨rfl, hb1⟩
  have HB1 := Lib.hid (HB.out.trans (hb1.mono HB.out.size))
  clear hb1
  go_wp2_with fail
  go_ret
  exact ⟨⟨_, rfl, (cmpLoc_neg x0 x1 y0 y1).symm⟩, HB1.out⟩

end Go.Proofs.YtfibjcaidnofmaaGreatDoor

/- The reference's reading of a tree's text, walked: its lines, the number announced, SameSubs. -/
namespace Go.Proofs.YtfibjcaidnofmaaGreatDoor
open Go.RowKit

set_option maxHeartbeats 4000000 in
set_option maxRecDepth 100000 in
theorem sameSubs_n (A B : Option Addr) (c d : Nat) (xs ys : List ByteArray) (lo hi lo' hi' : Nat) (w : World) (h : StrR w lo hi A xs.length xs) (h' : StrR w lo' hi' B ys.length ys) (hhi : hi ≤ w.heap.size) (hhi' : hi' ≤ w.heap.size) (hn : xs.length ≤ 1048576) (hm : ys.length ≤ 1048576) :
    Calls Tryz.prog 11 #[.slice A xs.length c, .slice B ys.length d] w fun e w' => e = .returned (.bool (sameB xs ys)) ∧ Below w.heap.size w w' := by
  have HC := Lib.hid (l02Same_r A B c d xs ys lo hi lo' hi' w (of_rowR h) (of_rowR h') hhi hhi' (by omega) (by omega))
  generalize sameB xs ys = ANS at *
  clear h h'
  go_enter Tryz.func11, Tryz.ntmps11
  go_wp2_with fail
  refine HC.out.mono ?_
  rintro e1 w1 ⟨rfl, hb1⟩
  have HB := Lib.hid hb1; clear hb1 HC
  go_wp2_with fail
  go_ret
  exact ⟨rfl, HB.out⟩

/-- The lines up to place i: the current one began at place f. -/
structure LinR (s : ByteArray) (i f : Nat) (ls : List ByteArray) : Prop where
  fi : f ≤ i
  is : i ≤ s.size
  eq : (s.data.toList.take i).foldl stepL ([], []) = (ls.map fun x => x.data.toList, (s.extract f i).data.toList)
  few : ls.length ≤ i
theorem LinR.start (s : ByteArray) : LinR s 0 0 [] := ⟨Nat.le_refl _, Nat.zero_le _, by simp, Nat.le_refl _⟩
theorem list_take_succ (s : ByteArray) (i : Nat) (h : i < s.size) : s.data.toList.take (i + 1) = s.data.toList.take i ++ [s[i]] := take_snoc' _ _ _ (get_list s i h)
theorem ext_snoc (s : ByteArray) (f i : Nat) (hf : f ≤ i) (h : i < s.size) : (s.extract f (i + 1)).data.toList = (s.extract f i).data.toList ++ [s[i]] := by
  rw [ByteArray.data_extract, ByteArray.data_extract, Array.toList_extract, Array.toList_extract, List.extract_eq_take_drop, List.extract_eq_take_drop]
  have hlen : s.data.toList.length = s.size := by simp
  rw [show i + 1 - f = (i - f) + 1 by omega]
  refine take_snoc' _ _ _ ?_
  rw [List.getElem?_drop, show f + (i - f) = i by omega]
  exact get_list s i h
theorem LinR.in_ {s : ByteArray} {i f : Nat} {ls : List ByteArray} (h : LinR s i f ls) (hi : i < s.size) (hc : s[i] ≠ 10) : LinR s (i + 1) f ls := by
  obtain ⟨h1, h2, h3, h4⟩ := h
  refine ⟨by omega, hi, ?_, by omega⟩
  rw [list_take_succ s i hi, List.foldl_append, h3, List.foldl_cons, List.foldl_nil, stepL_in _ hc, ext_snoc s f i h1 hi]
theorem LinR.done {s : ByteArray} {f : Nat} {ls : List ByteArray} (h : LinR s s.size f ls) : (linesP s.data.toList).1.map mkB = ls ∧ decide ((linesP s.data.toList).2 = []) = (f == s.size) := by
  have h3 := h.eq
  rw [List.take_of_length_le (by simp)] at h3
  unfold linesP
  rw [h3]
  refine ⟨?_, ?_⟩
  · rw [List.map_map]
    conv => rhs; rw [← List.map_id ls]
    exact List.map_congr_left fun x _ => mkB_data x
  · have hl : (s.extract f s.size).data.toList.length = s.size - f := by
      rw [Array.length_toList]
      show (s.extract f s.size).size = _
      rw [ByteArray.size_extract, Nat.min_self]
    have := h.fi
    by_cases e : f = s.size
    · rw [decide_eq_true (List.eq_nil_of_length_eq_zero (by rw [hl]; omega)), e]; simp
    · rw [decide_eq_false (fun hn => by have hn' : (s.extract f s.size).data.toList = [] := hn; rw [hn'] at hl; simp at hl; omega)]
      symm; rw [beq_eq_false_iff_ne]; exact e

end Go.Proofs.YtfibjcaidnofmaaGreatDoor

/- The program's reading of a tree's text, walked: the number announced. -/
namespace Go.Proofs.YtfibjcaidnofmaaGreatDoor
open Go.RowKit

/-- strconv.Atoi at every text, with what it says of errors. -/
theorem atoi2_any (s : ByteArray) (hs : s.size ≤ 1048576) (w : World) (hE : EnvR w) :
    Calls Tryz.prog 97 #[.string s] w fun e w' => (∃ v ev, e = .returned (.tuple #[.int .i64 v, ev]) ∧ ((Lib.atoiAll s.data.toList = .ok v ∧ ev = .nilIface) ∨ ((∀ n, Lib.atoiAll s.data.toList ≠ .ok n) ∧ ∃ t p, ev = .iface t p))) ∧ Below w.heap.size w w' := by
  cases h : Lib.atoiAll s.data.toList with
  | ok v =>
    refine (Tryz.strconv_Atoi_ok s (by omega) v h w).mono ?_
    rintro e w' ⟨rfl, hw⟩
    refine ⟨⟨v, .nilIface, rfl, .inl ⟨rfl, rfl⟩⟩, ?_⟩
    rcases hw with rfl | ⟨t, rfl⟩
    · exact Below.refl _ _
    · exact ⟨rfl, rfl, rfl, by rw [Lib.bytesWorld_size]; omega, fun k hk => Lib.bytesWorld_at_old w _ t k hk⟩
  | range =>
    obtain ⟨ev, h1, h2⟩ := hE.2.2
    refine (Tryz.strconv_Atoi_range s (by omega) h ev w h1 h2).mono ?_
    rintro e w' ⟨N, rfl, _, _, hb⟩
    exact ⟨⟨_, _, rfl, .inr ⟨fun n hn => (by cases hn), _, _, rfl⟩⟩, hb⟩
  | _ =>
    obtain ⟨ev, h1, h2⟩ := hE.2.1
    refine (Tryz.strconv_Atoi_syntax s (by omega) h ev w h1 h2).mono ?_
    rintro e w' ⟨N, rfl, _, _, hb⟩
    exact ⟨⟨_, _, rfl, .inr ⟨fun n hn => (by cases hn), _, _, rfl⟩⟩, hb⟩
set_option maxHeartbeats 8000000 in
set_option maxRecDepth 100000 in
theorem announced_any (s : ByteArray) (hs : s.size ≤ 1048576) (w : World) (hE : EnvR w) :
    Calls Tryz.prog 40 #[.string s] w fun e w' => e = .returned (.int .i64 (manyP s.data.toList)) ∧ Below w.heap.size w w' := by
  obtain ⟨M, hM⟩ : ∃ M, M = manyP s.data.toList := ⟨_, rfl⟩
  rw [← hM]
  have HCP := Lib.hid (fun W => Tryz.strings_CutPrefix s ⟨#[110, 111, 100, 101, 115, 32]⟩ W)
  have HE := Lib.hid hE
  have hlen : s.data.toList.length = s.size := by simp
  have hpe : Lib.hasPrefix s.data.toList (⟨#[110, 111, 100, 101, 115, 32]⟩ : ByteArray).data.toList = nodesW.isPrefixOf s.data.toList := rfl
  obtain ⟨D, hD⟩ : ∃ D, D = Lib.trimPrefix s.data.toList (⟨#[110, 111, 100, 101, 115, 32]⟩ : ByteArray).data.toList := ⟨_, rfl⟩
  have hDl : D.length ≤ s.size := by
    rw [hD]; unfold Lib.trimPrefix
    split
    · rw [List.length_drop, hlen]; omega
    · rw [hlen]; exact Nat.le_refl _
  have hMD : nodesW.isPrefixOf s.data.toList = true → M = manyD D := fun h => by
    rw [hM]; unfold manyP; rw [if_pos h, hD]; unfold Lib.trimPrefix; rw [if_pos (show Lib.hasPrefix s.data.toList (⟨#[110, 111, 100, 101, 115, 32]⟩ : ByteArray).data.toList = true from h)]; rfl
  have hMN : nodesW.isPrefixOf s.data.toList = false → M = -1 := fun h => by rw [hM]; unfold manyP; rw [h]; rfl
  have hX : ((⟨D.toArray⟩ : ByteArray)).size = D.length := List.size_toArray
  have HAT := Lib.hid (fun W (hW : EnvR W) => atoi2_any ⟨D.toArray⟩ (by rw [hX]; omega) W hW)
  have HIT := Lib.hid (fun (n : Int) (h1 : -9223372036854775808 ≤ n) (h2 : n ≤ 9223372036854775807) W (hT : TabsIn W) => Tryz.strconv_Itoa n h1 h2 W hT)
  rw [← hD, hpe] at HCP
  have HMD := Lib.hid hMD
  have HMN := Lib.hid hMN
  generalize nodesW.isPrefixOf s.data.toList = P at *
  clear hM hD hMD hMN hpe hE hlen
  go_enter Tryz.func40, Tryz.ntmps40
  go_wp2_with fail
  refine (HCP.out _).mono ?_
  rintro e1 w1 ⟨rfl, rfl⟩
  go_wp2_with fail
  refine (HAT.out _ HE.out).mono ?_
  rintro e2 w2 ⟨⟨v, ev, rfl, hv⟩, hb2⟩
  have HB2 := Lib.hid hb2
  have HV := Lib.hid hv
  have HE2 := Lib.hid (HE.out.below hb2)
  clear hb2 hv
  cases P with
  | false =>
    have HM := Lib.hid (HMN.out rfl)
    go_wp2_with fail
    go_ret
    exact ⟨by rw [HM.out]; rfl, HB2.out⟩
  | true =>
    have HM := Lib.hid (HMD.out rfl)
    rcases HV.out with ⟨ha, rfl⟩ | ⟨ha, tt, pp, rfl⟩
    · have HMO := Lib.hid (manyD_ok ha)
      by_cases h9 : D.length ≤ 9
      · have i9 : ¬ (9 : Int) < (D.length : Int) := by omega
        obtain ⟨v1, v2⟩ := Lib.atoiAll_bounds ha
        clear ha HV
        go_wp2_with fail
        refine (HIT.out v v1 v2 _ HE2.out.1.1).mono ?_
        rintro e3 w3 ⟨rfl, kk, os, rfl⟩
        have HB3 := Lib.hid (HB2.out.trans ((Lib.below_grow w2.heap.size w2 (Nat.le_refl _) kk os).mono HB2.out.size))
        by_cases hvd : Lib.itoa v = D
        · have hq2 : (Lib.itoa v == D) = true := beq_iff_eq.2 hvd
          by_cases hv0 : v < 0
          · have HR := Lib.hid (show M = -1 by rw [HM.out, HMO.out, if_neg (fun h => by omega)])
            clear hq2
            go_wp2_with fail
            go_ret
            exact ⟨by rw [HR.out]; rfl, HB3.out⟩
          · have HR := Lib.hid (show M = v by rw [HM.out, HMO.out, if_pos ⟨h9, hvd, by omega⟩])
            clear hq2
            go_wp2_with fail
            go_ret
            exact ⟨by rw [HR.out]; rfl, HB3.out⟩
        · have hq2 : (Lib.itoa v == D) = false := beq_eq_false_iff_ne.2 hvd
          have HR := Lib.hid (show M = -1 by rw [HM.out, HMO.out, if_neg (fun h => hvd h.2.1)])
          clear hq2
          go_wp2_with fail
          go_ret
          exact ⟨by rw [HR.out]; rfl, HB3.out⟩
      · have i9 : (9 : Int) < (D.length : Int) := by omega
        have HR := Lib.hid (show M = -1 by rw [HM.out, HMO.out, if_neg (fun h => h9 h.1)])
        clear ha HV
        go_wp2_with fail
        go_ret
        exact ⟨by rw [HR.out]; rfl, HB2.out⟩
    · have HR := Lib.hid (show M = -1 by rw [HM.out, manyD_bad ha])
      clear ha HV
      go_wp2_with fail
      go_ret
      exact ⟨by rw [HR.out]; rfl, HB2.out⟩

end Go.Proofs.YtfibjcaidnofmaaGreatDoor
