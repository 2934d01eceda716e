/- An operation of a site: its plain form, and how its value lies in memory. -/
import Derived.Test.YtcfmgmbolnifgaaJoinWAa
namespace Go.Proofs.Ytcfmgmbolnifgaa
open Go.RowKit

structure Act where
  k : Int
  a : Int
  r : ByteArray
  l : ByteArray
  args : List ByteArray
  input : List ByteArray
  keep : List Int

/-- The value of an operation of a site, and where its lists lie. -/
def ActR (w : World) (lo hi : Nat) (v : Value) (x : Act) : Prop :=
  ∃ A c B d C e, v = .agg #[.int .i64 x.k, .int .i64 x.a, .string x.r, .string x.l, .slice A x.args.length c, .slice B x.input.length d, .slice C x.keep.length e] ∧
    StrR w lo hi A x.args.length x.args ∧ StrR w lo hi B x.input.length x.input ∧ IntR w lo hi C x.keep.length x.keep

def ActSmall (x : Act) : Prop := x.r.size ≤ 1048576 ∧ x.l.size ≤ 1048576 ∧ x.args.length ≤ 1048576 ∧ x.input.length ≤ 1048576 ∧ x.keep.length ≤ 1048576 ∧ (∀ y ∈ x.args, y.size ≤ 1048576) ∧ (∀ y ∈ x.input, y.size ≤ 1048576)

theorem ActR.below {w w' : World} {lo hi B : Nat} {v : Value} {x : Act} (h : ActR w lo hi v x) (hb : Below B w w') (hB : hi ≤ B) : ActR w' lo hi v x := by
  obtain ⟨A, c, B', d, C, e, hv, h1, h2, h3⟩ := h
  exact ⟨A, c, B', d, C, e, hv, h1.below hb hB, h2.below hb hB, h3.below hb hB⟩


end Go.Proofs.Ytcfmgmbolnifgaa

/- Walks: toSiteAct, szSiteAct, eqSiteAct. -/
namespace Go.Proofs.Ytcfmgmbolnifgaa
open Go.RowKit

set_option maxHeartbeats 1000000 in
set_option maxRecDepth 100000 in
theorem toSiteAct_any (x : Act) (v : Value) (lo hi : Nat) (w : World) (hx : ActR w lo hi v x) (hhi : hi ≤ w.heap.size) (hs : ActSmall x) :
    Calls Try.prog 20 #[v] w fun e w' => ∃ v', e = .returned v' ∧ ActR w' w.heap.size w'.heap.size v' x ∧ Below w.heap.size w w' := by
  obtain ⟨k, a, r, l, xargs, xin, xkeep⟩ := x
  obtain ⟨A, c, B, d, C, e, rfl, hA, hB, hC⟩ := hx
  obtain ⟨hs1, hs2, hs3, hs4, hs5, hs6, hs7⟩ := hs
  dsimp only at *
  clear hs6 hs7
  have HA := Lib.hid hA
  have HB := Lib.hid hB
  have HC := Lib.hid hC
  clear hA hB hC
  go_enter Try.func20, Try.ntmps20
  go_wp2_with fail
  have T0 := Three.start w 29 32 32 #[.int .i64 k, .int .i64 a, .string r, .string l, .slice A xargs.length c, .slice B xin.length d, .slice C xkeep.length e]
    #[.int .i64 0, .int .i64 0, .string ⟨#[]⟩, .string ⟨#[]⟩, .slice none 0 0, .slice none 0 0, .slice none 0 0] #[.int .i64 k, .int .i64 a, .string r, .string l, .slice none 0 0, .slice none 0 0, .slice none 0 0]
  refine (toStringS_any _ _ _ lo hi xargs _ (HA.out.below T0.2.2.2 hhi) (Nat.le_trans hhi T0.2.2.2.size) hs3).mono ?_
  rintro e1 w1 ⟨v1, rfl, ⟨⟨A1, c1, rfl⟩, ho1⟩, hb1⟩
  have T1 := T0.call hb1
  have ho1' := own_mono (base' := w.heap.size + 1 + 1 + 1) ho1 (by simp)
  clear T0 hb1 ho1
  have f0 := T1.1.cell
  have f2 := T1.2.2.1.cell
  have z2 := T1.2.2.1.frozen
  have TT := Lib.hid T1; clear T1
  have O1 := Lib.hid (ownsRow_setCell_below ho1' (a := ⟨w.heap.size + 1 + 1, 4, none⟩) (by simp) (.slice A1 xargs.length c1)); clear ho1'
  go_wp2_with fail
  clear f0 f2 z2
  have T1 := TT.out.store2 4 (.slice A1 xargs.length c1); clear TT
  refine (toStringS_any _ _ _ lo hi xin _ (HB.out.below T1.2.2.2 hhi) (Nat.le_trans hhi T1.2.2.2.size) hs4).mono ?_
  rintro e2 w2 ⟨v2, rfl, ⟨⟨A2, c2, rfl⟩, ho2⟩, hb2⟩
  have T2 := T1.call hb2
  have ho1 := own_below O1.out hb2
  have ho2' := own_mono (base' := w.heap.size + 1 + 1 + 1) ho2 (by have := T1.2.2.1.lt; omega)
  clear T1 hb2 O1 ho2
  have f0 := T2.1.cell
  have f2 := T2.2.2.1.cell
  have z2 := T2.2.2.1.frozen
  have TT := Lib.hid T2; clear T2
  have O1 := Lib.hid (ownsRow_setCell_below ho1 (a := ⟨w.heap.size + 1 + 1, 5, none⟩) (by simp) (.slice A2 xin.length c2)); clear ho1
  have O2 := Lib.hid (ownsRow_setCell_below ho2' (a := ⟨w.heap.size + 1 + 1, 5, none⟩) (by simp) (.slice A2 xin.length c2)); clear ho2'
  go_wp2_with fail
  clear f0 f2 z2
  have T1 := TT.out.store2 5 (.slice A2 xin.length c2); clear TT
  refine (toInt64S_any _ _ _ lo hi xkeep _ (HC.out.below T1.2.2.2 hhi) (Nat.le_trans hhi T1.2.2.2.size) hs5).mono ?_
  rintro e3 w3 ⟨v3, rfl, ⟨⟨A3, c3, rfl⟩, ho3⟩, hb3⟩
  have T3 := T1.call hb3
  have ho1 := own_below O1.out hb3
  have ho2 := own_below O2.out hb3
  have ho3' := own_mono (base' := w.heap.size + 1 + 1 + 1) ho3 (by have := T1.2.2.1.lt; omega)
  clear T1 hb3 O1 O2 ho3
  have f0 := T3.1.cell
  have f1 := T3.2.1.cell
  have z1 := T3.2.1.frozen
  have f2 := T3.2.2.1.cell
  have z2 := T3.2.2.1.frozen
  have TT := Lib.hid T3; clear T3
  have O1 := Lib.hid ho1; have O2 := Lib.hid ho2; have O3 := Lib.hid ho3'; clear ho1 ho2 ho3'
  go_wp2_with fail
  refine bodyPost_ret (v := .agg #[.int .i64 k, .int .i64 a, .string r, .string l, .slice A1 xargs.length c1, .slice A2 xin.length c2, .slice A3 xkeep.length c3]) (by simp [results, Try.results20, go_sem, f1]) rfl ⟨_, rfl, ⟨A1, c1, A2, c2, A3, c3, rfl, ?_, ?_, ?_⟩, ?_⟩
  · refine (RowR.of_own (e := 9) (c := c1) (?_ : World.ownsRow _ (w.heap.size + 1 + 1 + 1) _ _ _ _ _)).more (by omega) (Nat.le_refl _)
    iterate 8 (with_reducible refine ownsRow_setCell_below ?_ (by simp; try omega) _)
    exact O1.out
  · refine (RowR.of_own (e := 9) (c := c2) (?_ : World.ownsRow _ (w.heap.size + 1 + 1 + 1) _ _ _ _ _)).more (by omega) (Nat.le_refl _)
    iterate 8 (with_reducible refine ownsRow_setCell_below ?_ (by simp; try omega) _)
    exact O2.out
  · refine (RowR.of_own (e := 2) (c := c3) (?_ : World.ownsRow _ (w.heap.size + 1 + 1 + 1) _ _ _ _ _)).more (by omega) (Nat.le_refl _)
    iterate 8 (with_reducible refine ownsRow_setCell_below ?_ (by simp; try omega) _)
    exact O3.out
  · iterate 8 (with_reducible refine Below.setCell ?_ (by simp; try omega) _)
    exact TT.out.2.2.2

theorem szStringS_m (A : Option Addr) (n c lo hi : Nat) (left : Int) (xs : List ByteArray) (w : World) (ha : StrR w lo hi A n xs) (hn : n ≤ 9223372036854775807) (hl0 : 0 ≤ left) (hl : left ≤ 1048576) (hb : ∀ x ∈ xs, x.size ≤ 9223372036854775807) :
    Calls Try.prog 40 #[.slice A n c, .int .i64 left] w fun e w' => ∃ m, e = .returned (.int .i64 m) ∧ Left left (costStrs xs) m ∧ w = w' := by
  obtain ⟨k, rfl⟩ := Int.eq_ofNat_of_zero_le hl0
  refine (szStringS_any A n c lo hi k xs w ha hn (by omega) hb).mono fun e w' ⟨he, hw⟩ => ⟨_, he, ?_, hw.symm⟩
  unfold leftStrs Left costStrs
  split
  · right; omega
  · left; rfl

theorem szInt64S_m (A : Option Addr) (n c : Nat) (left : Int) (w : World) (hn : n ≤ 9223372036854775807) (hl0 : 0 ≤ left) (hl : left ≤ 1048576) :
    Calls Try.prog 57 #[.slice A n c, .int .i64 left] w fun e w' => ∃ m, e = .returned (.int .i64 m) ∧ Left left n m ∧ w = w' := by
  obtain ⟨k, rfl⟩ := Int.eq_ofNat_of_zero_le hl0
  refine (szInt64S_any A n c k w hn (by omega)).mono fun e w' ⟨he, hw⟩ => ⟨_, he, ?_, hw.symm⟩
  unfold leftInts Left
  split
  · right; omega
  · left; rfl

def costAct (x : Act) : Nat := x.r.size + x.l.size + costStrs x.args + costStrs x.input + x.keep.length

/-- Each list and each text of the argument is within the form's reach. -/
def ActReach (x : Act) : Prop := x.r.size ≤ 9223372036854775807 ∧ x.l.size ≤ 9223372036854775807 ∧ x.args.length ≤ 9223372036854775807 ∧ x.input.length ≤ 9223372036854775807 ∧ x.keep.length ≤ 9223372036854775807 ∧
  (∀ y ∈ x.args, y.size ≤ 9223372036854775807) ∧ (∀ y ∈ x.input, y.size ≤ 9223372036854775807)

theorem ActSmall.of_cost {x : Act} (h : costAct x ≤ 1048576) : ActSmall x := by
  unfold costAct costStrs at h
  exact ⟨by omega, by omega, by omega, by omega, by omega, fun y hy => by have := mem_le_sizeAll hy; omega, fun y hy => by have := mem_le_sizeAll hy; omega⟩

set_option maxHeartbeats 1000000 in
set_option maxRecDepth 100000 in
theorem szSiteAct_any (x : Act) (v : Value) (lo hi : Nat) (left : Int) (w : World) (hx : ActR w lo hi v x) (hhi : hi ≤ w.heap.size) (hr : ActReach x) (hl0 : 0 ≤ left) (hl : left ≤ 1048576) :
    Calls Try.prog 18 #[v, .int .i64 left] w fun e w' => ∃ m, e = .returned (.int .i64 m) ∧ Left left (costAct x) m ∧ Below w.heap.size w w' := by
  obtain ⟨k, a, r, l, xargs, xin, xkeep⟩ := x
  obtain ⟨A, c, B, d, C, e, rfl, hA, hB, hC⟩ := hx
  obtain ⟨h1, h2, h3, h4, h5, h6, h7⟩ := hr
  dsimp only at *
  have hbo := fun o => (Below.refl w.heap.size w).alloc (Nat.le_refl _) o
  have HA := Lib.hid (fun o => hA.below (hbo o) hhi)
  have HB := Lib.hid (fun o => hB.below (hbo o) hhi)
  have HD := Lib.hid hbo
  have H6 := Lib.hid h6
  have H7 := Lib.hid h7
  clear hA hB hC hbo h6 h7
  by_cases g1 : left - (r.size : Int) < 0
  · go_enter Try.func18, Try.ntmps18
    go_wp2_with fail
    go_ret
    exact ⟨_, rfl, .inl rfl, HD.out _⟩
  by_cases g2 : left - (r.size : Int) - (l.size : Int) < 0
  · go_enter Try.func18, Try.ntmps18
    go_wp2_with fail
    go_ret
    exact ⟨_, rfl, .inl rfl, HD.out _⟩
  go_enter Try.func18, Try.ntmps18
  go_wp2_with fail
  refine (szStringS_m _ _ _ lo hi _ xargs _ (HA.out _) (by omega) (by omega) (by omega) H6.out).mono ?_
  rintro e1 w1 ⟨m1, rfl, hm1, rfl⟩
  rcases hm1 with rfl | ⟨hm0, hm1⟩
  · go_wp2_with fail
    go_ret
    exact ⟨_, rfl, .inl rfl, HD.out _⟩
  have n1 : ¬ (m1 < 0) := by omega
  have HM1 := Lib.hid hm1
  have hm1' : m1 ≤ left := by omega
  clear hm1
  go_wp2_with fail
  refine (szStringS_m _ _ _ lo hi _ xin _ (HB.out _) (by omega) (by omega) (by omega) H7.out).mono ?_
  rintro e2 w2 ⟨m2, rfl, hm2, rfl⟩
  rcases hm2 with rfl | ⟨hm20, hm2⟩
  · go_wp2_with fail
    go_ret
    exact ⟨_, rfl, .inl rfl, HD.out _⟩
  have n2 : ¬ (m2 < 0) := by omega
  have HM2 := Lib.hid hm2
  have hm2' : m2 ≤ left := by omega
  clear hm2
  go_wp2_with fail
  refine (szInt64S_m _ _ _ _ _ (by omega) (by omega) (by omega)).mono ?_
  rintro e3 w3 ⟨m3, rfl, hm3, rfl⟩
  rcases hm3 with rfl | ⟨hm30, hm3⟩
  · go_wp2_with fail
    go_ret
    exact ⟨_, rfl, .inl rfl, HD.out _⟩
  have n3 : ¬ (m3 < 0) := by omega
  have HM3 := Lib.hid hm3
  clear hm3
  go_wp2_with fail
  go_ret
  refine ⟨_, rfl, .inr ⟨hm30, ?_⟩, HD.out _⟩
  have := HM1.out
  have := HM2.out
  have := HM3.out
  unfold costAct
  dsimp only
  omega

set_option maxHeartbeats 1000000 in
set_option maxRecDepth 100000 in
/-- Two values of one operation: eqSiteAct says yes. -/
theorem eqSiteAct_same (x : Act) (v v' : Value) (lo hi lo' hi' : Nat) (w : World) (hx : ActR w lo hi v x) (hx' : ActR w lo' hi' v' x) (hhi : hi ≤ w.heap.size) (hhi' : hi' ≤ w.heap.size) (hs : ActSmall x) :
    Calls Try.prog 22 #[v, v'] w fun e w' => e = .returned (.bool true) ∧ Below w.heap.size w w' := by
  obtain ⟨k, a, r, l, xargs, xin, xkeep⟩ := x
  obtain ⟨A, c, B, d, C, e, rfl, hA, hB, hC⟩ := hx
  obtain ⟨A', c', B', d', C', e', rfl, hA', hB', hC'⟩ := hx'
  obtain ⟨hs1, hs2, hs3, hs4, hs5, hs6, hs7⟩ := hs
  dsimp only at *
  clear hs6 hs7
  have hb2 := fun o o' => ((Below.refl w.heap.size w).alloc (Nat.le_refl _) o).alloc (by simp) o'
  have HD := Lib.hid hb2
  have HA := Lib.hid (fun o o' => And.intro (hA.below (hb2 o o') hhi) (hA'.below (hb2 o o') hhi'))
  have HB := Lib.hid (fun o o' q => And.intro ((hB.below (hb2 o o') hhi).drewN q) ((hB'.below (hb2 o o') hhi').drewN q))
  have HC := Lib.hid (fun o o' q => And.intro ((hC.below (hb2 o o') hhi).drewN q) ((hC'.below (hb2 o o') hhi').drewN q))
  clear hA hA' hB hB' hC hC' hb2
  go_enter Try.func22, Try.ntmps22
  go_wp2_with fail
  refine (eqStringS_any _ _ _ _ _ _ lo hi lo' hi' xargs xargs _ (HA.out _ _).1 (HA.out _ _).2 (by omega) (by omega)).mono ?_
  rintro e1 w1 ⟨rfl, q1, rfl⟩
  rw [decide_eq_true rfl]
  go_wp2_with fail
  refine (eqStringS_any _ _ _ _ _ _ lo hi lo' hi' xin xin _ (HB.out _ _ _).1 (HB.out _ _ _).2 (by omega) (by omega)).mono ?_
  rintro e2 w2 ⟨rfl, q2, rfl⟩
  rw [decide_eq_true rfl]
  go_wp2_with fail
  refine (eqInt64S_any _ _ _ _ _ _ lo hi lo' hi' xkeep xkeep _ (HC.out _ _ _).1 (HC.out _ _ _).2 (by omega) (by omega)).mono ?_
  rintro e3 w3 ⟨rfl, hb3⟩
  rw [decide_eq_true rfl]
  have HB3 := Lib.hid hb3; clear hb3
  go_wp2_with fail
  go_ret
  refine ⟨rfl, ?_⟩
  have h0 := HD.out (.cells #[.int .i64 k, .int .i64 a, .string r, .string l, .slice A xargs.length c, .slice B xin.length d, .slice C xkeep.length e] 32) (.cells #[.int .i64 k, .int .i64 a, .string r, .string l, .slice A' xargs.length c', .slice B' xin.length d', .slice C' xkeep.length e'] 32)
  exact (h0.trans ((below_drewN' _ _).mono h0.size)).trans (HB3.out.mono h0.size)

end Go.Proofs.Ytcfmgmbolnifgaa

/- Words for the walk of a law: facts that lie in a range of blocks, and how they are kept. Over any program. -/
namespace Go.Proofs.Ytcfmgmbolnifgaa
open Go.RowKit

/-- Only blocks from lo up to, not including, hi have changed; there may be new ones. -/
structure Within (lo hi : Nat) (w w' : World) : Prop where
  os : w'.os = w.os
  tape : w'.tape = w.tape
  output : w'.output = w.output
  size : w.heap.size ≤ w'.heap.size
  block : ∀ k, k < w.heap.size → (k < lo ∨ hi ≤ k) → w'.heap[k]? = w.heap[k]?

theorem Within.below {lo hi : Nat} {w w' : World} (h : Within lo hi w w') (hlo : lo ≤ w.heap.size) : Below lo w w' := ⟨h.os, h.tape, h.output, h.size, fun k hk => h.block k (by omega) (.inl hk)⟩
theorem Within.of_grown {w w' : World} {row : Option Nat} {lo hi : Nat} (hg : w.grownBy w' row) (hr : ∀ g, row = some g → lo ≤ g ∧ g < hi) : Within lo hi w w' :=
  ⟨hg.os, hg.tape, hg.output, hg.size, fun k hk h => hg.block k hk (fun e => by have := hr k e.symm; omega)⟩
theorem Within.trans {lo hi : Nat} {w w1 w2 : World} (h : Within lo hi w w1) (k : Within lo hi w1 w2) : Within lo hi w w2 :=
  ⟨k.os.trans h.os, k.tape.trans h.tape, k.output.trans h.output, Nat.le_trans h.size k.size, fun i hi h' => (k.block i (Nat.lt_of_lt_of_le hi h.size) h').trans (h.block i hi h')⟩
theorem Within.of_below {lo hi : Nat} {w w' : World} (h : Below w.heap.size w w') : Within lo hi w w' := ⟨h.os, h.tape, h.output, h.size, fun k hk _ => h.block k hk⟩
theorem Within.more {lo hi lo' hi' : Nat} {w w' : World} (h : Within lo hi w w') (h1 : lo' ≤ lo) (h2 : hi ≤ hi') : Within lo' hi' w w' :=
  ⟨h.os, h.tape, h.output, h.size, fun k hk hd => h.block k hk (by omega)⟩

/-- A fact that hangs on the blocks from lo up to, not including, hi alone. -/
def Loc (lo hi : Nat) (F : World → Prop) : Prop := ∀ w w' : World, (∀ b, lo ≤ b → b < hi → w'.heap[b]? = w.heap[b]?) → F w → F w'

theorem loc_blk (g : Nat) (t : TypeId) (cs : Array Value) : Loc g (g + 1) (fun w => Blk w g t cs) := fun _ _ hk h => (hk g (Nat.le_refl _) (by omega)).trans h

abbrev Facts := List (Nat × Nat × (World → Prop))

/-- What lay in w0 is as it was, and all the facts stand. -/
def Stand (w0 : World) (Fs : Facts) (w : World) : Prop := Below w0.heap.size w0 w ∧ ∀ f ∈ Fs, Loc f.1 f.2.1 f.2.2 ∧ f.2.1 ≤ w.heap.size ∧ f.2.2 w

section
variable {w0 w w' : World} {Fs : Facts}
theorem Stand.nil (w : World) : Stand w [] w := ⟨Below.refl _ _, fun f hf => by simp at hf⟩
theorem Stand.below (h : Stand w0 Fs w) (hb : Below w.heap.size w w') : Stand w0 Fs w' := ⟨h.1.trans (hb.mono h.1.size), fun f hf => by
  obtain ⟨h1, h2, h3⟩ := h.2 f hf
  exact ⟨h1, Nat.le_trans h2 hb.size, h1 w w' (fun b _ hb' => hb.block b (by omega)) h3⟩⟩
theorem Stand.alloc (h : Stand w0 Fs w) (o : Obj) : Stand w0 Fs (w.alloc o) := h.below ((Below.refl _ _).alloc (Nat.le_refl _) o)
theorem Stand.drew (h : Stand w0 Fs w) : Stand w0 Fs w.drew := h.below (below_drewN' w 1)
theorem Stand.within {a b : Nat} (h : Stand w0 Fs w) (hw : Within a b w w') (h0 : w0.heap.size ≤ a) (hd : ∀ f ∈ Fs, f.2.1 ≤ a ∨ b ≤ f.1) : Stand w0 Fs w' :=
  ⟨h.1.trans ⟨hw.os, hw.tape, hw.output, hw.size, fun k hk => hw.block k (by have := h.1.size; omega) (.inl (by omega))⟩, fun f hf => by
    obtain ⟨h1, h2, h3⟩ := h.2 f hf
    have := hd f hf
    exact ⟨h1, Nat.le_trans h2 hw.size, h1 w w' (fun k hk1 hk2 => hw.block k (by omega) (by omega)) h3⟩⟩
theorem Stand.add (h : Stand w0 Fs w) (lo hi : Nat) (F : World → Prop) (L : Loc lo hi F) (hh : hi ≤ w.heap.size) (hF : F w) : Stand w0 ((lo, hi, F) :: Fs) w := ⟨h.1, fun f hf => by
  rcases List.mem_cons.1 hf with rfl | hf
  · exact ⟨L, hh, hF⟩
  · exact h.2 f hf⟩
theorem Stand.get (h : Stand w0 Fs w) (i : Nat) {lo hi : Nat} {F : World → Prop} (hi' : Fs[i]? = some (lo, hi, F)) : F w :=
  (h.2 (lo, hi, F) (List.mem_of_getElem? hi')).2.2
theorem Stand.le (h : Stand w0 Fs w) (i : Nat) {lo hi : Nat} {F : World → Prop} (hi' : Fs[i]? = some (lo, hi, F)) : hi ≤ w.heap.size :=
  (h.2 (lo, hi, F) (List.mem_of_getElem? hi')).2.1
/-- Some of the facts alone, chosen by their places. -/
theorem Stand.only (h : Stand w0 Fs w) (ks : List Nat) : Stand w0 (ks.filterMap (Fs[·]?)) w := ⟨h.1, fun f hf => by
  obtain ⟨k, _, hk⟩ := List.mem_filterMap.1 hf
  exact h.2 f (List.mem_of_getElem? hk)⟩
/-- The newest block, known whole. -/
theorem Stand.box (h : Stand w0 Fs w) (t : TypeId) (cs : Array Value) : Stand w0 ((w.heap.size, w.heap.size + 1, fun W => Blk W w.heap.size t cs) :: Fs) (w.alloc (.cells cs t)) :=
  (h.alloc _).add _ _ _ (loc_blk _ _ _) (by simp) (Blk.new w t cs)
/-- The list of facts under one name, with what is wanted of it. -/
theorem Stand.pack (h : Stand w0 Fs w) (P : World → Prop) (hP : ∀ W, Stand w0 Fs W → P W) : ∃ FS, Stand w0 FS w ∧ (∀ W, Stand w0 FS W → P W) ∧ (∀ W, Stand w0 FS W → Stand w0 Fs W) := ⟨Fs, h, hP, fun _ h => h⟩
/-- Two blocks' cells beside the facts, as a region that draws its order wants them. -/
theorem Stand.show2 {g g' : Nat} {t t' : TypeId} {cs cs' : Array Value} (hP : ∀ W, Stand w0 Fs W → Blk W g t cs ∧ Blk W g' t' cs') (h : Stand w0 Fs w) :
    (∀ i, w.cell? ⟨g, i, none⟩ = cs[i]?) ∧ (∀ i, w.cell? ⟨g', i, none⟩ = cs'[i]?) ∧ Stand w0 Fs w := ⟨(hP w h).1.cell, (hP w h).2.cell, h⟩
theorem Stand.of2 {A B : Prop} (h : A ∧ B ∧ Stand w0 Fs w) : Stand w0 Fs w := h.2.2
theorem Stand.show1 {g : Nat} {t : TypeId} {cs : Array Value} (hP : ∀ W, Stand w0 Fs W → Blk W g t cs) (h : Stand w0 Fs w) :
    (∀ i, w.cell? ⟨g, i, none⟩ = cs[i]?) ∧ Stand w0 Fs w := ⟨(hP w h).cell, h⟩
theorem Stand.of1 {A : Prop} (h : A ∧ Stand w0 Fs w) : Stand w0 Fs w := h.2
end

theorem own_keep {w w' : World} {base hi : Nat} {e : TypeId} {size : Nat} {v : Value} {n : Nat} {xs : List Value} (h : w.ownsRow base e size v n xs) (hh : ∀ g, v.ownBlock = some g → g < hi)
    (hk : ∀ b, base ≤ b → b < hi → w'.heap[b]? = w.heap[b]?) : w'.ownsRow base e size v n xs := by
  refine ⟨h.1, ?_⟩
  rcases h.2 with h2 | ⟨g, cap, cur, h1, hg, hc, r⟩
  · exact .inl h2
  · refine .inr ⟨g, cap, cur, h1, hg, ?_, r⟩
    rw [hk g hg (hh g (by rw [h1]; rfl))]
    exact hc

end Go.Proofs.Ytcfmgmbolnifgaa
