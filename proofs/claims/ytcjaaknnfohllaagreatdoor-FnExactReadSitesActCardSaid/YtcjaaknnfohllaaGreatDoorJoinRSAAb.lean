/- An operation of a site: its plain form, and how its value lies in memory. -/
import Derived.Test.YtcjaaknnfohllaaGreatDoorJoinRSAAa
import Derived.Test.YtcjaaknnfohllaaGreatDoorProg
namespace Go.Proofs.YtcjaaknnfohllaaGreatDoor
open Go.RowKit

structure Act where
  k : Int
  a : Int
  r : ByteArray
  l : ByteArray
  args : List ByteArray
  input : List ByteArray
  keep : List Int

/-- The value of an operation of a site, and where its lists lie. -/
def ActR (w : World) (lo hi : Nat) (v : Value) (x : Act) : Prop :=
  ∃ A c B d C e, v = .agg #[.int .i64 x.k, .int .i64 x.a, .string x.r, .string x.l, .slice A x.args.length c, .slice B x.input.length d, .slice C x.keep.length e] ∧
    StrR w lo hi A x.args.length x.args ∧ StrR w lo hi B x.input.length x.input ∧ IntR w lo hi C x.keep.length x.keep

def ActSmall (x : Act) : Prop := x.r.size ≤ 1048576 ∧ x.l.size ≤ 1048576 ∧ x.args.length ≤ 1048576 ∧ x.input.length ≤ 1048576 ∧ x.keep.length ≤ 1048576 ∧ (∀ y ∈ x.args, y.size ≤ 1048576) ∧ (∀ y ∈ x.input, y.size ≤ 1048576)

theorem ActR.below {w w' : World} {lo hi B : Nat} {v : Value} {x : Act} (h : ActR w lo hi v x) (hb : Below B w w') (hB : hi ≤ B) : ActR w' lo hi v x := by
  obtain ⟨A, c, B', d, C, e, hv, h1, h2, h3⟩ := h
  exact ⟨A, c, B', d, C, e, hv, h1.below hb hB, h2.below hb hB, h3.below hb hB⟩


end Go.Proofs.YtcjaaknnfohllaaGreatDoor

/- Walks: toSiteAct, szSiteAct, eqSiteAct. -/
namespace Go.Proofs.YtcjaaknnfohllaaGreatDoor
open Go.RowKit

set_option maxHeartbeats 1000000 in
set_option maxRecDepth 100000 in
theorem toSiteAct_any (x : Act) (v : Value) (lo hi : Nat) (w : World) (hx : ActR w lo hi v x) (hhi : hi ≤ w.heap.size) (hs : ActSmall x) :
    Calls Tryz.prog 30 #[v] w fun e w' => ∃ v', e = .returned v' ∧ ActR w' w.heap.size w'.heap.size v' x ∧ Below w.heap.size w w' := by
  obtain ⟨k, a, r, l, xargs, xin, xkeep⟩ := x
  obtain ⟨A, c, B, d, C, e, rfl, hA, hB, hC⟩ := hx
  obtain ⟨hs1, hs2, hs3, hs4, hs5, hs6, hs7⟩ := hs
  dsimp only at *
  clear hs6 hs7
  have HA := Lib.hid hA
  have HB := Lib.hid hB
  have HC := Lib.hid hC
  clear hA hB hC
  go_enter Tryz.func30, Tryz.ntmps30
  go_wp2_with fail
  have T0 := Three.start w 25 30 30 #[.int .i64 k, .int .i64 a, .string r, .string l, .slice A xargs.length c, .slice B xin.length d, .slice C xkeep.length e]
    #[.int .i64 0, .int .i64 0, .string ⟨#[]⟩, .string ⟨#[]⟩, .slice none 0 0, .slice none 0 0, .slice none 0 0] #[.int .i64 k, .int .i64 a, .string r, .string l, .slice none 0 0, .slice none 0 0, .slice none 0 0]
  refine (toStringS_any _ _ _ lo hi xargs _ (HA.out.below T0.2.2.2 hhi) (Nat.le_trans hhi T0.2.2.2.size) hs3).mono ?_
  rintro e1 w1 ⟨v1, rfl, ⟨⟨A1, c1, rfl⟩, ho1⟩, hb1⟩
  have T1 := T0.call hb1
  have ho1' := own_mono (base' := w.heap.size + 1 + 1 + 1) ho1 (by simp)
  clear T0 hb1 ho1
  have f0 := T1.1.cell
  have f2 := T1.2.2.1.cell
  have z2 := T1.2.2.1.frozen
  have TT := Lib.hid T1; clear T1
  have O1 := Lib.hid (ownsRow_setCell_below ho1' (a := ⟨w.heap.size + 1 + 1, 4, none⟩) (by simp) (.slice A1 xargs.length c1)); clear ho1'
  go_wp2_with fail
  clear f0 f2 z2
  have T1 := TT.out.store2 4 (.slice A1 xargs.length c1); clear TT
  refine (toStringS_any _ _ _ lo hi xin _ (HB.out.below T1.2.2.2 hhi) (Nat.le_trans hhi T1.2.2.2.size) hs4).mono ?_
  rintro e2 w2 ⟨v2, rfl, ⟨⟨A2, c2, rfl⟩, ho2⟩, hb2⟩
  have T2 := T1.call hb2
  have ho1 := own_below O1.out hb2
  have ho2' := own_mono (base' := w.heap.size + 1 + 1 + 1) ho2 (by have := T1.2.2.1.lt; omega)
  clear T1 hb2 O1 ho2
  have f0 := T2.1.cell
  have f2 := T2.2.2.1.cell
  have z2 := T2.2.2.1.frozen
  have TT := Lib.hid T2; clear T2
  have O1 := Lib.hid (ownsRow_setCell_below ho1 (a := ⟨w.heap.size + 1 + 1, 5, none⟩) (by simp) (.slice A2 xin.length c2)); clear ho1
  have O2 := Lib.hid (ownsRow_setCell_below ho2' (a := ⟨w.heap.size + 1 + 1, 5, none⟩) (by simp) (.slice A2 xin.length c2)); clear ho2'
  go_wp2_with fail
  clear f0 f2 z2
  have T1 := TT.out.store2 5 (.slice A2 xin.length c2); clear TT
  refine (toInt64S_any _ _ _ lo hi xkeep _ (HC.out.below T1.2.2.2 hhi) (Nat.le_trans hhi T1.2.2.2.size) hs5).mono ?_
  rintro e3 w3 ⟨v3, rfl, ⟨⟨A3, c3, rfl⟩, ho3⟩, hb3⟩
  have T3 := T1.call hb3
  have ho1 := own_below O1.out hb3
  have ho2 := own_below O2.out hb3
  have ho3' := own_mono (base' := w.heap.size + 1 + 1 + 1) ho3 (by have := T1.2.2.1.lt; omega)
  clear T1 hb3 O1 O2 ho3
  have f0 := T3.1.cell
  have f1 := T3.2.1.cell
  have z1 := T3.2.1.frozen
  have f2 := T3.2.2.1.cell
  have z2 := T3.2.2.1.frozen
  have TT := Lib.hid T3; clear T3
  have O1 := Lib.hid ho1; have O2 := Lib.hid ho2; have O3 := Lib.hid ho3'; clear ho1 ho2 ho3'
  go_wp2_with fail
  refine bodyPost_ret (v := .agg #[.int .i64 k, .int .i64 a, .string r, .string l, .slice A1 xargs.length c1, .slice A2 xin.length c2, .slice A3 xkeep.length c3]) (by simp [results, Tryz.results30, go_sem, f1]) rfl ⟨_, rfl, ⟨A1, c1, A2, c2, A3, c3, rfl, ?_, ?_, ?_⟩, ?_⟩
  · refine (RowR.of_own (e := 9) (c := c1) (?_ : World.ownsRow _ (w.heap.size + 1 + 1 + 1) _ _ _ _ _)).more (by omega) (Nat.le_refl _)
    iterate 8 (with_reducible refine ownsRow_setCell_below ?_ (by simp; try omega) _)
    exact O1.out
  · refine (RowR.of_own (e := 9) (c := c2) (?_ : World.ownsRow _ (w.heap.size + 1 + 1 + 1) _ _ _ _ _)).more (by omega) (Nat.le_refl _)
    iterate 8 (with_reducible refine ownsRow_setCell_below ?_ (by simp; try omega) _)
    exact O2.out
  · refine (RowR.of_own (e := 2) (c := c3) (?_ : World.ownsRow _ (w.heap.size + 1 + 1 + 1) _ _ _ _ _)).more (by omega) (Nat.le_refl _)
    iterate 8 (with_reducible refine ownsRow_setCell_below ?_ (by simp; try omega) _)
    exact O3.out
  · iterate 8 (with_reducible refine Below.setCell ?_ (by simp; try omega) _)
    exact TT.out.2.2.2

theorem szStringS_m (A : Option Addr) (n c lo hi : Nat) (left : Int) (xs : List ByteArray) (w : World) (ha : StrR w lo hi A n xs) (hn : n ≤ 9223372036854775807) (hl0 : 0 ≤ left) (hl : left ≤ 1048576) (hb : ∀ x ∈ xs, x.size ≤ 9223372036854775807) :
    Calls Tryz.prog 75 #[.slice A n c, .int .i64 left] w fun e w' => ∃ m, e = .returned (.int .i64 m) ∧ Left left (costStrs xs) m ∧ w = w' := by
  obtain ⟨k, rfl⟩ := Int.eq_ofNat_of_zero_le hl0
  refine (szStringS_any A n c lo hi k xs w ha hn (by omega) hb).mono fun e w' ⟨he, hw⟩ => ⟨_, he, ?_, hw.symm⟩
  unfold leftStrs Left costStrs
  split
  · right; omega
  · left; rfl

theorem szInt64S_m (A : Option Addr) (n c : Nat) (left : Int) (w : World) (hn : n ≤ 9223372036854775807) (hl0 : 0 ≤ left) (hl : left ≤ 1048576) :
    Calls Tryz.prog 76 #[.slice A n c, .int .i64 left] w fun e w' => ∃ m, e = .returned (.int .i64 m) ∧ Left left n m ∧ w = w' := by
  obtain ⟨k, rfl⟩ := Int.eq_ofNat_of_zero_le hl0
  refine (szInt64S_any A n c k w hn (by omega)).mono fun e w' ⟨he, hw⟩ => ⟨_, he, ?_, hw.symm⟩
  unfold leftInts Left
  split
  · right; omega
  · left; rfl

def costAct (x : Act) : Nat := x.r.size + x.l.size + costStrs x.args + costStrs x.input + x.keep.length

/-- Each list and each text of the argument is within the form's reach. -/
def ActReach (x : Act) : Prop := x.r.size ≤ 9223372036854775807 ∧ x.l.size ≤ 9223372036854775807 ∧ x.args.length ≤ 9223372036854775807 ∧ x.input.length ≤ 9223372036854775807 ∧ x.keep.length ≤ 9223372036854775807 ∧
  (∀ y ∈ x.args, y.size ≤ 9223372036854775807) ∧ (∀ y ∈ x.input, y.size ≤ 9223372036854775807)

theorem ActSmall.of_cost {x : Act} (h : costAct x ≤ 1048576) : ActSmall x := by
  unfold costAct costStrs at h
  exact ⟨by omega, by omega, by omega, by omega, by omega, fun y hy => by have := mem_le_sizeAll hy; omega, fun y hy => by have := mem_le_sizeAll hy; omega⟩

set_option maxHeartbeats 1000000 in
set_option maxRecDepth 100000 in
theorem szSiteAct_any (x : Act) (v : Value) (lo hi : Nat) (left : Int) (w : World) (hx : ActR w lo hi v x) (hhi : hi ≤ w.heap.size) (hr : ActReach x) (hl0 : 0 ≤ left) (hl : left ≤ 1048576) :
    Calls Tryz.prog 26 #[v, .int .i64 left] w fun e w' => ∃ m, e = .returned (.int .i64 m) ∧ Left left (costAct x) m ∧ Below w.heap.size w w' := by
  obtain ⟨k, a, r, l, xargs, xin, xkeep⟩ := x
  obtain ⟨A, c, B, d, C, e, rfl, hA, hB, hC⟩ := hx
  obtain ⟨h1, h2, h3, h4, h5, h6, h7⟩ := hr
  dsimp only at *
  have hbo := fun o => (Below.refl w.heap.size w).alloc (Nat.le_refl _) o
  have HA := Lib.hid (fun o => hA.below (hbo o) hhi)
  have HB := Lib.hid (fun o => hB.below (hbo o) hhi)
  have HD := Lib.hid hbo
  have H6 := Lib.hid h6
  have H7 := Lib.hid h7
  clear hA hB hC hbo h6 h7
  by_cases g1 : left - (r.size : Int) < 0
  · go_enter Tryz.func26, Tryz.ntmps26
    go_wp2_with fail
    go_ret
    exact ⟨_, rfl, .inl rfl, HD.out _⟩
  by_cases g2 : left - (r.size : Int) - (l.size : Int) < 0
  · go_enter Tryz.func26, Tryz.ntmps26
    go_wp2_with fail
    go_ret
    exact ⟨_, rfl, .inl rfl, HD.out _⟩
  go_enter Tryz.func26, Tryz.ntmps26
  go_wp2_with fail
  refine (szStringS_m _ _ _ lo hi _ xargs _ (HA.out _) (by omega) (by omega) (by omega) H6.out).mono ?_
  rintro e1 w1 ⟨m1, rfl, hm1, rfl⟩
  rcases hm1 with rfl | ⟨hm0, hm1⟩
  · go_wp2_with fail
    go_ret
    exact ⟨_, rfl, .inl rfl, HD.out _⟩
  have n1 : ¬ (m1 < 0) := by omega
  have HM1 := Lib.hid hm1
  have hm1' : m1 ≤ left := by omega
  clear hm1
  go_wp2_with fail
  refine (szStringS_m _ _ _ lo hi _ xin _ (HB.out _) (by omega) (by omega) (by omega) H7.out).mono ?_
  rintro e2 w2 ⟨m2, rfl, hm2, rfl⟩
  rcases hm2 with rfl | ⟨hm20, hm2⟩
  · go_wp2_with fail
    go_ret
    exact ⟨_, rfl, .inl rfl, HD.out _⟩
  have n2 : ¬ (m2 < 0) := by omega
  have HM2 := Lib.hid hm2
  have hm2' : m2 ≤ left := by omega
  clear hm2
  go_wp2_with fail
  refine (szInt64S_m _ _ _ _ _ (by omega) (by omega) (by omega)).mono ?_
  rintro e3 w3 ⟨m3, rfl, hm3, rfl⟩
  rcases hm3 with rfl | ⟨hm30, hm3⟩
  · go_wp2_with fail
    go_ret
    exact ⟨_, rfl, .inl rfl, HD.out _⟩
  have n3 : ¬ (m3 < 0) := by omega
  have HM3 := Lib.hid hm3
  clear hm3
  go_wp2_with fail
  go_ret
  refine ⟨_, rfl, .inr ⟨hm30, ?_⟩, HD.out _⟩
  have := HM1.out
  have := HM2.out
  have := HM3.out
  unfold costAct
  dsimp only
  omega

set_option maxHeartbeats 1000000 in
set_option maxRecDepth 100000 in
/-- Two values of one operation: eqSiteAct says yes. -/
theorem eqSiteAct_same (x : Act) (v v' : Value) (lo hi lo' hi' : Nat) (w : World) (hx : ActR w lo hi v x) (hx' : ActR w lo' hi' v' x) (hhi : hi ≤ w.heap.size) (hhi' : hi' ≤ w.heap.size) (hs : ActSmall x) :
    Calls Tryz.prog 39 #[v, v'] w fun e w' => e = .returned (.bool true) ∧ Below w.heap.size w w' := by
  obtain ⟨k, a, r, l, xargs, xin, xkeep⟩ := x
  obtain ⟨A, c, B, d, C, e, rfl, hA, hB, hC⟩ := hx
  obtain ⟨A', c', B', d', C', e', rfl, hA', hB', hC'⟩ := hx'
  obtain ⟨hs1, hs2, hs3, hs4, hs5, hs6, hs7⟩ := hs
  dsimp only at *
  clear hs6 hs7
  have hb2 := fun o o' => ((Below.refl w.heap.size w).alloc (Nat.le_refl _) o).alloc (by simp) o'
  have HD := Lib.hid hb2
  have HA := Lib.hid (fun o o' => And.intro (hA.below (hb2 o o') hhi) (hA'.below (hb2 o o') hhi'))
  have HB := Lib.hid (fun o o' q => And.intro ((hB.below (hb2 o o') hhi).drewN q) ((hB'.below (hb2 o o') hhi').drewN q))
  have HC := Lib.hid (fun o o' q => And.intro ((hC.below (hb2 o o') hhi).drewN q) ((hC'.below (hb2 o o') hhi').drewN q))
  clear hA hA' hB hB' hC hC' hb2
  go_enter Tryz.func39, Tryz.ntmps39
  go_wp2_with fail
  refine (eqStringS_any _ _ _ _ _ _ lo hi lo' hi' xargs xargs _ (HA.out _ _).1 (HA.out _ _).2 (by omega) (by omega)).mono ?_
  rintro e1 w1 ⟨rfl, q1, rfl⟩
  rw [decide_eq_true rfl]
  go_wp2_with fail
  refine (eqStringS_any _ _ _ _ _ _ lo hi lo' hi' xin xin _ (HB.out _ _ _).1 (HB.out _ _ _).2 (by omega) (by omega)).mono ?_
  rintro e2 w2 ⟨rfl, q2, rfl⟩
  rw [decide_eq_true rfl]
  go_wp2_with fail
  refine (eqInt64S_any _ _ _ _ _ _ lo hi lo' hi' xkeep xkeep _ (HC.out _ _ _).1 (HC.out _ _ _).2 (by omega) (by omega)).mono ?_
  rintro e3 w3 ⟨rfl, hb3⟩
  rw [decide_eq_true rfl]
  have HB3 := Lib.hid hb3; clear hb3
  go_wp2_with fail
  go_ret
  refine ⟨rfl, ?_⟩
  have h0 := HD.out (.cells #[.int .i64 k, .int .i64 a, .string r, .string l, .slice A xargs.length c, .slice B xin.length d, .slice C xkeep.length e] 30) (.cells #[.int .i64 k, .int .i64 a, .string r, .string l, .slice A' xargs.length c', .slice B' xin.length d', .slice C' xkeep.length e'] 30)
  exact (h0.trans ((below_drewN' _ _).mono h0.size)).trans (HB3.out.mono h0.size)

end Go.Proofs.YtcjaaknnfohllaaGreatDoor

/- Names: both NameOk compute one plain function. -/
namespace Go.Proofs.YtcjaaknnfohllaaGreatDoor
open Go.RowKit

def letterB (c : Nat) : Bool := decide ((97 ≤ c ∧ c ≤ 122) ∨ (65 ≤ c ∧ c ≤ 90))
def digitB (c : Nat) : Bool := decide (48 ≤ c ∧ c ≤ 57)
/-- A byte that may stand at place j of a name. -/
def nameCh (j c : Nat) : Bool := letterB c || (decide (j = 0) && decide (c = 37)) || (decide (j ≠ 0) && digitB c)
def nameTo (s : ByteArray) (k : Nat) : Bool := (List.range k).all fun j => nameCh j (s.get! j).toNat
def nameB (s : ByteArray) : Bool := decide (1 ≤ s.size) && decide (s.size ≤ 8) && nameTo s s.size

theorem byte_at {s : ByteArray} {k : Nat} (h : k < s.size) : s.get! k = s[k] := by
  show s.data[k]! = s.data[k]
  exact getElem!_pos s.data k h

theorem nameTo_succ (s : ByteArray) (k : Nat) : nameTo s (k + 1) = (nameTo s k && nameCh k (s.get! k).toNat) := by
  unfold nameTo
  rw [List.range_succ, List.all_append]
  simp

theorem nameTo_false {s : ByteArray} {k n : Nat} (hk : k < n) (h : nameCh k (s.get! k).toNat = false) : nameTo s n = false := by
  unfold nameTo
  rw [List.all_eq_false]
  exact ⟨k, by simpa using hk, by simp [h]⟩

set_option maxHeartbeats 400000 in
theorem isLetter_any (c : Nat) (w : World) (hc : c ≤ 255) : Calls Tryz.prog 191 #[.int .u8 c] w fun e w' => e = .returned (.bool (letterB c)) ∧ w = w' := by
  rcases (show (97 ≤ c ∧ c ≤ 122) ∨ (65 ≤ c ∧ c ≤ 90) ∨ (122 < c) ∨ (90 < c ∧ c < 97) ∨ c < 65 from by omega) with h | h | h | h | h
  all_goals
    go_enter Tryz.func191, Tryz.ntmps191
    go_wp2
    go_ret
    refine ⟨?_, rfl⟩
    refine congrArg (fun b => Ending.returned (.bool b)) ?_
    unfold letterB
    rw [Bool.eq_iff_iff]
    simp
    try omega
theorem isLetter_t (c : Nat) (w : World) (hc : c ≤ 255) (h : letterB c = true) : Calls Tryz.prog 191 #[.int .u8 c] w fun e w' => e = .returned (.bool true) ∧ w = w' := h ▸ isLetter_any c w hc
theorem isLetter_f (c : Nat) (w : World) (hc : c ≤ 255) (h : letterB c = false) : Calls Tryz.prog 191 #[.int .u8 c] w fun e w' => e = .returned (.bool false) ∧ w = w' := h ▸ isLetter_any c w hc

set_option maxHeartbeats 400000 in
theorem isDigit_any (c : Nat) (w : World) (hc : c ≤ 255) : Calls Tryz.prog 192 #[.int .u8 c] w fun e w' => e = .returned (.bool (digitB c)) ∧ w = w' := by
  rcases (show (48 ≤ c ∧ c ≤ 57) ∨ 57 < c ∨ c < 48 from by omega) with h | h | h
  all_goals
    go_enter Tryz.func192, Tryz.ntmps192
    go_wp2
    go_ret
    refine ⟨?_, rfl⟩
    refine congrArg (fun b => Ending.returned (.bool b)) ?_
    unfold digitB
    rw [Bool.eq_iff_iff]
    simp
    try omega
theorem isDigit_t (c : Nat) (w : World) (hc : c ≤ 255) (h : digitB c = true) : Calls Tryz.prog 192 #[.int .u8 c] w fun e w' => e = .returned (.bool true) ∧ w = w' := h ▸ isDigit_any c w hc
theorem isDigit_f (c : Nat) (w : World) (hc : c ≤ 255) (h : digitB c = false) : Calls Tryz.prog 192 #[.int .u8 c] w fun e w' => e = .returned (.bool false) ∧ w = w' := h ▸ isDigit_any c w hc

set_option maxHeartbeats 400000 in
theorem l02Letter_any (c : Nat) (w : World) (hc : c ≤ 255) : Calls Tryz.prog 224 #[.int .u8 c] w fun e w' => e = .returned (.bool (letterB c)) ∧ w = w' := by
  rcases (show (97 ≤ c ∧ c ≤ 122) ∨ (65 ≤ c ∧ c ≤ 90) ∨ (122 < c) ∨ (90 < c ∧ c < 97) ∨ c < 65 from by omega) with h | h | h | h | h
  all_goals
    go_enter Tryz.func224, Tryz.ntmps224
    go_wp2
    go_ret
    refine ⟨?_, rfl⟩
    refine congrArg (fun b => Ending.returned (.bool b)) ?_
    unfold letterB
    rw [Bool.eq_iff_iff]
    simp
    try omega
theorem l02Letter_t (c : Nat) (w : World) (hc : c ≤ 255) (h : letterB c = true) : Calls Tryz.prog 224 #[.int .u8 c] w fun e w' => e = .returned (.bool true) ∧ w = w' := h ▸ l02Letter_any c w hc
theorem l02Letter_f (c : Nat) (w : World) (hc : c ≤ 255) (h : letterB c = false) : Calls Tryz.prog 224 #[.int .u8 c] w fun e w' => e = .returned (.bool false) ∧ w = w' := h ▸ l02Letter_any c w hc

set_option maxHeartbeats 400000 in
theorem l01Digit_any (c : Nat) (w : World) (hc : c ≤ 255) : Calls Tryz.prog 225 #[.int .u8 c] w fun e w' => e = .returned (.bool (digitB c)) ∧ w = w' := by
  rcases (show (48 ≤ c ∧ c ≤ 57) ∨ 57 < c ∨ c < 48 from by omega) with h | h | h
  all_goals
    go_enter Tryz.func225, Tryz.ntmps225
    go_wp2
    go_ret
    refine ⟨?_, rfl⟩
    refine congrArg (fun b => Ending.returned (.bool b)) ?_
    unfold digitB
    rw [Bool.eq_iff_iff]
    simp
    try omega
theorem l01Digit_t (c : Nat) (w : World) (hc : c ≤ 255) (h : digitB c = true) : Calls Tryz.prog 225 #[.int .u8 c] w fun e w' => e = .returned (.bool true) ∧ w = w' := h ▸ l01Digit_any c w hc
theorem l01Digit_f (c : Nat) (w : World) (hc : c ≤ 255) (h : digitB c = false) : Calls Tryz.prog 225 #[.int .u8 c] w fun e w' => e = .returned (.bool false) ∧ w = w' := h ▸ l01Digit_any c w hc

theorem byte_le (c : UInt8) : c.toNat ≤ 255 := by have := c.toNat_lt; omega

set_option maxHeartbeats 4000000 in
theorem implNameOk_any (s : ByteArray) (w : World) (hs : s.size ≤ 9223372036854775807) :
    Calls Tryz.prog 144 #[.string s] w fun e w' => e = .returned (.bool (nameB s)) ∧ w = w' := by
  go_enter Tryz.func144, Tryz.ntmps144
  go_wp2
  go_loop [3] (fun i => ∃ k : Nat, k ≤ s.size ∧ i = .int .i64 k ∧ nameTo s k = true) (fun i => s.size - (intOf i).toNat)
  case atStart => exact ⟨0, Nat.zero_le _, rfl, rfl⟩
  case round =>
    obtain ⟨k, hk, rfl, ht⟩ := hrel
    have HT := Lib.hid ht; clear ht
    by_cases hlt : k < s.size
    · have hb := byte_at hlt
      have HB := Lib.hid hb; clear hb
      have hok : nameCh k s[k].toNat = true → nameTo s (k + 1) = true := fun h => by rw [nameTo_succ, HT.out, HB.out, h]; rfl
      have hno : nameCh k s[k].toNat = false → nameB s = false := fun h => by unfold nameB; rw [nameTo_false hlt (by rw [HB.out]; exact h), Bool.and_false]
      have HOK := Lib.hid hok; have HNO := Lib.hid hno; clear hok hno
      have h255 := byte_le s[k]
      cases hL : letterB s[k].toNat
      · have HL := Lib.hid hL; clear hL
        by_cases h0 : k = 0
        · subst h0
          by_cases h37 : s[0].toNat = 37
          · have h37b : ((s[0].toNat : Int) == 37) = true := by rw [beq_iff_eq]; omega
            have hch : nameCh 0 s[0].toNat = true := by simp [nameCh, h37]
            have HC := Lib.hid hch; have H37 := Lib.hid h37; clear h37 hch
            go_wp2_with (go_at_call 191; refine (isLetter_f _ _ h255 HL.out).mono ?_; rintro e w' ⟨rfl, rfl⟩)
            go_round
            case rel => exact ⟨0 + 1, by omega, by go_num, HOK.out HC.out⟩
            case measure => simp [intOf]; omega
          · have h37b : ((s[0].toNat : Int) == 37) = false := by rw [beq_eq_false_iff_ne]; omega
            have hch : nameCh 0 s[0].toNat = false := by simp [nameCh, h37, HL.out]
            have HC := Lib.hid hch; clear hch
            go_wp2_with (go_at_call 191; refine (isLetter_f _ _ h255 HL.out).mono ?_; rintro e w' ⟨rfl, rfl⟩)
            go_ret
            exact ⟨by rw [HNO.out HC.out]; rfl, rfl⟩
        · have hk0 : ((k : Int) == 0) = false := by rw [beq_eq_false_iff_ne]; omega
          cases hD : digitB s[k].toNat
          · have hch : nameCh k s[k].toNat = false := by simp [nameCh, HL.out, hD, h0]
            have HC := Lib.hid hch; have HD := Lib.hid hD; clear hch hD
            go_wp2_with (first | (go_at_call 191; refine (isLetter_f _ _ h255 HL.out).mono ?_; rintro e w' ⟨rfl, rfl⟩) | (go_at_call 192; refine (isDigit_f _ _ h255 HD.out).mono ?_; rintro e w' ⟨rfl, rfl⟩))
            go_ret
            exact ⟨by rw [HNO.out HC.out]; rfl, rfl⟩
          · have hch : nameCh k s[k].toNat = true := by simp [nameCh, HL.out, hD, h0]
            have HC := Lib.hid hch; have HD := Lib.hid hD; clear hch hD
            go_wp2_with (first | (go_at_call 191; refine (isLetter_f _ _ h255 HL.out).mono ?_; rintro e w' ⟨rfl, rfl⟩) | (go_at_call 192; refine (isDigit_t _ _ h255 HD.out).mono ?_; rintro e w' ⟨rfl, rfl⟩))
            go_round
            case rel => exact ⟨k + 1, by omega, by go_num, HOK.out HC.out⟩
            case measure => simp [intOf]; omega
      · have hch : nameCh k s[k].toNat = true := by simp [nameCh, hL]
        have HC := Lib.hid hch; have HL := Lib.hid hL; clear hch hL
        go_wp2_with (go_at_call 191; refine (isLetter_t _ _ h255 HL.out).mono ?_; rintro e w' ⟨rfl, rfl⟩)
        go_round
        case rel => exact ⟨k + 1, by omega, by go_num, HOK.out HC.out⟩
        case measure => simp [intOf]; omega
    · obtain rfl : k = s.size := by omega
      by_cases h1 : 1 ≤ s.size
      · by_cases h8 : s.size ≤ 8
        all_goals
          go_wp2
          go_ret
          refine ⟨?_, rfl⟩
          refine congrArg (fun b => Ending.returned (.bool b)) ?_
          unfold nameB
          rw [HT.out, Bool.eq_iff_iff]
          simp
          omega
      · go_wp2
        go_ret
        refine ⟨?_, rfl⟩
        unfold nameB
        simp [h1]

theorem nameTo_one (s : ByteArray) : nameTo s 1 = nameCh 0 (s.get! 0).toNat := by simp [nameTo, List.range_succ]

set_option maxHeartbeats 4000000 in
theorem l02Name_any (s : ByteArray) (w : World) (hs : s.size ≤ 9223372036854775807) :
    Calls Tryz.prog 190 #[.string s] w fun e w' => e = .returned (.bool (nameB s)) ∧ w = w' := by
  by_cases h1 : s.size < 1
  · have hB : nameB s = false := by unfold nameB; simp; omega
    rw [hB]; clear hB
    go_enter Tryz.func190, Tryz.ntmps190
    go_wp2
    go_ret
    exact ⟨rfl, rfl⟩
  by_cases h8 : 8 < s.size
  · have hB : nameB s = false := by unfold nameB; simp; omega
    rw [hB]; clear hB
    go_enter Tryz.func190, Tryz.ntmps190
    go_wp2
    go_ret
    exact ⟨rfl, rfl⟩
  have hp : 0 < s.size := by omega
  have h255 := byte_le s[0]
  have HB0 := Lib.hid (byte_at hp)
  have hno : nameCh 0 s[0].toNat = false → nameB s = false := fun h => by unfold nameB; rw [nameTo_false hp (by rw [HB0.out]; exact h), Bool.and_false]
  have HNO := Lib.hid hno; clear hno
  have d1 : decide ((s.size : Int) < 1) = false := by simp; omega
  have d8 : decide (8 < (s.size : Int)) = false := by simp; omega
  by_cases hfirst : nameCh 0 s[0].toNat = true
  · have ht1 : nameTo s 1 = true := by rw [nameTo_one, HB0.out]; exact hfirst
    have HT1 := Lib.hid ht1; clear ht1
    have hcase : (letterB s[0].toNat = true ∧ True) ∨ (letterB s[0].toNat = false ∧ ((s[0].toNat : Int) != 37) = false) := by
      cases hL : letterB s[0].toNat
      · have h37 : s[0].toNat = 37 := by simpa [nameCh, hL] using hfirst
        exact .inr ⟨rfl, by rw [h37]; rfl⟩
      · exact .inl ⟨rfl, trivial⟩
    clear hfirst HNO
    rcases hcase with ⟨hL, hp37⟩ | ⟨hL, hp37⟩
    all_goals
      have HL := Lib.hid hL; clear hL
      go_enter Tryz.func190, Tryz.ntmps190
      go_wp2_with (go_at_call 224; first | (refine (l02Letter_f _ _ h255 HL.out).mono ?_; rintro e w' ⟨rfl, rfl⟩) | (refine (l02Letter_t _ _ h255 HL.out).mono ?_; rintro e w' ⟨rfl, rfl⟩))
      go_loop [3] (fun i => ∃ k : Nat, 1 ≤ k ∧ k ≤ s.size ∧ i = .int .i64 k ∧ nameTo s k = true) (fun i => s.size - (intOf i).toNat)
      case atStart => exact ⟨1, by omega, by omega, rfl, HT1.out⟩
      case round =>
        obtain ⟨k, h1k, hk, rfl, ht⟩ := hrel
        have HT := Lib.hid ht; clear ht
        by_cases hlt : k < s.size
        · have HB := Lib.hid (byte_at hlt)
          have h255' := byte_le s[k]
          have hok : nameCh k s[k].toNat = true → nameTo s (k + 1) = true := fun h => by rw [nameTo_succ, HT.out, HB.out, h]; rfl
          have hno : nameCh k s[k].toNat = false → nameB s = false := fun h => by unfold nameB; rw [nameTo_false hlt (by rw [HB.out]; exact h), Bool.and_false]
          have HOK := Lib.hid hok; have HNO := Lib.hid hno; clear hok hno
          have hk0 : k ≠ 0 := by omega
          cases hL : letterB s[k].toNat
          · cases hD : digitB s[k].toNat
            · have HC := Lib.hid (show nameCh k s[k].toNat = false by simp [nameCh, hL, hD, hk0])
              have HL2 := Lib.hid hL; have HD := Lib.hid hD; clear hL hD
              go_wp2_with (first | (go_at_call 224; refine (l02Letter_f _ _ h255' HL2.out).mono ?_; rintro e w' ⟨rfl, rfl⟩) | (go_at_call 225; refine (l01Digit_f _ _ h255' HD.out).mono ?_; rintro e w' ⟨rfl, rfl⟩))
              go_ret
              exact ⟨by rw [HNO.out HC.out]; rfl, rfl⟩
            · have HC := Lib.hid (show nameCh k s[k].toNat = true by simp [nameCh, hL, hD, hk0])
              have HL2 := Lib.hid hL; have HD := Lib.hid hD; clear hL hD
              go_wp2_with (first | (go_at_call 224; refine (l02Letter_f _ _ h255' HL2.out).mono ?_; rintro e w' ⟨rfl, rfl⟩) | (go_at_call 225; refine (l01Digit_t _ _ h255' HD.out).mono ?_; rintro e w' ⟨rfl, rfl⟩))
              go_round
              case rel => exact ⟨k + 1, by omega, by omega, by go_num, HOK.out HC.out⟩
              case measure => simp [intOf]; omega
          · have HC := Lib.hid (show nameCh k s[k].toNat = true by simp [nameCh, hL])
            have HL2 := Lib.hid hL; clear hL
            go_wp2_with (go_at_call 224; refine (l02Letter_t _ _ h255' HL2.out).mono ?_; rintro e w' ⟨rfl, rfl⟩)
            go_round
            case rel => exact ⟨k + 1, by omega, by omega, by go_num, HOK.out HC.out⟩
            case measure => simp [intOf]; omega
        · obtain rfl : k = s.size := by omega
          go_wp2
          go_ret
          refine ⟨?_, rfl⟩
          refine congrArg (fun b => Ending.returned (.bool b)) ?_
          unfold nameB
          rw [HT.out, Bool.eq_iff_iff]
          simp
          omega
  · have hfirst' : nameCh 0 s[0].toNat = false := by simpa using hfirst
    have HB := Lib.hid (HNO.out hfirst')
    have hl : letterB s[0].toNat = false := by
      cases hL : letterB s[0].toNat
      · rfl
      · simp [nameCh, hL] at hfirst
    have hp37 : ((s[0].toNat : Int) != 37) = true := by
      rw [bne_iff_ne]
      intro h
      have h37 : s[0].toNat = 37 := by omega
      simp [nameCh, h37] at hfirst
    have HL := Lib.hid hl; clear hl hfirst hfirst' HNO
    go_enter Tryz.func190, Tryz.ntmps190
    go_wp2_with (go_at_call 224; refine (l02Letter_f _ _ h255 HL.out).mono ?_; rintro e w' ⟨rfl, rfl⟩)
    go_ret
    exact ⟨by rw [HB.out]; rfl, rfl⟩

theorem specNameOk_any (s : ByteArray) (w : World) (hs : s.size ≤ 9223372036854775807) :
    Calls Tryz.prog 137 #[.string s] w fun e w' => e = .returned (.bool (nameB s)) ∧ w = w' := by
  go_enter Tryz.func137, Tryz.ntmps137
  go_wp2_with (go_at_call 190; refine (l02Name_any s _ hs).mono ?_; rintro e w' ⟨rfl, rfl⟩)
  go_ret
  exact ⟨rfl, rfl⟩

end Go.Proofs.YtcjaaknnfohllaaGreatDoor
