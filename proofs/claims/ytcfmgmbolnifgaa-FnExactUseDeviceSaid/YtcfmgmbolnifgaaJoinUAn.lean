/- How large devices may be: what the laws of devices lean on. -/
import Derived.Test.YtcfmgmbolnifgaaJoinUAj
import Derived.Test.YtcfmgmbolnifgaaJoinUAm
import Derived.Test.YtcfmgmbolnifgaaJoinUAl
import Derived.Shelf.Spec.SlicesInsertGrow
namespace Go.Proofs.Ytcfmgmbolnifgaa
open Go.RowKit

theorem markAt_cost (a : Int) (fs : List Fil) : ∀ n, n ≤ fs.length → markAt a fs n ≤ a + 3 * n + costFilTo fs n
  | 0, _ => by simp [markAt, costFilTo]
  | n + 1, h => by
    have ih := markAt_cost a fs n (by omega)
    have hs := costFilTo_succ (fs := fs) (k := n) (by omega)
    have hc : (fs.getD n filD).lines.length ≤ costFil (fs.getD n filD) := by unfold costFil costStrs; omega
    unfold markAt
    omega
theorem costFilTo_all (fs : List Fil) : costFilTo fs fs.length = (fs.map costFil).sum := by unfold costFilTo; rw [List.take_length]
theorem DevFew.of_cost {d : Dev} (h : costDev d ≤ 1048576) : DevFew d := by
  unfold costDev costFils at h
  have h1 : d.scr.rows.length ≤ costStrs d.scr.rows := by unfold costStrs; omega
  have h2 : d.keys.length ≤ costStrs d.keys := by unfold costStrs; omega
  have h3 := markAt_cost (1 + d.scr.rows.length) d.files d.files.length (Nat.le_refl _)
  rw [costFilTo_all] at h3
  exact ⟨by omega, by omega, by omega, by omega⟩

def FilLow (f : Fil) : Prop := f.name.size ≤ 1000 ∧ f.part.size ≤ 1000 ∧ f.lines.length ≤ 1000 ∧ ∀ y ∈ f.lines, y.size ≤ 1000
structure DevLow (d : Dev) : Prop where
  rows : d.scr.rows.length ≤ 1000
  row : ∀ r ∈ d.scr.rows, r.size ≤ 1000
  files : d.files.length ≤ 1000
  file : ∀ f ∈ d.files, FilLow f
  keys : d.keys.length ≤ 1000
  key : ∀ r ∈ d.keys, r.size ≤ 1000
theorem DevLow.small {d : Dev} (h : DevLow d) : DevSmall d :=
  ⟨⟨by have := h.rows; omega, fun r hr => by have := h.row r hr; omega⟩, ⟨by have := h.files; omega, fun f hf => by
    obtain ⟨a, b, c, e⟩ := h.file f hf
    exact ⟨by omega, by omega, by omega, fun y hy => by have := e y hy; omega⟩⟩, by have := h.keys; omega, fun r hr => by have := h.key r hr; omega⟩
theorem markAt_low (a : Int) (fs : List Fil) (h : ∀ f ∈ fs, FilLow f) : ∀ n, n ≤ fs.length → markAt a fs n ≤ a + 1003 * n
  | 0, _ => by simp [markAt]
  | n + 1, hn => by
    have ih := markAt_low a fs h n (by omega)
    have := (h _ (getD_mem (d := filD) (show n < fs.length by omega))).2.2.1
    unfold markAt
    omega
theorem DevLow.few {d : Dev} (h : DevLow d) : DevFew d := by
  have h1 := h.rows; have h2 := h.files; have h3 := h.keys
  have h4 := markAt_low (1 + d.scr.rows.length) d.files h.file d.files.length (Nat.le_refl _)
  exact ⟨by omega, by omega, by omega, by omega⟩
theorem noDev_low : DevLow noDev := ⟨by simp [noDev, noScr], by simp [noDev, noScr], by simp [noDev], by simp [noDev], by simp [noDev], by simp [noDev]⟩

theorem FilLow.of_ok {f : Fil} (h : filB f = true) : FilLow f := by
  unfold filB nameB at h
  simp only [Bool.and_eq_true, decide_eq_true_eq] at h
  obtain ⟨⟨⟨⟨⟨⟨_, h1⟩, _⟩, h2⟩, h3⟩, _⟩, h5⟩ := h
  have hl : ∀ s, lineB s = true → s.size ≤ 80 := fun s hs => by
    unfold lineB at hs
    simp only [Bool.and_eq_true, decide_eq_true_eq] at hs
    exact hs.1
  refine ⟨by omega, by have := hl _ h3; omega, by omega, fun y hy => ?_⟩
  have := hl _ (List.all_eq_true.1 h5 y hy)
  omega
theorem DevGood.low {d : Dev} (h : DevGood d) : DevLow d := by
  refine ⟨by have := h.fine.len; omega, fun r hr => by have := h.fine.size r hr; omega, by have := h.n3; omega, fun f hf => FilLow.of_ok (h.files f hf), by have := h.k20; omega, fun r hr => ?_⟩
  have h2 := h.keys
  unfold keysB at h2
  have := List.all_eq_true.1 h2 r hr
  unfold keyB at this
  simp only [decide_eq_true_eq] at this
  omega
theorem closeP_low (d : Dev) (nm : ByteArray) : DevLow (closeP d nm).1 := by
  unfold closeP
  split
  · rename_i h
    have hl := (DevGood.of h).low
    split
    · have hs := List.eraseIdx_sublist d.files (place d.files nm)
      exact ⟨hl.rows, hl.row, by have := hs.length_le; have := hl.files; simp only [closeDev]; omega, fun f hf => hl.file f (hs.subset hf), hl.keys, hl.key⟩
    · exact noDev_low
  · exact noDev_low

end Go.Proofs.Ytcfmgmbolnifgaa

/- UseDevice plainly; a file put into a row of files of the call's own. -/
namespace Go.Proofs.Ytcfmgmbolnifgaa
open Go.RowKit

def filNew (nm : ByteArray) : Fil := ⟨nm, [], ⟨#[]⟩, 0⟩
def ins {α : Type} (k : Nat) (y : α) (xs : List α) : List α := xs.take k ++ y :: xs.drop k
theorem ins_len {α : Type} (k : Nat) (y : α) (xs : List α) : (ins k y xs).length = xs.length + 1 := by
  unfold ins
  rw [List.length_append, List.length_cons, List.length_take, List.length_drop]
  omega
theorem ins_map {α β : Type} (f : α → β) (k : Nat) (y : α) (xs : List α) : (ins k y xs).map f = ins k (f y) (xs.map f) := by
  unfold ins
  rw [List.map_append, List.map_cons, List.map_take, List.map_drop]
theorem ins_mem {α : Type} {k : Nat} {y x : α} {xs : List α} (h : x ∈ ins k y xs) : x = y ∨ x ∈ xs := by
  unfold ins at h
  rcases List.mem_append.1 h with h | h
  · exact .inr (List.mem_of_mem_take h)
  · rcases List.mem_cons.1 h with h | h
    · exact .inl h
    · exact .inr (List.mem_of_mem_drop h)
theorem ins_end {α : Type} (y : α) (xs : List α) : ins xs.length y xs = xs ++ [y] := by
  unfold ins
  rw [List.take_length, List.drop_length]

/-- What UseDevice gives for devices that are right and a name that is right. -/
def useDev (d : Dev) (nm : ByteArray) : Dev × Int :=
  if nm.size = 0 then (⟨0, d.scr, d.files, d.keys⟩, 0)
  else if thereB d.files nm then (⟨(place d.files nm : Int) + 1, d.scr, d.files, d.keys⟩, 0)
  else if d.files.length = 3 then (noDev, 4)
  else (⟨(place d.files nm : Int) + 1, d.scr, ins (place d.files nm) (filNew nm) d.files, d.keys⟩, 0)
def useP (d : Dev) (nm : ByteArray) : Dev × Int := if devB d && (decide (nm.size = 0) || nameB nm) then useDev d nm else (noDev, 1)

theorem useP_low (d : Dev) (nm : ByteArray) : DevLow (useP d nm).1 := by
  unfold useP
  split
  · rename_i h
    simp only [Bool.and_eq_true, Bool.or_eq_true, decide_eq_true_eq] at h
    have hl := (DevGood.of h.1).low
    unfold useDev
    split
    · exact ⟨hl.rows, hl.row, hl.files, hl.file, hl.keys, hl.key⟩
    · rename_i h0
      split
      · exact ⟨hl.rows, hl.row, hl.files, hl.file, hl.keys, hl.key⟩
      · split
        · exact noDev_low
        · have hn : nm.size ≤ 8 := by
            rcases h.2 with h2 | h2
            · exact absurd h2 h0
            · unfold nameB at h2
              simp only [Bool.and_eq_true, decide_eq_true_eq] at h2
              exact h2.1.2
          refine ⟨hl.rows, hl.row, ?_, fun f hf => ?_, hl.keys, hl.key⟩
          · have := (DevGood.of h.1).n3
            show (ins _ _ _).length ≤ 1000
            rw [ins_len]; omega
          · rcases ins_mem hf with rfl | hf
            · refine ⟨?_, ?_, ?_, fun y hy => by cases hy⟩
              · show nm.size ≤ 1000; omega
              · show (0 : Nat) ≤ 1000; omega
              · show (0 : Nat) ≤ 1000; omega
            · exact hl.file f hf
  · exact noDev_low

theorem flat_ins (k : Nat) (y : Fx) (xs : List Fx) : flat (ins k y xs) = (flat xs).take (k * 4) ++ y.cells ++ (flat xs).drop (k * 4) := by
  have ht : ∀ (k : Nat) (xs : List Fx), flat (xs.take k) = (flat xs).take (k * 4) ∧ flat (xs.drop k) = (flat xs).drop (k * 4) := by
    intro k
    induction k with
    | zero => intro xs; simp [flat]
    | succ k ih =>
      intro xs
      cases xs with
      | nil => simp [flat]
      | cons x xs =>
        have hc : x.cells.length = 4 := rfl
        have e : flat (x :: xs) = x.cells ++ flat xs := by simp [flat]
        rw [e, List.take_succ_cons, List.drop_succ_cons, (ih xs).2]
        have e2 : flat (x :: xs.take k) = x.cells ++ flat (xs.take k) := by simp [flat]
        rw [e2, (ih xs).1]
        have e3 : (k + 1) * 4 = x.cells.length + k * 4 := by rw [hc]; omega
        rw [e3, List.take_length_add_append, List.drop_length_add_append]
        exact ⟨rfl, rfl⟩
  unfold ins
  rw [flat_append, (ht k xs).1]
  have e : flat (y :: xs.drop k) = y.cells ++ flat (xs.drop k) := by simp [flat]
  rw [e, (ht k xs).2, List.append_assoc]

/-- A file without lines is put into the row. -/
theorem OwnFx.insert {w w' : World} {lo hi k g' cap' : Nat} {v : Value} {xs : List Fx} {y : Fx} (h : OwnFx w lo hi v xs) (hh : hi ≤ w.heap.size) (hy : y.sl = .slice none 0 0) (hyl : y.f.lines = [])
    (hg : w.grownBy w' v.ownBlock) (hat : v.ownBlock = some g' ∨ w.heap.size ≤ g')
    (hr : w'.ownsRow lo 91 4 (.slice (some ⟨g', 0, none⟩) (xs.length + 1) cap') (xs.length + 1) ((flat xs).take (k * 4) ++ y.cells ++ (flat xs).drop (k * 4))) :
    OwnFx w' lo w'.heap.size (.slice (some ⟨g', 0, none⟩) (xs.length + 1) cap') (ins k y xs) := by
  have hsz := hg.size
  have hyn : ∀ b, y.sl.ownBlock ≠ some b := fun b e => by rw [hy] at e; cases e
  have hgv : ∀ b, b < w.heap.size → v.ownBlock ≠ some b → (Value.slice (some ⟨g', 0, none⟩) (xs.length + 1) cap').ownBlock ≠ some b := by
    intro b hb hv e
    have : g' = b := by simpa [Value.ownBlock] using e
    subst this
    rcases hat with h1 | h1
    · exact hv h1
    · omega
  have hrow : w'.ownsRow lo 91 4 (.slice (some ⟨g', 0, none⟩) (xs.length + 1) cap') (ins k y xs).length (flat (ins k y xs)) := by
    rw [flat_ins, ins_len]; exact hr
  refine ⟨⟨some ⟨g', 0, none⟩, cap', by rw [ins_len]⟩, hrow, fun b hb => (hrow.lt b hb).2, fun x hx => ?_, fun x hx b hb => ?_, ?_⟩
  · rcases ins_mem hx with rfl | hx
    · refine ⟨?_, fun b hb => absurd hb (hyn b)⟩
      rw [hy, hyl]
      exact World.ownsRow_nil _ _ _ _
    · have h1 := own_grown (h.own x hx).1 hg (fun b hb e => h.far x hx b hb e)
      exact ⟨h1, fun b hb => (h1.lt b hb).2⟩
  · rcases ins_mem hx with rfl | hx
    · exact absurd hb (hyn b)
    · exact hgv b (by have := (h.own x hx).2 b hb; omega) (h.far x hx b hb)
  · have hp := h.apart
    rw [← List.take_append_drop k xs, List.pairwise_append] at hp
    unfold ins
    rw [List.pairwise_append]
    refine ⟨hp.1, List.pairwise_cons.2 ⟨fun x _ b hb => absurd hb (hyn b), hp.2.1⟩, fun a ha b hb => ?_⟩
    rcases List.mem_cons.1 hb with rfl | hb
    · exact fun c _ e => hyn c e
    · exact hp.2.2 a ha b hb

end Go.Proofs.Ytcfmgmbolnifgaa

/- slices.Insert at files, one file: walked. -/
namespace Go.Proofs.Ytcfmgmbolnifgaa
open Go.RowKit

theorem run_copy_at {P : Program} (w : World) (dT sT ty elem : TypeId) (i : TypeInfo) (b o dLen dCap : Nat) (a : Addr) (sLen sCap m : Nat) (cs : List Value)
    (hu : P.underlying dT = some (.slice elem)) (hi : P.info? elem = some i) (hm : Nat.min sLen dLen = m) (hn : cs.length = m * i.size)
    (hsrc : ∀ j v, cs[j]? = some v → w.cell? (a.add j) = some v) (hc : ∀ j, j < cs.length → (w.cell? ⟨b, o + j, none⟩).isSome = true) (hf : ∀ j, j < cs.length → w.frozen? ⟨b, o + j, none⟩ = false) (h1 : ∀ v ∈ cs, v.oneCell' = true) :
    (Builtin.copy_ #[dT, sT] ty #[.slice (some ⟨b, o, none⟩) dLen dCap, .slice (some a) sLen sCap]).run P w = .ok (goInt m) (w.setCells b o cs) := by
  have hl := run_loadCells_list (P := P) w a cs hsrc
  have hst := run_storeCells_cells (P := P) b o cs 0 w (by simpa using hc) (by simpa using hf) h1
  rw [hn] at hl
  simp [Builtin.copy_, run_underlying hu, Builtin.lenOf, Builtin.firstCells, sizeOf, typeInfo, hi, hm, hl, hst]

theorem ins_get {α : Type} (l m : List α) (a q : Nat) (h : a ≤ l.length) : (l.take a ++ m ++ l.drop a)[q]? = if q < a then l[q]? else if q < a + m.length then m[q - a]? else l[q - m.length]? := by
  have ha : (l.take a).length = a := by rw [List.length_take]; omega
  by_cases h1 : q < a
  · rw [if_pos h1, List.append_assoc, List.getElem?_append_left (by omega), List.getElem?_take, if_pos h1]
  · rw [if_neg h1]
    by_cases h2 : q < a + m.length
    · rw [if_pos h2, List.getElem?_append_left (by rw [List.length_append]; omega), List.getElem?_append_right (by omega), ha]
    · rw [if_neg h2, List.getElem?_append_right (by rw [List.length_append]; omega), List.getElem?_drop, List.length_append, ha]
      congr 1; omega

abbrev FnIns : Nat := 101

/-- What slices.Insert gives. -/
def InsPost (w : World) (base n k : Nat) (v : Value) (fl vs : List Value) (e : Ending) (w' : World) : Prop :=
  ∃ g' cap', e = .returned (.slice (some ⟨g', 0, none⟩) (n + 1) cap') ∧ w'.ownsRow base 91 4 (.slice (some ⟨g', 0, none⟩) (n + 1) cap') (n + 1) (fl.take (k * 4) ++ vs ++ fl.drop (k * 4)) ∧ w.grownBy w' v.ownBlock ∧ (v.ownBlock = some g' ∨ w.heap.size ≤ g')

theorem ins_row {w' : World} {base n k g cap : Nat} {fl vs : List Value} {cs : Array Value} (hfl : fl.length = n * 4) (hk : k ≤ n) (hv : vs.length = 4) (hb : base ≤ g) (hB : Blk w' g 91 cs) (hs : cs.size = cap * 4) (hn : n + 1 ≤ cap) (hm : cap ≤ maxLen)
    (hc : ∀ q, q < (n + 1) * 4 → cs[q]? = if q < k * 4 then fl[q]? else if q < k * 4 + 4 then vs[q - k * 4]? else fl[q - 4]?) :
    w'.ownsRow base 91 4 (.slice (some ⟨g, 0, none⟩) (n + 1) cap) (n + 1) (fl.take (k * 4) ++ vs ++ fl.drop (k * 4)) := by
  refine ⟨?_, .inr ⟨g, cap, cs, rfl, hb, hB, hn, hm, hs, ?_⟩⟩
  · rw [List.length_append, List.length_append, List.length_take, List.length_drop, hv, hfl]; omega
  · apply List.ext_getElem?
    intro q
    rw [ins_get fl vs (k * 4) q (by omega), hv]
    by_cases hq : q < (n + 1) * 4
    · rw [List.getElem?_take, if_pos hq, Array.getElem?_toList, hc q hq]
    · rw [List.getElem?_take, if_neg hq, if_neg (by omega), if_neg (by omega), List.getElem?_eq_none (by omega)]

set_option maxHeartbeats 4000000 in
set_option maxRecDepth 100000 in
theorem insertFil_end (v : Value) (n vb vc base : Nat) (fl vs : List Value) (w : World) (hown : w.ownsRow base 91 4 v n fl) (hn : n ≤ 1000) (hbase : base ≤ w.heap.size)
    (hvs : Blk w vb 91 vs.toArray) (hvl : vs.length = 4) (h1v : ∀ u ∈ vs, u.oneCell' = true) :
    Calls Try.prog FnIns #[v, .int .i64 n, .slice (some ⟨vb, 0, none⟩) 1 vc] w (InsPost w base n n v fl vs) := by
  obtain ⟨i0, hi0, hz0, hz1, hz2⟩ := info_parts infoFile
  have hfl : fl.length = n * 4 := hown.1
  have HFL := Lib.hid (show fl.take (n * 4) ++ vs ++ fl.drop (n * 4) = fl ++ vs by rw [← hfl, List.take_length, List.drop_length, List.append_nil])
  have HO := Lib.hid hown
  have HNW := Lib.hid (show ∀ j u, vs[j]? = some u → w.cell? ((⟨vb, 0, none⟩ : Addr).add j) = some u from fun j u hj => by rw [Addr.add_lit, Nat.zero_add, hvs.cell]; simpa using hj)
  have HON := Lib.hid h1v; have HVL := Lib.hid (show vs.length = 1 * 4 from hvl); have HB := Lib.hid hbase
  have H63 := Lib.hid (show n + 1 ≤ maxLen by unfold maxLen; omega)
  have H64 := Lib.hid (show (n + 1) * 64 ≤ 140737488355328 by omega)
  have HFIN := Lib.hid (fun g cap w' (h1 : w'.ownsRow base 91 4 (.slice (some ⟨g, 0, none⟩) (n + 1) cap) (n + 1) (fl ++ vs)) (h2 : w.grownBy w' v.ownBlock) (h3 : v.ownBlock = some g ∨ g = w.heap.size) =>
    show InsPost w base n n v fl vs (.returned (.slice (some ⟨g, 0, none⟩) (n + 1) cap)) w' from ⟨g, cap, rfl, by rw [HFL.out]; exact h1, h2, h3.imp id (fun h => Nat.le_of_eq h.symm)⟩)
  rcases hown.2 with ⟨hv, hn0⟩ | ⟨g, cap, cur, hv, hg, hh, hnc, hm, hsz, htk⟩
  · subst hv hn0
    clear hfl hown hvs hvl h1v hbase hn
    go_enter Try.func101, Try.ntmps101
    go_wp2_with (at_builtin; refine wpList_append_lies _ (by rfl) (.tmp 23) (.tmp 24) 59 (by rfl) base 91 i0 _ 4 64 Try.underlying59 hi0 hz0 hz1 hz2 rfl (by decide) (.slice none 0 0) 0 fl (by rfl) HO.out ⟨vb, 0, none⟩ 1 vc vs (by rfl) HVL.out HNW.out HON.out (by omega) H63.out H64.out HB.out _ rfl ?_; intro g cap w6 hr6 hg6 hat6 hlt6; have HE := Lib.hid (HFIN.out g cap w6 hr6 hg6 hat6); clear hr6 hg6 hat6)
    go_ret
    exact HE.out
  · subst hv
    unfold maxLen at hm
    clear hfl hown hvs hvl h1v hbase hn hh hsz htk
    go_enter Try.func101, Try.ntmps101
    go_wp2_with (at_builtin; refine wpList_append_lies _ (by rfl) (.tmp 23) (.tmp 24) 59 (by rfl) base 91 i0 _ 4 64 Try.underlying59 hi0 hz0 hz1 hz2 rfl (by decide) (.slice (some ⟨g, 0, none⟩) n cap) n fl (by rfl) HO.out ⟨vb, 0, none⟩ 1 vc vs (by rfl) HVL.out HNW.out HON.out (by omega) H63.out H64.out HB.out _ rfl ?_; intro g cap w6 hr6 hg6 hat6 hlt6; have HE := Lib.hid (HFIN.out g cap w6 hr6 hg6 hat6); clear hr6 hg6 hat6)
    all_goals (go_ret; exact HE.out)

theorem shape_blk {w : World} {g : Nat} {t : TypeId} {cs : Array Value} (h : Blk w g t cs) : w.shape? g = some (t, cs.size) := by
  unfold Blk at h
  simp [World.shape?, h]

set_option maxHeartbeats 8000000 in
set_option maxRecDepth 100000 in
theorem insertFil_shift (g n cap k vb vc base : Nat) (fl vs : List Value) (cur : Array Value) (w : World) (hB : Blk w g 91 cur) (hsz : cur.size = cap * 4) (htk : cur.toList.take (n * 4) = fl) (hbg : base ≤ g) (hk : k < n) (hroom : n + 1 ≤ cap) (hcap : cap ≤ 9223372036854775807) (hn : n ≤ 1000)
    (hvs : Blk w vb 91 vs.toArray) (hne : vb ≠ g) (hvl : vs.length = 4) (h1v : ∀ u ∈ vs, u.oneCell' = true) (h1f : ∀ u ∈ fl, u.oneCell' = true) :
    Calls Try.prog FnIns #[.slice (some ⟨g, 0, none⟩) n cap, .int .i64 k, .slice (some ⟨vb, 0, none⟩) 1 vc] w (InsPost w base n k (.slice (some ⟨g, 0, none⟩) n cap) fl vs) := by
  obtain ⟨i0, hi0, hz0, hz1, hz2⟩ := info_parts infoFile
  have hfl : fl.length = n * 4 := by rw [← htk, List.length_take, Array.length_toList, hsz]; omega
  have hcur : ∀ q, q < n * 4 → cur[q]? = fl[q]? := fun q hq => by rw [← htk, List.getElem?_take, if_pos hq, Array.getElem?_toList]
  have hdl : (fl.drop (k * 4)).length = (n - k) * 4 := by rw [List.length_drop, hfl]; omega
  have hov : ∀ lb cb, (callFunc 133 #[.slice (some ⟨vb, 0, none⟩) 1 vc, .slice (some ⟨g, (k + 1) * 4, none⟩) lb cb]).run Try.prog w = .ok (.value (.bool false)) w := fun lb cb => by
    rw [run_callFunc_extern Try.func133 (by kernel_rfl) (by kernel_rfl) (by kernel_rfl) (e := Extern.SlicesOverlaps.overlaps #[59, 59] #[4]) (by kernel_rfl),
      Lib.run_overlaps_apart w 59 4 91 Try.underlying59 4 (fun W => by kernel_rfl) ⟨vb, 0, none⟩ ⟨g, (k + 1) * 4, none⟩ 1 vc lb cb hne 91 91 _ _ (shape_blk hvs) (shape_blk hB) (by omega) (hvs.frozen _) (hvs.frozen _)]
    rfl
  obtain ⟨W1, hW1⟩ : ∃ W1, W1 = w.drew.setCells g ((k + 1) * 4) (fl.drop (k * 4)) := ⟨_, rfl⟩
  obtain ⟨c1, hB1, hs1, hc1⟩ := Blk.setCells (fl.drop (k * 4)) ((k + 1) * 4) w.drew cur (hB.drewN 1)
  have o1 := setCells_same g (fl.drop (k * 4)) ((k + 1) * 4) w.drew
  rw [← hW1] at hB1 o1
  have hV1 : Blk W1 vb 91 vs.toArray := (o1.2.2.2.2 vb hne).trans hvs
  have hcp1 : ∀ ty dc sc, (Builtin.copy_ #[59, 59] ty #[.slice (some ⟨g, (k + 1) * 4, none⟩) (n - k) dc, .slice (some ⟨g, k * 4, none⟩) (n + 1 - k) sc]).run Try.prog w.drew = .ok (goInt ((n - k : Nat) : Int)) W1 := fun ty dc sc => by
    rw [hW1]
    exact run_copy_at w.drew _ _ ty 91 i0 g ((k + 1) * 4) (n - k) dc ⟨g, k * 4, none⟩ (n + 1 - k) sc (n - k) (fl.drop (k * 4)) Try.underlying59 hi0 (by simp only [Nat.min_def]; split <;> omega) (by rw [hdl, hz1])
      (fun j v hj => by
        rw [Addr.add_lit]
        rw [List.getElem?_drop] at hj
        have hq : k * 4 + j < n * 4 := by have := (List.getElem?_eq_some_iff.1 hj).1; omega
        exact ((hB.cell _).trans (hcur _ hq)).trans hj)
      (fun j hj => by
        show (w.cell? _).isSome = true
        rw [hB.cell, Array.getElem?_eq_getElem (by omega)]; rfl)
      (fun j _ => hB.frozen _) (fun v hv => h1f v (List.mem_of_mem_drop hv))
  have hcp2 : ∀ ty dc, (Builtin.copy_ #[59, 59] ty #[.slice (some ⟨g, k * 4, none⟩) (n + 1 - k) dc, .slice (some ⟨vb, 0, none⟩) 1 vc]).run Try.prog W1 = .ok (goInt ((1 : Nat) : Int)) (W1.setCells g (k * 4) vs) := fun ty dc =>
    run_copy_at W1 _ _ ty 91 i0 g (k * 4) (n + 1 - k) dc ⟨vb, 0, none⟩ 1 vc 1 vs Try.underlying59 hi0 (by simp only [Nat.min_def]; split <;> omega) (by rw [hvl, hz1])
      (fun j v hj => by rw [Addr.add_lit, Nat.zero_add, hV1.cell]; simpa using hj)
      (fun j hj => by rw [hB1.cell, Array.getElem?_eq_getElem (by omega)]; rfl) (fun j _ => hB1.frozen _) h1v
  obtain ⟨c2, hB2, hs2, hc2⟩ := Blk.setCells vs (k * 4) W1 c1 hB1
  have o2 := setCells_same g vs (k * 4) W1
  have HFIN := Lib.hid (show InsPost w base n k (.slice (some ⟨g, 0, none⟩) n cap) fl vs (.returned (.slice (some ⟨g, 0, none⟩) (n + 1) cap)) (W1.setCells g (k * 4) vs) by
    refine ⟨g, cap, rfl, ins_row hfl (by omega) hvl hbg hB2 (by omega) hroom (by unfold maxLen; omega) (fun q hq => ?_), ⟨o2.1.trans o1.1, o2.2.1.trans o1.2.1, o2.2.2.1.trans o1.2.2.1, Nat.le_of_eq (o2.2.2.2.1.trans o1.2.2.2.1).symm, fun b _ hb => (o2.2.2.2.2 b (fun e => hb (by rw [e]; rfl))).trans (o1.2.2.2.2 b (fun e => hb (by rw [e]; rfl)))⟩, .inl rfl⟩
    rw [hc2 q, hc1 q, hvl, hdl]
    by_cases h1 : q < k * 4
    · rw [if_neg (by omega), if_neg (by omega), if_pos h1]
      exact hcur q (by omega)
    · rw [if_neg h1]
      by_cases h2 : q < k * 4 + 4
      · rw [if_pos h2, if_pos ⟨by omega, h2, by omega⟩]
      · rw [if_neg h2, if_neg (by omega), if_pos ⟨by omega, by omega, by omega⟩, List.getElem?_drop]
        congr 1; omega)
  have HOV := Lib.hid hov; have HC1 := Lib.hid hcp1; have HC2 := Lib.hid hcp2
  have b0 : (0 : Int) ≤ (k : Int) := by omega
  have b1 : (k : Int) ≤ (n : Int) := by omega
  have b2 : (n : Int) ≤ (cap : Int) := by omega
  have b3 : (n : Int) + 1 ≤ (cap : Int) := by omega
  have b4 : (0 : Int) ≤ (n : Int) + 1 := by omega
  have b5 : (k : Int) + 1 ≤ (n : Int) + 1 := by omega
  have b6 : (0 : Int) ≤ (k : Int) + 1 := by omega
  have b7 : (k : Int) ≤ (n : Int) + 1 := by omega
  have b8 : ((k : Int) + 1).toNat = k + 1 := by omega
  have b9 : ((n : Int) + 1).toNat = n + 1 := by omega
  have d1 : ¬ (cap = k + 1) := by omega
  have d2 : ¬ (cap = k) := by omega
  have d3 : ((k : Int) == (n : Int)) = false := by rw [beq_eq_false_iff_ne]; omega
  have d4 : decide ((cap : Int) < (n : Int) + 1) = false := decide_eq_false (by omega)
  have d5 : k + 1 ≤ n + 1 := by omega
  have d6 : k ≤ n + 1 := by omega
  have d7 : n + 1 ≤ cap := by omega
  have wr1 : IntKind.i64.wrap ((k : Int) + 1) = (k : Int) + 1 := IntWalk.i64_in _ (by omega)
  clear hW1 hB hsz htk hfl hcur hdl hov hcp1 hcp2 hB1 hs1 hc1 o1 hV1 hB2 hs2 hc2 o2 hvs hvl h1v h1f hbg hne hroom
  go_enter Try.func101, Try.ntmps101
  go_wp2_with (simp only [HOV.out])
  go_region_law (refine step_copy_runI rfl _ _ 59 59 rfl (.slice (some ⟨g, (k + 1) * 4, none⟩) (n - k) (cap - (k + 1))) (.slice (some ⟨g, k * 4, none⟩) (n + 1 - k) (cap - k)) (by simp [Act.eval, Act.put]) (by simp [Act.eval, Act.put]) (HC1.out _ (cap - (k + 1)) (cap - k)) ?_)
  go_wp2_with (refine wpList_copy_runI _ rfl (.tmp 80) (.tmp 81) 59 59 rfl (.slice (some ⟨g, k * 4, none⟩) (n + 1 - k) (cap - k)) (.slice (some ⟨vb, 0, none⟩) 1 vc) rfl rfl (HC2.out _ _) ?_)
  go_ret
  exact HFIN.out

set_option maxHeartbeats 8000000 in
set_option maxRecDepth 100000 in
theorem insertFil_grow (g n cap k vb vc base : Nat) (fl vs : List Value) (cur : Array Value) (w : World) (hB : Blk w g 91 cur) (hsz : cur.size = cap * 4) (htk : cur.toList.take (n * 4) = fl) (hbase : base ≤ w.heap.size) (hk : k < n) (hnc : n ≤ cap) (hroom : cap < n + 1) (hn : n ≤ 1000)
    (hvs : Blk w vb 91 vs.toArray) (hvl : vs.length = 4) (h1v : ∀ u ∈ vs, u.oneCell' = true) (h1f : ∀ u ∈ fl, u.oneCell' = true) :
    Calls Try.prog FnIns #[.slice (some ⟨g, 0, none⟩) n cap, .int .i64 k, .slice (some ⟨vb, 0, none⟩) 1 vc] w (InsPost w base n k (.slice (some ⟨g, 0, none⟩) n cap) fl vs) := by
  obtain ⟨i0, hi0, hz0, hz1, hz2⟩ := info_parts infoFile
  have hfl : fl.length = n * 4 := by rw [← htk, List.length_take, Array.length_toList, hsz]; omega
  have hcur : ∀ q, q < n * 4 → cur[q]? = fl[q]? := fun q hq => by rw [← htk, List.getElem?_take, if_pos hq, Array.getElem?_toList]
  have hdl : (fl.drop (k * 4)).length = (n - k) * 4 := by rw [List.length_drop, hfl]; omega
  have hgw := hB.lt
  have hvw := hvs.lt
  obtain ⟨G, hG⟩ : ∃ G, G = grownCap w (n + 1) cap 91 := ⟨_, rfl⟩
  have hGn : n + 1 ≤ G := by rw [hG]; exact grownCap_ge w _ _ _
  have hG63 : G ≤ 9223372036854775807 := by
    have := grownCap_le_maxLen w (n + 1) cap 91 (by unfold maxLen; omega)
    rw [← hG] at this; unfold maxLen at this; omega
  obtain ⟨Z, hZ⟩ : ∃ Z, Z = (Value.agg #[.string ⟨#[]⟩, .slice none 0 0, .string ⟨#[]⟩, .int .i64 0]).cells := ⟨_, rfl⟩
  obtain ⟨ROW, hROW⟩ : ∃ ROW : Array Value, ROW = (fl.take (k * 4)).toArray ++ Builtin.zeroCells Z (n + 1 - k) ++ Builtin.zeroCells Z (G - (n + 1)) := ⟨_, rfl⟩
  have hZs : Z.size = 4 := by rw [hZ]; rfl
  have hzc : ∀ m, (Builtin.zeroCells Z m).size = m * 4 := fun m => by rw [size_zeroCells, hZs]
  have hRs : ROW.size = G * 4 := by
    rw [hROW]
    simp only [Array.size_append, List.size_toArray, List.length_take, hzc, hfl]
    rw [Nat.min_eq_left (by omega)]
    omega
  have hRc : ∀ q, q < k * 4 → ROW[q]? = fl[q]? := fun q hq => by
    rw [hROW, Array.append_assoc, Array.getElem?_append_left (by simp [hfl]; omega)]
    simp [hq]
  have hold : (Builtin.firstCells i0.size k (.slice (some ⟨g, 0, none⟩) k cap)).run Try.prog w.drew = .ok (fl.take (k * 4)).toArray w.drew := by
    rw [hz1]
    refine run_firstCells_some w.drew 4 k ⟨g, 0, none⟩ k cap (fl.take (k * 4)) (by rw [List.length_take, hfl]; omega) (fun j v hj => ?_)
    rw [List.getElem?_take] at hj
    split at hj
    · rw [Addr.add_lit, Nat.zero_add]
      exact ((hB.cell _).trans (hcur _ (by omega))).trans hj
    · cases hj
  obtain ⟨W1, hW1⟩ : ∃ W1, W1 = w.drew.alloc (.cells ROW 91) := ⟨_, rfl⟩
  have hkk : (n : Int) + 1 - (k : Int) = ((n + 1 - k : Nat) : Int) := by omega
  have hik : k + (n + 1 - k) = n + 1 := by omega
  have hrz : ∀ ty, (Builtin.append_ #[59, 3] ty #[.slice (some ⟨g, 0, none⟩) k cap, .int .i64 ((n : Int) + 1 - (k : Int))]).run Try.prog w = .ok (.slice (some ⟨w.heap.size, 0, none⟩) (n + 1) G) W1 := fun ty => by
    have h := Lib.run_append_grow_zeros w 59 3 ty 91 i0 _ .i64 .i64 Try.underlying59 Try.underlying3 hi0 hz0 (some ⟨g, 0, none⟩) k cap (fl.take (k * 4)) hold (n + 1 - k) (by omega) (by omega) (by omega) (by omega) (by rw [hz2]; omega) (by rw [hz2, hik]; exact growslice_fits hroom (by omega))
    rw [hik] at h
    rw [hkk, h, ← hG, ← hZ, ← hROW, ← hW1]
  have hB1 : Blk W1 w.heap.size 91 ROW := by rw [hW1]; exact Blk.new w.drew 91 ROW
  have ho1 : ∀ b, b < w.heap.size → W1.heap[b]? = w.heap[b]? := fun b hb => by rw [hW1]; exact Below.heap_alloc w.drew _ b hb
  have hz1' : W1.heap.size = w.heap.size + 1 := by rw [hW1]; simp
  obtain ⟨W2, hW2⟩ : ∃ W2, W2 = W1.setCells w.heap.size (k * 4) vs := ⟨_, rfl⟩
  obtain ⟨c2, hB2, hs2, hc2⟩ := Blk.setCells vs (k * 4) W1 ROW hB1
  have o2 := setCells_same w.heap.size vs (k * 4) W1
  have hV1 : Blk W1 vb 91 vs.toArray := (ho1 vb hvw).trans hvs
  have hcpA : ∀ ty dc, (Builtin.copy_ #[59, 59] ty #[.slice (some ⟨w.heap.size, k * 4, none⟩) (n + 1 - k) dc, .slice (some ⟨vb, 0, none⟩) 1 vc]).run Try.prog W1 = .ok (goInt ((1 : Nat) : Int)) W2 := fun ty dc => by
    rw [hW2]
    exact run_copy_at W1 _ _ ty 91 i0 w.heap.size (k * 4) (n + 1 - k) dc ⟨vb, 0, none⟩ 1 vc 1 vs Try.underlying59 hi0 (by simp only [Nat.min_def]; split <;> omega) (by rw [hvl, hz1])
      (fun j v hj => by rw [Addr.add_lit, Nat.zero_add, hV1.cell]; simpa using hj)
      (fun j hj => by rw [hB1.cell, Array.getElem?_eq_getElem (by omega)]; rfl) (fun j _ => hB1.frozen _) h1v
  rw [← hW2] at hB2 o2
  have hg2 : Blk W2 g 91 cur := ((o2.2.2.2.2 g (by omega)).trans (ho1 g hgw)).trans hB
  obtain ⟨W3, hW3⟩ : ∃ W3, W3 = W2.drew.setCells w.heap.size ((k + 1) * 4) (fl.drop (k * 4)) := ⟨_, rfl⟩
  obtain ⟨c3, hB3, hs3, hc3⟩ := Blk.setCells (fl.drop (k * 4)) ((k + 1) * 4) W2.drew c2 (hB2.drewN 1)
  have o3 := setCells_same w.heap.size (fl.drop (k * 4)) ((k + 1) * 4) W2.drew
  have hcpB : ∀ ty dc sc, (Builtin.copy_ #[59, 59] ty #[.slice (some ⟨w.heap.size, (k + 1) * 4, none⟩) (n - k) dc, .slice (some ⟨g, k * 4, none⟩) (n - k) sc]).run Try.prog W2.drew = .ok (goInt ((n - k : Nat) : Int)) W3 := fun ty dc sc => by
    rw [hW3]
    exact run_copy_at W2.drew _ _ ty 91 i0 w.heap.size ((k + 1) * 4) (n - k) dc ⟨g, k * 4, none⟩ (n - k) sc (n - k) (fl.drop (k * 4)) Try.underlying59 hi0 (by simp only [Nat.min_def]; split <;> omega) (by rw [hdl, hz1])
      (fun j v hj => by
        rw [Addr.add_lit]
        rw [List.getElem?_drop] at hj
        have hq : k * 4 + j < n * 4 := by have := (List.getElem?_eq_some_iff.1 hj).1; omega
        exact ((hg2.cell _).trans (hcur _ hq)).trans hj)
      (fun j hj => by
        show (W2.cell? _).isSome = true
        rw [hB2.cell, Array.getElem?_eq_getElem (by omega)]; rfl)
      (fun j _ => hB2.frozen _) (fun v hv => h1f v (List.mem_of_mem_drop hv))
  rw [← hW3] at hB3 o3
  have HFIN := Lib.hid (show InsPost w base n k (.slice (some ⟨g, 0, none⟩) n cap) fl vs (.returned (.slice (some ⟨w.heap.size, 0, none⟩) (n + 1) G)) W3 by
    have e1 : W1.os = w.os ∧ W1.tape = w.tape ∧ W1.output = w.output := by rw [hW1]; exact ⟨rfl, rfl, rfl⟩
    refine ⟨w.heap.size, G, rfl, ins_row hfl (by omega) hvl hbase hB3 (by omega) hGn (by unfold maxLen; omega) (fun q hq => ?_), ⟨o3.1.trans (o2.1.trans e1.1), o3.2.1.trans (o2.2.1.trans e1.2.1), o3.2.2.1.trans (o2.2.2.1.trans e1.2.2), ?_, fun b hb _ => (o3.2.2.2.2 b (by omega)).trans ((o2.2.2.2.2 b (by omega)).trans (ho1 b hb))⟩, .inr (Nat.le_refl _)⟩
    · rw [hc3 q, hc2 q, hvl, hdl]
      by_cases h1 : q < k * 4
      · rw [if_neg (by omega), if_neg (by omega), if_pos h1]
        exact hRc q h1
      · rw [if_neg h1]
        by_cases h2 : q < k * 4 + 4
        · rw [if_pos h2, if_neg (by omega), if_pos ⟨by omega, h2, by omega⟩]
        · rw [if_neg h2, if_pos ⟨by omega, by omega, by omega⟩, List.getElem?_drop]
          congr 1; omega
    · have h3 : W3.heap.size = W2.heap.size := o3.2.2.2.1
      have h2 : W2.heap.size = W1.heap.size := o2.2.2.2.1
      omega)
  have HRZ := Lib.hid hrz; have HCA := Lib.hid hcpA; have HCB := Lib.hid hcpB
  have b0 : (0 : Int) ≤ (k : Int) := by omega
  have b1 : (k : Int) ≤ (n : Int) := by omega
  have b2 : (n : Int) ≤ (cap : Int) := by omega
  have b3 : (k : Int) ≤ (n : Int) + 1 := by omega
  have b4 : (n : Int) + 1 ≤ (G : Int) := by omega
  have b5 : (k : Int) + 1 ≤ (n : Int) + 1 := by omega
  have b6 : (0 : Int) ≤ (k : Int) + 1 := by omega
  have b8 : ((k : Int) + 1).toNat = k + 1 := by omega
  have d1 : ¬ (G = k + 1) := by omega
  have d2 : ¬ (G = k) := by omega
  have d0 : ¬ (cap = k) := by omega
  have d3 : ((k : Int) == (n : Int)) = false := by rw [beq_eq_false_iff_ne]; omega
  have d4 : decide ((cap : Int) < (n : Int) + 1) = true := decide_eq_true (by omega)
  have d5 : k + 1 ≤ n + 1 := by omega
  have d6 : k ≤ n + 1 := by omega
  have d7 : k ≤ n := by omega
  have wr1 : IntKind.i64.wrap ((k : Int) + 1) = (k : Int) + 1 := IntWalk.i64_in _ (by omega)
  clear hW1 hW2 hW3 hB hsz htk hfl hcur hdl hG hZ hROW hZs hzc hRs hRc hold hkk hik hrz hB1 ho1 hz1' hB2 hs2 hc2 o2 hV1 hcpA hg2 hB3 hs3 hc3 o3 hcpB hvs hvl h1v h1f hbase
  go_enter Try.func101, Try.ntmps101
  go_wp2_with (first | (at_builtin; refine Lib.wpList_append_run _ rfl _ _ _ _ rfl _ _ rfl rfl _ _ (HRZ.out _) ?_) | (refine wpList_copy_runI _ rfl (.tmp 43) (.tmp 44) 59 59 rfl (.slice (some ⟨w.heap.size, k * 4, none⟩) (n + 1 - k) (G - k)) (.slice (some ⟨vb, 0, none⟩) 1 vc) rfl rfl (HCA.out _ _) ?_))
  go_region_law (refine step_copy_runI rfl _ _ 59 59 rfl (.slice (some ⟨w.heap.size, (k + 1) * 4, none⟩) (n - k) (G - (k + 1))) (.slice (some ⟨g, k * 4, none⟩) (n - k) (cap - k)) (by simp [Act.eval, Act.put]) (by simp [Act.eval, Act.put]) (HCB.out _ (G - (k + 1)) (cap - k)) ?_)
  go_wp2
  go_ret
  exact HFIN.out

theorem insertFil_any (v : Value) (n k vb vc base : Nat) (fl vs : List Value) (w : World) (hown : w.ownsRow base 91 4 v n fl) (hk : k ≤ n) (hn : n ≤ 1000) (hbase : base ≤ w.heap.size)
    (hvs : Blk w vb 91 vs.toArray) (hne : v.ownBlock ≠ some vb) (hvl : vs.length = 4) (h1v : ∀ u ∈ vs, u.oneCell' = true) (h1f : ∀ u ∈ fl, u.oneCell' = true) :
    Calls Try.prog FnIns #[v, .int .i64 k, .slice (some ⟨vb, 0, none⟩) 1 vc] w (InsPost w base n k v fl vs) := by
  by_cases he : k = n
  · subst he
    exact insertFil_end v k vb vc base fl vs w hown hn hbase hvs hvl h1v
  · rcases hown.2 with ⟨hv, hn0⟩ | ⟨g, cap, cur, hv, hg, hh, hnc, hm, hsz, htk⟩
    · omega
    · subst hv
      unfold maxLen at hm
      by_cases hr : n + 1 ≤ cap
      · exact insertFil_shift g n cap k vb vc base fl vs cur w hh hsz htk hg (by omega) hr (by omega) hn hvs (fun e => hne (by rw [e]; rfl)) hvl h1v h1f
      · exact insertFil_grow g n cap k vb vc base fl vs cur w hh hsz htk hbase (by omega) hnc (by omega) hn hvs hvl h1v h1f

end Go.Proofs.Ytcfmgmbolnifgaa
