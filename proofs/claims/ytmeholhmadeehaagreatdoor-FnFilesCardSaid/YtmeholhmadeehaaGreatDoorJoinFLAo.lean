/- Devices whose screen, keys and files lie in blocks of their own. -/
import Derived.Test.YtmeholhmadeehaaGreatDoorJoinFLAn
import Derived.Test.YtmeholhmadeehaaGreatDoorJoinFLAl
namespace Go.Proofs.YtmeholhmadeehaaGreatDoor
open Go.RowKit

/-- A row of files of the call's own; what hangs on it lies in other blocks than the row. -/
structure LieFx (w : World) (lo hi : Nat) (F : Option Addr) (cf : Nat) (xs : List Fx) : Prop where
  row : w.ownsRow lo 55 4 (.slice F xs.length cf) xs.length (flat xs)
  top : ∀ g, (Value.slice F xs.length cf).ownBlock = some g → g < hi
  lines : ∀ x ∈ xs, x.f.lines.length = 0 ∨ ∃ b off, x.L = some ⟨b, off, none⟩ ∧ lo ≤ b ∧ b < hi ∧ (Value.slice F xs.length cf).ownBlock ≠ some b ∧ ∀ j, j < x.f.lines.length → w.cell? ⟨b, off + j, none⟩ = some (.string (x.f.lines.getD j ByteArray.empty))
theorem loc_lieFx (lo hi : Nat) (F : Option Addr) (cf : Nat) (xs : List Fx) : Loc lo hi (fun w => LieFx w lo hi F cf xs) := fun w w' hk h =>
  ⟨own_keep h.row h.top hk, h.top, fun x hx => (h.lines x hx).imp id fun ⟨b, off, e, h1, h2, h3, h4⟩ => ⟨b, off, e, h1, h2, h3, fun j hj => (World.cell?_of_block (hk b h1 h2)).trans (h4 j hj)⟩⟩
theorem LieFx.more {w : World} {lo hi lo' hi' : Nat} {F : Option Addr} {cf : Nat} {xs : List Fx} (h : LieFx w lo hi F cf xs) (h1 : lo' ≤ lo) (h2 : hi ≤ hi') : LieFx w lo' hi' F cf xs :=
  ⟨own_mono h.row h1, fun g hg => Nat.lt_of_lt_of_le (h.top g hg) h2, fun x hx => (h.lines x hx).imp id fun ⟨b, off, e, q1, q2, q3, q4⟩ => ⟨b, off, e, by omega, by omega, q3, q4⟩⟩
theorem OwnFx.lie {w : World} {lo hi : Nat} {F : Option Addr} {n cf : Nat} {xs : List Fx} (h : OwnFx w lo hi (.slice F n cf) xs) : LieFx w lo hi F cf xs := by
  obtain ⟨A, c, e⟩ := h.form
  injection e with e1 e2 e3
  subst e1 e2 e3
  refine ⟨h.row, h.top, fun x hx => ?_⟩
  rcases Nat.eq_zero_or_pos x.f.lines.length with h0 | h0
  · exact .inl h0
  · right
    obtain ⟨b, off, e, h1, h2, h3⟩ := (StrR.of_own (h.own x hx).1).2 h0
    obtain ⟨g, eg, _⟩ := own_head (h.own x hx).1 h0
    rw [eg] at e
    injection e with e
    injection e with e1 e2
    subst e1 e2
    have hb : x.sl.ownBlock = some g := by unfold Fx.sl; rw [eg]; rfl
    exact ⟨g, 0, eg, h1, (h.own x hx).2 g hb, h.far x hx g hb, h3⟩

/-- Devices of the call's own, each part in blocks of its own: the screen's rows, the keys, the row of files and what hangs on it. -/
def DevX (w : World) (lo hi : Nat) (v : Value) (d : Dev) : Prop :=
  ∃ A c F cf K ck xs a1 b1 a2 b2 a3 b3, v = .agg (devCs d A c F cf K ck) ∧ (lo ≤ a1 ∧ b1 ≤ hi ∧ lo ≤ a2 ∧ b2 ≤ hi ∧ lo ≤ a3 ∧ b3 ≤ hi) ∧ ((b1 ≤ a2 ∨ b2 ≤ a1) ∧ (b1 ≤ a3 ∨ b3 ≤ a1) ∧ (b2 ≤ a3 ∨ b3 ≤ a2)) ∧
    StrR w a1 b1 A d.scr.rows.length d.scr.rows ∧ OwnK w a2 b2 K ck d.keys ∧ xs.map Fx.f = d.files ∧ LieFx w a3 b3 F cf xs
theorem row_flat' {w : World} {lo hi base : Nat} {A : Option Addr} {n c : Nat} {xs : List Fx} (h : w.ownsRow base 55 4 (.slice A n c) n (flat xs)) (hn : xs.length = n) (hb : lo ≤ base) (hh : ∀ g, (Value.slice A n c).ownBlock = some g → g < hi)
    (hl : ∀ x ∈ xs, StrR w lo hi x.L x.f.lines.length x.f.lines) : FilesR w lo hi A n (xs.map Fx.f) := by
  refine ⟨by rw [List.length_map, hn], fun h0 => ?_⟩
  obtain ⟨g, hA, hg, hgl, _, _, hc⟩ := row_flat h h0
  refine ⟨g, 0, hA, by omega, hh g (by rw [hA]; rfl), fun j hj => ?_⟩
  have hjx : j < xs.length := by omega
  have hgd : (xs.map Fx.f).getD j filD = (xs[j]).f := by
    rw [List.getD_eq_getElem?_getD, List.getElem?_map, List.getElem?_eq_getElem hjx]; rfl
  have hcell : ∀ i u, i < 4 → (xs[j]).cells[i]? = some u → w.cell? ⟨g, 0 + j * 4 + i, none⟩ = some u := fun i u hi hu => by
    rw [Nat.zero_add]
    exact hc _ u (by rw [flat_at xs j hjx i hi]; exact hu)
  rw [hgd]
  exact ⟨(xs[j]).L, (xs[j]).c, hcell 0 _ (by omega) rfl, hcell 1 _ (by omega) rfl, hcell 2 _ (by omega) rfl, hcell 3 _ (by omega) rfl, hl _ (List.getElem_mem _)⟩
theorem LieFx.reads {w : World} {lo hi : Nat} {F : Option Addr} {cf : Nat} {xs : List Fx} (h : LieFx w lo hi F cf xs) : FilesR w lo hi F (xs.map Fx.f).length (xs.map Fx.f) := by
  rw [List.length_map]
  refine row_flat' h.row rfl (Nat.le_refl _) (fun g hg => h.top g hg) (fun x hx => ?_)
  rcases h.lines x hx with h0 | ⟨b, off, e, h1, h2, _, h4⟩
  · exact ⟨rfl, fun hn => absurd hn (by omega)⟩
  · exact ⟨rfl, fun _ => ⟨b, off, e, h1, h2, h4⟩⟩
theorem DevX.reads {w : World} {lo hi : Nat} {v : Value} {d : Dev} (h : DevX w lo hi v d) : DevR w lo hi v d := by
  obtain ⟨A, c, F, cf, K, ck, xs, a1, b1, a2, b2, a3, b3, hv, ⟨k1, k2, k3, k4, k5, k6⟩, _, h3, h4, h5, h6⟩ := h
  have h7 := h6.reads
  rw [h5] at h7
  exact ⟨A, c, F, cf, K, ck, hv, RowR.more h3 k1 k2, FilesR.more h7 k5 k6, RowR.more h4.reads k3 k4⟩
theorem DevX.both {w : World} {lo hi : Nat} {v : Value} {d : Dev} {p : Prop} (h : DevX w lo hi v d) : DevR w lo hi v d ∧ (p → DevX w lo hi v d) := ⟨h.reads, fun _ => h⟩
theorem loc_devX (lo hi : Nat) (v : Value) (d : Dev) : Loc lo hi (fun w => DevX w lo hi v d) := fun w w' hk ⟨A, c, F, cf, K, ck, xs, a1, b1, a2, b2, a3, b3, hv, ⟨k1, k2, k3, k4, k5, k6⟩, hd, h3, h4, h5, h6⟩ =>
  ⟨A, c, F, cf, K, ck, xs, a1, b1, a2, b2, a3, b3, hv, ⟨k1, k2, k3, k4, k5, k6⟩, hd, h3.keep (fun b q1 q2 => hk b (by omega) (by omega)), loc_ownK a2 b2 K ck d.keys w w' (fun b q1 q2 => hk b (by omega) (by omega)) h4, h5, loc_lieFx a3 b3 F cf xs w w' (fun b q1 q2 => hk b (by omega) (by omega)) h6⟩


theorem DevX.mk1 {w' : World} {lo hi : Nat} {A F K : Option Addr} {c cf ck : Nat} {use : Int} {scr : Scr} {fs : List Fil} {ks : List ByteArray} {xs : List Fx} {a1 b1 a2 b2 a3 b3 n : Nat}
    (hA : StrR w' a1 b1 A scr.rows.length scr.rows) (hK : OwnK w' a2 b2 K ck ks) (hm : xs.map Fx.f = fs) (hn : xs.length = n) (hF : LieFx w' a3 b3 F cf xs)
    (hb : lo ≤ a1 ∧ b1 ≤ hi ∧ lo ≤ a2 ∧ b2 ≤ hi ∧ lo ≤ a3 ∧ b3 ≤ hi) (hd : (b1 ≤ a2 ∨ b2 ≤ a1) ∧ (b1 ≤ a3 ∨ b3 ≤ a1) ∧ (b2 ≤ a3 ∨ b3 ≤ a2)) :
    DevX w' lo hi (.agg #[.int .i64 use, .int .i64 scr.row, .int .i64 scr.col, .slice A scr.rows.length c, .slice F n cf, .slice K ks.length ck]) ⟨use, scr, fs, ks⟩ := by
  subst hm hn
  exact ⟨A, c, F, cf, K, ck, xs, a1, b1, a2, b2, a3, b3, by simp [devCs], hb, hd, hA, hK, rfl, hF⟩

end Go.Proofs.YtmeholhmadeehaaGreatDoor

/- UseDevice plainly; a file put into a row of files of the call's own. -/
namespace Go.Proofs.YtmeholhmadeehaaGreatDoor
open Go.RowKit

def filNew (nm : ByteArray) : Fil := ⟨nm, [], ⟨#[]⟩, 0⟩
def ins {α : Type} (k : Nat) (y : α) (xs : List α) : List α := xs.take k ++ y :: xs.drop k
theorem ins_len {α : Type} (k : Nat) (y : α) (xs : List α) : (ins k y xs).length = xs.length + 1 := by
  unfold ins
  rw [List.length_append, List.length_cons, List.length_take, List.length_drop]
  omega
theorem ins_map {α β : Type} (f : α → β) (k : Nat) (y : α) (xs : List α) : (ins k y xs).map f = ins k (f y) (xs.map f) := by
  unfold ins
  rw [List.map_append, List.map_cons, List.map_take, List.map_drop]
theorem ins_mem {α : Type} {k : Nat} {y x : α} {xs : List α} (h : x ∈ ins k y xs) : x = y ∨ x ∈ xs := by
  unfold ins at h
  rcases List.mem_append.1 h with h | h
  · exact .inr (List.mem_of_mem_take h)
  · rcases List.mem_cons.1 h with h | h
    · exact .inl h
    · exact .inr (List.mem_of_mem_drop h)
theorem ins_end {α : Type} (y : α) (xs : List α) : ins xs.length y xs = xs ++ [y] := by
  unfold ins
  rw [List.take_length, List.drop_length]

/-- What UseDevice gives for devices that are right and a name that is right. -/
def useDev (d : Dev) (nm : ByteArray) : Dev × Int :=
  if nm.size = 0 then (⟨0, d.scr, d.files, d.keys⟩, 0)
  else if thereB d.files nm then (⟨(place d.files nm : Int) + 1, d.scr, d.files, d.keys⟩, 0)
  else if d.files.length = 3 then (noDev, 4)
  else (⟨(place d.files nm : Int) + 1, d.scr, ins (place d.files nm) (filNew nm) d.files, d.keys⟩, 0)
def useP (d : Dev) (nm : ByteArray) : Dev × Int := if devB d && (decide (nm.size = 0) || nameB nm) then useDev d nm else (noDev, 1)

theorem useP_low (d : Dev) (nm : ByteArray) : DevLow (useP d nm).1 := by
  unfold useP
  split
  · rename_i h
    simp only [Bool.and_eq_true, Bool.or_eq_true, decide_eq_true_eq] at h
    have hl := (DevGood.of h.1).low
    unfold useDev
    split
    · exact ⟨hl.rows, hl.row, hl.files, hl.file, hl.keys, hl.key⟩
    · rename_i h0
      split
      · exact ⟨hl.rows, hl.row, hl.files, hl.file, hl.keys, hl.key⟩
      · split
        · exact noDev_low
        · have hn : nm.size ≤ 8 := by
            rcases h.2 with h2 | h2
            · exact absurd h2 h0
            · unfold nameB at h2
              simp only [Bool.and_eq_true, decide_eq_true_eq] at h2
              exact h2.1.2
          refine ⟨hl.rows, hl.row, ?_, fun f hf => ?_, hl.keys, hl.key⟩
          · have := (DevGood.of h.1).n3
            show (ins _ _ _).length ≤ 1000
            rw [ins_len]; omega
          · rcases ins_mem hf with rfl | hf
            · refine ⟨?_, ?_, ?_, fun y hy => by cases hy⟩
              · show nm.size ≤ 1000; omega
              · show (0 : Nat) ≤ 1000; omega
              · show (0 : Nat) ≤ 1000; omega
            · exact hl.file f hf
  · exact noDev_low

theorem flat_ins (k : Nat) (y : Fx) (xs : List Fx) : flat (ins k y xs) = (flat xs).take (k * 4) ++ y.cells ++ (flat xs).drop (k * 4) := by
  have ht : ∀ (k : Nat) (xs : List Fx), flat (xs.take k) = (flat xs).take (k * 4) ∧ flat (xs.drop k) = (flat xs).drop (k * 4) := by
    intro k
    induction k with
    | zero => intro xs; simp [flat]
    | succ k ih =>
      intro xs
      cases xs with
      | nil => simp [flat]
      | cons x xs =>
        have hc : x.cells.length = 4 := rfl
        have e : flat (x :: xs) = x.cells ++ flat xs := by simp [flat]
        rw [e, List.take_succ_cons, List.drop_succ_cons, (ih xs).2]
        have e2 : flat (x :: xs.take k) = x.cells ++ flat (xs.take k) := by simp [flat]
        rw [e2, (ih xs).1]
        have e3 : (k + 1) * 4 = x.cells.length + k * 4 := by rw [hc]; omega
        rw [e3, List.take_length_add_append, List.drop_length_add_append]
        exact ⟨rfl, rfl⟩
  unfold ins
  rw [flat_append, (ht k xs).1]
  have e : flat (y :: xs.drop k) = y.cells ++ flat (xs.drop k) := by simp [flat]
  rw [e, (ht k xs).2, List.append_assoc]

/-- A file without lines is put into the row. -/
theorem OwnFx.insert {w w' : World} {lo hi k g' cap' : Nat} {v : Value} {xs : List Fx} {y : Fx} (h : OwnFx w lo hi v xs) (hh : hi ≤ w.heap.size) (hy : y.sl = .slice none 0 0) (hyl : y.f.lines = [])
    (hg : w.grownBy w' v.ownBlock) (hat : v.ownBlock = some g' ∨ w.heap.size ≤ g')
    (hr : w'.ownsRow lo 55 4 (.slice (some ⟨g', 0, none⟩) (xs.length + 1) cap') (xs.length + 1) ((flat xs).take (k * 4) ++ y.cells ++ (flat xs).drop (k * 4))) :
    OwnFx w' lo w'.heap.size (.slice (some ⟨g', 0, none⟩) (xs.length + 1) cap') (ins k y xs) := by
  have hsz := hg.size
  have hyn : ∀ b, y.sl.ownBlock ≠ some b := fun b e => by rw [hy] at e; cases e
  have hgv : ∀ b, b < w.heap.size → v.ownBlock ≠ some b → (Value.slice (some ⟨g', 0, none⟩) (xs.length + 1) cap').ownBlock ≠ some b := by
    intro b hb hv e
    have : g' = b := by simpa [Value.ownBlock] using e
    subst this
    rcases hat with h1 | h1
    · exact hv h1
    · omega
  have hrow : w'.ownsRow lo 55 4 (.slice (some ⟨g', 0, none⟩) (xs.length + 1) cap') (ins k y xs).length (flat (ins k y xs)) := by
    rw [flat_ins, ins_len]; exact hr
  refine ⟨⟨some ⟨g', 0, none⟩, cap', by rw [ins_len]⟩, hrow, fun b hb => (hrow.lt b hb).2, fun x hx => ?_, fun x hx b hb => ?_, ?_⟩
  · rcases ins_mem hx with rfl | hx
    · refine ⟨?_, fun b hb => absurd hb (hyn b)⟩
      rw [hy, hyl]
      exact World.ownsRow_nil _ _ _ _
    · have h1 := own_grown (h.own x hx).1 hg (fun b hb e => h.far x hx b hb e)
      exact ⟨h1, fun b hb => (h1.lt b hb).2⟩
  · rcases ins_mem hx with rfl | hx
    · exact absurd hb (hyn b)
    · exact hgv b (by have := (h.own x hx).2 b hb; omega) (h.far x hx b hb)
  · have hp := h.apart
    rw [← List.take_append_drop k xs, List.pairwise_append] at hp
    unfold ins
    rw [List.pairwise_append]
    refine ⟨hp.1, List.pairwise_cons.2 ⟨fun x _ b hb => absurd hb (hyn b), hp.2.1⟩, fun a ha b hb => ?_⟩
    rcases List.mem_cons.1 hb with rfl | hb
    · exact fun c _ e => hyn c e
    · exact hp.2.2 a ha b hb

end Go.Proofs.YtmeholhmadeehaaGreatDoor

/- The reference's UseDevice walked (printed by wip/gen_use.py). -/
namespace Go.Proofs.YtmeholhmadeehaaGreatDoor
open Go.RowKit

theorem newFlat {W : World} {b : Nat} {nm : ByteArray} (h : Blk W b 55 #[.string nm, .slice none 0 0, .string ⟨#[]⟩, .int .i64 0]) : FlatR W (some ⟨b, 0, none⟩) [⟨filNew nm, none, 0⟩] :=
  .inr ⟨b, 0, rfl, fun j u hj => by rw [Nat.zero_add, h.cell]; simpa [flat, Fx.cells, Fx.sl, filNew] using hj⟩

set_option maxHeartbeats 8000000 in
set_option maxRecDepth 100000 in
theorem sUse_bad (d : Dev) (nm : ByteArray) (v : Value) (lo hi : Nat) (w : World) (hx : DevR w lo hi v d) (hhi : hi ≤ w.heap.size) (hs : DevSmall d) (hB : devB d = false) :
    Calls Tryz.prog 94 #[v, .string nm] w fun e w' => ∃ v', e = .returned (.tuple #[v', .int .i64 1]) ∧ DevR w' w.heap.size w'.heap.size v' noDev ∧ Below w.heap.size w w' := by
  have HX := Lib.hid hx; have HS := Lib.hid hs
  obtain ⟨A, c, F, cf, J, cj, rfl, h1, h2, h3⟩ := hx
  have R0 := (((Stand.nil w).add lo hi _ (loc_devR lo hi (.agg (devCs d A c F cf J cj)) d) hhi HX.out).box 32 (devCs d A c F cf J cj)).box 32 #[.int .i64 0, .int .i64 0, .int .i64 0, .slice none 0 0, .slice none 0 0, .slice none 0 0]
  rw [heap_size_alloc1] at R0
  have HR0 := Lib.hid R0
  have HOK := Lib.hid (fun W v h1 h2 => specDevicesOk_any d v lo hi W h1 h2 HS.out)
  clear h1 h2 h3 R0 hs
  rw [hB] at HOK
  go_enter Tryz.func94, Tryz.ntmps94
  go_wp2_with fail
  refine (HOK.out _ _ (HR0.out.get 2 rfl) (HR0.out.le 2 rfl)).mono ?_
  rintro e1 w1 ⟨rfl, hb1⟩
  have HR1 := Lib.hid (HR0.out.below hb1); clear hb1 HR0 HOK
  have fr := (HR1.out.get 0 rfl).cell
  have zr := (HR1.out.get 0 rfl).frozen
  have sr := HR1.out.le 0 rfl
  go_wp2_with fail
  refine bodyPost_ret (v := .tuple #[.agg #[.int .i64 0, .int .i64 0, .int .i64 0, .slice none 0 0, .slice none 0 0, .slice none 0 0], .int .i64 1]) (by simp [results, Tryz.results94, go_sem, fr]) rfl ⟨_, rfl, ?_, ?_⟩
  · exact (ownDev_none _ _ _ (by first | (simp [World.setCell]; done) | (simp [World.setCell]; omega))).reads
  · iterate 6 (with_reducible refine Below.setCell ?_ (by simp; try omega) _)
    exact HR1.out.1

set_option maxHeartbeats 8000000 in
set_option maxRecDepth 100000 in
theorem sUse_name (d : Dev) (nm : ByteArray) (v : Value) (lo hi : Nat) (w : World) (hx : DevR w lo hi v d) (hhi : hi ≤ w.heap.size) (hs : DevSmall d) (hB : devB d = true) (hz : ¬ nm.size = 0) (hN : nameB nm = false) (hl : nm.size ≤ 1048576) :
    Calls Tryz.prog 94 #[v, .string nm] w fun e w' => ∃ v', e = .returned (.tuple #[v', .int .i64 1]) ∧ DevR w' w.heap.size w'.heap.size v' noDev ∧ Below w.heap.size w w' := by
  have HX := Lib.hid hx; have HS := Lib.hid hs
  obtain ⟨A, c, F, cf, J, cj, rfl, h1, h2, h3⟩ := hx
  have R0 := (((Stand.nil w).add lo hi _ (loc_devR lo hi (.agg (devCs d A c F cf J cj)) d) hhi HX.out).box 32 (devCs d A c F cf J cj)).box 32 #[.int .i64 0, .int .i64 0, .int .i64 0, .slice none 0 0, .slice none 0 0, .slice none 0 0]
  rw [heap_size_alloc1] at R0
  have HR0 := Lib.hid R0
  have HOK := Lib.hid (fun W v h1 h2 => specDevicesOk_any d v lo hi W h1 h2 HS.out)
  clear h1 h2 h3 R0 hs
  rw [hB] at HOK
  have e1 : nm.toList.isEmpty = false := by rw [ByteArray.toList_eq]; cases h : nm.data.toList with | nil => exact absurd (by rw [ByteArray.size, ← Array.length_toList, h]; rfl) hz | cons a l => rfl
  have e2 : (!nm.toList.isEmpty) = true := by rw [e1]; rfl
  go_enter Tryz.func94, Tryz.ntmps94
  go_wp2_with fail
  refine (HOK.out _ _ (HR0.out.get 2 rfl) (HR0.out.le 2 rfl)).mono ?_
  rintro e1 w1 ⟨rfl, hb1⟩
  have HR1 := Lib.hid (HR0.out.below hb1); clear hb1 HR0 HOK
  have fr := (HR1.out.get 0 rfl).cell
  have zr := (HR1.out.get 0 rfl).frozen
  have sr := HR1.out.le 0 rfl
  go_wp2_with fail
  refine (specNameOk_any nm _ (by omega)).mono ?_
  rintro e9 w9 ⟨rfl, rfl⟩
  rw [hN]
  go_wp2_with fail
  refine bodyPost_ret (v := .tuple #[.agg #[.int .i64 0, .int .i64 0, .int .i64 0, .slice none 0 0, .slice none 0 0, .slice none 0 0], .int .i64 1]) (by simp [results, Tryz.results94, go_sem, fr]) rfl ⟨_, rfl, ?_, ?_⟩
  · exact (ownDev_none _ _ _ (by first | (simp [World.setCell]; done) | (simp [World.setCell]; omega))).reads
  · iterate 6 (with_reducible refine Below.setCell ?_ (by simp; try omega) _)
    exact HR1.out.1

set_option maxHeartbeats 8000000 in
set_option maxRecDepth 100000 in
theorem sUse_empty (d : Dev) (nm : ByteArray) (v : Value) (lo hi : Nat) (w : World) (hx : DevR w lo hi v d) (hhi : hi ≤ w.heap.size) (hs : DevSmall d) (hB : devB d = true) (hz : nm = ⟨#[]⟩) :
    Calls Tryz.prog 94 #[v, .string nm] w fun e w' => ∃ v', e = .returned (.tuple #[v', .int .i64 0]) ∧ DevX w' w.heap.size w'.heap.size v' ⟨0, d.scr, d.files, d.keys⟩ ∧ Below w.heap.size w w' := by
  subst hz
  have HX := Lib.hid hx; have HS := Lib.hid hs
  obtain ⟨A, c, F, cf, J, cj, rfl, h1, h2, h3⟩ := hx
  have R0 := (((Stand.nil w).add lo hi _ (loc_devR lo hi (.agg (devCs d A c F cf J cj)) d) hhi HX.out).box 32 (devCs d A c F cf J cj)).box 32 #[.int .i64 0, .int .i64 0, .int .i64 0, .slice none 0 0, .slice none 0 0, .slice none 0 0]
  rw [heap_size_alloc1] at R0
  have HR0 := Lib.hid R0
  have HOK := Lib.hid (fun W v h1 h2 => specDevicesOk_any d v lo hi W h1 h2 HS.out)
  clear h1 h2 h3 R0 hs
  rw [hB] at HOK
  have HGD := Lib.hid (DevGood.of hB)
  have hn3 := HGD.out.n3
  go_enter Tryz.func94, Tryz.ntmps94
  go_wp2_with fail
  refine (HOK.out _ _ (HR0.out.get 2 rfl) (HR0.out.le 2 rfl)).mono ?_
  rintro e1 w1 ⟨rfl, hb1⟩
  have HR1 := Lib.hid (HR0.out.below hb1); clear hb1 HR0 HOK
  have f1 := (HR1.out.get 1 rfl).cell
  go_wp2_with fail
  refine (l31Own_own d _ lo hi _ (HR1.out.get 2 rfl) (HR1.out.le 2 rfl) HGD.out.fine HS.out).mono ?_
  rintro e3 w3 ⟨v3, rfl, hx3, hb3⟩
  have s3 := hb3.size
  have s1 := HR1.out.le 0 rfl
  obtain ⟨A3, c3, F3, cf3, K3, ck3, B3, xs, ja, jb, jc, jd, rfl, ⟨q1, q2⟩, ⟨ga, gb, gc, gd, ge⟩, hA3', hK3', hxs, hfx⟩ := id hx3
  have hA3 := RowR.more hA3' ga gb; have hK3 := RowR.more hK3'.reads gc gd
  have HAX := Lib.hid hA3'; have HKX := Lib.hid hK3'; clear hA3' hK3'
  have hfr := hfx.row
  have HXL := Lib.hid (show xs.length = d.files.length by rw [← hxs]; simp)
  rw [HXL.out] at hfr
  have R3 := ((((HR1.out.below hb3).add ja jb _ (loc_strR0 ja jb A3 _ d.scr.rows) (by omega) HAX.out).add jc jd _ (loc_ownK jc jd K3 ck3 d.keys) (by omega) HKX.out).add B3 w3.heap.size _ (loc_ownFx B3 w3.heap.size _ xs) (Nat.le_refl _) hfx).add w1.heap.size w3.heap.size _ (loc_devR w1.heap.size w3.heap.size _ d) (Nat.le_refl _) hx3.reads
  have HXS := Lib.hid hxs
  have R4 := R3.box 32 (devCs d A3 c3 F3 cf3 K3 ck3)
  have e4 : (w3.alloc (.cells (devCs d A3 c3 F3 cf3 K3 ck3) 32)).heap.size = w3.heap.size + 1 := by simp
  have HG4 := Lib.hid (fun g hg => Below.heap_alloc w3 (.cells (devCs d A3 c3 F3 cf3 K3 ck3) 32) g hg)
  have HR3 := Lib.hid R3; have HX3 := Lib.hid hx3.reads
  clear hb3 HR1 f1 R3 hA3 hK3 hxs hfx hfr hx3 HG4
  have HEND := Lib.hid (show ∀ (W' : World), (∀ b, b < w3.heap.size → b ≠ w.heap.size + 1 → W'.heap[b]? = w3.heap[b]?) → w3.heap.size ≤ W'.heap.size →
      DevX W' w.heap.size W'.heap.size (.agg #[.int .i64 (0), .int .i64 d.scr.row, .int .i64 d.scr.col, .slice A3 d.scr.rows.length c3, .slice F3 d.files.length cf3, .slice K3 d.keys.length ck3]) ⟨0, d.scr, d.files, d.keys⟩ from fun W' hk hz =>
    DevX.mk1 ((HR3.out.get 3 rfl).keep (fun b h1 h2 => hk b (by omega) (by omega))) (loc_ownK jc jd K3 ck3 d.keys w3 W' (fun b h1 h2 => hk b (by omega) (by omega)) (HR3.out.get 2 rfl)) HXS.out HXL.out (loc_lieFx B3 w3.heap.size F3 cf3 xs w3 W' (fun b h1 h2 => hk b (by omega) (by omega)) (HR3.out.get 1 rfl).lie) ⟨by omega, by omega, by omega, by omega, by omega, by omega⟩ ⟨by omega, by omega, by omega⟩)
  have gr := fun o => ((HR3.out.alloc o).get 4 rfl).cell
  have gz := fun o => ((HR3.out.alloc o).get 4 rfl).frozen
  have HBEL := Lib.hid HR3.out.1
  clear HR3
  clear R4 e4
  go_wp2_with fail
  refine bodyPost_ret (v := .tuple #[.agg #[.int .i64 (0), .int .i64 d.scr.row, .int .i64 d.scr.col, .slice A3 d.scr.rows.length c3, .slice F3 d.files.length cf3, .slice K3 d.keys.length ck3], .int .i64 0]) (by simp [results, Tryz.results94, go_sem, gr]) rfl ⟨_, rfl, ?_, ?_⟩
  · refine HEND.out _ (fun b h1 h2 => ?_) (by simp [World.setCell])
    iterate 6 (with_reducible rw [Below.heap_setCell _ _ _ b (by simp; omega)])
    exact Below.heap_alloc w3 _ b h1
  · iterate 6 (with_reducible refine Below.setCell ?_ (by simp; try omega) _)
    exact HBEL.out.alloc (by omega) _

set_option maxHeartbeats 8000000 in
set_option maxRecDepth 100000 in
theorem sUse_there (d : Dev) (nm : ByteArray) (v : Value) (lo hi : Nat) (w : World) (hx : DevR w lo hi v d) (hhi : hi ≤ w.heap.size) (hs : DevSmall d) (hB : devB d = true) (hz : ¬ nm.size = 0) (hN : nameB nm = true) (hl : nm.size ≤ 1048576) (hT : thereB d.files nm = true) :
    Calls Tryz.prog 94 #[v, .string nm] w fun e w' => ∃ v', e = .returned (.tuple #[v', .int .i64 0]) ∧ DevX w' w.heap.size w'.heap.size v' ⟨(place d.files nm : Int) + 1, d.scr, d.files, d.keys⟩ ∧ Below w.heap.size w w' := by
  have HX := Lib.hid hx; have HS := Lib.hid hs
  obtain ⟨A, c, F, cf, J, cj, rfl, h1, h2, h3⟩ := hx
  have R0 := (((Stand.nil w).add lo hi _ (loc_devR lo hi (.agg (devCs d A c F cf J cj)) d) hhi HX.out).box 32 (devCs d A c F cf J cj)).box 32 #[.int .i64 0, .int .i64 0, .int .i64 0, .slice none 0 0, .slice none 0 0, .slice none 0 0]
  rw [heap_size_alloc1] at R0
  have HR0 := Lib.hid R0
  have HOK := Lib.hid (fun W v h1 h2 => specDevicesOk_any d v lo hi W h1 h2 HS.out)
  clear h1 h2 h3 R0 hs
  rw [hB] at HOK
  have HGD := Lib.hid (DevGood.of hB)
  have hn3 := HGD.out.n3
  have HAT := Lib.hid (fun lo hi W v h1 h2 => l31At_any d nm v lo hi W h1 h2 (by omega))
  rw [hT] at HAT
  have hPn := place_le d.files nm
  generalize hPL : place d.files nm = P at *
  clear hPL
  have e1 : nm.toList.isEmpty = false := by rw [ByteArray.toList_eq]; cases h : nm.data.toList with | nil => exact absurd (by rw [ByteArray.size, ← Array.length_toList, h]; rfl) hz | cons a l => rfl
  have e2 : (!nm.toList.isEmpty) = true := by rw [e1]; rfl
  go_enter Tryz.func94, Tryz.ntmps94
  go_wp2_with fail
  refine (HOK.out _ _ (HR0.out.get 2 rfl) (HR0.out.le 2 rfl)).mono ?_
  rintro e1 w1 ⟨rfl, hb1⟩
  have HR1 := Lib.hid (HR0.out.below hb1); clear hb1 HR0 HOK
  have f1 := (HR1.out.get 1 rfl).cell
  go_wp2_with fail
  refine (specNameOk_any nm _ (by omega)).mono ?_
  rintro e9 w9 ⟨rfl, rfl⟩
  rw [hN]
  go_wp2_with fail
  refine (l31Own_own d _ lo hi _ (HR1.out.get 2 rfl) (HR1.out.le 2 rfl) HGD.out.fine HS.out).mono ?_
  rintro e3 w3 ⟨v3, rfl, hx3, hb3⟩
  have s3 := hb3.size
  have s1 := HR1.out.le 0 rfl
  obtain ⟨A3, c3, F3, cf3, K3, ck3, B3, xs, ja, jb, jc, jd, rfl, ⟨q1, q2⟩, ⟨ga, gb, gc, gd, ge⟩, hA3', hK3', hxs, hfx⟩ := id hx3
  have hA3 := RowR.more hA3' ga gb; have hK3 := RowR.more hK3'.reads gc gd
  have HAX := Lib.hid hA3'; have HKX := Lib.hid hK3'; clear hA3' hK3'
  have hfr := hfx.row
  have HXL := Lib.hid (show xs.length = d.files.length by rw [← hxs]; simp)
  rw [HXL.out] at hfr
  have R3 := ((((HR1.out.below hb3).add ja jb _ (loc_strR0 ja jb A3 _ d.scr.rows) (by omega) HAX.out).add jc jd _ (loc_ownK jc jd K3 ck3 d.keys) (by omega) HKX.out).add B3 w3.heap.size _ (loc_ownFx B3 w3.heap.size _ xs) (Nat.le_refl _) hfx).add w1.heap.size w3.heap.size _ (loc_devR w1.heap.size w3.heap.size _ d) (Nat.le_refl _) hx3.reads
  have HXS := Lib.hid hxs
  have R4 := R3.box 32 (devCs d A3 c3 F3 cf3 K3 ck3)
  have e4 : (w3.alloc (.cells (devCs d A3 c3 F3 cf3 K3 ck3) 32)).heap.size = w3.heap.size + 1 := by simp
  have HG4 := Lib.hid (fun g hg => Below.heap_alloc w3 (.cells (devCs d A3 c3 F3 cf3 K3 ck3) 32) g hg)
  have HR3 := Lib.hid R3; have HX3 := Lib.hid hx3.reads
  clear hb3 HR1 f1 R3 hA3 hK3 hxs hfx hfr hx3 HG4
  go_wp2_with fail
  generalize w3.alloc (.cells (devCs d A3 c3 F3 cf3 K3 ck3) 32) = w4 at *
  have HR4 := Lib.hid R4; clear R4
  clear HR3 HX3
  refine (HAT.out _ _ _ _ (HR4.out.get 1 rfl) (HR4.out.le 1 rfl)).mono ?_
  rintro e5 w5 ⟨rfl, hb5⟩
  have R5 := HR4.out.below hb5
  have HR5 := Lib.hid R5
  have s5 := R5.le 0 rfl
  have HBEL := Lib.hid R5.1
  clear hb5 HR4 e4 R5
  have HEND := Lib.hid (show ∀ (W' : World), (∀ b, b ≠ w3.heap.size → b ≠ w.heap.size + 1 → W'.heap[b]? = w5.heap[b]?) → w5.heap.size ≤ W'.heap.size →
      DevX W' w.heap.size W'.heap.size (.agg #[.int .i64 ((P : Int) + 1), .int .i64 d.scr.row, .int .i64 d.scr.col, .slice A3 d.scr.rows.length c3, .slice F3 d.files.length cf3, .slice K3 d.keys.length ck3]) ⟨(P : Int) + 1, d.scr, d.files, d.keys⟩ from fun W' hk hz =>
    DevX.mk1 ((HR5.out.get 4 rfl).keep (fun b h1 h2 => hk b (by omega) (by omega))) (loc_ownK jc jd K3 ck3 d.keys w5 W' (fun b h1 h2 => hk b (by omega) (by omega)) (HR5.out.get 3 rfl)) HXS.out HXL.out (loc_lieFx B3 w3.heap.size F3 cf3 xs w5 W' (fun b h1 h2 => hk b (by omega) (by omega)) (HR5.out.get 2 rfl).lie) ⟨by omega, by omega, by omega, by omega, by omega, by omega⟩ ⟨by omega, by omega, by omega⟩)
  have fo := (HR5.out.get 0 rfl).cell
  have zo := (HR5.out.get 0 rfl).frozen
  have fr := (HR5.out.get 5 rfl).cell
  have zr := (HR5.out.get 5 rfl).frozen
  clear HR5
  go_wp2_with fail
  refine bodyPost_ret (v := .tuple #[.agg #[.int .i64 ((P : Int) + 1), .int .i64 d.scr.row, .int .i64 d.scr.col, .slice A3 d.scr.rows.length c3, .slice F3 d.files.length cf3, .slice K3 d.keys.length ck3], .int .i64 0]) (by simp [results, Tryz.results94, go_sem, fr]) rfl ⟨_, rfl, ?_, ?_⟩
  · refine HEND.out _ (fun b h1 h2 => ?_) ?_
    rotate_left
    · simp [World.setCell]
    iterate 7 (with_reducible rw [Below.heap_setCell _ _ _ b (by simp; omega)])
  · iterate 7 (with_reducible refine Below.setCell ?_ (by simp; try omega) _)
    exact HBEL.out

set_option maxHeartbeats 8000000 in
set_option maxRecDepth 100000 in
theorem sUse_many (d : Dev) (nm : ByteArray) (v : Value) (lo hi : Nat) (w : World) (hx : DevR w lo hi v d) (hhi : hi ≤ w.heap.size) (hs : DevSmall d) (hB : devB d = true) (hz : ¬ nm.size = 0) (hN : nameB nm = true) (hl : nm.size ≤ 1048576) (hT : thereB d.files nm = false) (h3 : d.files.length = 3) :
    Calls Tryz.prog 94 #[v, .string nm] w fun e w' => ∃ v', e = .returned (.tuple #[v', .int .i64 4]) ∧ DevR w' w.heap.size w'.heap.size v' noDev ∧ Below w.heap.size w w' := by
  have H3 := Lib.hid h3; clear h3
  have HX := Lib.hid hx; have HS := Lib.hid hs
  obtain ⟨A, c, F, cf, J, cj, rfl, h1, h2, h3⟩ := hx
  have R0 := (((Stand.nil w).add lo hi _ (loc_devR lo hi (.agg (devCs d A c F cf J cj)) d) hhi HX.out).box 32 (devCs d A c F cf J cj)).box 32 #[.int .i64 0, .int .i64 0, .int .i64 0, .slice none 0 0, .slice none 0 0, .slice none 0 0]
  rw [heap_size_alloc1] at R0
  have HR0 := Lib.hid R0
  have HOK := Lib.hid (fun W v h1 h2 => specDevicesOk_any d v lo hi W h1 h2 HS.out)
  clear h1 h2 h3 R0 hs
  rw [hB] at HOK
  have HGD := Lib.hid (DevGood.of hB)
  have hn3 := HGD.out.n3
  have HAT := Lib.hid (fun lo hi W v h1 h2 => l31At_any d nm v lo hi W h1 h2 (by omega))
  rw [hT] at HAT
  have hPn := place_le d.files nm
  generalize hPL : place d.files nm = P at *
  clear hPL
  have e1 : nm.toList.isEmpty = false := by rw [ByteArray.toList_eq]; cases h : nm.data.toList with | nil => exact absurd (by rw [ByteArray.size, ← Array.length_toList, h]; rfl) hz | cons a l => rfl
  have e2 : (!nm.toList.isEmpty) = true := by rw [e1]; rfl
  go_enter Tryz.func94, Tryz.ntmps94
  go_wp2_with fail
  refine (HOK.out _ _ (HR0.out.get 2 rfl) (HR0.out.le 2 rfl)).mono ?_
  rintro e1 w1 ⟨rfl, hb1⟩
  have HR1 := Lib.hid (HR0.out.below hb1); clear hb1 HR0 HOK
  have f1 := (HR1.out.get 1 rfl).cell
  go_wp2_with fail
  refine (specNameOk_any nm _ (by omega)).mono ?_
  rintro e9 w9 ⟨rfl, rfl⟩
  rw [hN]
  go_wp2_with fail
  refine (l31Own_own d _ lo hi _ (HR1.out.get 2 rfl) (HR1.out.le 2 rfl) HGD.out.fine HS.out).mono ?_
  rintro e3 w3 ⟨v3, rfl, hx3, hb3⟩
  have s3 := hb3.size
  have s1 := HR1.out.le 0 rfl
  obtain ⟨A3, c3, F3, cf3, K3, ck3, B3, xs, ja, jb, jc, jd, rfl, ⟨q1, q2⟩, ⟨ga, gb, gc, gd, ge⟩, hA3', hK3', hxs, hfx⟩ := id hx3
  have hA3 := RowR.more hA3' ga gb; have hK3 := RowR.more hK3'.reads gc gd
  have HAX := Lib.hid hA3'; have HKX := Lib.hid hK3'; clear hA3' hK3'
  have hfr := hfx.row
  have HXL := Lib.hid (show xs.length = d.files.length by rw [← hxs]; simp)
  rw [HXL.out] at hfr
  have R3 := ((((HR1.out.below hb3).add ja jb _ (loc_strR0 ja jb A3 _ d.scr.rows) (by omega) HAX.out).add jc jd _ (loc_ownK jc jd K3 ck3 d.keys) (by omega) HKX.out).add B3 w3.heap.size _ (loc_ownFx B3 w3.heap.size _ xs) (Nat.le_refl _) hfx).add w1.heap.size w3.heap.size _ (loc_devR w1.heap.size w3.heap.size _ d) (Nat.le_refl _) hx3.reads
  have HXS := Lib.hid hxs
  have R4 := R3.box 32 (devCs d A3 c3 F3 cf3 K3 ck3)
  have e4 : (w3.alloc (.cells (devCs d A3 c3 F3 cf3 K3 ck3) 32)).heap.size = w3.heap.size + 1 := by simp
  have HG4 := Lib.hid (fun g hg => Below.heap_alloc w3 (.cells (devCs d A3 c3 F3 cf3 K3 ck3) 32) g hg)
  have HR3 := Lib.hid R3; have HX3 := Lib.hid hx3.reads
  clear hb3 HR1 f1 R3 hA3 hK3 hxs hfx hfr hx3 HG4
  go_wp2_with fail
  generalize w3.alloc (.cells (devCs d A3 c3 F3 cf3 K3 ck3) 32) = w4 at *
  have HR4 := Lib.hid R4; clear R4
  clear HR3 HX3
  refine (HAT.out _ _ _ _ (HR4.out.get 1 rfl) (HR4.out.le 1 rfl)).mono ?_
  rintro e5 w5 ⟨rfl, hb5⟩
  have R5 := HR4.out.below hb5
  have HR5 := Lib.hid R5
  have s5 := R5.le 0 rfl
  have HBEL := Lib.hid R5.1
  clear hb5 HR4 e4 R5
  have l3 : (3 : Int) ≤ (d.files.length : Int) := by have := H3.out; omega
  have fp := (HR5.out.get 6 rfl).cell
  have fr := (HR5.out.get 5 rfl).cell
  have zr := (HR5.out.get 5 rfl).frozen
  go_wp2_with fail
  refine bodyPost_ret (v := .tuple #[.agg #[.int .i64 0, .int .i64 0, .int .i64 0, .slice none 0 0, .slice none 0 0, .slice none 0 0], .int .i64 4]) (by simp [results, Tryz.results94, go_sem, fr]) rfl ⟨_, rfl, ?_, ?_⟩
  · exact (ownDev_none _ _ _ (by first | (simp [World.setCell]; done) | (simp [World.setCell]; omega))).reads
  · iterate 6 (with_reducible refine Below.setCell ?_ (by simp; try omega) _)
    exact HR5.out.1

set_option maxHeartbeats 8000000 in
set_option maxRecDepth 100000 in
theorem sUse_new (d : Dev) (nm : ByteArray) (v : Value) (lo hi : Nat) (w : World) (hx : DevR w lo hi v d) (hhi : hi ≤ w.heap.size) (hs : DevSmall d) (hB : devB d = true) (hz : ¬ nm.size = 0) (hN : nameB nm = true) (hl : nm.size ≤ 1048576) (hT : thereB d.files nm = false) (h3 : ¬ d.files.length = 3) :
    Calls Tryz.prog 94 #[v, .string nm] w fun e w' => ∃ v', e = .returned (.tuple #[v', .int .i64 0]) ∧ DevX w' w.heap.size w'.heap.size v' ⟨(place d.files nm : Int) + 1, d.scr, ins (place d.files nm) (filNew nm) d.files, d.keys⟩ ∧ Below w.heap.size w w' := by
  have HX := Lib.hid hx; have HS := Lib.hid hs
  obtain ⟨A, c, F, cf, J, cj, rfl, h1, h2, h3⟩ := hx
  have R0 := (((Stand.nil w).add lo hi _ (loc_devR lo hi (.agg (devCs d A c F cf J cj)) d) hhi HX.out).box 32 (devCs d A c F cf J cj)).box 32 #[.int .i64 0, .int .i64 0, .int .i64 0, .slice none 0 0, .slice none 0 0, .slice none 0 0]
  rw [heap_size_alloc1] at R0
  have HR0 := Lib.hid R0
  have HOK := Lib.hid (fun W v h1 h2 => specDevicesOk_any d v lo hi W h1 h2 HS.out)
  clear h1 h2 h3 R0 hs
  rw [hB] at HOK
  have HGD := Lib.hid (DevGood.of hB)
  have hn3 := HGD.out.n3
  have HAT := Lib.hid (fun lo hi W v h1 h2 => l31At_any d nm v lo hi W h1 h2 (by omega))
  rw [hT] at HAT
  have hPn := place_le d.files nm
  generalize hPL : place d.files nm = P at *
  clear hPL
  have e1 : nm.toList.isEmpty = false := by rw [ByteArray.toList_eq]; cases h : nm.data.toList with | nil => exact absurd (by rw [ByteArray.size, ← Array.length_toList, h]; rfl) hz | cons a l => rfl
  have e2 : (!nm.toList.isEmpty) = true := by rw [e1]; rfl
  go_enter Tryz.func94, Tryz.ntmps94
  go_wp2_with fail
  refine (HOK.out _ _ (HR0.out.get 2 rfl) (HR0.out.le 2 rfl)).mono ?_
  rintro e1 w1 ⟨rfl, hb1⟩
  have HR1 := Lib.hid (HR0.out.below hb1); clear hb1 HR0 HOK
  have f1 := (HR1.out.get 1 rfl).cell
  go_wp2_with fail
  refine (specNameOk_any nm _ (by omega)).mono ?_
  rintro e9 w9 ⟨rfl, rfl⟩
  rw [hN]
  go_wp2_with fail
  refine (l31Own_own d _ lo hi _ (HR1.out.get 2 rfl) (HR1.out.le 2 rfl) HGD.out.fine HS.out).mono ?_
  rintro e3 w3 ⟨v3, rfl, hx3, hb3⟩
  have s3 := hb3.size
  have s1 := HR1.out.le 0 rfl
  obtain ⟨A3, c3, F3, cf3, K3, ck3, B3, xs, ja, jb, jc, jd, rfl, ⟨q1, q2⟩, ⟨ga, gb, gc, gd, ge⟩, hA3', hK3', hxs, hfx⟩ := id hx3
  have hA3 := RowR.more hA3' ga gb; have hK3 := RowR.more hK3'.reads gc gd
  have HAX := Lib.hid hA3'; have HKX := Lib.hid hK3'; clear hA3' hK3'
  have hfr := hfx.row
  have HXL := Lib.hid (show xs.length = d.files.length by rw [← hxs]; simp)
  rw [HXL.out] at hfr
  have R3 := ((((HR1.out.below hb3).add ja jb _ (loc_strR0 ja jb A3 _ d.scr.rows) (by omega) HAX.out).add jc jd _ (loc_ownK jc jd K3 ck3 d.keys) (by omega) HKX.out).add B3 w3.heap.size _ (loc_ownFx B3 w3.heap.size _ xs) (Nat.le_refl _) hfx).add w1.heap.size w3.heap.size _ (loc_devR w1.heap.size w3.heap.size _ d) (Nat.le_refl _) hx3.reads
  have HXS := Lib.hid hxs
  have R4 := R3.box 32 (devCs d A3 c3 F3 cf3 K3 ck3)
  have e4 : (w3.alloc (.cells (devCs d A3 c3 F3 cf3 K3 ck3) 32)).heap.size = w3.heap.size + 1 := by simp
  have HG4 := Lib.hid (fun g hg => Below.heap_alloc w3 (.cells (devCs d A3 c3 F3 cf3 K3 ck3) 32) g hg)
  have HR3 := Lib.hid R3; have HX3 := Lib.hid hx3.reads
  clear hb3 HR1 f1 R3 hA3 hK3 hxs hfx hfr hx3 HG4
  go_wp2_with fail
  generalize w3.alloc (.cells (devCs d A3 c3 F3 cf3 K3 ck3) 32) = w4 at *
  have HR4 := Lib.hid R4; clear R4
  clear HR3 HX3
  refine (HAT.out _ _ _ _ (HR4.out.get 1 rfl) (HR4.out.le 1 rfl)).mono ?_
  rintro e5 w5 ⟨rfl, hb5⟩
  have R5 := HR4.out.below hb5
  have HR5 := Lib.hid R5
  have s5 := R5.le 0 rfl
  have HBEL := Lib.hid R5.1
  clear hb5 HR4 e4 R5
  have hfr5 : w5.ownsRow B3 55 4 (.slice F3 d.files.length cf3) d.files.length (flat xs) := by have := (HR5.out.get 2 rfl).row; rwa [HXL.out] at this
  rcases row_cases hfr5 with ⟨rfl, h0, rfl⟩ | ⟨g, rfl, hgB, hgl, hnc, hcm, hcell⟩
  · obtain rfl : P = 0 := by omega
    clear hfr5
    have HLIT := Lib.hid (litFx w5 w5.heap.size (Nat.le_refl _))
    have HLE5 := Lib.hid (show w5.heap.size ≤ (w5.alloc (.cells #[] 55)).heap.size by simp)
    have HBA := Lib.hid ((Below.refl w5.heap.size w5).alloc (Nat.le_refl _) (.cells #[] 55))
    have l3 : ¬ ((3 : Int) ≤ (d.files.length : Int)) := by omega
    have fp := (HR5.out.get 6 rfl).cell
    have fo := fun o => ((HR5.out.alloc o).get 0 rfl).cell
    have fo5 := (HR5.out.get 0 rfl).cell
    go_wp2_with (first | (at_builtin; refine wpList_appFx (by rfl) (.tmp 42) (.tmp 46) 30 (by rfl) Tryz.underlying30 _ w5.heap.size _ [] (xs.take 0) 0 0 (by rfl) HLIT.out rfl none 0 rfl (by simp) (.inl (by rw [List.take_zero])) (fun _ => ⟨rfl, rfl⟩) (by omega) HLE5.out ?_; intro A6 c6 w6 hr6 hg6 hb6; simp only [Nat.zero_add, List.nil_append] at hr6 ⊢; have s6 := Nat.le_trans HLE5.out hb6.size; have HR6 := Lib.hid hr6; have HB6 := Lib.hid (HBA.out.trans hb6); have HBX := Lib.hid (hb6.trans ((Below.refl w5.heap.size w6).alloc s6 (.cells #[.string nm, .slice none 0 0, .string ⟨#[]⟩, .int .i64 0] 55))); have HY := Lib.hid (Blk.new w6 55 #[.string nm, .slice none 0 0, .string ⟨#[]⟩, .int .i64 0]); clear hr6 hg6 hb6 fo fo5) | (at_builtin; refine wpList_appFx (by rfl) (.tmp 48) (.tmp 51) 30 (by rfl) Tryz.underlying30 _ w5.heap.size (.slice A6 0 c6) (xs.take 0) [⟨filNew nm, none, 0⟩] 0 1 (by rfl) (HR6.out.alloc _) (by rw [List.length_take, HXL.out]; omega) (some ⟨w6.heap.size, 0, none⟩) 1 (by rfl) rfl (newFlat HY.out) (fun h => by cases h) (by omega) (by simp; omega) ?_; intro A7 c7 w7 hr7 hg7 hb7; have s7 := hb7.size; rw [World.heap_size_alloc'] at s7; have HB7 := Lib.hid (((HB6.out.alloc s6 _)).trans hb7); have HR7 := Lib.hid hr7; have fo := ((HR5.out.below HB7.out).get 0 rfl).cell; have HZ7 := Lib.hid (HR5.out.below HB7.out); clear hr7 hg7 hb7) | (at_builtin; refine wpList_appFx (by rfl) (.tmp 53) (.tmp 57) 30 (by rfl) Tryz.underlying30 w7 w5.heap.size (.slice A7 (0 + 1) c7) (xs.take 0 ++ [⟨filNew nm, none, 0⟩]) (xs.drop 0) (0 + 1) 0 (by rfl) HR7.out (by rw [List.length_append, List.length_take, HXL.out, List.length_singleton]; omega) none 0 (by rfl) (by rw [List.length_drop, HXL.out]; omega) (.inl (List.drop_eq_nil_of_le (by rw [HXL.out]; omega))) (fun _ => ⟨rfl, rfl⟩) (by omega) (by omega) ?_; intro A8 c8 w8 hr8 hg8 hb8; have HB8 := Lib.hid (HB7.out.trans hb8); have HR8 := Lib.hid hr8; have s8 := hb8.size; have HZ8 := Lib.hid (HR5.out.below HB8.out); have fo8 := (HZ8.out.get 0 rfl).cell; have zo8 := (HZ8.out.get 0 rfl).frozen; have fr8 := (HZ8.out.get 5 rfl).cell; have zr8 := (HZ8.out.get 5 rfl).frozen; clear hr8 hg8 hb8 fo))
    have HEND := Lib.hid (show ∀ (W' : World), (∀ b, b ≠ w3.heap.size → b ≠ w.heap.size + 1 → W'.heap[b]? = w8.heap[b]?) → W'.heap.size = w8.heap.size →
        DevX W' w.heap.size W'.heap.size (.agg #[.int .i64 (1), .int .i64 d.scr.row, .int .i64 d.scr.col, .slice A3 d.scr.rows.length c3, .slice A8 1 c8, .slice K3 d.keys.length ck3]) ⟨((0 : Nat) : Int) + 1, d.scr, ins 0 (filNew nm) d.files, d.keys⟩ from fun W' hk hz => by
      have hL : (ins 0 (filNew nm) d.files).length = 1 := by have := ins_len 0 (filNew nm) d.files; omega
      have hr8 : w8.ownsRow w5.heap.size 55 4 (.slice A8 1 c8) 1 (flat ((xs.take 0 ++ [⟨filNew nm, none, 0⟩]) ++ xs.drop 0)) := HR8.out
      have hrow := own_keep (hi := w8.heap.size) (w' := W') hr8 (fun g hg => (hr8.lt g hg).2) (fun b h1 h2 => hk b (by omega) (by omega))
      have hm : ((xs.take 0 ++ [(⟨filNew nm, none, 0⟩ : Fx)]) ++ xs.drop 0).map Fx.f = ins 0 (filNew nm) d.files := by rw [← HXS.out]; simp [ins]
      have hlen : ((xs.take 0 ++ [(⟨filNew nm, none, 0⟩ : Fx)]) ++ xs.drop 0).length = 1 := by rw [← hL, ← hm, List.length_map]
      have hln : ∀ x ∈ xs, x.f.lines.length = 0 ∨ ∃ b off, x.L = some ⟨b, off, none⟩ ∧ B3 ≤ b ∧ b < W'.heap.size ∧ (Value.slice A8 1 c8).ownBlock ≠ some b ∧ ∀ j, j < x.f.lines.length → W'.cell? ⟨b, off + j, none⟩ = some (.string (x.f.lines.getD j ByteArray.empty)) := fun x hx => by
        rcases (HZ8.out.get 2 rfl).lie.lines x hx with h0 | ⟨b, off, e, q1, q2, _, q4⟩
        · exact .inl h0
        · exact .inr ⟨b, off, e, q1, by omega, fun hb => by have := (hr8.lt b hb).1; omega, fun j hj => (World.cell?_of_block (hk b (by omega) (by omega))).trans (q4 j hj)⟩
      refine DevX.mk1 ((HZ8.out.get 4 rfl).keep (fun b h1 h2 => hk b (by omega) (by omega))) (loc_ownK jc jd K3 ck3 d.keys w8 W' (fun b h1 h2 => hk b (by omega) (by omega)) (HZ8.out.get 3 rfl)) hm hlen (a3 := B3) (b3 := W'.heap.size) ⟨by rw [hlen]; exact own_mono hrow (by omega), fun g hg => by rw [hlen] at hg; exact (hrow.lt g hg).2, fun x hx => ?_⟩ ⟨by omega, by omega, by omega, by omega, by omega, by omega⟩ ⟨by omega, by omega, by omega⟩
      rw [hlen]
      rcases List.mem_append.1 hx with hx | hx
      · rcases List.mem_append.1 hx with hx | hx
        · exact hln x (List.mem_of_mem_take hx)
        · obtain rfl : x = ⟨filNew nm, none, 0⟩ := by simpa using hx
          exact .inl rfl
      · exact hln x (List.mem_of_mem_drop hx))
    refine bodyPost_ret (v := .tuple #[.agg #[.int .i64 (1), .int .i64 d.scr.row, .int .i64 d.scr.col, .slice A3 d.scr.rows.length c3, .slice A8 1 c8, .slice K3 d.keys.length ck3], .int .i64 0]) (by simp [results, Tryz.results94, go_sem, fr8]) rfl ⟨_, rfl, ?_, ?_⟩
    · refine HEND.out _ (fun b h1 h2 => ?_) (by simp [World.setCell])
      iterate 8 (with_reducible rw [Below.heap_setCell _ _ _ b (by simp; omega)])
    · iterate 8 (with_reducible refine Below.setCell ?_ (by simp; try omega) _)
      exact HBEL.out.trans (HB8.out.mono HBEL.out.size)
  · have hg3 := (HR5.out.get 2 rfl).top g rfl
    unfold maxLen at hcm
    clear hfr5
    have HC5 := Lib.hid (show ∀ W : World, W.heap[g]? = w5.heap[g]? → ∀ j u, (flat xs)[j]? = some u → W.cell? ⟨g, j, none⟩ = some u from fun W hW j u hj => (World.cell?_of_block hW).trans (hcell j u hj))
    obtain ⟨AD, hAD, hSD⟩ : ∃ AD : Addr, (if cf3 = P then (some ⟨g, 0, none⟩ : Option Addr) else some ⟨g, P * 4, none⟩) = some AD ∧ Hid (∀ W : World, W.heap[g]? = w5.heap[g]? → FlatR W (some AD) (xs.drop P)) := by
      by_cases h : cf3 = P
      · exact ⟨⟨g, 0, none⟩, by simp [h], fun W _ => .inl (List.drop_eq_nil_of_le (by rw [HXL.out]; omega))⟩
      · exact ⟨⟨g, P * 4, none⟩, by simp [h], fun W hW => flatR_drop (HC5.out W hW) _⟩
    have j0 : (0 : Int) ≤ (P : Int) := by omega
    have j1 : (P : Int) + 1 ≤ 4 := by omega
    have j2 : (P : Int) ≤ (d.files.length : Int) := by omega
    have j3 : (d.files.length : Int) ≤ (cf3 : Int) := by omega
    have j4 : (P : Int) ≤ (cf3 : Int) := by omega
    have j5 : P ≤ d.files.length := by omega
    have j6 : P ≤ cf3 := by omega
    have HG5 := Lib.hid (Below.heap_alloc w5 (.cells #[] 55) g (by omega))
    clear hcell
    have HLIT := Lib.hid (litFx w5 w5.heap.size (Nat.le_refl _))
    have HLE5 := Lib.hid (show w5.heap.size ≤ (w5.alloc (.cells #[] 55)).heap.size by simp)
    have HBA := Lib.hid ((Below.refl w5.heap.size w5).alloc (Nat.le_refl _) (.cells #[] 55))
    have l3 : ¬ ((3 : Int) ≤ (d.files.length : Int)) := by omega
    have fp := (HR5.out.get 6 rfl).cell
    have fo := fun o => ((HR5.out.alloc o).get 0 rfl).cell
    have fo5 := (HR5.out.get 0 rfl).cell
    go_wp2_with (first | (at_builtin; refine wpList_appFx (by rfl) (.tmp 42) (.tmp 46) 30 (by rfl) Tryz.underlying30 _ w5.heap.size _ [] (xs.take P) 0 P (by rfl) HLIT.out rfl (some ⟨g, 0, none⟩) cf3 (by rfl) (by rw [List.length_take, HXL.out]; omega) (flatR_take (HC5.out _ HG5.out) P) (fun h => by cases h) (by omega) HLE5.out ?_; intro A6 c6 w6 hr6 hg6 hb6; simp only [Nat.zero_add, List.nil_append] at hr6 ⊢; have s6 := Nat.le_trans HLE5.out hb6.size; have HR6 := Lib.hid hr6; have HB6 := Lib.hid (HBA.out.trans hb6); have HBX := Lib.hid (hb6.trans ((Below.refl w5.heap.size w6).alloc s6 (.cells #[.string nm, .slice none 0 0, .string ⟨#[]⟩, .int .i64 0] 55))); have HY := Lib.hid (Blk.new w6 55 #[.string nm, .slice none 0 0, .string ⟨#[]⟩, .int .i64 0]); clear hr6 hg6 hb6 fo fo5) | (at_builtin; refine wpList_appFx (by rfl) (.tmp 48) (.tmp 51) 30 (by rfl) Tryz.underlying30 _ w5.heap.size (.slice A6 P c6) (xs.take P) [⟨filNew nm, none, 0⟩] P 1 (by rfl) (HR6.out.alloc _) (by rw [List.length_take, HXL.out]; omega) (some ⟨w6.heap.size, 0, none⟩) 1 (by rfl) rfl (newFlat HY.out) (fun h => by cases h) (by omega) (by simp; omega) ?_; intro A7 c7 w7 hr7 hg7 hb7; have s7 := hb7.size; rw [World.heap_size_alloc'] at s7; have HB7 := Lib.hid (((HB6.out.alloc s6 _)).trans hb7); have HR7 := Lib.hid hr7; have fo := ((HR5.out.below HB7.out).get 0 rfl).cell; have HZ7 := Lib.hid (HR5.out.below HB7.out); clear hr7 hg7 hb7) | (at_builtin; have HG7 := Lib.hid (HB7.out.block g (by omega)); refine wpList_appFx (by rfl) (.tmp 53) (.tmp 57) 30 (by rfl) Tryz.underlying30 w7 w5.heap.size (.slice A7 (P + 1) c7) (xs.take P ++ [⟨filNew nm, none, 0⟩]) (xs.drop P) (P + 1) (d.files.length - P) (by rfl) HR7.out (by rw [List.length_append, List.length_take, HXL.out, List.length_singleton]; omega) (some AD) (cf3 - P) (by rfl) (by rw [List.length_drop, HXL.out]) (hSD.out _ HG7.out) (fun h => by cases h) (by omega) (by omega) ?_; intro A8 c8 w8 hr8 hg8 hb8; have en : P + 1 + (d.files.length - P) = d.files.length + 1 := (by omega); rw [en] at hr8 ⊢; clear en; have HB8 := Lib.hid (HB7.out.trans hb8); have HR8 := Lib.hid hr8; have s8 := hb8.size; have HZ8 := Lib.hid (HR5.out.below HB8.out); have fo8 := (HZ8.out.get 0 rfl).cell; have zo8 := (HZ8.out.get 0 rfl).frozen; have fr8 := (HZ8.out.get 5 rfl).cell; have zr8 := (HZ8.out.get 5 rfl).frozen; clear hr8 hg8 hb8 fo))
    have HEND := Lib.hid (show ∀ (W' : World), (∀ b, b ≠ w3.heap.size → b ≠ w.heap.size + 1 → W'.heap[b]? = w8.heap[b]?) → W'.heap.size = w8.heap.size →
        DevX W' w.heap.size W'.heap.size (.agg #[.int .i64 ((P : Int) + 1), .int .i64 d.scr.row, .int .i64 d.scr.col, .slice A3 d.scr.rows.length c3, .slice A8 (d.files.length + 1) c8, .slice K3 d.keys.length ck3]) ⟨((P : Nat) : Int) + 1, d.scr, ins P (filNew nm) d.files, d.keys⟩ from fun W' hk hz => by
      have hL : (ins P (filNew nm) d.files).length = (d.files.length + 1) := by have := ins_len P (filNew nm) d.files; omega
      have hr8 : w8.ownsRow w5.heap.size 55 4 (.slice A8 (d.files.length + 1) c8) (d.files.length + 1) (flat ((xs.take P ++ [⟨filNew nm, none, 0⟩]) ++ xs.drop P)) := HR8.out
      have hrow := own_keep (hi := w8.heap.size) (w' := W') hr8 (fun g hg => (hr8.lt g hg).2) (fun b h1 h2 => hk b (by omega) (by omega))
      have hm : ((xs.take P ++ [(⟨filNew nm, none, 0⟩ : Fx)]) ++ xs.drop P).map Fx.f = ins P (filNew nm) d.files := by rw [← HXS.out]; simp [ins]
      have hlen : ((xs.take P ++ [(⟨filNew nm, none, 0⟩ : Fx)]) ++ xs.drop P).length = (d.files.length + 1) := by rw [← hL, ← hm, List.length_map]
      have hln : ∀ x ∈ xs, x.f.lines.length = 0 ∨ ∃ b off, x.L = some ⟨b, off, none⟩ ∧ B3 ≤ b ∧ b < W'.heap.size ∧ (Value.slice A8 (d.files.length + 1) c8).ownBlock ≠ some b ∧ ∀ j, j < x.f.lines.length → W'.cell? ⟨b, off + j, none⟩ = some (.string (x.f.lines.getD j ByteArray.empty)) := fun x hx => by
        rcases (HZ8.out.get 2 rfl).lie.lines x hx with h0 | ⟨b, off, e, q1, q2, _, q4⟩
        · exact .inl h0
        · exact .inr ⟨b, off, e, q1, by omega, fun hb => by have := (hr8.lt b hb).1; omega, fun j hj => (World.cell?_of_block (hk b (by omega) (by omega))).trans (q4 j hj)⟩
      refine DevX.mk1 ((HZ8.out.get 4 rfl).keep (fun b h1 h2 => hk b (by omega) (by omega))) (loc_ownK jc jd K3 ck3 d.keys w8 W' (fun b h1 h2 => hk b (by omega) (by omega)) (HZ8.out.get 3 rfl)) hm hlen (a3 := B3) (b3 := W'.heap.size) ⟨by rw [hlen]; exact own_mono hrow (by omega), fun g hg => by rw [hlen] at hg; exact (hrow.lt g hg).2, fun x hx => ?_⟩ ⟨by omega, by omega, by omega, by omega, by omega, by omega⟩ ⟨by omega, by omega, by omega⟩
      rw [hlen]
      rcases List.mem_append.1 hx with hx | hx
      · rcases List.mem_append.1 hx with hx | hx
        · exact hln x (List.mem_of_mem_take hx)
        · obtain rfl : x = ⟨filNew nm, none, 0⟩ := by simpa using hx
          exact .inl rfl
      · exact hln x (List.mem_of_mem_drop hx))
    refine bodyPost_ret (v := .tuple #[.agg #[.int .i64 ((P : Int) + 1), .int .i64 d.scr.row, .int .i64 d.scr.col, .slice A3 d.scr.rows.length c3, .slice A8 (d.files.length + 1) c8, .slice K3 d.keys.length ck3], .int .i64 0]) (by simp [results, Tryz.results94, go_sem, fr8]) rfl ⟨_, rfl, ?_, ?_⟩
    · refine HEND.out _ (fun b h1 h2 => ?_) (by simp [World.setCell])
      iterate 8 (with_reducible rw [Below.heap_setCell _ _ _ b (by simp; omega)])
    · iterate 8 (with_reducible refine Below.setCell ?_ (by simp; try omega) _)
      exact HBEL.out.trans (HB8.out.mono HBEL.out.size)

theorem specUseDevice_x (d : Dev) (nm : ByteArray) (v : Value) (lo hi : Nat) (w : World) (hx : DevR w lo hi v d) (hhi : hi ≤ w.heap.size) (hs : DevSmall d) (hl : nm.size ≤ 1048576) :
    Calls Tryz.prog 94 #[v, .string nm] w fun e w' => ∃ v', e = .returned (.tuple #[v', .int .i64 (useP d nm).2]) ∧ DevR w' w.heap.size w'.heap.size v' (useP d nm).1 ∧ ((useP d nm).2 = 0 → DevX w' w.heap.size w'.heap.size v' (useP d nm).1) ∧ Below w.heap.size w w' := by
  have bad : ∀ {T : Dev × Int}, T.2 ≠ 0 → (Calls Tryz.prog 94 #[v, .string nm] w fun e w' => ∃ v', e = .returned (.tuple #[v', .int .i64 T.2]) ∧ DevR w' w.heap.size w'.heap.size v' T.1 ∧ Below w.heap.size w w') →
      Calls Tryz.prog 94 #[v, .string nm] w fun e w' => ∃ v', e = .returned (.tuple #[v', .int .i64 T.2]) ∧ DevR w' w.heap.size w'.heap.size v' T.1 ∧ (T.2 = 0 → DevX w' w.heap.size w'.heap.size v' T.1) ∧ Below w.heap.size w w' := fun hT h =>
    h.mono fun _ _ ⟨v', h1, h2, h3⟩ => ⟨v', h1, h2, fun h0 => absurd h0 hT, h3⟩
  have good : ∀ {T : Dev × Int}, (Calls Tryz.prog 94 #[v, .string nm] w fun e w' => ∃ v', e = .returned (.tuple #[v', .int .i64 T.2]) ∧ DevX w' w.heap.size w'.heap.size v' T.1 ∧ Below w.heap.size w w') →
      Calls Tryz.prog 94 #[v, .string nm] w fun e w' => ∃ v', e = .returned (.tuple #[v', .int .i64 T.2]) ∧ DevR w' w.heap.size w'.heap.size v' T.1 ∧ (T.2 = 0 → DevX w' w.heap.size w'.heap.size v' T.1) ∧ Below w.heap.size w w' := fun h =>
    h.mono fun _ _ ⟨v', h1, h2, h3⟩ => ⟨v', h1, h2.reads, fun _ => h2, h3⟩
  cases hB : devB d
  · rw [show useP d nm = (noDev, 1) by simp [useP, hB]]
    exact bad (by decide) (sUse_bad d nm v lo hi w hx hhi hs hB)
  · by_cases hz : nm.size = 0
    · rw [show useP d nm = (⟨0, d.scr, d.files, d.keys⟩, 0) by simp [useP, useDev, hB, hz]]
      refine good (sUse_empty d nm v lo hi w hx hhi hs hB ?_)
      obtain ⟨a⟩ := nm
      have : a = #[] := Array.eq_empty_of_size_eq_zero hz
      rw [this]
    · cases hN : nameB nm
      · rw [show useP d nm = (noDev, 1) by simp [useP, hB, hz, hN]]
        exact bad (by decide) (sUse_name d nm v lo hi w hx hhi hs hB hz hN hl)
      · cases hT : thereB d.files nm
        · by_cases h3 : d.files.length = 3
          · rw [show useP d nm = (noDev, 4) by simp [useP, useDev, hB, hz, hN, hT, h3]]
            exact bad (by decide) (sUse_many d nm v lo hi w hx hhi hs hB hz hN hl hT h3)
          · rw [show useP d nm = (⟨(place d.files nm : Int) + 1, d.scr, ins (place d.files nm) (filNew nm) d.files, d.keys⟩, 0) by simp [useP, useDev, hB, hz, hN, hT, h3]]
            exact good (sUse_new d nm v lo hi w hx hhi hs hB hz hN hl hT h3)
        · rw [show useP d nm = (⟨(place d.files nm : Int) + 1, d.scr, d.files, d.keys⟩, 0) by simp [useP, useDev, hB, hz, hN, hT]]
          exact good (sUse_there d nm v lo hi w hx hhi hs hB hz hN hl hT)
theorem specUseDevice_any (d : Dev) (nm : ByteArray) (v : Value) (lo hi : Nat) (w : World) (hx : DevR w lo hi v d) (hhi : hi ≤ w.heap.size) (hs : DevSmall d) (hl : nm.size ≤ 1048576) :
    Calls Tryz.prog 94 #[v, .string nm] w fun e w' => ∃ v', e = .returned (.tuple #[v', .int .i64 (useP d nm).2]) ∧ DevR w' w.heap.size w'.heap.size v' (useP d nm).1 ∧ Below w.heap.size w w' :=
  (specUseDevice_x d nm v lo hi w hx hhi hs hl).mono fun _ _ ⟨v', h1, h2, _, h3⟩ => ⟨v', h1, h2, h3⟩

end Go.Proofs.YtmeholhmadeehaaGreatDoor
