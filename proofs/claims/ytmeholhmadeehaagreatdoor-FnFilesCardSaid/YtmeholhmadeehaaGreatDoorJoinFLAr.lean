/- Reading from a device, plainly. -/
import Derived.Test.YtmeholhmadeehaaGreatDoorJoinFLAp
import Derived.Test.YtmeholhmadeehaaGreatDoorJoinFLAq
import Derived.Test.YtmeholhmadeehaaGreatDoorShelfI
import Derived.Lib.AppendIntMem
import Derived.Test.YtmeholhmadeehaaGreatDoorJoinFLAd
namespace Go.Proofs.YtmeholhmadeehaaGreatDoor
open Go.RowKit

def atNext (f : Fil) : Fil := ⟨f.name, f.lines, f.part, f.at_ + 1⟩
structure Rd where
  dev : Dev
  text : ByteArray
  code : Int
def noRd (c : Int) : Rd := ⟨noDev, ⟨#[]⟩, c⟩
def readKey (d : Dev) (most : Int) : Rd :=
  if d.keys.length = 0 then noRd 3
  else ⟨⟨d.use, newRow (showTo d.scr (shownT (d.keys.getD 0 ByteArray.empty) most) (shownT (d.keys.getD 0 ByteArray.empty) most).size), d.files, d.keys.drop 1⟩, wantT (d.keys.getD 0 ByteArray.empty) most, 0⟩
def readFil (d : Dev) (most : Int) : Rd :=
  if ((d.files.getD (d.use - 1).toNat filD).lines.length : Int) ≤ (d.files.getD (d.use - 1).toNat filD).at_ then noRd 3
  else ⟨⟨d.use, d.scr, d.files.set (d.use - 1).toNat (atNext (d.files.getD (d.use - 1).toNat filD)), d.keys⟩, wantT ((d.files.getD (d.use - 1).toNat filD).lines.getD (d.files.getD (d.use - 1).toNat filD).at_.toNat ByteArray.empty) most, 0⟩
def readP (d : Dev) (most : Int) : Rd := if devB d then (if inB most (-1) 80 then (if d.use = 0 then readKey d most else readFil d most) else noRd 2) else noRd 1

theorem readP_low (d : Dev) (most : Int) : DevLow (readP d most).dev := by
  unfold readP
  split
  · rename_i h
    have hg := DevGood.of h
    have hl := hg.low
    split
    · split
      · unfold readKey
        split
        · exact noDev_low
        · have hf0 := showTo_fine hg.fine (shownT (d.keys.getD 0 ByteArray.empty) most) (shownT (d.keys.getD 0 ByteArray.empty) most).size
          have hf := newRow_fine hf0.len hf0.row0 hf0.row5 hf0.size
          exact ⟨by show (newRow _).rows.length ≤ 1000; have := hf.len; omega, fun r hr => by have := hf.size r hr; omega, hl.files, hl.file, by show (d.keys.drop 1).length ≤ 1000; rw [List.length_drop]; have := hl.keys; omega, fun r hr => hl.key r (List.mem_of_mem_drop hr)⟩
      · rename_i h0
        unfold readFil
        split
        · exact noDev_low
        · have hj : (d.use - 1).toNat < d.files.length := by have := hg.use0; have := hg.usen; omega
          refine ⟨hl.rows, hl.row, by show (d.files.set _ _).length ≤ 1000; rw [List.length_set]; exact hl.files, fun f hf => ?_, hl.keys, hl.key⟩
          rcases List.mem_or_eq_of_mem_set hf with hf | rfl
          · exact hl.file f hf
          · have := hl.file _ (getD_mem (d := filD) hj)
            exact this
    · exact noDev_low
  · exact noDev_low

theorem wantT_size (line : ByteArray) (most : Int) (h : line.size ≤ 1048576) : (wantT line most).size ≤ 1048576 := by
  unfold wantT
  split
  · split
    · show (2 : Nat) ≤ _; omega
    · have h1 := (line.get! 0).toNat_lt
      have : ∀ (k c : Nat), c < 10 ^ (k + 1) → (decT c).size ≤ k + 1 := by
        intro k
        induction k with
        | zero => intro c h; unfold decT; rw [Lib.decDigits, dif_pos (by simpa using h)]; exact Nat.le_refl _
        | succ k ih =>
          intro c h
          unfold decT
          rw [Lib.decDigits]
          split
          · show (1 : Nat) ≤ _; omega
          · have h2 := ih (c / 10) (by rw [Nat.pow_succ] at h; omega)
            unfold decT at h2
            simp only [ByteArray.size, List.size_toArray, List.length_append, List.length_cons, List.length_nil] at h2 ⊢
            omega
      have := this 2 (line.get! 0).toNat (by omega)
      omega
  · split
    · rw [ByteArray.size_extract]; omega
    · exact h

end Go.Proofs.YtmeholhmadeehaaGreatDoor

/- The reference's l21Below, l21Dec, l31Wanted, the program's readResult: what is read of a line. -/
namespace Go.Proofs.YtmeholhmadeehaaGreatDoor
open Go.RowKit

theorem decT_small {c : Nat} (h : c < 10) : decT c = ⟨#[UInt8.ofNat (48 + c)]⟩ := by
  unfold decT; rw [Lib.decDigits, dif_pos h]
theorem decT_big {c : Nat} (h : ¬ c < 10) : decT c = decT (c / 10) ++ (⟨#[UInt8.ofNat (48 + c % 10)]⟩ : ByteArray) := by
  unfold decT; rw [Lib.decDigits, dif_neg h]
  apply ByteArray.ext
  simp [ByteArray.data_append]
theorem decT_size : ∀ (k c : Nat), c < 10 ^ (k + 1) → (decT c).size ≤ k + 1
  | 0, c, h => by rw [decT_small (by simpa using h)]; show (1 : Nat) ≤ _; omega
  | k + 1, c, h => by
    by_cases hc : c < 10
    · rw [decT_small hc]; show (1 : Nat) ≤ _; omega
    · rw [decT_big hc, ByteArray.size_append]
      have := decT_size k (c / 10) (by rw [Nat.pow_succ] at h; omega)
      show _ + 1 ≤ _; omega

set_option maxHeartbeats 4000000 in
set_option maxRecDepth 100000 in
theorem l21Below_step (c : Nat) (hc : c ≤ 999) (n : Int) (hn : n = -(c : Int)) (w : World) (ih : 10 ≤ c → ∀ W, Calls Tryz.prog 99 #[.int .i64 (-((c / 10 : Nat) : Int))] W fun e w' => e = .returned (.string (decT (c / 10))) ∧ Below W.heap.size W w') :
    Calls Tryz.prog 99 #[.int .i64 n] w fun e w' => e = .returned (.string (decT c)) ∧ Below w.heap.size w w' := by
  have hrem : n.tmod 10 = -((c % 10 : Nat) : Int) := by subst hn; rw [Int.neg_tmod]; rfl
  have hquo : n.tdiv 10 = -((c / 10 : Nat) : Int) := by subst hn; rw [Int.neg_tdiv]; rfl
  have HIH := Lib.hid ih; clear ih
  have HC := Lib.hid hn; have HCC := Lib.hid hc
  have hn1 : -999 ≤ n := by omega
  have hn2 : n ≤ 0 := by omega
  clear hn hc
  generalize hr : c % 10 = r at *
  have hr10 : r ≤ 9 := by omega
  have HRC := Lib.hid hr
  generalize hq : c / 10 = q at *
  have HQ := Lib.hid hq
  have hq99 : q ≤ 99 := by have := HCC.out; omega
  clear hr hq
  have hcv := run_one_byte (P := Tryz.prog) 39 9 5 Tryz.underlying39 Tryz.underlying5 Tryz.underlying9 w (48 + (r : Int)) 1
  rw [show ((48 : Int) + (r : Int)).toNat = 48 + r by omega] at hcv
  have hba := (Below.refl w.heap.size w).alloc (Nat.le_refl _) (.cells #[.int .u8 (48 + (r : Int))] 5)
  have HBA := Lib.hid hba
  by_cases h10 : c < 10
  · have HR := Lib.hid (show decT c = ⟨#[UInt8.ofNat (48 + r)]⟩ by rw [decT_small h10]; have := HRC.out; rw [show r = c by omega])
    have hg : (-10 : Int) < n := by have := HC.out; omega
    clear hba h10
    go_enter Tryz.func99, Tryz.ntmps99
    go_wp2_with fail
    go_ret
    exact ⟨by rw [HR.out]; simp, HBA.out⟩
  · have HR := Lib.hid (show decT c = decT q ++ (⟨#[UInt8.ofNat (48 + r)]⟩ : ByteArray) by rw [decT_big h10, HRC.out, HQ.out])
    have hg : ¬ (-10 : Int) < n := by have := HC.out; omega
    have HI := Lib.hid (HIH.out (by omega) (w.alloc (.cells #[.int .u8 (48 + (r : Int))] 5)))
    have hsz : (decT q).size ≤ 2 := decT_size 1 q (by omega)
    have hs1 : (decT q ++ (⟨#[UInt8.ofNat (48 + r)]⟩ : ByteArray)).size = (decT q).size + 1 := by rw [ByteArray.size_append]; rfl
    clear hba h10 HIH
    go_enter Tryz.func99, Tryz.ntmps99
    go_wp2_with fail
    refine HI.out.mono ?_
    rintro e1 w1 ⟨rfl, hb1⟩
    have HB := Lib.hid (HBA.out.trans (hb1.mono (by simp)))
    clear hb1
    go_wp2_with fail
    go_ret
    exact ⟨by rw [HR.out]; simp, HB.out⟩

theorem l21Below_any (c : Nat) (hc : c ≤ 255) (w : World) : Calls Tryz.prog 99 #[.int .i64 (-(c : Int))] w fun e w' => e = .returned (.string (decT c)) ∧ Below w.heap.size w w' := by
  have h1 : ∀ (c : Nat), c < 10 → ∀ W, Calls Tryz.prog 99 #[.int .i64 (-(c : Int))] W fun e w' => e = .returned (.string (decT c)) ∧ Below W.heap.size W w' :=
    fun c hc W => l21Below_step c (by omega) _ rfl W (fun h => by omega)
  have h2 : ∀ (c : Nat), c < 100 → ∀ W, Calls Tryz.prog 99 #[.int .i64 (-(c : Int))] W fun e w' => e = .returned (.string (decT c)) ∧ Below W.heap.size W w' :=
    fun c hc W => l21Below_step c (by omega) _ rfl W (fun _ W' => h1 (c / 10) (by omega) W')
  exact l21Below_step c (by omega) _ rfl w (fun _ W' => h2 (c / 10) (by omega) W')

set_option maxHeartbeats 4000000 in
theorem l21Dec_any (c : Nat) (hc : c ≤ 255) (w : World) : Calls Tryz.prog 64 #[.int .i64 (c : Int)] w fun e w' => e = .returned (.string (decT c)) ∧ Below w.heap.size w w' := by
  have HI := Lib.hid (l21Below_any c hc w)
  have h0 : ¬ ((c : Int) < 0) := by omega
  go_enter Tryz.func64, Tryz.ntmps64
  go_wp2_with fail
  refine HI.out.mono ?_
  rintro e1 w1 ⟨rfl, hb1⟩
  have HB := Lib.hid hb1; clear hb1
  go_wp2_with fail
  go_ret
  exact ⟨rfl, HB.out⟩

theorem byte_le255 (c : UInt8) : c.toNat ≤ 255 := by have := c.toNat_lt; omega
theorem isEmpty_toList (b : ByteArray) : b.toList.isEmpty = decide (b.size = 0) := by
  by_cases h : b.size = 0
  · obtain rfl : b = ⟨#[]⟩ := ByteArray.ext (Array.eq_empty_of_size_eq_zero h)
    simp; rfl
  · rw [decide_eq_false h]
    cases he : b.toList with
    | nil =>
      have : b = ⟨#[]⟩ := bytes_toList_inj.1 (he.trans (by simp))
      exact absurd (by rw [this]; rfl) h
    | cons _ _ => rfl

set_option maxHeartbeats 4000000 in
set_option maxRecDepth 100000 in
theorem wanted_any (line : ByteArray) (most : Int) (w : World) (hl : line.size ≤ 1048576) (h1 : -1 ≤ most) (h2 : most ≤ 80) :
    Calls Tryz.prog 25 #[.string line, .int .i64 most] w fun e w' => e = .returned (.tuple #[.string (wantT line most), .string (shownT line most)]) ∧ Below w.heap.size w w' := by
  by_cases hm : most = -1
  · by_cases hs : line.size = 0
    · have e1 : wantT line most = ⟨#[45, 49]⟩ := by unfold wantT; rw [if_pos hm, if_pos hs]
      have e2 : shownT line most = ⟨#[]⟩ := by unfold shownT; rw [if_pos hm]
      rw [e1, e2]
      obtain rfl : line = ⟨#[]⟩ := ByteArray.ext (Array.eq_empty_of_size_eq_zero hs)
      subst hm
      go_enter Tryz.func25, Tryz.ntmps25
      go_wp2_with fail
      refine bodyPost_ret (v := .tuple #[.string ⟨#[45, 49]⟩, .string ⟨#[]⟩]) (by simp [results, Tryz.results25, go_sem]) rfl ⟨rfl, Below.refl _ _⟩
    · have hemp : line.toList.isEmpty = false := by rw [isEmpty_toList]; exact decide_eq_false hs
      have hpos : 0 < line.size := by omega
      have e1 : wantT line most = decT (line.get! 0).toNat := by unfold wantT; rw [if_pos hm, if_neg hs]
      have e2 : shownT line most = ⟨#[]⟩ := by unfold shownT; rw [if_pos hm]
      have hget : line.get! 0 = line[0] := getElem!_pos line.data 0 hpos
      rw [e1, e2, hget]
      have h255 : line[0].toNat ≤ 255 := byte_le255 _
      have HI := Lib.hid (l21Dec_any line[0].toNat h255 w)
      clear e1 e2 hget
      subst hm
      go_enter Tryz.func25, Tryz.ntmps25
      go_wp2_with fail
      refine HI.out.mono ?_
      rintro e3 w3 ⟨rfl, hb3⟩
      have HB := Lib.hid hb3; clear hb3 HI
      go_wp2_with fail
      refine bodyPost_ret (v := .tuple #[.string (decT line[0].toNat), .string ⟨#[]⟩]) (by simp [results, Tryz.results25, go_sem]) rfl ⟨rfl, HB.out⟩
  · have q1 : (most == -1) = false := by simpa using hm
    have e2 : shownT line most = wantT line most := by unfold shownT; rw [if_neg hm]
    rw [e2]
    by_cases hc : 0 < most ∧ most < line.size
    · have e1 : wantT line most = line.extract 0 most.toNat := by unfold wantT; rw [if_neg hm, if_pos hc]
      rw [e1]
      obtain ⟨c1, c2⟩ := hc
      obtain ⟨m, rfl⟩ := Int.eq_ofNat_of_zero_le (Int.le_of_lt c1)
      have c3 : (m : Int) ≤ (line.size : Int) := by omega
      clear e1 e2 hm
      go_enter Tryz.func25, Tryz.ntmps25
      go_wp2_with fail
      refine bodyPost_ret (v := .tuple #[.string (line.extract 0 m), .string (line.extract 0 m)]) (by simp [results, Tryz.results25, go_sem]) rfl ⟨by simp, Below.refl _ _⟩
    · have e1 : wantT line most = line := by unfold wantT; rw [if_neg hm, if_neg hc]
      rw [e1]
      clear e1 e2 hm
      by_cases c1 : 0 < most
      · have c2 : ¬ most < (line.size : Int) := fun h => hc ⟨c1, h⟩
        clear hc
        go_enter Tryz.func25, Tryz.ntmps25
        go_wp2_with fail
        refine bodyPost_ret (v := .tuple #[.string line, .string line]) (by simp [results, Tryz.results25, go_sem]) rfl ⟨rfl, Below.refl _ _⟩
      · clear hc
        go_enter Tryz.func25, Tryz.ntmps25
        go_wp2_with fail
        refine bodyPost_ret (v := .tuple #[.string line, .string line]) (by simp [results, Tryz.results25, go_sem]) rfl ⟨rfl, Below.refl _ _⟩

/-- The table that strconv reads. -/
def TabsIn (w : World) : Prop := Lib.TabIs Tryz.prog w "internal/strconv.uint64pow10" .u64 Lib.pow10Tab

set_option maxHeartbeats 4000000 in
set_option maxRecDepth 100000 in
theorem readResult_any (line : ByteArray) (most : Int) (w : World) (hT : TabsIn w) (hl : line.size ≤ 1048576) (h1 : -1 ≤ most) (h2 : most ≤ 80) :
    Calls Tryz.prog 35 #[.string line, .int .i64 most] w fun e w' => e = .returned (.string (wantT line most)) ∧ Below w.heap.size w w' := by
  have HT := Lib.hid hT; clear hT
  by_cases c1 : 0 < most
  · have hm : ¬ most = -1 := by omega
    by_cases c2 : most < line.size
    · have e1 : wantT line most = line.extract 0 most.toNat := by unfold wantT; rw [if_neg hm, if_pos ⟨c1, c2⟩]
      rw [e1]
      obtain ⟨m, rfl⟩ := Int.eq_ofNat_of_zero_le (Int.le_of_lt c1)
      have c3 : (m : Int) ≤ (line.size : Int) := by omega
      have hmin : min (line.size : Int) (m : Int) = (m : Int) := by omega
      clear e1 hm
      go_enter Tryz.func35, Tryz.ntmps35
      go_wp2_with fail
      go_ret
      exact ⟨by simp, Below.refl _ _⟩
    · have e1 : wantT line most = line := by unfold wantT; rw [if_neg hm, if_neg (fun h => c2 h.2)]
      rw [e1]
      have hmin : min (line.size : Int) most = (line.size : Int) := by omega
      have c3 : (0 : Int) ≤ (line.size : Int) := by omega
      clear e1 hm
      go_enter Tryz.func35, Tryz.ntmps35
      go_wp2_with fail
      go_ret
      exact ⟨by simp, Below.refl _ _⟩
  · by_cases hm : most = -1
    · by_cases hs : line.size = 0
      · have e1 : wantT line most = ⟨#[45, 49]⟩ := by unfold wantT; rw [if_pos hm, if_pos hs]
        rw [e1]
        obtain rfl : line = ⟨#[]⟩ := ByteArray.ext (Array.eq_empty_of_size_eq_zero hs)
        subst hm
        go_enter Tryz.func35, Tryz.ntmps35
        go_wp2_with fail
        go_ret
        exact ⟨rfl, Below.refl _ _⟩
      · have hemp : line.toList.isEmpty = false := by rw [isEmpty_toList]; exact decide_eq_false hs
        have hpos : 0 < line.size := by omega
        have e1 : wantT line most = decT (line.get! 0).toNat := by unfold wantT; rw [if_pos hm, if_neg hs]
        have hget : line.get! 0 = line[0] := getElem!_pos line.data 0 hpos
        rw [e1, hget]
        have h255 : line[0].toNat ≤ 255 := byte_le255 _
        have HI := Lib.hid (Tryz.strconv_Itoa (line[0].toNat : Int) (by omega) (by omega) w HT.out)
        have HE := Lib.hid (show (⟨(Lib.itoa (line[0].toNat : Int)).toArray⟩ : ByteArray) = decT line[0].toNat by unfold Lib.itoa decT; rw [if_neg (by omega), Int.toNat_natCast])
        clear e1 hget
        subst hm
        go_enter Tryz.func35, Tryz.ntmps35
        go_wp2_with fail
        refine HI.out.mono ?_
        rintro e3 w3 ⟨rfl, k, os, rfl⟩
        rw [HE.out]
        have HB := Lib.hid (Lib.below_grow w.heap.size w (Nat.le_refl _) k os)
        clear HI
        generalize Go.Sort.grow (w.drewN k) os = w4 at *
        go_wp2_with fail
        go_ret
        exact ⟨rfl, HB.out⟩
    · have e1 : wantT line most = line := by unfold wantT; rw [if_neg hm, if_neg (fun h => c1 h.1)]
      rw [e1]
      obtain rfl : most = 0 := by omega
      clear e1 hm
      go_enter Tryz.func35, Tryz.ntmps35
      go_wp2_with fail
      go_ret
      exact ⟨rfl, Below.refl _ _⟩
end Go.Proofs.YtmeholhmadeehaaGreatDoor

/- The program's line walked: of the keys, of a file. -/
namespace Go.Proofs.YtmeholhmadeehaaGreatDoor
open Go.RowKit

/-- Where file j is read from is stored. -/
theorem OwnFx.setI {w : World} {lo hi g cap n j : Nat} {xs : List Fx} (h : OwnFx w lo hi (.slice (some ⟨g, 0, none⟩) n cap) xs) (hn : xs.length = n) (hh : hi ≤ w.heap.size) (hj : j < xs.length) (a : Int) :
    OwnFx (w.setCell ⟨g, j * 4 + 3, none⟩ (.int .i64 a)) lo w.heap.size (.slice (some ⟨g, 0, none⟩) n cap) (xs.set j ⟨⟨(xs[j]).f.name, (xs[j]).f.lines, (xs[j]).f.part, a⟩, (xs[j]).L, (xs[j]).c⟩) := by
  have hs := (show w.ownsRow lo 55 4 (.slice (some ⟨g, 0, none⟩) n cap) n (flat xs) by have := h.row; rwa [hn] at this).stored (j * 4 + 3) (.int .i64 a)
  have hz : (w.setCell ⟨g, j * 4 + 3, none⟩ (.int .i64 a)).heap.size = w.heap.size := by simp [World.setCell]
  have hk : ∀ b, b ≠ g → (w.setCell ⟨g, j * 4 + 3, none⟩ (.int .i64 a)).heap[b]? = w.heap[b]? := fun b hb => Below.heap_setCell w ⟨g, j * 4 + 3, none⟩ _ b hb
  have := h.swap (w' := w.setCell ⟨g, j * 4 + 3, none⟩ (.int .i64 a)) (y := ⟨⟨(xs[j]).f.name, (xs[j]).f.lines, (xs[j]).f.part, a⟩, (xs[j]).L, (xs[j]).c⟩) hn hh hj
    (by rw [flat_set xs j 3 _ (.int .i64 a) hj (by omega) rfl]; exact hs.1)
    (own_same (h.own _ (List.getElem_mem hj)).1 (fun b hb => hk b (fun e => h.far _ (List.getElem_mem hj) b hb (by rw [e]; rfl))))
    (fun b hb => .inl hb) (fun b _ hb _ => hk b hb) (Nat.le_of_eq hz.symm)
  rwa [hz] at this

section
variable {d : Dev} {A V K : Option Addr} {c cv ck p : Nat} {w : World}

set_option maxHeartbeats 4000000 in
set_option maxRecDepth 100000 in
theorem lineKey_none (hB : Blk w p 32 (devCs d A c V cv K ck)) (hu : d.use = 0) (h0 : d.keys.length = 0) :
    Calls Tryz.prog 34 #[.pointer (some ⟨p, 0, none⟩)] w fun e w' => e = .returned (.tuple #[.string ⟨#[]⟩, .bool false]) ∧ Below w.heap.size w w' := by
  have f := hB.cell
  have u0 : (d.use == 0) = true := by rw [hu]; rfl
  have hkl : ((d.keys.length : Int) == 0) = true := by rw [h0]; rfl
  clear hu h0
  go_enter Tryz.func34, Tryz.ntmps34
  go_wp2_with fail
  refine bodyPost_ret (v := .tuple #[.string ⟨#[]⟩, .bool false]) (by simp [results, Tryz.results34, go_sem]) rfl ⟨rfl, Below.refl _ _⟩

set_option maxHeartbeats 4000000 in
set_option maxRecDepth 100000 in
theorem lineKey_some {b off : Nat} (hB : Blk w p 32 (devCs d A c V cv (some ⟨b, off, none⟩) ck)) (hu : d.use = 0) (h0 : 0 < d.keys.length) (hk : d.keys.length ≤ ck)
    (hc : w.cell? ⟨b, off, none⟩ = some (.string (d.keys.getD 0 ByteArray.empty))) :
    Calls Tryz.prog 34 #[.pointer (some ⟨p, 0, none⟩)] w fun e w' => e = .returned (.tuple #[.string (d.keys.getD 0 ByteArray.empty), .bool true]) ∧
      ∃ off' : Nat, w' = w.setCell ⟨p, 5, none⟩ (.slice (some ⟨b, off', none⟩) (d.keys.length - 1) (ck - 1)) ∧ (1 < d.keys.length → off' = off + 1) := by
  have f := hB.cell
  have z := hB.frozen
  have u0 : (d.use == 0) = true := by rw [hu]; rfl
  have hkl : ((d.keys.length : Int) == 0) = false := by rw [beq_eq_false_iff_ne]; omega
  have hk1 : (1 : Int) ≤ (d.keys.length : Int) := by omega
  have hk2 : (d.keys.length : Int) ≤ (ck : Int) := by omega
  have hk3 : (0 : Int) < (d.keys.length : Int) := by omega
  clear hu
  generalize d.keys.getD 0 ByteArray.empty = X at *
  go_enter Tryz.func34, Tryz.ntmps34
  go_wp2_with fail
  all_goals refine bodyPost_ret (v := .tuple #[.string X, .bool true]) (by simp [results, Tryz.results34, go_sem]) rfl ⟨rfl, ?_⟩
  all_goals first | exact ⟨off + 1, rfl, fun _ => rfl⟩ | exact ⟨off, rfl, fun h => (by omega)⟩

set_option maxHeartbeats 8000000 in
set_option maxRecDepth 100000 in
theorem lineFile_any {g j lo : Nat} {xs : List Fx} {x : Fx} (hB : Blk w p 32 (devCs d A c (some ⟨g, 0, none⟩) cv K ck)) (hju : d.use = (j : Int) + 1) (hn : xs.length = d.files.length) (hj : j < xs.length) (hx : xs[j] = x)
    (hw : OwnFx w lo w.heap.size (.slice (some ⟨g, 0, none⟩) d.files.length cv) xs) (hlo : lo ≤ w.heap.size) (hpl : p < lo) (ha0 : 0 ≤ x.f.at_) (ha1 : x.f.at_ ≤ x.f.lines.length) (hnb : d.files.length ≤ 1000) (hlb : x.f.lines.length ≤ 1000) :
    Calls Tryz.prog 34 #[.pointer (some ⟨p, 0, none⟩)] w fun e w' => Below lo w w' ∧
      ((x.f.lines.length : Int) ≤ x.f.at_ → e = .returned (.tuple #[.string ⟨#[]⟩, .bool false])) ∧
      (¬ (x.f.lines.length : Int) ≤ x.f.at_ → e = .returned (.tuple #[.string (x.f.lines.getD x.f.at_.toNat ByteArray.empty), .bool true]) ∧ OwnFx w' lo w'.heap.size (.slice (some ⟨g, 0, none⟩) d.files.length cv) (xs.set j ⟨atNext x.f, x.L, x.c⟩)) := by
  have f := hB.cell
  have u0 : (d.use == 0) = false := by rw [beq_eq_false_iff_ne]; omega
  have hxs : xs.set j x = xs := by rw [← hx]; exact List.set_getElem_self hj
  have hm : x ∈ xs := hx ▸ List.getElem_mem hj
  have hrd := hw.lines x hm
  obtain ⟨⟨ynm, yls, ypt, yat⟩, L, c'⟩ := x
  dsimp only at *
  have hw' := hw
  rw [← hxs] at hw'
  have f1 := (hw'.at_ hn hj 1 (by omega) (.slice L yls.length c') rfl).1
  have f3 := (hw'.at_ hn hj 3 (by omega) (.int .i64 yat) rfl).1
  have z3 := (hw'.at_ hn hj 3 (by omega) (.int .i64 yat) rfl).2
  have hgl : lo ≤ g := (hw.row.lt g rfl).1
  have HW := Lib.hid hw; have HX := Lib.hid hx; have HRD := Lib.hid hrd; have HN := Lib.hid hn; have HJ := Lib.hid hj
  have j0 : (0 : Int) ≤ (j : Int) := by omega
  have j1 : (j : Int) < (d.files.length : Int) := by omega
  have ju : d.use - 1 = (j : Int) := by omega
  have wju : IntKind.i64.wrap (d.use - 1) = (j : Int) := by rw [ju]; exact IntWalk.i64_in _ (by omega)
  have HFAR := Lib.hid (hw.far _ hm); have HOWN := Lib.hid (hw.own _ hm)
  clear hxs hm hw hw' hrd ju hju
  go_enter Tryz.func34, Tryz.ntmps34
  go_wp2_with fail
  refine AnyT.region (fun _ => false) (fun w' => ∀ i, w'.cell? ⟨p, i, none⟩ = (devCs d A c (some ⟨g, 0, none⟩) cv K ck)[i]?) (by kernel_rfl) f (fun hHeld => ?_)
  ((refine AnyT.takeAny 0 32 ?_ rfl (by kernel_rfl) (by kernel_rfl) (by kernel_rfl) rfl rfl (fun _ _ _ _ h => h) rfl ?_ (by assumption) ?_); rotate_left; (intro w; go_simp; (try (with_reducible rfl))); simp only [Act.put, List.setIfInBounds_toArray, List.set_cons_zero, List.set_cons_succ])
  ((refine AnyT.takeAny 1 33 ?_ rfl (by kernel_rfl) (by kernel_rfl) (by kernel_rfl) rfl rfl (fun _ _ _ _ h => h) rfl ?_ (by assumption) ?_); rotate_left; (intro w; go_simp; (try (with_reducible rfl))); simp only [Act.put, List.setIfInBounds_toArray, List.set_cons_zero, List.set_cons_succ])
  ((refine AnyT.takeAny 2 34 ?_ rfl (by kernel_rfl) (by kernel_rfl) (by kernel_rfl) rfl rfl (fun _ _ _ _ h => h) rfl ?_ (by assumption) ?_); rotate_left; (intro w; go_simp; (try (with_reducible rfl))); simp only [Act.put, List.setIfInBounds_toArray, List.set_cons_zero, List.set_cons_succ])
  ((refine AnyT.take 3 35 ?_ rfl (by kernel_rfl) (by kernel_rfl) (by kernel_rfl) (by kernel_rfl) rfl (by kernel_rfl) rfl (fun _ _ _ _ h => h) rfl ?_ (by assumption) ?_); rotate_left; (intro w hSw; (try dsimp only at hSw); go_simp; (try (with_reducible rfl))); simp only [Act.put, List.setIfInBounds_toArray, List.set_cons_zero, List.set_cons_succ])
  ((refine AnyT.takeAny 4 36 ?_ rfl (by kernel_rfl) (by kernel_rfl) (by kernel_rfl) rfl rfl (fun _ _ _ _ h => h) rfl ?_ (by assumption) ?_); rotate_left; (intro w; go_simp; (try (with_reducible rfl))); simp only [Act.put, List.setIfInBounds_toArray, List.set_cons_zero, List.set_cons_succ])
  ((refine AnyT.takeAny 5 37 ?_ rfl (by kernel_rfl) (by kernel_rfl) (by kernel_rfl) rfl rfl (fun _ _ _ _ h => h) rfl ?_ (by assumption) ?_); rotate_left; (intro w; go_simp; (try (with_reducible rfl))); simp only [Act.put, List.setIfInBounds_toArray, List.set_cons_zero, List.set_cons_succ])
  ((refine AnyT.takeAny 6 38 ?_ rfl (by kernel_rfl) (by kernel_rfl) (by kernel_rfl) rfl rfl (fun _ _ _ _ h => h) rfl ?_ (by assumption) ?_); rotate_left; (intro w; go_simp; (try (with_reducible rfl))); simp only [Act.put, List.setIfInBounds_toArray, List.set_cons_zero, List.set_cons_succ])
  ((refine AnyT.take 7 39 ?_ rfl (by kernel_rfl) (by kernel_rfl) (by kernel_rfl) (by kernel_rfl) rfl (by kernel_rfl) rfl (fun _ _ _ _ h => h) rfl ?_ (by assumption) ?_); rotate_left; (intro w hSw; (try dsimp only at hSw); go_simp; (try (with_reducible rfl))); simp only [Act.put, List.setIfInBounds_toArray, List.set_cons_zero, List.set_cons_succ])
  ((refine AnyT.takeAny 8 40 ?_ rfl (by kernel_rfl) (by kernel_rfl) (by kernel_rfl) rfl rfl (fun _ _ _ _ h => h) rfl ?_ (by assumption) ?_); rotate_left; (intro w; go_simp; (try (with_reducible rfl))); simp only [Act.put, List.setIfInBounds_toArray, List.set_cons_zero, List.set_cons_succ])
  ((refine AnyT.takeAny 9 41 ?_ rfl (by kernel_rfl) (by kernel_rfl) (by kernel_rfl) rfl rfl (fun _ _ _ _ h => h) rfl ?_ (by assumption) ?_); rotate_left; (intro w; go_simp; (try (with_reducible rfl))); simp only [Act.put, List.setIfInBounds_toArray, List.set_cons_zero, List.set_cons_succ])
  ((refine AnyT.takeAny 10 5 ?_ rfl (by kernel_rfl) (by kernel_rfl) (by kernel_rfl) rfl rfl (fun _ _ _ _ h => h) rfl ?_ (by assumption) ?_); rotate_left; (intro w; go_simp; (try (with_reducible rfl))); simp only [Act.put, List.setIfInBounds_toArray, List.set_cons_zero, List.set_cons_succ])
  refine AnyT.done (by kernel_rfl) ?_ _
  clear hHeld
  go_wp2_with fail
  refine AnyT.region (fun _ => false) (fun w' => w'.cell? ⟨g, j * 4 + 1, none⟩ = some (.slice L yls.length c') ∧ w'.cell? ⟨g, j * 4 + 3, none⟩ = some (.int .i64 yat)) (by kernel_rfl) ⟨f1, f3⟩ (fun hHeld => ?_)
  ((refine AnyT.takeAny 0 42 ?_ rfl (by kernel_rfl) (by kernel_rfl) (by kernel_rfl) rfl rfl (fun _ _ _ _ h => h) rfl ?_ (by assumption) ?_); rotate_left; (intro w; go_simp; (try (with_reducible rfl))); simp only [Act.put, List.setIfInBounds_toArray, List.set_cons_zero, List.set_cons_succ])
  ((refine AnyT.takeAny 1 43 ?_ rfl (by kernel_rfl) (by kernel_rfl) (by kernel_rfl) rfl rfl (fun _ _ _ _ h => h) rfl ?_ (by assumption) ?_); rotate_left; (intro w; go_simp; (try (with_reducible rfl))); simp only [Act.put, List.setIfInBounds_toArray, List.set_cons_zero, List.set_cons_succ])
  ((refine AnyT.takeAny 2 44 ?_ rfl (by kernel_rfl) (by kernel_rfl) (by kernel_rfl) rfl rfl (fun _ _ _ _ h => h) rfl ?_ (by assumption) ?_); rotate_left; (intro w; go_simp; (try (with_reducible rfl))); simp only [Act.put, List.setIfInBounds_toArray, List.set_cons_zero, List.set_cons_succ])
  ((refine AnyT.take 3 45 ?_ rfl (by kernel_rfl) (by kernel_rfl) (by kernel_rfl) (by kernel_rfl) rfl (by kernel_rfl) rfl (fun _ _ _ _ h => h) rfl ?_ (by assumption) ?_); rotate_left; (intro w hSw; (try dsimp only at hSw); go_simp; (try (with_reducible rfl))); simp only [Act.put, List.setIfInBounds_toArray, List.set_cons_zero, List.set_cons_succ])
  ((refine AnyT.takeAny 4 46 ?_ rfl (by kernel_rfl) (by kernel_rfl) (by kernel_rfl) rfl rfl (fun _ _ _ _ h => h) rfl ?_ (by assumption) ?_); rotate_left; (intro w; go_simp; (try (with_reducible rfl))); simp only [Act.put, List.setIfInBounds_toArray, List.set_cons_zero, List.set_cons_succ])
  ((refine AnyT.takeAny 5 47 ?_ rfl (by kernel_rfl) (by kernel_rfl) (by kernel_rfl) rfl rfl (fun _ _ _ _ h => h) rfl ?_ (by assumption) ?_); rotate_left; (intro w; go_simp; (try (with_reducible rfl))); simp only [Act.put, List.setIfInBounds_toArray, List.set_cons_zero, List.set_cons_succ])
  ((refine AnyT.takeAny 6 48 ?_ rfl (by kernel_rfl) (by kernel_rfl) (by kernel_rfl) rfl rfl (fun _ _ _ _ h => h) rfl ?_ (by assumption) ?_); rotate_left; (intro w; go_simp; (try (with_reducible rfl))); simp only [Act.put, List.setIfInBounds_toArray, List.set_cons_zero, List.set_cons_succ])
  ((refine AnyT.take 7 49 ?_ rfl (by kernel_rfl) (by kernel_rfl) (by kernel_rfl) (by kernel_rfl) rfl (by kernel_rfl) rfl (fun _ _ _ _ h => h) rfl ?_ (by assumption) ?_); rotate_left; (intro w hSw; (try dsimp only at hSw); go_simp; (try (with_reducible rfl))); simp only [Act.put, List.setIfInBounds_toArray, List.set_cons_zero, List.set_cons_succ])
  ((refine AnyT.one (i := 8) (by kernel_rfl) rfl (fun K hK => ?_)))
  go_simp
  refine (countStr_any L yls.length c' _).mono ?_
  rintro e1 w1 ⟨rfl, rfl⟩
  refine hK.out _ _ hHeld (fun hHeld => ?_)
  clear hK K
  (try simp only [Act.put, List.setIfInBounds_toArray, List.set_cons_zero, List.set_cons_succ])
  ((refine AnyT.takeAny 9 51 ?_ rfl (by kernel_rfl) (by kernel_rfl) (by kernel_rfl) rfl rfl (fun _ _ _ _ h => h) rfl ?_ (by assumption) ?_); rotate_left; (intro w; go_simp; (try (with_reducible rfl))); simp only [Act.put, List.setIfInBounds_toArray, List.set_cons_zero, List.set_cons_succ])
  refine AnyT.done (by kernel_rfl) ?_ _
  clear hHeld
  by_cases hend : (yls.length : Int) ≤ yat
  · have qe : (yat == (yls.length : Int)) = true := by simp; omega
    have HE := Lib.hid hend; clear hend
    go_wp2_with fail
    refine bodyPost_ret (v := .tuple #[.string ⟨#[]⟩, .bool false]) (by simp [results, Tryz.results34, go_sem]) rfl ⟨?_, fun _ => rfl, fun h => by have := HE.out; omega⟩
    repeat (first | exact Below.refl _ _ | refine Below.drew ?_)
  · have qe : (yat == (yls.length : Int)) = false := by rw [beq_eq_false_iff_ne]; omega
    obtain ⟨ya, rfl⟩ := Int.eq_ofNat_of_zero_le ha0
    have hya : ya < yls.length := by omega
    obtain ⟨lb, loff, rfl, hb1, hb2, hcl⟩ := HRD.out.at_ hya
    have hlg : lb ≠ g := by
      obtain ⟨g2, e2, _⟩ := own_head (show w.ownsRow lo 9 1 (.slice (some ⟨lb, loff, none⟩) yls.length c') yls.length (yls.map Value.string) from HOWN.out.1) (show 0 < yls.length by omega)
      injection e2 with e2; injection e2 with e2 e3
      have e4 := HFAR.out lb (by unfold Fx.sl; dsimp only; rw [e3]; rfl)
      intro e5
      exact e4 (by rw [e5]; rfl)
    have y1 : ((ya : Int) + 1) - 1 = (ya : Int) := by omega
    have HE := Lib.hid hend; clear hend
    generalize hXl : yls.getD ya ByteArray.empty = XL at *
    have HXL := Lib.hid hXl; clear hXl
    go_wp2_with fail
    have f1' : ((w.setCell ⟨g, j * 4 + 3, none⟩ (.int .i64 ((ya : Int) + 1))).drew.drew.drew).cell? ⟨g, j * 4 + 1, none⟩ = some (.slice (some ⟨lb, loff, none⟩) yls.length c') := (World.cell?_setCell_other w ⟨g, j * 4 + 3, none⟩ ⟨g, j * 4 + 1, none⟩ _ (by simp)).trans f1
    have f3' : ((w.setCell ⟨g, j * 4 + 3, none⟩ (.int .i64 ((ya : Int) + 1))).drew.drew.drew).cell? ⟨g, j * 4 + 3, none⟩ = some (.int .i64 ((ya : Int) + 1)) := World.cell?_setCell_same w _ _ (by rw [f3])
    have hc' : ((w.setCell ⟨g, j * 4 + 3, none⟩ (.int .i64 ((ya : Int) + 1))).drew.drew.drew).cell? ⟨lb, loff + ya, none⟩ = some (.string XL) := (World.cell?_of_block (Below.heap_setCell w ⟨g, j * 4 + 3, none⟩ _ lb hlg)).trans hcl
    have HOW := Lib.hid (HW.out.setI HN.out (Nat.le_refl _) HJ.out ((ya : Int) + 1))
    rw [HX.out] at HOW
    have HBL := Lib.hid (show Below lo w (w.setCell ⟨g, j * 4 + 3, none⟩ (.int .i64 ((ya : Int) + 1))).drew.drew.drew from ((((Below.refl lo w).setCell (p := ⟨g, j * 4 + 3, none⟩) hgl _).drew).drew).drew)
    generalize hWD : w.setCell ⟨g, j * 4 + 3, none⟩ (.int .i64 ((ya : Int) + 1)) = w2 at *
    have HZ : Hid (w2.heap.size = w.heap.size) := by subst hWD; show (w.setCell _ _).heap.size = _; simp [World.setCell]
    clear hWD
    have ya0 : (0 : Int) ≤ (ya : Int) := by omega
    have wya : IntKind.i64.wrap (ya : Int) = (ya : Int) := IntWalk.i64_in _ (by omega)
    have ya1 : (ya : Int) < (yls.length : Int) := by omega
    refine AnyT.region (fun _ => false) (fun w' => w'.cell? ⟨g, j * 4 + 1, none⟩ = some (.slice (some ⟨lb, loff, none⟩) yls.length c') ∧ w'.cell? ⟨g, j * 4 + 3, none⟩ = some (.int .i64 ((ya : Int) + 1)) ∧ w'.cell? ⟨lb, loff + ya, none⟩ = some (.string XL)) (by kernel_rfl) ⟨f1', f3', hc'⟩ (fun hHeld => ?_)
    ((refine AnyT.takeAny 0 59 ?_ rfl (by kernel_rfl) (by kernel_rfl) (by kernel_rfl) rfl rfl (fun _ _ _ _ h => h) rfl ?_ (by assumption) ?_); rotate_left; (intro w; go_simp; (try (with_reducible rfl))); simp only [Act.put, List.setIfInBounds_toArray, List.set_cons_zero, List.set_cons_succ])
    ((refine AnyT.takeAny 1 60 ?_ rfl (by kernel_rfl) (by kernel_rfl) (by kernel_rfl) rfl rfl (fun _ _ _ _ h => h) rfl ?_ (by assumption) ?_); rotate_left; (intro w; go_simp; (try (with_reducible rfl))); simp only [Act.put, List.setIfInBounds_toArray, List.set_cons_zero, List.set_cons_succ])
    ((refine AnyT.takeAny 2 61 ?_ rfl (by kernel_rfl) (by kernel_rfl) (by kernel_rfl) rfl rfl (fun _ _ _ _ h => h) rfl ?_ (by assumption) ?_); rotate_left; (intro w; go_simp; (try (with_reducible rfl))); simp only [Act.put, List.setIfInBounds_toArray, List.set_cons_zero, List.set_cons_succ])
    ((refine AnyT.take 3 62 ?_ rfl (by kernel_rfl) (by kernel_rfl) (by kernel_rfl) (by kernel_rfl) rfl (by kernel_rfl) rfl (fun _ _ _ _ h => h) rfl ?_ (by assumption) ?_); rotate_left; (intro w hSw; (try dsimp only at hSw); go_simp; (try (with_reducible rfl))); simp only [Act.put, List.setIfInBounds_toArray, List.set_cons_zero, List.set_cons_succ])
    ((refine AnyT.takeAny 4 63 ?_ rfl (by kernel_rfl) (by kernel_rfl) (by kernel_rfl) rfl rfl (fun _ _ _ _ h => h) rfl ?_ (by assumption) ?_); rotate_left; (intro w; go_simp; (try (with_reducible rfl))); simp only [Act.put, List.setIfInBounds_toArray, List.set_cons_zero, List.set_cons_succ])
    ((refine AnyT.takeAny 5 64 ?_ rfl (by kernel_rfl) (by kernel_rfl) (by kernel_rfl) rfl rfl (fun _ _ _ _ h => h) rfl ?_ (by assumption) ?_); rotate_left; (intro w; go_simp; (try (with_reducible rfl))); simp only [Act.put, List.setIfInBounds_toArray, List.set_cons_zero, List.set_cons_succ])
    ((refine AnyT.takeAny 6 65 ?_ rfl (by kernel_rfl) (by kernel_rfl) (by kernel_rfl) rfl rfl (fun _ _ _ _ h => h) rfl ?_ (by assumption) ?_); rotate_left; (intro w; go_simp; (try (with_reducible rfl))); simp only [Act.put, List.setIfInBounds_toArray, List.set_cons_zero, List.set_cons_succ])
    ((refine AnyT.take 7 66 ?_ rfl (by kernel_rfl) (by kernel_rfl) (by kernel_rfl) (by kernel_rfl) rfl (by kernel_rfl) rfl (fun _ _ _ _ h => h) rfl ?_ (by assumption) ?_); rotate_left; (intro w hSw; (try dsimp only at hSw); go_simp; (try (with_reducible rfl))); simp only [Act.put, List.setIfInBounds_toArray, List.set_cons_zero, List.set_cons_succ])
    ((refine AnyT.takeAny 8 67 ?_ rfl (by kernel_rfl) (by kernel_rfl) (by kernel_rfl) rfl rfl (fun _ _ _ _ h => h) rfl ?_ (by assumption) ?_); rotate_left; (intro w; go_simp; (try (with_reducible rfl))); simp only [Act.put, List.setIfInBounds_toArray, List.set_cons_zero, List.set_cons_succ])
    ((refine AnyT.takeAny 9 68 ?_ rfl (by kernel_rfl) (by kernel_rfl) (by kernel_rfl) rfl rfl (fun _ _ _ _ h => h) rfl ?_ (by assumption) ?_); rotate_left; (intro w; go_simp; (try (with_reducible rfl))); simp only [Act.put, List.setIfInBounds_toArray, List.set_cons_zero, List.set_cons_succ])
    ((refine AnyT.take 10 69 ?_ rfl (by kernel_rfl) (by kernel_rfl) (by kernel_rfl) (by kernel_rfl) rfl (by kernel_rfl) rfl (fun _ _ _ _ h => h) rfl ?_ (by assumption) ?_); rotate_left; (intro w hSw; (try dsimp only at hSw); go_simp; (try (with_reducible rfl))); simp only [Act.put, List.setIfInBounds_toArray, List.set_cons_zero, List.set_cons_succ])
    ((refine AnyT.takeAny 11 2 ?_ rfl (by kernel_rfl) (by kernel_rfl) (by kernel_rfl) rfl rfl (fun _ _ _ _ h => h) rfl ?_ (by assumption) ?_); rotate_left; (intro w; go_simp; (try (with_reducible rfl))); simp only [Act.put, List.setIfInBounds_toArray, List.set_cons_zero, List.set_cons_succ])
    ((refine AnyT.takeAny 12 3 ?_ rfl (by kernel_rfl) (by kernel_rfl) (by kernel_rfl) rfl rfl (fun _ _ _ _ h => h) rfl ?_ (by assumption) ?_); rotate_left; (intro w; go_simp; (try (with_reducible rfl))); simp only [Act.put, List.setIfInBounds_toArray, List.set_cons_zero, List.set_cons_succ])
    refine AnyT.done (by kernel_rfl) ?_ _
    clear hHeld
    go_wp2_with fail
    refine bodyPost_ret (v := .tuple #[.string XL, .bool true]) (by simp [results, Tryz.results34, go_sem]) rfl ⟨HBL.out, ?_⟩
    refine ⟨fun h => absurd h (by omega), ?_, ?_⟩
    · rw [← HXL.out, List.getD_eq_getElem?_getD, List.getElem?_eq_getElem hya, Option.getD_some]
    · have h1 := (loc_ownFx _ _ _ _ w2 w2.drew.drew.drew (fun b _ _ => rfl) (HOW.out.more (show w.heap.size ≤ w2.heap.size by rw [HZ.out]; exact Nat.le_refl _)))
      exact h1
end
end Go.Proofs.YtmeholhmadeehaaGreatDoor
