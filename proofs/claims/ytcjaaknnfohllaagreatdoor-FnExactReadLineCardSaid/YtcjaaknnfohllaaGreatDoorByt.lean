/- Rows of bytes of the call's own: one byte more, a text more, their text; decimal digits of the reference. -/
import Derived.Test.YtcjaaknnfohllaaGreatDoorProg
import Derived.Test.YtcjaaknnfohllaaGreatDoorMem
import Derived.Lib.AppendStr
import Derived.Lib.ConvBytes
import Derived.Lib.ItoaNum
import Derived.IntWalk
namespace Go.Proofs.YtcjaaknnfohllaaGreatDoor
open Go.RowKit

theorem infoByte : (Tryz.prog.info? 5).map (fun i => (i.zero, i.size, i.bytes)) = some (some (.int .u8 0), 1, 1) := by kernel_rfl

abbrev encB : UInt8 → Value := fun c => .int .u8 (c.toNat : Int)

theorem convert_own {w : World} {base : Nat} {v : Value} {xs : List UInt8} (h : OwnR encB w base 5 v xs) :
    (convert 102 9 v).run Tryz.prog w = .ok (.string ⟨xs.toArray⟩) w := by
  obtain ⟨⟨A, c, rfl⟩, ho⟩ := h
  by_cases h0 : 0 < xs.length
  · obtain ⟨b, off, rfl, _, _, hc⟩ := (RowR.of_own (enc := encB) (d := 0) ho).2 h0
    have := run_convert_bytes_arg (P := Tryz.prog) w 102 5 Tryz.underlying102 Tryz.underlying5 b off xs.length c (xs.map fun c => (c.toNat : Int)) (by simp) (fun i hi => by
      rw [hc i hi]
      simp [List.getD_eq_getElem?_getD, List.getElem?_eq_getElem hi]) 9 Tryz.underlying9
    have e : strOfNums (xs.map fun c => (c.toNat : Int)) = ⟨xs.toArray⟩ := by
      unfold strOfNums
      rw [List.map_map]
      have : ((fun n : Int => UInt8.ofNat n.toNat) ∘ fun c : UInt8 => (c.toNat : Int)) = id := by
        funext c
        simp
      rw [this, List.map_id]
    rw [this, e]
  · have hx : xs = [] := List.eq_nil_of_length_eq_zero (by omega)
    subst hx
    cases A with
    | none => exact run_convert_bytes_nil (P := Tryz.prog) w 102 5 Tryz.underlying102 Tryz.underlying5 _ _ 9 Tryz.underlying9
    | some a =>
      rw [run_convert_bytes_string w 102 9 5 _ _ _ Tryz.underlying102 Tryz.underlying5 Tryz.underlying9, run_bytesToString w a _ _ [] (by simp [loadCells, loadCellsFrom])]
      rfl

/-- []byte(s): a row of bytes in a new block. -/
theorem rowBytes (w : World) (s : ByteArray) : ∃ cap w', (convert 9 102 (.string s)).run Tryz.prog w = .ok (.slice (some ⟨w.heap.size, 0, none⟩) s.size cap) w' ∧
    (∀ j (hj : j < s.size), w'.cell? ⟨w.heap.size, j, none⟩ = some (.int .u8 (s[j].toNat : Int))) ∧ Below w.heap.size w w' ∧ w'.heap.size = w.heap.size + 1 := by
  refine ⟨_, _, Lib.run_convert_string_bytes w _ _ 5 s Tryz.underlying9 Tryz.underlying102 Tryz.underlying5, fun j hj => ?_, ?_, Lib.bytesWorld_size _ _ _⟩
  · rw [Lib.bytesWorld_cell w 5 s j hj]
    have : s.data.toList.getD j 0 = s[j] := by
      have h : j < s.data.toList.length := by simpa using hj
      rw [List.getD_eq_getElem?_getD, List.getElem?_eq_getElem h]
      rfl
    rw [this]
  · exact ⟨rfl, rfl, rfl, by rw [Lib.bytesWorld_size]; omega, fun k hk => Lib.bytesWorld_at_old w _ s k hk⟩

theorem strCells_enc (s : ByteArray) : Lib.strCells s = s.data.toList.map encB := rfl

/-- append(b, t...): a text more at a row of bytes of the call's own. -/
theorem wpList_appS {ops : Array Oper} {rest : List Oper} {o : Oper} {a : Act} {Q : Exit → Act → World → Prop} (hgd : o.guard = none) (s x : Operand)
    (ho : o.op = .call { callee := .builtin .append, args := #[s, x], argTypes := #[102, 9] })
    (w : World) (base : Nat) (v : Value) (xs : List UInt8) (t : ByteArray) (hs : a.eval s = v) (hown : OwnR encB w base 5 v xs)
    (hx : a.eval x = .string t) (hlen : xs.length ≤ 1000000000) (hlt : t.size ≤ 1000000000) (hbase : base ≤ w.heap.size)
    (h : ∀ v' w', OwnR encB w' base 5 v' (xs ++ t.data.toList) → Below base w w' → wpList Tryz.prog ops Q rest (a.put o.dst v') w') : wpList Tryz.prog ops Q (o :: rest) a w := by
  obtain ⟨i0, hi0, hz0, hz1, hz2⟩ := info_parts infoByte
  refine Lib.wpList_append_own_string w hgd s x 102 9 ho base 5 i0 Tryz.underlying102 Tryz.underlying9 hi0 hz0 hz1 hz2 v xs.length (xs.map encB) hs hown.2 t hx (by unfold maxLen; omega) (by omega) hbase ?_
  intro v' w' h1 h2 h3
  have hB : Below base w w' := (Below.refl base w).grown h2 hbase (fun k hk => (hown.2.lt k hk).1)
  refine h v' w' ⟨?_, ?_⟩ hB
  · rcases h1.2 with ⟨e1, e2⟩ | ⟨g, cap, cur, e1, _⟩
    · refine ⟨none, 0, ?_⟩
      have := Array.length_toList (xs := t.data)
      have h4 : t.size = t.data.size := rfl
      have h5 : xs.length + t.data.toList.length = 0 := by omega
      rw [e1, List.length_append, h5]
    · refine ⟨some ⟨g, 0, none⟩, cap, ?_⟩
      rw [e1, List.length_append, Array.length_toList]
      rfl
  · rw [List.length_append, List.map_append, Array.length_toList, ← strCells_enc]
    exact h1

def decT (c : Nat) : ByteArray := ⟨(Lib.decDigits c).toArray⟩
theorem decT_small {c : Nat} (h : c < 10) : decT c = ⟨#[UInt8.ofNat (48 + c)]⟩ := by
  unfold decT; rw [Lib.decDigits, dif_pos h]
theorem decT_big {c : Nat} (h : ¬ c < 10) : decT c = decT (c / 10) ++ (⟨#[UInt8.ofNat (48 + c % 10)]⟩ : ByteArray) := by
  unfold decT; rw [Lib.decDigits, dif_neg h]
  apply ByteArray.ext
  simp [ByteArray.data_append]
theorem decT_size : ∀ (k c : Nat), c < 10 ^ (k + 1) → (decT c).size ≤ k + 1
  | 0, c, h => by rw [decT_small (by simpa using h)]; show (1 : Nat) ≤ _; omega
  | k + 1, c, h => by
    by_cases hc : c < 10
    · rw [decT_small hc]; show (1 : Nat) ≤ _; omega
    · rw [decT_big hc, ByteArray.size_append]
      have := decT_size k (c / 10) (by rw [Nat.pow_succ] at h; omega)
      show _ + 1 ≤ _; omega

set_option maxHeartbeats 4000000 in
set_option maxRecDepth 100000 in
theorem l21Below_step (c : Nat) (hc : c ≤ 9223372036854775807) (n : Int) (hn : n = -(c : Int)) (w : World) (ih : 10 ≤ c → ∀ W, Calls Tryz.prog 143 #[.int .i64 (-((c / 10 : Nat) : Int))] W fun e w' => e = .returned (.string (decT (c / 10))) ∧ Below W.heap.size W w') :
    Calls Tryz.prog 143 #[.int .i64 n] w fun e w' => e = .returned (.string (decT c)) ∧ Below w.heap.size w w' := by
  have hrem : n.tmod 10 = -((c % 10 : Nat) : Int) := by subst hn; rw [Int.neg_tmod]; rfl
  have hquo : n.tdiv 10 = -((c / 10 : Nat) : Int) := by subst hn; rw [Int.neg_tdiv]; rfl
  have HIH := Lib.hid ih; clear ih
  have HC := Lib.hid hn; have HCC := Lib.hid hc
  have hn1 : -9223372036854775807 ≤ n := by omega
  have hn2 : n ≤ 0 := by omega
  clear hn hc
  generalize hr : c % 10 = r at *
  have hr10 : r ≤ 9 := by omega
  have HRC := Lib.hid hr
  generalize hq : c / 10 = q at *
  have HQ := Lib.hid hq
  have hq99 : q ≤ 922337203685477580 := by have := HCC.out; omega
  clear hr hq
  have hcv := run_one_byte (P := Tryz.prog) 102 9 5 Tryz.underlying102 Tryz.underlying5 Tryz.underlying9 w (48 + (r : Int)) 1
  rw [show ((48 : Int) + (r : Int)).toNat = 48 + r by omega] at hcv
  have hba := (Below.refl w.heap.size w).alloc (Nat.le_refl _) (.cells #[.int .u8 (48 + (r : Int))] 5)
  have HBA := Lib.hid hba
  by_cases h10 : c < 10
  · have HR := Lib.hid (show decT c = ⟨#[UInt8.ofNat (48 + r)]⟩ by rw [decT_small h10]; have := HRC.out; rw [show r = c by omega])
    have hg : (-10 : Int) < n := by have := HC.out; omega
    clear hba h10
    go_enter Tryz.func143, Tryz.ntmps143
    go_wp2_with fail
    go_ret
    exact ⟨by rw [HR.out]; simp, HBA.out⟩
  · have HR := Lib.hid (show decT c = decT q ++ (⟨#[UInt8.ofNat (48 + r)]⟩ : ByteArray) by rw [decT_big h10, HRC.out, HQ.out])
    have hg : ¬ (-10 : Int) < n := by have := HC.out; omega
    have HI := Lib.hid (HIH.out (by omega) (w.alloc (.cells #[.int .u8 (48 + (r : Int))] 5)))
    have hsz : (decT q).size ≤ 18 := decT_size 17 q (by omega)
    have hs1 : (decT q ++ (⟨#[UInt8.ofNat (48 + r)]⟩ : ByteArray)).size = (decT q).size + 1 := by rw [ByteArray.size_append]; rfl
    clear hba h10 HIH
    go_enter Tryz.func143, Tryz.ntmps143
    go_wp2_with fail
    refine HI.out.mono ?_
    rintro e1 w1 ⟨rfl, hb1⟩
    have HB := Lib.hid (HBA.out.trans (hb1.mono (by simp)))
    clear hb1
    go_wp2_with fail
    go_ret
    exact ⟨by rw [HR.out]; simp, HB.out⟩

theorem l21Below_any : ∀ (c : Nat), c ≤ 9223372036854775807 → ∀ (w : World), Calls Tryz.prog 143 #[.int .i64 (-(c : Int))] w fun e w' => e = .returned (.string (decT c)) ∧ Below w.heap.size w w' := by
  intro c
  induction c using Nat.strongRecOn with
  | _ c ih =>
    intro hc w
    exact l21Below_step c hc _ rfl w (fun h W => ih (c / 10) (by omega) (by omega) W)

set_option maxHeartbeats 4000000 in
theorem l21Dec_any (c : Nat) (hc : c ≤ 9223372036854775807) (w : World) : Calls Tryz.prog 81 #[.int .i64 (c : Int)] w fun e w' => e = .returned (.string (decT c)) ∧ Below w.heap.size w w' := by
  have HI := Lib.hid (l21Below_any c hc w)
  have h0 : ¬ ((c : Int) < 0) := by omega
  go_enter Tryz.func81, Tryz.ntmps81
  go_wp2_with fail
  refine HI.out.mono ?_
  rintro e1 w1 ⟨rfl, hb1⟩
  have HB := Lib.hid hb1; clear hb1
  go_wp2_with fail
  go_ret
  exact ⟨rfl, HB.out⟩
end Go.Proofs.YtcjaaknnfohllaaGreatDoor
