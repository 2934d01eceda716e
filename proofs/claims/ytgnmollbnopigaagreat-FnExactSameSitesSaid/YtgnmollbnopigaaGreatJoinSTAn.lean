/- Ins, Entry, Program, Trigger, Lock, Ask, Locks, Event, Trans, Batch, Put, Disk, Seat, Top, Cache, Journal, Page, Slot, Btree: shapes and the laws' walks (sz). Printed by gen_fam.py. -/
import Derived.Test.YtgnmollbnopigaaGreatJoinSTAf
import Derived.Test.YtgnmollbnopigaaGreatJoinSTAi
import Derived.Test.YtgnmollbnopigaaGreatJoinSTAk
set_option maxHeartbeats 16000000
set_option maxRecDepth 100000
namespace Go.Proofs.YtgnmollbnopigaaGreat
open Go.RowKit
theorem szIns_f (x0 : Int) (x1 : Int) (x2 : Int) (x3 : ByteArray) (lo hi : Nat) (left : Int) (w : World) (h : shIns.R w lo hi [.int .i64 x0, .int .i64 x1, .int .i64 x2, .string x3] (x0, x1, x2, x3)) (hhi : hi ≤ w.heap.size) (hf : shIns.fit 9223372036854775807 (x0, x1, x2, x3)) (hl0 : 0 ≤ left) (hl : left ≤ 1048576) :
  Calls Tryz.prog 174 #[.agg #[.int .i64 x0, .int .i64 x1, .int .i64 x2, .string x3], .int .i64 left] w fun e w' => ∃ m, e = .returned (.int .i64 m) ∧ Left left (shIns.cost (x0, x1, x2, x3)) m ∧ Below w.heap.size w w' := by
 rw [shIns_cost]
 rw [shIns_fit] at hf
 obtain ⟨ft0, ft1, ft2, ft3⟩ := hf
 have R0 := ((Stand.nil w).add lo hi (fun W => shIns.R W lo hi [.int .i64 x0, .int .i64 x1, .int .i64 x2, .string x3] (x0, x1, x2, x3)) (fun _ _ hk h => shIns.R_keep h hk) hhi h).box 289 #[.int .i64 x0, .int .i64 x1, .int .i64 x2, .string x3]
 have HR0 := Lib.hid R0
 clear R0 h
 go_enter Tryz.func174, Tryz.ntmps174
 by_cases g3 : left - (x3.size : Int) < 0
 ·go_wp2_with fail
  go_ret
  exact ⟨_, rfl, .inl rfl, HR0.out.1⟩
 go_wp2_with fail
 go_ret
 refine ⟨_, rfl, .inr ⟨by omega, ?_⟩, HR0.out.1⟩
 omega
theorem szInsS_f (A : Option Addr) (c : Nat) (xs : List TyIns) (lo hi : Nat) (left : Int) (w : World) (h : (Sh.row 226 shIns).R w lo hi [.slice A xs.length c] xs) (hhi : hi ≤ w.heap.size) (hf : (Sh.row 226 shIns).fit 9223372036854775807 xs) (hl0 : 0 ≤ left) (hl : left ≤ 1048576) :
  Calls Tryz.prog 101 #[.slice A xs.length c, .int .i64 left] w fun e w' => ∃ m, e = .returned (.int .i64 m) ∧ Left left ((Sh.row 226 shIns).cost xs) m ∧ Below w.heap.size w w' := by
 have hn := hf.1
 have HA := Lib.hid h; have HF := Lib.hid hf.2
 clear h hf
 go_enter Tryz.func101, Tryz.ntmps101
 by_cases g0 : left - (xs.length : Int) < 0
 ·go_wp2_with fail
  go_ret
  exact ⟨_, rfl, .inl rfl, Below.refl _ _⟩
 go_wp2_with fail
 go_loopw [1, 5] (fun l i wr => ∃ (k : Nat) (m : Int), k ≤ xs.length ∧ i = .int .i64 k ∧ l = .int .i64 m ∧ 0 ≤ m ∧ m + xs.length + costTo shIns k xs = left ∧ Below w.heap.size w wr) (fun _ i _ => xs.length - (intOf i).toNat)
 case atStart => exact ⟨0, _, Nat.zero_le _, rfl, rfl, by omega, by rw [costTo_zero]; omega, Below.refl _ _⟩
 case round =>
  obtain ⟨k, m, hk, rfl, rfl, hm0, hm, hb⟩ := hrel
  have HM := Lib.hid hm
  have hml : m ≤ 1048576 := by omega
  clear hm
  by_cases hlt : k < xs.length
  ·obtain ⟨-, b, off, rfl, hb1, hb2, e100, e101, e102, e103, hX⟩ := shIns_at ((Sh.row 226 shIns).R_below HA.out hb hhi) hlt
   have HS := Lib.hid (costTo_succ shIns hlt)
   have HX := Lib.hid (HF.out _ (getD_in (d := shIns.d) hlt))
   generalize xs.getD k shIns.d = X at *
   obtain ⟨x0, x1, x2, x3⟩ := X
   try dsimp only at e100 e101 e102 e103
   have HB := Lib.hid hb; have HR := Lib.hid hX
   have hsz := hb.size
   clear hb hX
   go_wp2_with fail
   refine (szIns_f x0 x1 x2 x3 lo hi _ _ HR.out (by omega) HX.out hm0 hml).mono ?_
   rintro e5 w5 ⟨m5, rfl, hm5, hb5⟩
   have HB5 := Lib.hid (HB.out.trans (hb5.mono hsz))
   clear hb5 e100 e101 e102 e103
   rcases hm5 with rfl | ⟨hm50, hm5⟩
   ·go_wp2_with fail
    go_ret
    exact ⟨_, rfl, .inl rfl, HB5.out⟩
   have n5 : ¬ (m5 < 0) := by omega
   have HM5 := Lib.hid hm5
   clear hm5
   go_wp2_with fail
   go_roundw
   case rel => exact ⟨k + 1, m5, by omega, by go_num, rfl, hm50, by have := HM.out; have := HM5.out; have := HS.out; omega, HB5.out⟩
   case measure => simp [intOf]; omega
  ·obtain rfl : k = xs.length := by omega
   have HB := Lib.hid hb; clear hb
   go_wp2_with fail
   go_ret
   refine ⟨_, rfl, .inr ⟨hm0, ?_⟩, HB.out⟩
   have := HM.out
   have e1 := costTo_all shIns xs
   show m + (costAll shIns xs : Int) = left
   omega
theorem szEntry_f (x0 : ByteArray) (x1 : ByteArray) (x2 : Int) (x3 : List ByteArray) (A3 : Option Addr) (c3 : Nat) (lo hi : Nat) (left : Int) (w : World) (h : shEntry.R w lo hi [.string x0, .string x1, .int .i64 x2, .slice A3 x3.length c3] (x0, x1, x2, x3)) (hhi : hi ≤ w.heap.size) (hf : shEntry.fit 9223372036854775807 (x0, x1, x2, x3)) (hl0 : 0 ≤ left) (hl : left ≤ 1048576) :
  Calls Tryz.prog 175 #[.agg #[.string x0, .string x1, .int .i64 x2, .slice A3 x3.length c3], .int .i64 left] w fun e w' => ∃ m, e = .returned (.int .i64 m) ∧ Left left (shEntry.cost (x0, x1, x2, x3)) m ∧ Below w.heap.size w w' := by
 rw [shEntry_cost]
 rw [shEntry_fit] at hf
 obtain ⟨ft0, ft1, ft2, ft3⟩ := hf
 have R0 := ((Stand.nil w).add lo hi (fun W => shEntry.R W lo hi [.string x0, .string x1, .int .i64 x2, .slice A3 x3.length c3] (x0, x1, x2, x3)) (fun _ _ hk h => shEntry.R_keep h hk) hhi h).box 291 #[.string x0, .string x1, .int .i64 x2, .slice A3 x3.length c3]
 have HR0 := Lib.hid R0
 clear R0 h
 go_enter Tryz.func175, Tryz.ntmps175
 by_cases g0 : left - (x0.size : Int) < 0
 ·go_wp2_with fail
  go_ret
  exact ⟨_, rfl, .inl rfl, HR0.out.1⟩
 by_cases g1 : left - (x0.size : Int) - (x1.size : Int) < 0
 ·go_wp2_with fail
  go_ret
  exact ⟨_, rfl, .inl rfl, HR0.out.1⟩
 go_wp2_with fail
 refine (szStringS_f A3 c3 x3 lo hi _ _ (shEntry_f3 (HR0.out.get 1 rfl)) (HR0.out.le 1 rfl) ft3 (by omega) (by omega)).mono ?_
 rintro e3 w3 ⟨m3, rfl, hm3, hb3⟩
 have HR1 := Lib.hid (HR0.out.below hb3)
 have b3 := (HR1.out.get 0 rfl).cell
 clear hb3 HR0
 rcases hm3 with rfl | ⟨hp3, hm3⟩
 ·go_wp2_with fail
  go_ret
  exact ⟨_, rfl, .inl rfl, HR1.out.1⟩
 have n3 : ¬ (m3 < 0) := by omega
 have u3 : m3 ≤ 1048576 := by omega
 have HM3 := Lib.hid hm3; clear hm3
 go_wp2_with fail
 go_ret
 refine ⟨_, rfl, .inr ⟨by omega, ?_⟩, HR1.out.1⟩
 have := HM3.out
 omega
theorem szEntryS_f (A : Option Addr) (c : Nat) (xs : List TyEntry) (lo hi : Nat) (left : Int) (w : World) (h : (Sh.row 228 shEntry).R w lo hi [.slice A xs.length c] xs) (hhi : hi ≤ w.heap.size) (hf : (Sh.row 228 shEntry).fit 9223372036854775807 xs) (hl0 : 0 ≤ left) (hl : left ≤ 1048576) :
  Calls Tryz.prog 102 #[.slice A xs.length c, .int .i64 left] w fun e w' => ∃ m, e = .returned (.int .i64 m) ∧ Left left ((Sh.row 228 shEntry).cost xs) m ∧ Below w.heap.size w w' := by
 have hn := hf.1
 have HA := Lib.hid h; have HF := Lib.hid hf.2
 clear h hf
 go_enter Tryz.func102, Tryz.ntmps102
 by_cases g0 : left - (xs.length : Int) < 0
 ·go_wp2_with fail
  go_ret
  exact ⟨_, rfl, .inl rfl, Below.refl _ _⟩
 go_wp2_with fail
 go_loopw [1, 5] (fun l i wr => ∃ (k : Nat) (m : Int), k ≤ xs.length ∧ i = .int .i64 k ∧ l = .int .i64 m ∧ 0 ≤ m ∧ m + xs.length + costTo shEntry k xs = left ∧ Below w.heap.size w wr) (fun _ i _ => xs.length - (intOf i).toNat)
 case atStart => exact ⟨0, _, Nat.zero_le _, rfl, rfl, by omega, by rw [costTo_zero]; omega, Below.refl _ _⟩
 case round =>
  obtain ⟨k, m, hk, rfl, rfl, hm0, hm, hb⟩ := hrel
  have HM := Lib.hid hm
  have hml : m ≤ 1048576 := by omega
  clear hm
  by_cases hlt : k < xs.length
  ·obtain ⟨-, b, off, rfl, hb1, hb2, A3, c3, e100, e101, e102, e103, hX⟩ := shEntry_at ((Sh.row 228 shEntry).R_below HA.out hb hhi) hlt
   have HS := Lib.hid (costTo_succ shEntry hlt)
   have HX := Lib.hid (HF.out _ (getD_in (d := shEntry.d) hlt))
   generalize xs.getD k shEntry.d = X at *
   obtain ⟨x0, x1, x2, x3⟩ := X
   try dsimp only at e100 e101 e102 e103
   have HB := Lib.hid hb; have HR := Lib.hid hX
   have hsz := hb.size
   clear hb hX
   go_wp2_with fail
   refine (szEntry_f x0 x1 x2 x3 A3 c3 lo hi _ _ HR.out (by omega) HX.out hm0 hml).mono ?_
   rintro e5 w5 ⟨m5, rfl, hm5, hb5⟩
   have HB5 := Lib.hid (HB.out.trans (hb5.mono hsz))
   clear hb5 e100 e101 e102 e103
   rcases hm5 with rfl | ⟨hm50, hm5⟩
   ·go_wp2_with fail
    go_ret
    exact ⟨_, rfl, .inl rfl, HB5.out⟩
   have n5 : ¬ (m5 < 0) := by omega
   have HM5 := Lib.hid hm5
   clear hm5
   go_wp2_with fail
   go_roundw
   case rel => exact ⟨k + 1, m5, by omega, by go_num, rfl, hm50, by have := HM.out; have := HM5.out; have := HS.out; omega, HB5.out⟩
   case measure => simp [intOf]; omega
  ·obtain rfl : k = xs.length := by omega
   have HB := Lib.hid hb; clear hb
   go_wp2_with fail
   go_ret
   refine ⟨_, rfl, .inr ⟨hm0, ?_⟩, HB.out⟩
   have := HM.out
   have e1 := costTo_all shEntry xs
   show m + (costAll shEntry xs : Int) = left
   omega
theorem szProgram_f (x0 : List TyIns) (x1 : List TyEntry) (A0 : Option Addr) (c0 : Nat) (A1 : Option Addr) (c1 : Nat) (lo hi : Nat) (left : Int) (w : World) (h : shProgram.R w lo hi [.slice A0 x0.length c0, .slice A1 x1.length c1] (x0, x1)) (hhi : hi ≤ w.heap.size) (hf : shProgram.fit 9223372036854775807 (x0, x1)) (hl0 : 0 ≤ left) (hl : left ≤ 1048576) :
  Calls Tryz.prog 45 #[.agg #[.slice A0 x0.length c0, .slice A1 x1.length c1], .int .i64 left] w fun e w' => ∃ m, e = .returned (.int .i64 m) ∧ Left left (shProgram.cost (x0, x1)) m ∧ Below w.heap.size w w' := by
 rw [shProgram_cost]
 rw [shProgram_fit] at hf
 obtain ⟨ft0, ft1⟩ := hf
 have R0 := ((Stand.nil w).add lo hi (fun W => shProgram.R W lo hi [.slice A0 x0.length c0, .slice A1 x1.length c1] (x0, x1)) (fun _ _ hk h => shProgram.R_keep h hk) hhi h).box 25 #[.slice A0 x0.length c0, .slice A1 x1.length c1]
 have HR0 := Lib.hid R0
 clear R0 h
 go_enter Tryz.func45, Tryz.ntmps45
 go_wp2_with fail
 refine (szInsS_f A0 c0 x0 lo hi _ _ (shProgram_f0 (HR0.out.get 1 rfl)) (HR0.out.le 1 rfl) ft0 (by omega) (by omega)).mono ?_
 rintro e0 w0 ⟨m0, rfl, hm0, hb0⟩
 have HR1 := Lib.hid (HR0.out.below hb0)
 have b0 := (HR1.out.get 0 rfl).cell
 clear hb0 HR0
 rcases hm0 with rfl | ⟨hp0, hm0⟩
 ·go_wp2_with fail
  go_ret
  exact ⟨_, rfl, .inl rfl, HR1.out.1⟩
 have n0 : ¬ (m0 < 0) := by omega
 have u0 : m0 ≤ 1048576 := by omega
 have HM0 := Lib.hid hm0; clear hm0
 go_wp2_with fail
 refine (szEntryS_f A1 c1 x1 lo hi _ _ (shProgram_f1 (HR1.out.get 1 rfl)) (HR1.out.le 1 rfl) ft1 (by omega) (by omega)).mono ?_
 rintro e1 w1 ⟨m1, rfl, hm1, hb1⟩
 have HR2 := Lib.hid (HR1.out.below hb1)
 have b1 := (HR2.out.get 0 rfl).cell
 clear hb1 HR1
 rcases hm1 with rfl | ⟨hp1, hm1⟩
 ·go_wp2_with fail
  go_ret
  exact ⟨_, rfl, .inl rfl, HR2.out.1⟩
 have n1 : ¬ (m1 < 0) := by omega
 have u1 : m1 ≤ 1048576 := by omega
 have HM1 := Lib.hid hm1; clear hm1
 go_wp2_with fail
 go_ret
 refine ⟨_, rfl, .inr ⟨by omega, ?_⟩, HR2.out.1⟩
 have := HM0.out
 have := HM1.out
 omega
theorem szTrigger_f (x0 : Int) (x1 : ByteArray) (x2 : List ByteArray) (x3 : Bool) (x4 : Bool) (x5 : ByteArray) (x6 : ByteArray) (A2 : Option Addr) (c2 : Nat) (lo hi : Nat) (left : Int) (w : World) (h : shTrigger.R w lo hi [.int .i64 x0, .string x1, .slice A2 x2.length c2, .bool x3, .bool x4, .string x5, .string x6] (x0, x1, x2, x3, x4, x5, x6)) (hhi : hi ≤ w.heap.size) (hf : shTrigger.fit 9223372036854775807 (x0, x1, x2, x3, x4, x5, x6)) (hl0 : 0 ≤ left) (hl : left ≤ 1048576) :
  Calls Tryz.prog 103 #[.agg #[.int .i64 x0, .string x1, .slice A2 x2.length c2, .bool x3, .bool x4, .string x5, .string x6], .int .i64 left] w fun e w' => ∃ m, e = .returned (.int .i64 m) ∧ Left left (shTrigger.cost (x0, x1, x2, x3, x4, x5, x6)) m ∧ Below w.heap.size w w' := by
 rw [shTrigger_cost]
 rw [shTrigger_fit] at hf
 obtain ⟨ft0, ft1, ft2, ft3, ft4, ft5, ft6⟩ := hf
 have R0 := ((Stand.nil w).add lo hi (fun W => shTrigger.R W lo hi [.int .i64 x0, .string x1, .slice A2 x2.length c2, .bool x3, .bool x4, .string x5, .string x6] (x0, x1, x2, x3, x4, x5, x6)) (fun _ _ hk h => shTrigger.R_keep h hk) hhi h).box 197 #[.int .i64 x0, .string x1, .slice A2 x2.length c2, .bool x3, .bool x4, .string x5, .string x6]
 have HR0 := Lib.hid R0
 clear R0 h
 go_enter Tryz.func103, Tryz.ntmps103
 by_cases g1 : left - (x1.size : Int) < 0
 ·go_wp2_with fail
  go_ret
  exact ⟨_, rfl, .inl rfl, HR0.out.1⟩
 go_wp2_with fail
 refine (szStringS_f A2 c2 x2 lo hi _ _ (shTrigger_f2 (HR0.out.get 1 rfl)) (HR0.out.le 1 rfl) ft2 (by omega) (by omega)).mono ?_
 rintro e2 w2 ⟨m2, rfl, hm2, hb2⟩
 have HR1 := Lib.hid (HR0.out.below hb2)
 have b2 := (HR1.out.get 0 rfl).cell
 clear hb2 HR0
 rcases hm2 with rfl | ⟨hp2, hm2⟩
 ·go_wp2_with fail
  go_ret
  exact ⟨_, rfl, .inl rfl, HR1.out.1⟩
 have n2 : ¬ (m2 < 0) := by omega
 have u2 : m2 ≤ 1048576 := by omega
 have HM2 := Lib.hid hm2; clear hm2
 by_cases g5 : m2 - (x5.size : Int) < 0
 ·go_wp2_with fail
  go_ret
  exact ⟨_, rfl, .inl rfl, HR1.out.1⟩
 by_cases g6 : m2 - (x5.size : Int) - (x6.size : Int) < 0
 ·go_wp2_with fail
  go_ret
  exact ⟨_, rfl, .inl rfl, HR1.out.1⟩
 go_wp2_with fail
 go_ret
 refine ⟨_, rfl, .inr ⟨by omega, ?_⟩, HR1.out.1⟩
 have := HM2.out
 omega
theorem szTriggerS_f (A : Option Addr) (c : Nat) (xs : List TyTrigger) (lo hi : Nat) (left : Int) (w : World) (h : (Sh.row 229 shTrigger).R w lo hi [.slice A xs.length c] xs) (hhi : hi ≤ w.heap.size) (hf : (Sh.row 229 shTrigger).fit 9223372036854775807 xs) (hl0 : 0 ≤ left) (hl : left ≤ 1048576) :
  Calls Tryz.prog 46 #[.slice A xs.length c, .int .i64 left] w fun e w' => ∃ m, e = .returned (.int .i64 m) ∧ Left left ((Sh.row 229 shTrigger).cost xs) m ∧ Below w.heap.size w w' := by
 have hn := hf.1
 have HA := Lib.hid h; have HF := Lib.hid hf.2
 clear h hf
 go_enter Tryz.func46, Tryz.ntmps46
 by_cases g0 : left - (xs.length : Int) < 0
 ·go_wp2_with fail
  go_ret
  exact ⟨_, rfl, .inl rfl, Below.refl _ _⟩
 go_wp2_with fail
 go_loopw [1, 5] (fun l i wr => ∃ (k : Nat) (m : Int), k ≤ xs.length ∧ i = .int .i64 k ∧ l = .int .i64 m ∧ 0 ≤ m ∧ m + xs.length + costTo shTrigger k xs = left ∧ Below w.heap.size w wr) (fun _ i _ => xs.length - (intOf i).toNat)
 case atStart => exact ⟨0, _, Nat.zero_le _, rfl, rfl, by omega, by rw [costTo_zero]; omega, Below.refl _ _⟩
 case round =>
  obtain ⟨k, m, hk, rfl, rfl, hm0, hm, hb⟩ := hrel
  have HM := Lib.hid hm
  have hml : m ≤ 1048576 := by omega
  clear hm
  by_cases hlt : k < xs.length
  ·obtain ⟨-, b, off, rfl, hb1, hb2, A2, c2, e100, e101, e102, e103, e104, e105, e106, hX⟩ := shTrigger_at ((Sh.row 229 shTrigger).R_below HA.out hb hhi) hlt
   have HS := Lib.hid (costTo_succ shTrigger hlt)
   have HX := Lib.hid (HF.out _ (getD_in (d := shTrigger.d) hlt))
   generalize xs.getD k shTrigger.d = X at *
   obtain ⟨x0, x1, x2, x3, x4, x5, x6⟩ := X
   try dsimp only at e100 e101 e102 e103 e104 e105 e106
   have HB := Lib.hid hb; have HR := Lib.hid hX
   have hsz := hb.size
   clear hb hX
   go_wp2_with fail
   refine (szTrigger_f x0 x1 x2 x3 x4 x5 x6 A2 c2 lo hi _ _ HR.out (by omega) HX.out hm0 hml).mono ?_
   rintro e5 w5 ⟨m5, rfl, hm5, hb5⟩
   have HB5 := Lib.hid (HB.out.trans (hb5.mono hsz))
   clear hb5 e100 e101 e102 e103 e104 e105 e106
   rcases hm5 with rfl | ⟨hm50, hm5⟩
   ·go_wp2_with fail
    go_ret
    exact ⟨_, rfl, .inl rfl, HB5.out⟩
   have n5 : ¬ (m5 < 0) := by omega
   have HM5 := Lib.hid hm5
   clear hm5
   go_wp2_with fail
   go_roundw
   case rel => exact ⟨k + 1, m5, by omega, by go_num, rfl, hm50, by have := HM.out; have := HM5.out; have := HS.out; omega, HB5.out⟩
   case measure => simp [intOf]; omega
  ·obtain rfl : k = xs.length := by omega
   have HB := Lib.hid hb; clear hb
   go_wp2_with fail
   go_ret
   refine ⟨_, rfl, .inr ⟨hm0, ?_⟩, HB.out⟩
   have := HM.out
   have e1 := costTo_all shTrigger xs
   show m + (costAll shTrigger xs : Int) = left
   omega
theorem szLock_f (x0 : Int) (x1 : Int) (x2 : ByteArray) (x3 : List ByteArray) (A3 : Option Addr) (c3 : Nat) (lo hi : Nat) (left : Int) (w : World) (h : shLock.R w lo hi [.int .i64 x0, .int .i64 x1, .string x2, .slice A3 x3.length c3] (x0, x1, x2, x3)) (hhi : hi ≤ w.heap.size) (hf : shLock.fit 9223372036854775807 (x0, x1, x2, x3)) (hl0 : 0 ≤ left) (hl : left ≤ 1048576) :
  Calls Tryz.prog 176 #[.agg #[.int .i64 x0, .int .i64 x1, .string x2, .slice A3 x3.length c3], .int .i64 left] w fun e w' => ∃ m, e = .returned (.int .i64 m) ∧ Left left (shLock.cost (x0, x1, x2, x3)) m ∧ Below w.heap.size w w' := by
 rw [shLock_cost]
 rw [shLock_fit] at hf
 obtain ⟨ft0, ft1, ft2, ft3⟩ := hf
 have R0 := ((Stand.nil w).add lo hi (fun W => shLock.R W lo hi [.int .i64 x0, .int .i64 x1, .string x2, .slice A3 x3.length c3] (x0, x1, x2, x3)) (fun _ _ hk h => shLock.R_keep h hk) hhi h).box 293 #[.int .i64 x0, .int .i64 x1, .string x2, .slice A3 x3.length c3]
 have HR0 := Lib.hid R0
 clear R0 h
 go_enter Tryz.func176, Tryz.ntmps176
 by_cases g2 : left - (x2.size : Int) < 0
 ·go_wp2_with fail
  go_ret
  exact ⟨_, rfl, .inl rfl, HR0.out.1⟩
 go_wp2_with fail
 refine (szStringS_f A3 c3 x3 lo hi _ _ (shLock_f3 (HR0.out.get 1 rfl)) (HR0.out.le 1 rfl) ft3 (by omega) (by omega)).mono ?_
 rintro e3 w3 ⟨m3, rfl, hm3, hb3⟩
 have HR1 := Lib.hid (HR0.out.below hb3)
 have b3 := (HR1.out.get 0 rfl).cell
 clear hb3 HR0
 rcases hm3 with rfl | ⟨hp3, hm3⟩
 ·go_wp2_with fail
  go_ret
  exact ⟨_, rfl, .inl rfl, HR1.out.1⟩
 have n3 : ¬ (m3 < 0) := by omega
 have u3 : m3 ≤ 1048576 := by omega
 have HM3 := Lib.hid hm3; clear hm3
 go_wp2_with fail
 go_ret
 refine ⟨_, rfl, .inr ⟨by omega, ?_⟩, HR1.out.1⟩
 have := HM3.out
 omega
theorem szLockS_f (A : Option Addr) (c : Nat) (xs : List TyLock) (lo hi : Nat) (left : Int) (w : World) (h : (Sh.row 231 shLock).R w lo hi [.slice A xs.length c] xs) (hhi : hi ≤ w.heap.size) (hf : (Sh.row 231 shLock).fit 9223372036854775807 xs) (hl0 : 0 ≤ left) (hl : left ≤ 1048576) :
  Calls Tryz.prog 104 #[.slice A xs.length c, .int .i64 left] w fun e w' => ∃ m, e = .returned (.int .i64 m) ∧ Left left ((Sh.row 231 shLock).cost xs) m ∧ Below w.heap.size w w' := by
 have hn := hf.1
 have HA := Lib.hid h; have HF := Lib.hid hf.2
 clear h hf
 go_enter Tryz.func104, Tryz.ntmps104
 by_cases g0 : left - (xs.length : Int) < 0
 ·go_wp2_with fail
  go_ret
  exact ⟨_, rfl, .inl rfl, Below.refl _ _⟩
 go_wp2_with fail
 go_loopw [1, 5] (fun l i wr => ∃ (k : Nat) (m : Int), k ≤ xs.length ∧ i = .int .i64 k ∧ l = .int .i64 m ∧ 0 ≤ m ∧ m + xs.length + costTo shLock k xs = left ∧ Below w.heap.size w wr) (fun _ i _ => xs.length - (intOf i).toNat)
 case atStart => exact ⟨0, _, Nat.zero_le _, rfl, rfl, by omega, by rw [costTo_zero]; omega, Below.refl _ _⟩
 case round =>
  obtain ⟨k, m, hk, rfl, rfl, hm0, hm, hb⟩ := hrel
  have HM := Lib.hid hm
  have hml : m ≤ 1048576 := by omega
  clear hm
  by_cases hlt : k < xs.length
  ·obtain ⟨-, b, off, rfl, hb1, hb2, A3, c3, e100, e101, e102, e103, hX⟩ := shLock_at ((Sh.row 231 shLock).R_below HA.out hb hhi) hlt
   have HS := Lib.hid (costTo_succ shLock hlt)
   have HX := Lib.hid (HF.out _ (getD_in (d := shLock.d) hlt))
   generalize xs.getD k shLock.d = X at *
   obtain ⟨x0, x1, x2, x3⟩ := X
   try dsimp only at e100 e101 e102 e103
   have HB := Lib.hid hb; have HR := Lib.hid hX
   have hsz := hb.size
   clear hb hX
   go_wp2_with fail
   refine (szLock_f x0 x1 x2 x3 A3 c3 lo hi _ _ HR.out (by omega) HX.out hm0 hml).mono ?_
   rintro e5 w5 ⟨m5, rfl, hm5, hb5⟩
   have HB5 := Lib.hid (HB.out.trans (hb5.mono hsz))
   clear hb5 e100 e101 e102 e103
   rcases hm5 with rfl | ⟨hm50, hm5⟩
   ·go_wp2_with fail
    go_ret
    exact ⟨_, rfl, .inl rfl, HB5.out⟩
   have n5 : ¬ (m5 < 0) := by omega
   have HM5 := Lib.hid hm5
   clear hm5
   go_wp2_with fail
   go_roundw
   case rel => exact ⟨k + 1, m5, by omega, by go_num, rfl, hm50, by have := HM.out; have := HM5.out; have := HS.out; omega, HB5.out⟩
   case measure => simp [intOf]; omega
  ·obtain rfl : k = xs.length := by omega
   have HB := Lib.hid hb; clear hb
   go_wp2_with fail
   go_ret
   refine ⟨_, rfl, .inr ⟨hm0, ?_⟩, HB.out⟩
   have := HM.out
   have e1 := costTo_all shLock xs
   show m + (costAll shLock xs : Int) = left
   omega
theorem szAsk_f (x0 : Int) (x1 : Int) (x2 : ByteArray) (x3 : List ByteArray) (A3 : Option Addr) (c3 : Nat) (lo hi : Nat) (left : Int) (w : World) (h : shAsk.R w lo hi [.int .i64 x0, .int .i64 x1, .string x2, .slice A3 x3.length c3] (x0, x1, x2, x3)) (hhi : hi ≤ w.heap.size) (hf : shAsk.fit 9223372036854775807 (x0, x1, x2, x3)) (hl0 : 0 ≤ left) (hl : left ≤ 1048576) :
  Calls Tryz.prog 177 #[.agg #[.int .i64 x0, .int .i64 x1, .string x2, .slice A3 x3.length c3], .int .i64 left] w fun e w' => ∃ m, e = .returned (.int .i64 m) ∧ Left left (shAsk.cost (x0, x1, x2, x3)) m ∧ Below w.heap.size w w' := by
 rw [shAsk_cost]
 rw [shAsk_fit] at hf
 obtain ⟨ft0, ft1, ft2, ft3⟩ := hf
 have R0 := ((Stand.nil w).add lo hi (fun W => shAsk.R W lo hi [.int .i64 x0, .int .i64 x1, .string x2, .slice A3 x3.length c3] (x0, x1, x2, x3)) (fun _ _ hk h => shAsk.R_keep h hk) hhi h).box 295 #[.int .i64 x0, .int .i64 x1, .string x2, .slice A3 x3.length c3]
 have HR0 := Lib.hid R0
 clear R0 h
 go_enter Tryz.func177, Tryz.ntmps177
 by_cases g2 : left - (x2.size : Int) < 0
 ·go_wp2_with fail
  go_ret
  exact ⟨_, rfl, .inl rfl, HR0.out.1⟩
 go_wp2_with fail
 refine (szStringS_f A3 c3 x3 lo hi _ _ (shAsk_f3 (HR0.out.get 1 rfl)) (HR0.out.le 1 rfl) ft3 (by omega) (by omega)).mono ?_
 rintro e3 w3 ⟨m3, rfl, hm3, hb3⟩
 have HR1 := Lib.hid (HR0.out.below hb3)
 have b3 := (HR1.out.get 0 rfl).cell
 clear hb3 HR0
 rcases hm3 with rfl | ⟨hp3, hm3⟩
 ·go_wp2_with fail
  go_ret
  exact ⟨_, rfl, .inl rfl, HR1.out.1⟩
 have n3 : ¬ (m3 < 0) := by omega
 have u3 : m3 ≤ 1048576 := by omega
 have HM3 := Lib.hid hm3; clear hm3
 go_wp2_with fail
 go_ret
 refine ⟨_, rfl, .inr ⟨by omega, ?_⟩, HR1.out.1⟩
 have := HM3.out
 omega
theorem szAskS_f (A : Option Addr) (c : Nat) (xs : List TyAsk) (lo hi : Nat) (left : Int) (w : World) (h : (Sh.row 233 shAsk).R w lo hi [.slice A xs.length c] xs) (hhi : hi ≤ w.heap.size) (hf : (Sh.row 233 shAsk).fit 9223372036854775807 xs) (hl0 : 0 ≤ left) (hl : left ≤ 1048576) :
  Calls Tryz.prog 105 #[.slice A xs.length c, .int .i64 left] w fun e w' => ∃ m, e = .returned (.int .i64 m) ∧ Left left ((Sh.row 233 shAsk).cost xs) m ∧ Below w.heap.size w w' := by
 have hn := hf.1
 have HA := Lib.hid h; have HF := Lib.hid hf.2
 clear h hf
 go_enter Tryz.func105, Tryz.ntmps105
 by_cases g0 : left - (xs.length : Int) < 0
 ·go_wp2_with fail
  go_ret
  exact ⟨_, rfl, .inl rfl, Below.refl _ _⟩
 go_wp2_with fail
 go_loopw [1, 5] (fun l i wr => ∃ (k : Nat) (m : Int), k ≤ xs.length ∧ i = .int .i64 k ∧ l = .int .i64 m ∧ 0 ≤ m ∧ m + xs.length + costTo shAsk k xs = left ∧ Below w.heap.size w wr) (fun _ i _ => xs.length - (intOf i).toNat)
 case atStart => exact ⟨0, _, Nat.zero_le _, rfl, rfl, by omega, by rw [costTo_zero]; omega, Below.refl _ _⟩
 case round =>
  obtain ⟨k, m, hk, rfl, rfl, hm0, hm, hb⟩ := hrel
  have HM := Lib.hid hm
  have hml : m ≤ 1048576 := by omega
  clear hm
  by_cases hlt : k < xs.length
  ·obtain ⟨-, b, off, rfl, hb1, hb2, A3, c3, e100, e101, e102, e103, hX⟩ := shAsk_at ((Sh.row 233 shAsk).R_below HA.out hb hhi) hlt
   have HS := Lib.hid (costTo_succ shAsk hlt)
   have HX := Lib.hid (HF.out _ (getD_in (d := shAsk.d) hlt))
   generalize xs.getD k shAsk.d = X at *
   obtain ⟨x0, x1, x2, x3⟩ := X
   try dsimp only at e100 e101 e102 e103
   have HB := Lib.hid hb; have HR := Lib.hid hX
   have hsz := hb.size
   clear hb hX
   go_wp2_with fail
   refine (szAsk_f x0 x1 x2 x3 A3 c3 lo hi _ _ HR.out (by omega) HX.out hm0 hml).mono ?_
   rintro e5 w5 ⟨m5, rfl, hm5, hb5⟩
   have HB5 := Lib.hid (HB.out.trans (hb5.mono hsz))
   clear hb5 e100 e101 e102 e103
   rcases hm5 with rfl | ⟨hm50, hm5⟩
   ·go_wp2_with fail
    go_ret
    exact ⟨_, rfl, .inl rfl, HB5.out⟩
   have n5 : ¬ (m5 < 0) := by omega
   have HM5 := Lib.hid hm5
   clear hm5
   go_wp2_with fail
   go_roundw
   case rel => exact ⟨k + 1, m5, by omega, by go_num, rfl, hm50, by have := HM.out; have := HM5.out; have := HS.out; omega, HB5.out⟩
   case measure => simp [intOf]; omega
  ·obtain rfl : k = xs.length := by omega
   have HB := Lib.hid hb; clear hb
   go_wp2_with fail
   go_ret
   refine ⟨_, rfl, .inr ⟨hm0, ?_⟩, HB.out⟩
   have := HM.out
   have e1 := costTo_all shAsk xs
   show m + (costAll shAsk xs : Int) = left
   omega
theorem szLocks_f (x0 : List TyLock) (x1 : List TyAsk) (A0 : Option Addr) (c0 : Nat) (A1 : Option Addr) (c1 : Nat) (lo hi : Nat) (left : Int) (w : World) (h : shLocks.R w lo hi [.slice A0 x0.length c0, .slice A1 x1.length c1] (x0, x1)) (hhi : hi ≤ w.heap.size) (hf : shLocks.fit 9223372036854775807 (x0, x1)) (hl0 : 0 ≤ left) (hl : left ≤ 1048576) :
  Calls Tryz.prog 47 #[.agg #[.slice A0 x0.length c0, .slice A1 x1.length c1], .int .i64 left] w fun e w' => ∃ m, e = .returned (.int .i64 m) ∧ Left left (shLocks.cost (x0, x1)) m ∧ Below w.heap.size w w' := by
 rw [shLocks_cost]
 rw [shLocks_fit] at hf
 obtain ⟨ft0, ft1⟩ := hf
 have R0 := ((Stand.nil w).add lo hi (fun W => shLocks.R W lo hi [.slice A0 x0.length c0, .slice A1 x1.length c1] (x0, x1)) (fun _ _ hk h => shLocks.R_keep h hk) hhi h).box 33 #[.slice A0 x0.length c0, .slice A1 x1.length c1]
 have HR0 := Lib.hid R0
 clear R0 h
 go_enter Tryz.func47, Tryz.ntmps47
 go_wp2_with fail
 refine (szLockS_f A0 c0 x0 lo hi _ _ (shLocks_f0 (HR0.out.get 1 rfl)) (HR0.out.le 1 rfl) ft0 (by omega) (by omega)).mono ?_
 rintro e0 w0 ⟨m0, rfl, hm0, hb0⟩
 have HR1 := Lib.hid (HR0.out.below hb0)
 have b0 := (HR1.out.get 0 rfl).cell
 clear hb0 HR0
 rcases hm0 with rfl | ⟨hp0, hm0⟩
 ·go_wp2_with fail
  go_ret
  exact ⟨_, rfl, .inl rfl, HR1.out.1⟩
 have n0 : ¬ (m0 < 0) := by omega
 have u0 : m0 ≤ 1048576 := by omega
 have HM0 := Lib.hid hm0; clear hm0
 go_wp2_with fail
 refine (szAskS_f A1 c1 x1 lo hi _ _ (shLocks_f1 (HR1.out.get 1 rfl)) (HR1.out.le 1 rfl) ft1 (by omega) (by omega)).mono ?_
 rintro e1 w1 ⟨m1, rfl, hm1, hb1⟩
 have HR2 := Lib.hid (HR1.out.below hb1)
 have b1 := (HR2.out.get 0 rfl).cell
 clear hb1 HR1
 rcases hm1 with rfl | ⟨hp1, hm1⟩
 ·go_wp2_with fail
  go_ret
  exact ⟨_, rfl, .inl rfl, HR2.out.1⟩
 have n1 : ¬ (m1 < 0) := by omega
 have u1 : m1 ≤ 1048576 := by omega
 have HM1 := Lib.hid hm1; clear hm1
 go_wp2_with fail
 go_ret
 refine ⟨_, rfl, .inr ⟨by omega, ?_⟩, HR2.out.1⟩
 have := HM0.out
 have := HM1.out
 omega
theorem szEvent_f (x0 : Int) (x1 : ByteArray) (x2 : List ByteArray) (x3 : ByteArray) (x4 : Int) (A2 : Option Addr) (c2 : Nat) (lo hi : Nat) (left : Int) (w : World) (h : shEvent.R w lo hi [.int .i64 x0, .string x1, .slice A2 x2.length c2, .string x3, .int .i64 x4] (x0, x1, x2, x3, x4)) (hhi : hi ≤ w.heap.size) (hf : shEvent.fit 9223372036854775807 (x0, x1, x2, x3, x4)) (hl0 : 0 ≤ left) (hl : left ≤ 1048576) :
  Calls Tryz.prog 182 #[.agg #[.int .i64 x0, .string x1, .slice A2 x2.length c2, .string x3, .int .i64 x4], .int .i64 left] w fun e w' => ∃ m, e = .returned (.int .i64 m) ∧ Left left (shEvent.cost (x0, x1, x2, x3, x4)) m ∧ Below w.heap.size w w' := by
 rw [shEvent_cost]
 rw [shEvent_fit] at hf
 obtain ⟨ft0, ft1, ft2, ft3, ft4⟩ := hf
 have R0 := ((Stand.nil w).add lo hi (fun W => shEvent.R W lo hi [.int .i64 x0, .string x1, .slice A2 x2.length c2, .string x3, .int .i64 x4] (x0, x1, x2, x3, x4)) (fun _ _ hk h => shEvent.R_keep h hk) hhi h).box 304 #[.int .i64 x0, .string x1, .slice A2 x2.length c2, .string x3, .int .i64 x4]
 have HR0 := Lib.hid R0
 clear R0 h
 go_enter Tryz.func182, Tryz.ntmps182
 by_cases g1 : left - (x1.size : Int) < 0
 ·go_wp2_with fail
  go_ret
  exact ⟨_, rfl, .inl rfl, HR0.out.1⟩
 go_wp2_with fail
 refine (szStringS_f A2 c2 x2 lo hi _ _ (shEvent_f2 (HR0.out.get 1 rfl)) (HR0.out.le 1 rfl) ft2 (by omega) (by omega)).mono ?_
 rintro e2 w2 ⟨m2, rfl, hm2, hb2⟩
 have HR1 := Lib.hid (HR0.out.below hb2)
 have b2 := (HR1.out.get 0 rfl).cell
 clear hb2 HR0
 rcases hm2 with rfl | ⟨hp2, hm2⟩
 ·go_wp2_with fail
  go_ret
  exact ⟨_, rfl, .inl rfl, HR1.out.1⟩
 have n2 : ¬ (m2 < 0) := by omega
 have u2 : m2 ≤ 1048576 := by omega
 have HM2 := Lib.hid hm2; clear hm2
 by_cases g3 : m2 - (x3.size : Int) < 0
 ·go_wp2_with fail
  go_ret
  exact ⟨_, rfl, .inl rfl, HR1.out.1⟩
 go_wp2_with fail
 go_ret
 refine ⟨_, rfl, .inr ⟨by omega, ?_⟩, HR1.out.1⟩
 have := HM2.out
 omega
theorem szEventS_f (A : Option Addr) (c : Nat) (xs : List TyEvent) (lo hi : Nat) (left : Int) (w : World) (h : (Sh.row 247 shEvent).R w lo hi [.slice A xs.length c] xs) (hhi : hi ≤ w.heap.size) (hf : (Sh.row 247 shEvent).fit 9223372036854775807 xs) (hl0 : 0 ≤ left) (hl : left ≤ 1048576) :
  Calls Tryz.prog 113 #[.slice A xs.length c, .int .i64 left] w fun e w' => ∃ m, e = .returned (.int .i64 m) ∧ Left left ((Sh.row 247 shEvent).cost xs) m ∧ Below w.heap.size w w' := by
 have hn := hf.1
 have HA := Lib.hid h; have HF := Lib.hid hf.2
 clear h hf
 go_enter Tryz.func113, Tryz.ntmps113
 by_cases g0 : left - (xs.length : Int) < 0
 ·go_wp2_with fail
  go_ret
  exact ⟨_, rfl, .inl rfl, Below.refl _ _⟩
 go_wp2_with fail
 go_loopw [1, 5] (fun l i wr => ∃ (k : Nat) (m : Int), k ≤ xs.length ∧ i = .int .i64 k ∧ l = .int .i64 m ∧ 0 ≤ m ∧ m + xs.length + costTo shEvent k xs = left ∧ Below w.heap.size w wr) (fun _ i _ => xs.length - (intOf i).toNat)
 case atStart => exact ⟨0, _, Nat.zero_le _, rfl, rfl, by omega, by rw [costTo_zero]; omega, Below.refl _ _⟩
 case round =>
  obtain ⟨k, m, hk, rfl, rfl, hm0, hm, hb⟩ := hrel
  have HM := Lib.hid hm
  have hml : m ≤ 1048576 := by omega
  clear hm
  by_cases hlt : k < xs.length
  ·obtain ⟨-, b, off, rfl, hb1, hb2, A2, c2, e100, e101, e102, e103, e104, hX⟩ := shEvent_at ((Sh.row 247 shEvent).R_below HA.out hb hhi) hlt
   have HS := Lib.hid (costTo_succ shEvent hlt)
   have HX := Lib.hid (HF.out _ (getD_in (d := shEvent.d) hlt))
   generalize xs.getD k shEvent.d = X at *
   obtain ⟨x0, x1, x2, x3, x4⟩ := X
   try dsimp only at e100 e101 e102 e103 e104
   have HB := Lib.hid hb; have HR := Lib.hid hX
   have hsz := hb.size
   clear hb hX
   go_wp2_with fail
   refine (szEvent_f x0 x1 x2 x3 x4 A2 c2 lo hi _ _ HR.out (by omega) HX.out hm0 hml).mono ?_
   rintro e5 w5 ⟨m5, rfl, hm5, hb5⟩
   have HB5 := Lib.hid (HB.out.trans (hb5.mono hsz))
   clear hb5 e100 e101 e102 e103 e104
   rcases hm5 with rfl | ⟨hm50, hm5⟩
   ·go_wp2_with fail
    go_ret
    exact ⟨_, rfl, .inl rfl, HB5.out⟩
   have n5 : ¬ (m5 < 0) := by omega
   have HM5 := Lib.hid hm5
   clear hm5
   go_wp2_with fail
   go_roundw
   case rel => exact ⟨k + 1, m5, by omega, by go_num, rfl, hm50, by have := HM.out; have := HM5.out; have := HS.out; omega, HB5.out⟩
   case measure => simp [intOf]; omega
  ·obtain rfl : k = xs.length := by omega
   have HB := Lib.hid hb; clear hb
   go_wp2_with fail
   go_ret
   refine ⟨_, rfl, .inr ⟨hm0, ?_⟩, HB.out⟩
   have := HM.out
   have e1 := costTo_all shEvent xs
   show m + (costAll shEvent xs : Int) = left
   omega
theorem szTrans_f (x0 : Int) (x1 : Int) (x2 : List TyEvent) (A2 : Option Addr) (c2 : Nat) (lo hi : Nat) (left : Int) (w : World) (h : shTrans.R w lo hi [.int .i64 x0, .int .i64 x1, .slice A2 x2.length c2] (x0, x1, x2)) (hhi : hi ≤ w.heap.size) (hf : shTrans.fit 9223372036854775807 (x0, x1, x2)) (hl0 : 0 ≤ left) (hl : left ≤ 1048576) :
  Calls Tryz.prog 179 #[.agg #[.int .i64 x0, .int .i64 x1, .slice A2 x2.length c2], .int .i64 left] w fun e w' => ∃ m, e = .returned (.int .i64 m) ∧ Left left (shTrans.cost (x0, x1, x2)) m ∧ Below w.heap.size w w' := by
 rw [shTrans_cost]
 rw [shTrans_fit] at hf
 obtain ⟨ft0, ft1, ft2⟩ := hf
 have R0 := ((Stand.nil w).add lo hi (fun W => shTrans.R W lo hi [.int .i64 x0, .int .i64 x1, .slice A2 x2.length c2] (x0, x1, x2)) (fun _ _ hk h => shTrans.R_keep h hk) hhi h).box 214 #[.int .i64 x0, .int .i64 x1, .slice A2 x2.length c2]
 have HR0 := Lib.hid R0
 clear R0 h
 go_enter Tryz.func179, Tryz.ntmps179
 go_wp2_with fail
 refine (szEventS_f A2 c2 x2 lo hi _ _ (shTrans_f2 (HR0.out.get 1 rfl)) (HR0.out.le 1 rfl) ft2 (by omega) (by omega)).mono ?_
 rintro e2 w2 ⟨m2, rfl, hm2, hb2⟩
 have HR1 := Lib.hid (HR0.out.below hb2)
 have b2 := (HR1.out.get 0 rfl).cell
 clear hb2 HR0
 rcases hm2 with rfl | ⟨hp2, hm2⟩
 ·go_wp2_with fail
  go_ret
  exact ⟨_, rfl, .inl rfl, HR1.out.1⟩
 have n2 : ¬ (m2 < 0) := by omega
 have u2 : m2 ≤ 1048576 := by omega
 have HM2 := Lib.hid hm2; clear hm2
 go_wp2_with fail
 go_ret
 refine ⟨_, rfl, .inr ⟨by omega, ?_⟩, HR1.out.1⟩
 have := HM2.out
 omega
theorem szBatch_f (x0 : Int) (x1 : List TyEvent) (A1 : Option Addr) (c1 : Nat) (lo hi : Nat) (left : Int) (w : World) (h : shBatch.R w lo hi [.int .i64 x0, .slice A1 x1.length c1] (x0, x1)) (hhi : hi ≤ w.heap.size) (hf : shBatch.fit 9223372036854775807 (x0, x1)) (hl0 : 0 ≤ left) (hl : left ≤ 1048576) :
  Calls Tryz.prog 53 #[.agg #[.int .i64 x0, .slice A1 x1.length c1], .int .i64 left] w fun e w' => ∃ m, e = .returned (.int .i64 m) ∧ Left left (shBatch.cost (x0, x1)) m ∧ Below w.heap.size w w' := by
 rw [shBatch_cost]
 rw [shBatch_fit] at hf
 obtain ⟨ft0, ft1⟩ := hf
 have R0 := ((Stand.nil w).add lo hi (fun W => shBatch.R W lo hi [.int .i64 x0, .slice A1 x1.length c1] (x0, x1)) (fun _ _ hk h => shBatch.R_keep h hk) hhi h).box 137 #[.int .i64 x0, .slice A1 x1.length c1]
 have HR0 := Lib.hid R0
 clear R0 h
 go_enter Tryz.func53, Tryz.ntmps53
 go_wp2_with fail
 refine (szEventS_f A1 c1 x1 lo hi _ _ (shBatch_f1 (HR0.out.get 1 rfl)) (HR0.out.le 1 rfl) ft1 (by omega) (by omega)).mono ?_
 rintro e1 w1 ⟨m1, rfl, hm1, hb1⟩
 have HR1 := Lib.hid (HR0.out.below hb1)
 have b1 := (HR1.out.get 0 rfl).cell
 clear hb1 HR0
 rcases hm1 with rfl | ⟨hp1, hm1⟩
 ·go_wp2_with fail
  go_ret
  exact ⟨_, rfl, .inl rfl, HR1.out.1⟩
 have n1 : ¬ (m1 < 0) := by omega
 have u1 : m1 ≤ 1048576 := by omega
 have HM1 := Lib.hid hm1; clear hm1
 go_wp2_with fail
 go_ret
 refine ⟨_, rfl, .inr ⟨by omega, ?_⟩, HR1.out.1⟩
 have := HM1.out
 omega
theorem szBatchS_f (A : Option Addr) (c : Nat) (xs : List TyBatch) (lo hi : Nat) (left : Int) (w : World) (h : (Sh.row 167 shBatch).R w lo hi [.slice A xs.length c] xs) (hhi : hi ≤ w.heap.size) (hf : (Sh.row 167 shBatch).fit 9223372036854775807 xs) (hl0 : 0 ≤ left) (hl : left ≤ 1048576) :
  Calls Tryz.prog 18 #[.slice A xs.length c, .int .i64 left] w fun e w' => ∃ m, e = .returned (.int .i64 m) ∧ Left left ((Sh.row 167 shBatch).cost xs) m ∧ Below w.heap.size w w' := by
 have hn := hf.1
 have HA := Lib.hid h; have HF := Lib.hid hf.2
 clear h hf
 go_enter Tryz.func18, Tryz.ntmps18
 by_cases g0 : left - (xs.length : Int) < 0
 ·go_wp2_with fail
  go_ret
  exact ⟨_, rfl, .inl rfl, Below.refl _ _⟩
 go_wp2_with fail
 go_loopw [1, 5] (fun l i wr => ∃ (k : Nat) (m : Int), k ≤ xs.length ∧ i = .int .i64 k ∧ l = .int .i64 m ∧ 0 ≤ m ∧ m + xs.length + costTo shBatch k xs = left ∧ Below w.heap.size w wr) (fun _ i _ => xs.length - (intOf i).toNat)
 case atStart => exact ⟨0, _, Nat.zero_le _, rfl, rfl, by omega, by rw [costTo_zero]; omega, Below.refl _ _⟩
 case round =>
  obtain ⟨k, m, hk, rfl, rfl, hm0, hm, hb⟩ := hrel
  have HM := Lib.hid hm
  have hml : m ≤ 1048576 := by omega
  clear hm
  by_cases hlt : k < xs.length
  ·obtain ⟨-, b, off, rfl, hb1, hb2, A1, c1, e100, e101, hX⟩ := shBatch_at ((Sh.row 167 shBatch).R_below HA.out hb hhi) hlt
   have HS := Lib.hid (costTo_succ shBatch hlt)
   have HX := Lib.hid (HF.out _ (getD_in (d := shBatch.d) hlt))
   generalize xs.getD k shBatch.d = X at *
   obtain ⟨x0, x1⟩ := X
   try dsimp only at e100 e101
   have HB := Lib.hid hb; have HR := Lib.hid hX
   have hsz := hb.size
   clear hb hX
   go_wp2_with fail
   refine (szBatch_f x0 x1 A1 c1 lo hi _ _ HR.out (by omega) HX.out hm0 hml).mono ?_
   rintro e5 w5 ⟨m5, rfl, hm5, hb5⟩
   have HB5 := Lib.hid (HB.out.trans (hb5.mono hsz))
   clear hb5 e100 e101
   rcases hm5 with rfl | ⟨hm50, hm5⟩
   ·go_wp2_with fail
    go_ret
    exact ⟨_, rfl, .inl rfl, HB5.out⟩
   have n5 : ¬ (m5 < 0) := by omega
   have HM5 := Lib.hid hm5
   clear hm5
   go_wp2_with fail
   go_roundw
   case rel => exact ⟨k + 1, m5, by omega, by go_num, rfl, hm50, by have := HM.out; have := HM5.out; have := HS.out; omega, HB5.out⟩
   case measure => simp [intOf]; omega
  ·obtain rfl : k = xs.length := by omega
   have HB := Lib.hid hb; clear hb
   go_wp2_with fail
   go_ret
   refine ⟨_, rfl, .inr ⟨hm0, ?_⟩, HB.out⟩
   have := HM.out
   have e1 := costTo_all shBatch xs
   show m + (costAll shBatch xs : Int) = left
   omega
theorem szPut_f (x0 : Int) (x1 : ByteArray) (lo hi : Nat) (left : Int) (w : World) (h : shPut.R w lo hi [.int .i64 x0, .string x1] (x0, x1)) (hhi : hi ≤ w.heap.size) (hf : shPut.fit 9223372036854775807 (x0, x1)) (hl0 : 0 ≤ left) (hl : left ≤ 1048576) :
  Calls Tryz.prog 222 #[.agg #[.int .i64 x0, .string x1], .int .i64 left] w fun e w' => ∃ m, e = .returned (.int .i64 m) ∧ Left left (shPut.cost (x0, x1)) m ∧ Below w.heap.size w w' := by
 rw [shPut_cost]
 rw [shPut_fit] at hf
 obtain ⟨ft0, ft1⟩ := hf
 have R0 := ((Stand.nil w).add lo hi (fun W => shPut.R W lo hi [.int .i64 x0, .string x1] (x0, x1)) (fun _ _ hk h => shPut.R_keep h hk) hhi h).box 343 #[.int .i64 x0, .string x1]
 have HR0 := Lib.hid R0
 clear R0 h
 go_enter Tryz.func222, Tryz.ntmps222
 by_cases g1 : left - (x1.size : Int) < 0
 ·go_wp2_with fail
  go_ret
  exact ⟨_, rfl, .inl rfl, HR0.out.1⟩
 go_wp2_with fail
 go_ret
 refine ⟨_, rfl, .inr ⟨by omega, ?_⟩, HR0.out.1⟩
 omega
theorem szPutS_f (A : Option Addr) (c : Nat) (xs : List TyPut) (lo hi : Nat) (left : Int) (w : World) (h : (Sh.row 306 shPut).R w lo hi [.slice A xs.length c] xs) (hhi : hi ≤ w.heap.size) (hf : (Sh.row 306 shPut).fit 9223372036854775807 xs) (hl0 : 0 ≤ left) (hl : left ≤ 1048576) :
  Calls Tryz.prog 181 #[.slice A xs.length c, .int .i64 left] w fun e w' => ∃ m, e = .returned (.int .i64 m) ∧ Left left ((Sh.row 306 shPut).cost xs) m ∧ Below w.heap.size w w' := by
 have hn := hf.1
 have HA := Lib.hid h; have HF := Lib.hid hf.2
 clear h hf
 go_enter Tryz.func181, Tryz.ntmps181
 by_cases g0 : left - (xs.length : Int) < 0
 ·go_wp2_with fail
  go_ret
  exact ⟨_, rfl, .inl rfl, Below.refl _ _⟩
 go_wp2_with fail
 go_loopw [1, 5] (fun l i wr => ∃ (k : Nat) (m : Int), k ≤ xs.length ∧ i = .int .i64 k ∧ l = .int .i64 m ∧ 0 ≤ m ∧ m + xs.length + costTo shPut k xs = left ∧ Below w.heap.size w wr) (fun _ i _ => xs.length - (intOf i).toNat)
 case atStart => exact ⟨0, _, Nat.zero_le _, rfl, rfl, by omega, by rw [costTo_zero]; omega, Below.refl _ _⟩
 case round =>
  obtain ⟨k, m, hk, rfl, rfl, hm0, hm, hb⟩ := hrel
  have HM := Lib.hid hm
  have hml : m ≤ 1048576 := by omega
  clear hm
  by_cases hlt : k < xs.length
  ·obtain ⟨-, b, off, rfl, hb1, hb2, e100, e101, hX⟩ := shPut_at ((Sh.row 306 shPut).R_below HA.out hb hhi) hlt
   have HS := Lib.hid (costTo_succ shPut hlt)
   have HX := Lib.hid (HF.out _ (getD_in (d := shPut.d) hlt))
   generalize xs.getD k shPut.d = X at *
   obtain ⟨x0, x1⟩ := X
   try dsimp only at e100 e101
   have HB := Lib.hid hb; have HR := Lib.hid hX
   have hsz := hb.size
   clear hb hX
   go_wp2_with fail
   refine (szPut_f x0 x1 lo hi _ _ HR.out (by omega) HX.out hm0 hml).mono ?_
   rintro e5 w5 ⟨m5, rfl, hm5, hb5⟩
   have HB5 := Lib.hid (HB.out.trans (hb5.mono hsz))
   clear hb5 e100 e101
   rcases hm5 with rfl | ⟨hm50, hm5⟩
   ·go_wp2_with fail
    go_ret
    exact ⟨_, rfl, .inl rfl, HB5.out⟩
   have n5 : ¬ (m5 < 0) := by omega
   have HM5 := Lib.hid hm5
   clear hm5
   go_wp2_with fail
   go_roundw
   case rel => exact ⟨k + 1, m5, by omega, by go_num, rfl, hm50, by have := HM.out; have := HM5.out; have := HS.out; omega, HB5.out⟩
   case measure => simp [intOf]; omega
  ·obtain rfl : k = xs.length := by omega
   have HB := Lib.hid hb; clear hb
   go_wp2_with fail
   go_ret
   refine ⟨_, rfl, .inr ⟨hm0, ?_⟩, HB.out⟩
   have := HM.out
   have e1 := costTo_all shPut xs
   show m + (costAll shPut xs : Int) = left
   omega
theorem szDisk_f (x0 : Int) (x1 : List ByteArray) (x2 : List TyPut) (A1 : Option Addr) (c1 : Nat) (A2 : Option Addr) (c2 : Nat) (lo hi : Nat) (left : Int) (w : World) (h : shDisk.R w lo hi [.int .i64 x0, .slice A1 x1.length c1, .slice A2 x2.length c2] (x0, x1, x2)) (hhi : hi ≤ w.heap.size) (hf : shDisk.fit 9223372036854775807 (x0, x1, x2)) (hl0 : 0 ≤ left) (hl : left ≤ 1048576) :
  Calls Tryz.prog 108 #[.agg #[.int .i64 x0, .slice A1 x1.length c1, .slice A2 x2.length c2], .int .i64 left] w fun e w' => ∃ m, e = .returned (.int .i64 m) ∧ Left left (shDisk.cost (x0, x1, x2)) m ∧ Below w.heap.size w w' := by
 rw [shDisk_cost]
 rw [shDisk_fit] at hf
 obtain ⟨ft0, ft1, ft2⟩ := hf
 have R0 := ((Stand.nil w).add lo hi (fun W => shDisk.R W lo hi [.int .i64 x0, .slice A1 x1.length c1, .slice A2 x2.length c2] (x0, x1, x2)) (fun _ _ hk h => shDisk.R_keep h hk) hhi h).box 44 #[.int .i64 x0, .slice A1 x1.length c1, .slice A2 x2.length c2]
 have HR0 := Lib.hid R0
 clear R0 h
 go_enter Tryz.func108, Tryz.ntmps108
 go_wp2_with fail
 refine (szStringS_f A1 c1 x1 lo hi _ _ (shDisk_f1 (HR0.out.get 1 rfl)) (HR0.out.le 1 rfl) ft1 (by omega) (by omega)).mono ?_
 rintro e1 w1 ⟨m1, rfl, hm1, hb1⟩
 have HR1 := Lib.hid (HR0.out.below hb1)
 have b1 := (HR1.out.get 0 rfl).cell
 clear hb1 HR0
 rcases hm1 with rfl | ⟨hp1, hm1⟩
 ·go_wp2_with fail
  go_ret
  exact ⟨_, rfl, .inl rfl, HR1.out.1⟩
 have n1 : ¬ (m1 < 0) := by omega
 have u1 : m1 ≤ 1048576 := by omega
 have HM1 := Lib.hid hm1; clear hm1
 go_wp2_with fail
 refine (szPutS_f A2 c2 x2 lo hi _ _ (shDisk_f2 (HR1.out.get 1 rfl)) (HR1.out.le 1 rfl) ft2 (by omega) (by omega)).mono ?_
 rintro e2 w2 ⟨m2, rfl, hm2, hb2⟩
 have HR2 := Lib.hid (HR1.out.below hb2)
 have b2 := (HR2.out.get 0 rfl).cell
 clear hb2 HR1
 rcases hm2 with rfl | ⟨hp2, hm2⟩
 ·go_wp2_with fail
  go_ret
  exact ⟨_, rfl, .inl rfl, HR2.out.1⟩
 have n2 : ¬ (m2 < 0) := by omega
 have u2 : m2 ≤ 1048576 := by omega
 have HM2 := Lib.hid hm2; clear hm2
 go_wp2_with fail
 go_ret
 refine ⟨_, rfl, .inr ⟨by omega, ?_⟩, HR2.out.1⟩
 have := HM1.out
 have := HM2.out
 omega
theorem szSeatS_f (A : Option Addr) (c : Nat) (xs : List TySeat) (lo hi : Nat) (left : Int) (w : World) (_ : (Sh.row 273 shSeat).R w lo hi [.slice A xs.length c] xs) (_ : hi ≤ w.heap.size) (hf : (Sh.row 273 shSeat).fit 9223372036854775807 xs) (hl0 : 0 ≤ left) (hl : left ≤ 1048576) :
  Calls Tryz.prog 110 #[.slice A xs.length c, .int .i64 left] w fun e w' => ∃ m, e = .returned (.int .i64 m) ∧ Left left ((Sh.row 273 shSeat).cost xs) m ∧ Below w.heap.size w w' := by
 have hn := hf.1
 have h0 : ∀ x : TySeat, shSeat.cost x = 0 := fun x => by rw [show x = (x.1, x.2) from rfl, shSeat_cost]
 have hc : ∀ xs : List TySeat, (xs.map shSeat.cost).sum = 0 := fun xs => by
  induction xs with
  | nil => rfl
  | cons x xs ih => rw [List.map_cons, List.sum_cons, h0, ih]
 have HC := Lib.hid (show (Sh.row 273 shSeat).cost xs = xs.length from by show xs.length + (xs.map shSeat.cost).sum = xs.length; rw [hc, Nat.add_zero])
 clear hf h0 hc
 go_enter Tryz.func110, Tryz.ntmps110
 by_cases g0 : left - (xs.length : Int) < 0
 ·go_wp2_with fail
  go_ret
  exact ⟨_, rfl, .inl rfl, Below.refl _ _⟩
 go_wp2_with fail
 go_ret
 exact ⟨_, rfl, .inr ⟨by omega, by rw [HC.out]; omega⟩, Below.refl _ _⟩
theorem szTop_f (x0 : Int) (x1 : Int) (x2 : Int) (x3 : List TySeat) (A3 : Option Addr) (c3 : Nat) (lo hi : Nat) (left : Int) (w : World) (h : shTop.R w lo hi [.int .i64 x0, .int .i64 x1, .int .i64 x2, .slice A3 x3.length c3] (x0, x1, x2, x3)) (hhi : hi ≤ w.heap.size) (hf : shTop.fit 9223372036854775807 (x0, x1, x2, x3)) (hl0 : 0 ≤ left) (hl : left ≤ 1048576) :
  Calls Tryz.prog 109 #[.agg #[.int .i64 x0, .int .i64 x1, .int .i64 x2, .slice A3 x3.length c3], .int .i64 left] w fun e w' => ∃ m, e = .returned (.int .i64 m) ∧ Left left (shTop.cost (x0, x1, x2, x3)) m ∧ Below w.heap.size w w' := by
 rw [shTop_cost]
 rw [shTop_fit] at hf
 obtain ⟨ft0, ft1, ft2, ft3⟩ := hf
 have R0 := ((Stand.nil w).add lo hi (fun W => shTop.R W lo hi [.int .i64 x0, .int .i64 x1, .int .i64 x2, .slice A3 x3.length c3] (x0, x1, x2, x3)) (fun _ _ hk h => shTop.R_keep h hk) hhi h).box 47 #[.int .i64 x0, .int .i64 x1, .int .i64 x2, .slice A3 x3.length c3]
 have HR0 := Lib.hid R0
 clear R0 h
 go_enter Tryz.func109, Tryz.ntmps109
 go_wp2_with fail
 refine (szSeatS_f A3 c3 x3 lo hi _ _ (shTop_f3 (HR0.out.get 1 rfl)) (HR0.out.le 1 rfl) ft3 (by omega) (by omega)).mono ?_
 rintro e3 w3 ⟨m3, rfl, hm3, hb3⟩
 have HR1 := Lib.hid (HR0.out.below hb3)
 have b3 := (HR1.out.get 0 rfl).cell
 clear hb3 HR0
 rcases hm3 with rfl | ⟨hp3, hm3⟩
 ·go_wp2_with fail
  go_ret
  exact ⟨_, rfl, .inl rfl, HR1.out.1⟩
 have n3 : ¬ (m3 < 0) := by omega
 have u3 : m3 ≤ 1048576 := by omega
 have HM3 := Lib.hid hm3; clear hm3
 go_wp2_with fail
 go_ret
 refine ⟨_, rfl, .inr ⟨by omega, ?_⟩, HR1.out.1⟩
 have := HM3.out
 omega
theorem szCache_f (x0 : Int) (x1 : List ByteArray) (x2 : List TyPut) (x3 : Int) (x4 : Int) (x5 : Int) (x6 : List TySeat) (x7 : Int) (x8 : Int) (x9 : Int) (x10 : List TySeat) (x11 : List TySeat) (x12 : List Int) (A1 : Option Addr) (c1 : Nat) (A2 : Option Addr) (c2 : Nat) (A6 : Option Addr) (c6 : Nat) (A10 : Option Addr) (c10 : Nat) (A11 : Option Addr) (c11 : Nat) (A12 : Option Addr) (c12 : Nat) (lo hi : Nat) (left : Int) (w : World) (h : shCache.R w lo hi [.int .i64 x0, .slice A1 x1.length c1, .slice A2 x2.length c2, .int .i64 x3, .int .i64 x4, .int .i64 x5, .slice A6 x6.length c6, .int .i64 x7, .int .i64 x8, .int .i64 x9, .slice A10 x10.length c10, .slice A11 x11.length c11, .slice A12 x12.length c12] ((x0, x1, x2), (x3, x4, x5, x6), (x7, x8, x9, x10), x11, x12)) (hhi : hi ≤ w.heap.size) (hf : shCache.fit 9223372036854775807 ((x0, x1, x2), (x3, x4, x5, x6), (x7, x8, x9, x10), x11, x12)) (hl0 : 0 ≤ left) (hl : left ≤ 1048576) :
  Calls Tryz.prog 50 #[.agg #[.int .i64 x0, .slice A1 x1.length c1, .slice A2 x2.length c2, .int .i64 x3, .int .i64 x4, .int .i64 x5, .slice A6 x6.length c6, .int .i64 x7, .int .i64 x8, .int .i64 x9, .slice A10 x10.length c10, .slice A11 x11.length c11, .slice A12 x12.length c12], .int .i64 left] w fun e w' => ∃ m, e = .returned (.int .i64 m) ∧ Left left (shCache.cost ((x0, x1, x2), (x3, x4, x5, x6), (x7, x8, x9, x10), x11, x12)) m ∧ Below w.heap.size w w' := by
 rw [shCache_cost]
 rw [shCache_fit] at hf
 obtain ⟨ft0, ft3, ft7, ft11, ft12⟩ := hf
 have R0 := ((Stand.nil w).add lo hi (fun W => shCache.R W lo hi [.int .i64 x0, .slice A1 x1.length c1, .slice A2 x2.length c2, .int .i64 x3, .int .i64 x4, .int .i64 x5, .slice A6 x6.length c6, .int .i64 x7, .int .i64 x8, .int .i64 x9, .slice A10 x10.length c10, .slice A11 x11.length c11, .slice A12 x12.length c12] ((x0, x1, x2), (x3, x4, x5, x6), (x7, x8, x9, x10), x11, x12)) (fun _ _ hk h => shCache.R_keep h hk) hhi h).box 50 #[.int .i64 x0, .slice A1 x1.length c1, .slice A2 x2.length c2, .int .i64 x3, .int .i64 x4, .int .i64 x5, .slice A6 x6.length c6, .int .i64 x7, .int .i64 x8, .int .i64 x9, .slice A10 x10.length c10, .slice A11 x11.length c11, .slice A12 x12.length c12]
 have HR0 := Lib.hid R0
 clear R0 h
 go_enter Tryz.func50, Tryz.ntmps50
 go_wp2_with fail
 refine (szDisk_f x0 x1 x2 A1 c1 A2 c2 lo hi _ _ (shCache_f0 (HR0.out.get 1 rfl)) (HR0.out.le 1 rfl) ft0 (by omega) (by omega)).mono ?_
 rintro e0 w0 ⟨m0, rfl, hm0, hb0⟩
 have HR1 := Lib.hid (HR0.out.below hb0)
 have b0 := (HR1.out.get 0 rfl).cell
 clear hb0 HR0
 rcases hm0 with rfl | ⟨hp0, hm0⟩
 ·go_wp2_with fail
  go_ret
  exact ⟨_, rfl, .inl rfl, HR1.out.1⟩
 have n0 : ¬ (m0 < 0) := by omega
 have u0 : m0 ≤ 1048576 := by omega
 have HM0 := Lib.hid hm0; clear hm0
 go_wp2_with fail
 refine (szTop_f x3 x4 x5 x6 A6 c6 lo hi _ _ (shCache_f3 (HR1.out.get 1 rfl)) (HR1.out.le 1 rfl) ft3 (by omega) (by omega)).mono ?_
 rintro e3 w3 ⟨m3, rfl, hm3, hb3⟩
 have HR2 := Lib.hid (HR1.out.below hb3)
 have b3 := (HR2.out.get 0 rfl).cell
 clear hb3 HR1
 rcases hm3 with rfl | ⟨hp3, hm3⟩
 ·go_wp2_with fail
  go_ret
  exact ⟨_, rfl, .inl rfl, HR2.out.1⟩
 have n3 : ¬ (m3 < 0) := by omega
 have u3 : m3 ≤ 1048576 := by omega
 have HM3 := Lib.hid hm3; clear hm3
 go_wp2_with fail
 refine (szTop_f x7 x8 x9 x10 A10 c10 lo hi _ _ (shCache_f7 (HR2.out.get 1 rfl)) (HR2.out.le 1 rfl) ft7 (by omega) (by omega)).mono ?_
 rintro e7 w7 ⟨m7, rfl, hm7, hb7⟩
 have HR3 := Lib.hid (HR2.out.below hb7)
 have b7 := (HR3.out.get 0 rfl).cell
 clear hb7 HR2
 rcases hm7 with rfl | ⟨hp7, hm7⟩
 ·go_wp2_with fail
  go_ret
  exact ⟨_, rfl, .inl rfl, HR3.out.1⟩
 have n7 : ¬ (m7 < 0) := by omega
 have u7 : m7 ≤ 1048576 := by omega
 have HM7 := Lib.hid hm7; clear hm7
 go_wp2_with fail
 refine (szSeatS_f A11 c11 x11 lo hi _ _ (shCache_f11 (HR3.out.get 1 rfl)) (HR3.out.le 1 rfl) ft11 (by omega) (by omega)).mono ?_
 rintro e11 w11 ⟨m11, rfl, hm11, hb11⟩
 have HR4 := Lib.hid (HR3.out.below hb11)
 have b11 := (HR4.out.get 0 rfl).cell
 clear hb11 HR3
 rcases hm11 with rfl | ⟨hp11, hm11⟩
 ·go_wp2_with fail
  go_ret
  exact ⟨_, rfl, .inl rfl, HR4.out.1⟩
 have n11 : ¬ (m11 < 0) := by omega
 have u11 : m11 ≤ 1048576 := by omega
 have HM11 := Lib.hid hm11; clear hm11
 go_wp2_with fail
 refine (szInt64S_f A12 c12 x12 lo hi _ _ (shCache_f12 (HR4.out.get 1 rfl)) (HR4.out.le 1 rfl) ft12 (by omega) (by omega)).mono ?_
 rintro e12 w12 ⟨m12, rfl, hm12, hb12⟩
 have HR5 := Lib.hid (HR4.out.below hb12)
 have b12 := (HR5.out.get 0 rfl).cell
 clear hb12 HR4
 rcases hm12 with rfl | ⟨hp12, hm12⟩
 ·go_wp2_with fail
  go_ret
  exact ⟨_, rfl, .inl rfl, HR5.out.1⟩
 have n12 : ¬ (m12 < 0) := by omega
 have u12 : m12 ≤ 1048576 := by omega
 have HM12 := Lib.hid hm12; clear hm12
 go_wp2_with fail
 go_ret
 refine ⟨_, rfl, .inr ⟨by omega, ?_⟩, HR5.out.1⟩
 have := HM0.out
 have := HM3.out
 have := HM7.out
 have := HM11.out
 have := HM12.out
 omega
theorem szJournal_f (x0 : Int) (x1 : List ByteArray) (x2 : List TyPut) (x3 : Int) (x4 : Int) (x5 : Int) (x6 : Int) (A1 : Option Addr) (c1 : Nat) (A2 : Option Addr) (c2 : Nat) (lo hi : Nat) (left : Int) (w : World) (h : shJournal.R w lo hi [.int .i64 x0, .slice A1 x1.length c1, .slice A2 x2.length c2, .int .i64 x3, .int .i64 x4, .int .i64 x5, .int .i64 x6] ((x0, x1, x2), x3, x4, x5, x6)) (hhi : hi ≤ w.heap.size) (hf : shJournal.fit 9223372036854775807 ((x0, x1, x2), x3, x4, x5, x6)) (hl0 : 0 ≤ left) (hl : left ≤ 1048576) :
  Calls Tryz.prog 51 #[.agg #[.int .i64 x0, .slice A1 x1.length c1, .slice A2 x2.length c2, .int .i64 x3, .int .i64 x4, .int .i64 x5, .int .i64 x6], .int .i64 left] w fun e w' => ∃ m, e = .returned (.int .i64 m) ∧ Left left (shJournal.cost ((x0, x1, x2), x3, x4, x5, x6)) m ∧ Below w.heap.size w w' := by
 rw [shJournal_cost]
 rw [shJournal_fit] at hf
 obtain ⟨ft0, ft3, ft4, ft5, ft6⟩ := hf
 have R0 := ((Stand.nil w).add lo hi (fun W => shJournal.R W lo hi [.int .i64 x0, .slice A1 x1.length c1, .slice A2 x2.length c2, .int .i64 x3, .int .i64 x4, .int .i64 x5, .int .i64 x6] ((x0, x1, x2), x3, x4, x5, x6)) (fun _ _ hk h => shJournal.R_keep h hk) hhi h).box 52 #[.int .i64 x0, .slice A1 x1.length c1, .slice A2 x2.length c2, .int .i64 x3, .int .i64 x4, .int .i64 x5, .int .i64 x6]
 have HR0 := Lib.hid R0
 clear R0 h
 go_enter Tryz.func51, Tryz.ntmps51
 go_wp2_with fail
 refine (szDisk_f x0 x1 x2 A1 c1 A2 c2 lo hi _ _ (shJournal_f0 (HR0.out.get 1 rfl)) (HR0.out.le 1 rfl) ft0 (by omega) (by omega)).mono ?_
 rintro e0 w0 ⟨m0, rfl, hm0, hb0⟩
 have HR1 := Lib.hid (HR0.out.below hb0)
 have b0 := (HR1.out.get 0 rfl).cell
 clear hb0 HR0
 rcases hm0 with rfl | ⟨hp0, hm0⟩
 ·go_wp2_with fail
  go_ret
  exact ⟨_, rfl, .inl rfl, HR1.out.1⟩
 have n0 : ¬ (m0 < 0) := by omega
 have u0 : m0 ≤ 1048576 := by omega
 have HM0 := Lib.hid hm0; clear hm0
 go_wp2_with fail
 go_ret
 refine ⟨_, rfl, .inr ⟨by omega, ?_⟩, HR1.out.1⟩
 have := HM0.out
 omega
theorem szPage_f (x0 : Bool) (x1 : List ByteArray) (x2 : List ByteArray) (x3 : List Int) (A1 : Option Addr) (c1 : Nat) (A2 : Option Addr) (c2 : Nat) (A3 : Option Addr) (c3 : Nat) (lo hi : Nat) (left : Int) (w : World) (h : shPage.R w lo hi [.bool x0, .slice A1 x1.length c1, .slice A2 x2.length c2, .slice A3 x3.length c3] (x0, x1, x2, x3)) (hhi : hi ≤ w.heap.size) (hf : shPage.fit 9223372036854775807 (x0, x1, x2, x3)) (hl0 : 0 ≤ left) (hl : left ≤ 1048576) :
  Calls Tryz.prog 221 #[.agg #[.bool x0, .slice A1 x1.length c1, .slice A2 x2.length c2, .slice A3 x3.length c3], .int .i64 left] w fun e w' => ∃ m, e = .returned (.int .i64 m) ∧ Left left (shPage.cost (x0, x1, x2, x3)) m ∧ Below w.heap.size w w' := by
 rw [shPage_cost]
 rw [shPage_fit] at hf
 obtain ⟨ft0, ft1, ft2, ft3⟩ := hf
 have R0 := ((Stand.nil w).add lo hi (fun W => shPage.R W lo hi [.bool x0, .slice A1 x1.length c1, .slice A2 x2.length c2, .slice A3 x3.length c3] (x0, x1, x2, x3)) (fun _ _ hk h => shPage.R_keep h hk) hhi h).box 299 #[.bool x0, .slice A1 x1.length c1, .slice A2 x2.length c2, .slice A3 x3.length c3]
 have HR0 := Lib.hid R0
 clear R0 h
 go_enter Tryz.func221, Tryz.ntmps221
 go_wp2_with fail
 refine (szStringS_f A1 c1 x1 lo hi _ _ (shPage_f1 (HR0.out.get 1 rfl)) (HR0.out.le 1 rfl) ft1 (by omega) (by omega)).mono ?_
 rintro e1 w1 ⟨m1, rfl, hm1, hb1⟩
 have HR1 := Lib.hid (HR0.out.below hb1)
 have b1 := (HR1.out.get 0 rfl).cell
 clear hb1 HR0
 rcases hm1 with rfl | ⟨hp1, hm1⟩
 ·go_wp2_with fail
  go_ret
  exact ⟨_, rfl, .inl rfl, HR1.out.1⟩
 have n1 : ¬ (m1 < 0) := by omega
 have u1 : m1 ≤ 1048576 := by omega
 have HM1 := Lib.hid hm1; clear hm1
 go_wp2_with fail
 refine (szStringS_f A2 c2 x2 lo hi _ _ (shPage_f2 (HR1.out.get 1 rfl)) (HR1.out.le 1 rfl) ft2 (by omega) (by omega)).mono ?_
 rintro e2 w2 ⟨m2, rfl, hm2, hb2⟩
 have HR2 := Lib.hid (HR1.out.below hb2)
 have b2 := (HR2.out.get 0 rfl).cell
 clear hb2 HR1
 rcases hm2 with rfl | ⟨hp2, hm2⟩
 ·go_wp2_with fail
  go_ret
  exact ⟨_, rfl, .inl rfl, HR2.out.1⟩
 have n2 : ¬ (m2 < 0) := by omega
 have u2 : m2 ≤ 1048576 := by omega
 have HM2 := Lib.hid hm2; clear hm2
 go_wp2_with fail
 refine (szInt64S_f A3 c3 x3 lo hi _ _ (shPage_f3 (HR2.out.get 1 rfl)) (HR2.out.le 1 rfl) ft3 (by omega) (by omega)).mono ?_
 rintro e3 w3 ⟨m3, rfl, hm3, hb3⟩
 have HR3 := Lib.hid (HR2.out.below hb3)
 have b3 := (HR3.out.get 0 rfl).cell
 clear hb3 HR2
 rcases hm3 with rfl | ⟨hp3, hm3⟩
 ·go_wp2_with fail
  go_ret
  exact ⟨_, rfl, .inl rfl, HR3.out.1⟩
 have n3 : ¬ (m3 < 0) := by omega
 have u3 : m3 ≤ 1048576 := by omega
 have HM3 := Lib.hid hm3; clear hm3
 go_wp2_with fail
 go_ret
 refine ⟨_, rfl, .inr ⟨by omega, ?_⟩, HR3.out.1⟩
 have := HM1.out
 have := HM2.out
 have := HM3.out
 omega
theorem szSlot_f (x0 : Int) (x1 : Bool) (x2 : List ByteArray) (x3 : List ByteArray) (x4 : List Int) (A2 : Option Addr) (c2 : Nat) (A3 : Option Addr) (c3 : Nat) (A4 : Option Addr) (c4 : Nat) (lo hi : Nat) (left : Int) (w : World) (h : shSlot.R w lo hi [.int .i64 x0, .bool x1, .slice A2 x2.length c2, .slice A3 x3.length c3, .slice A4 x4.length c4] (x0, (x1, x2, x3, x4))) (hhi : hi ≤ w.heap.size) (hf : shSlot.fit 9223372036854775807 (x0, (x1, x2, x3, x4))) (hl0 : 0 ≤ left) (hl : left ≤ 1048576) :
  Calls Tryz.prog 180 #[.agg #[.int .i64 x0, .bool x1, .slice A2 x2.length c2, .slice A3 x3.length c3, .slice A4 x4.length c4], .int .i64 left] w fun e w' => ∃ m, e = .returned (.int .i64 m) ∧ Left left (shSlot.cost (x0, (x1, x2, x3, x4))) m ∧ Below w.heap.size w w' := by
 rw [shSlot_cost]
 rw [shSlot_fit] at hf
 obtain ⟨ft0, ft1⟩ := hf
 have R0 := ((Stand.nil w).add lo hi (fun W => shSlot.R W lo hi [.int .i64 x0, .bool x1, .slice A2 x2.length c2, .slice A3 x3.length c3, .slice A4 x4.length c4] (x0, (x1, x2, x3, x4))) (fun _ _ hk h => shSlot.R_keep h hk) hhi h).box 301 #[.int .i64 x0, .bool x1, .slice A2 x2.length c2, .slice A3 x3.length c3, .slice A4 x4.length c4]
 have HR0 := Lib.hid R0
 clear R0 h
 go_enter Tryz.func180, Tryz.ntmps180
 go_wp2_with fail
 refine (szPage_f x1 x2 x3 x4 A2 c2 A3 c3 A4 c4 lo hi _ _ (shSlot_f1 (HR0.out.get 1 rfl)) (HR0.out.le 1 rfl) ft1 (by omega) (by omega)).mono ?_
 rintro e1 w1 ⟨m1, rfl, hm1, hb1⟩
 have HR1 := Lib.hid (HR0.out.below hb1)
 have b1 := (HR1.out.get 0 rfl).cell
 clear hb1 HR0
 rcases hm1 with rfl | ⟨hp1, hm1⟩
 ·go_wp2_with fail
  go_ret
  exact ⟨_, rfl, .inl rfl, HR1.out.1⟩
 have n1 : ¬ (m1 < 0) := by omega
 have u1 : m1 ≤ 1048576 := by omega
 have HM1 := Lib.hid hm1; clear hm1
 go_wp2_with fail
 go_ret
 refine ⟨_, rfl, .inr ⟨by omega, ?_⟩, HR1.out.1⟩
 have := HM1.out
 omega
theorem szSlotS_f (A : Option Addr) (c : Nat) (xs : List TySlot) (lo hi : Nat) (left : Int) (w : World) (h : (Sh.row 239 shSlot).R w lo hi [.slice A xs.length c] xs) (hhi : hi ≤ w.heap.size) (hf : (Sh.row 239 shSlot).fit 9223372036854775807 xs) (hl0 : 0 ≤ left) (hl : left ≤ 1048576) :
  Calls Tryz.prog 107 #[.slice A xs.length c, .int .i64 left] w fun e w' => ∃ m, e = .returned (.int .i64 m) ∧ Left left ((Sh.row 239 shSlot).cost xs) m ∧ Below w.heap.size w w' := by
 have hn := hf.1
 have HA := Lib.hid h; have HF := Lib.hid hf.2
 clear h hf
 go_enter Tryz.func107, Tryz.ntmps107
 by_cases g0 : left - (xs.length : Int) < 0
 ·go_wp2_with fail
  go_ret
  exact ⟨_, rfl, .inl rfl, Below.refl _ _⟩
 go_wp2_with fail
 go_loopw [1, 5] (fun l i wr => ∃ (k : Nat) (m : Int), k ≤ xs.length ∧ i = .int .i64 k ∧ l = .int .i64 m ∧ 0 ≤ m ∧ m + xs.length + costTo shSlot k xs = left ∧ Below w.heap.size w wr) (fun _ i _ => xs.length - (intOf i).toNat)
 case atStart => exact ⟨0, _, Nat.zero_le _, rfl, rfl, by omega, by rw [costTo_zero]; omega, Below.refl _ _⟩
 case round =>
  obtain ⟨k, m, hk, rfl, rfl, hm0, hm, hb⟩ := hrel
  have HM := Lib.hid hm
  have hml : m ≤ 1048576 := by omega
  clear hm
  by_cases hlt : k < xs.length
  ·obtain ⟨-, b, off, rfl, hb1, hb2, A2, c2, A3, c3, A4, c4, e100, e101, e102, e103, e104, hX⟩ := shSlot_at ((Sh.row 239 shSlot).R_below HA.out hb hhi) hlt
   have HS := Lib.hid (costTo_succ shSlot hlt)
   have HX := Lib.hid (HF.out _ (getD_in (d := shSlot.d) hlt))
   generalize xs.getD k shSlot.d = X at *
   obtain ⟨x0, ⟨x1, x2, x3, x4⟩⟩ := X
   try dsimp only at e100 e101 e102 e103 e104
   have HB := Lib.hid hb; have HR := Lib.hid hX
   have hsz := hb.size
   clear hb hX
   go_wp2_with fail
   refine (szSlot_f x0 x1 x2 x3 x4 A2 c2 A3 c3 A4 c4 lo hi _ _ HR.out (by omega) HX.out hm0 hml).mono ?_
   rintro e5 w5 ⟨m5, rfl, hm5, hb5⟩
   have HB5 := Lib.hid (HB.out.trans (hb5.mono hsz))
   clear hb5 e100 e101 e102 e103 e104
   rcases hm5 with rfl | ⟨hm50, hm5⟩
   ·go_wp2_with fail
    go_ret
    exact ⟨_, rfl, .inl rfl, HB5.out⟩
   have n5 : ¬ (m5 < 0) := by omega
   have HM5 := Lib.hid hm5
   clear hm5
   go_wp2_with fail
   go_roundw
   case rel => exact ⟨k + 1, m5, by omega, by go_num, rfl, hm50, by have := HM.out; have := HM5.out; have := HS.out; omega, HB5.out⟩
   case measure => simp [intOf]; omega
  ·obtain rfl : k = xs.length := by omega
   have HB := Lib.hid hb; clear hb
   go_wp2_with fail
   go_ret
   refine ⟨_, rfl, .inr ⟨hm0, ?_⟩, HB.out⟩
   have := HM.out
   have e1 := costTo_all shSlot xs
   show m + (costAll shSlot xs : Int) = left
   omega
theorem szBtree_f (x0 : Int) (x1 : List TySlot) (A1 : Option Addr) (c1 : Nat) (lo hi : Nat) (left : Int) (w : World) (h : shBtree.R w lo hi [.int .i64 x0, .slice A1 x1.length c1] (x0, x1)) (hhi : hi ≤ w.heap.size) (hf : shBtree.fit 9223372036854775807 (x0, x1)) (hl0 : 0 ≤ left) (hl : left ≤ 1048576) :
  Calls Tryz.prog 49 #[.agg #[.int .i64 x0, .slice A1 x1.length c1], .int .i64 left] w fun e w' => ∃ m, e = .returned (.int .i64 m) ∧ Left left (shBtree.cost (x0, x1)) m ∧ Below w.heap.size w w' := by
 rw [shBtree_cost]
 rw [shBtree_fit] at hf
 obtain ⟨ft0, ft1⟩ := hf
 have R0 := ((Stand.nil w).add lo hi (fun W => shBtree.R W lo hi [.int .i64 x0, .slice A1 x1.length c1] (x0, x1)) (fun _ _ hk h => shBtree.R_keep h hk) hhi h).box 40 #[.int .i64 x0, .slice A1 x1.length c1]
 have HR0 := Lib.hid R0
 clear R0 h
 go_enter Tryz.func49, Tryz.ntmps49
 go_wp2_with fail
 refine (szSlotS_f A1 c1 x1 lo hi _ _ (shBtree_f1 (HR0.out.get 1 rfl)) (HR0.out.le 1 rfl) ft1 (by omega) (by omega)).mono ?_
 rintro e1 w1 ⟨m1, rfl, hm1, hb1⟩
 have HR1 := Lib.hid (HR0.out.below hb1)
 have b1 := (HR1.out.get 0 rfl).cell
 clear hb1 HR0
 rcases hm1 with rfl | ⟨hp1, hm1⟩
 ·go_wp2_with fail
  go_ret
  exact ⟨_, rfl, .inl rfl, HR1.out.1⟩
 have n1 : ¬ (m1 < 0) := by omega
 have u1 : m1 ≤ 1048576 := by omega
 have HM1 := Lib.hid hm1; clear hm1
 go_wp2_with fail
 go_ret
 refine ⟨_, rfl, .inr ⟨by omega, ?_⟩, HR1.out.1⟩
 have := HM1.out
 omega
end Go.Proofs.YtgnmollbnopigaaGreat
