/- The reference's texts of numbers walked: l01Whole. -/
import Derived.Test.YtnnabkldceklmaaGreatDoorJoinBTAl
import Derived.IntWalk
set_option maxHeartbeats 16000000
set_option maxRecDepth 100000
namespace Go.Proofs.YtnnabkldceklmaaGreatDoor
open Go.RowKit
section
variable {P : Program} {l : List Oper} {Q : Exit → Go.Act → World → Prop} {md : Region.Mode} {S : World → Prop} {z : Nat → Bool}
theorem AnyT.two {i j : Nat} {oi oj : Oper} {n : Nat} {listed : Array Bool} {a : Go.Act} {w : World} (hr : Region.ready md l.toArray listed = [i, j]) (hi : l[i]? = some oi) (hj : l[j]? = some oj)
  (h1 : ∀ K' : Go.Act → World → Prop, Shut (∀ a w, S w → (S w → AnyT P md l.toArray Q S z n (listed.setIfInBounds i true) a w) → K' a w) → if Region.wanted oi (yielded l.toArray a.tmps) = true then Oper.wp P oi a w K' Q else K' (a.put oi.dst undef) w)
  (h2 : ∀ K' : Go.Act → World → Prop, Shut (∀ a w, S w → (S w → AnyT P md l.toArray Q S z n (listed.setIfInBounds j true) a w) → K' a w) → if Region.wanted oj (yielded l.toArray a.tmps) = true then Oper.wp P oj a w K' Q else K' (a.put oj.dst undef) w) :
  AnyT P md l.toArray Q S z (n + 1) listed a w := by
 refine ⟨fun h0 => (by rw [hr] at h0; cases h0), fun k hk => ?_⟩
 rw [hr] at hk
 rcases List.mem_cons.1 hk with rfl | hk
 ·exact wpOp_step (by simpa using hi) (fun K' hK => h1 K' (fun a w hS hW => hK a w ⟨fun _ => hS, hW hS⟩))
 ·obtain rfl : k = j := by simpa using hk
  exact wpOp_step (by simpa using hj) (fun K' hK => h2 K' (fun a w hS hW => hK a w ⟨fun _ => hS, hW hS⟩))
end
theorem bytes_snoc (l : List UInt8) (c : UInt8) : (⟨l.toArray⟩ : ByteArray) ++ (⟨#[c]⟩ : ByteArray) = ⟨(l ++ [c]).toArray⟩ := ByteArray.ext (by simp [ByteArray.data_append])
theorem l01Whole_step (k : Nat) (hk0 : k ≠ 0) (hk : k ≤ 9000000000000) (w : World) (ih : ∀ W, Calls Tryz.prog 249 #[.int .i64 ((k / 10 : Nat) : Int)] W fun e w' => e = .returned (.string ⟨(wholeT (k / 10)).toArray⟩) ∧ Below W.heap.size W w') :
  Calls Tryz.prog 249 #[.int .i64 (k : Int)] w fun e w' => e = .returned (.string ⟨(wholeT k).toArray⟩) ∧ Below w.heap.size w w' := by
 have HIH := hd_ ih; clear ih
 have k0 : ((k : Int) == 0) = false := by rw [beq_eq_false_iff_ne]; omega
 have HW := hd_ (wholeT_step k hk0)
 have hq : (k : Int) / 10 = ((k / 10 : Nat) : Int) := by omega
 have hr : (k : Int) % 10 = ((k % 10 : Nat) : Int) := by omega
 have hrt : ((k : Int)).tmod 10 = ((k % 10 : Nat) : Int) := rfl
 have hr9 : k % 10 ≤ 9 := by omega
 have hq9 : k / 10 ≤ 900000000000 := by omega
 have hql : (wholeT (k / 10)).length ≤ 13 := by unfold wholeT; split; exact Nat.zero_le _; exact decDigits_len 12 _ (by omega)
 generalize k / 10 = q at *
 generalize k % 10 = r at *
 have hbig : ¬ (9223372036854775807 < (wholeT q).length + 1) := by omega
 have wq : IntKind.i64.wrap (q : Int) = (q : Int) := IntWalk.i64_in _ (by omega)
 have wr1 : IntKind.i64.wrap (48 + (r : Int)) = 48 + (r : Int) := IntWalk.i64_in _ (by omega)
 have wr2 : IntKind.u8.wrap (48 + (r : Int)) = 48 + (r : Int) := by simp [IntKind.wrap, IntKind.bits, IntKind.signed]; omega
 go_enter Tryz.func249, Tryz.ntmps249
 go_wp2_with fail
 refine AnyT.region (fun _ => false) (fun _ => True) (by kernel_rfl) trivial (fun hHeld => ?_)
 (refine tA 0 5 ?_; simp only [pz])
 (refine tA 1 6 ?_; simp only [pz])
 (refine tA 3 8 ?_; simp only [pz])
 (refine tA 4 9 ?_; simp only [pz])
 (refine tA 5 10 ?_; simp only [pz])
 (refine tA 6 11 ?_; simp only [pz])
 refine AnyT.two (i := 2) (j := 7) (by kernel_rfl) rfl rfl (fun K hK => ?_) (fun K hK => ?_)
 ·go_simp
  refine (HIH.out w.drew).mono ?_
  rintro e1 w1 ⟨rfl, hb1⟩
  refine hK.out _ _ trivial (fun hHeld => ?_)
  clear hK K
  (try simp only [pz])
  have hcv := run_one_byte (P := Tryz.prog) 182 9 5 Tryz.underlying182 Tryz.underlying5 Tryz.underlying9 w1 (48 + (r : Int)) 1
  rw [show ((48 : Int) + (r : Int)).toNat = 48 + r by omega] at hcv
  have HBX := hd_ (show Below w.heap.size w (w1.alloc (.cells #[.int .u8 (48 + (r : Int))] 5)) from (((Below.refl w.heap.size w).drew).trans hb1).alloc (by have := hb1.size; exact this) _)
  clear hb1
  refine oNe 7 fun K hK => ?_
  go_simp
  refine hK.out _ _ trivial (fun hHeld => ?_)
  clear hK K
  (try simp only [pz])
  refine oNe 8 fun K hK => ?_
  go_simp
  refine hK.out _ _ trivial (fun hHeld => ?_)
  clear hK K
  (try simp only [pz])
  (refine tA 9 14 ?_; simp only [pz])
  (refine tA 10 2 ?_; simp only [pz])
  refine AnyT.done (by kernel_rfl) ?_ _
  go_wp2_with fail
  go_ret
  exact ⟨by rw [HW.out]; simp; exact bytes_snoc _ _, HBX.out⟩
 ·go_simp
  refine hK.out _ _ trivial (fun hHeld => ?_)
  clear hK K
  (try simp only [pz])
  have hu8 : (UInt8.ofNat (48 + r)).toNat = 48 + r := by rw [UInt8.toNat_ofNat']; omega
  have HCV := hd_ (show ∀ W : World, W.cell? ⟨w.heap.size, 0, none⟩ = some (.int .u8 (48 + (r : Int))) → (convert 182 9 (.slice (some ⟨w.heap.size, 0, none⟩) 1 1)).run Tryz.prog W = .ok (.string ⟨#[UInt8.ofNat (48 + r)]⟩) W from fun W hW =>
   run_convert_bytes_back (P := Tryz.prog) W 182 9 5 ⟨w.heap.size, 0, none⟩ 1 [UInt8.ofNat (48 + r)] Tryz.underlying182 Tryz.underlying5 Tryz.underlying9 (fun j hj => by
    obtain rfl : j = 0 := by simpa using hj
    show W.cell? ⟨w.heap.size, 0, none⟩ = _
    rw [hW]
    show _ = some (Value.int .u8 ((UInt8.ofNat (48 + r)).toNat : Int))
    rw [hu8]; push_cast; rfl))
  have hcell : (w.alloc (.cells #[.int .u8 (48 + (r : Int))] 5)).drew.cell? ⟨w.heap.size, 0, none⟩ = some (.int .u8 (48 + (r : Int))) := (Blk.new w 5 #[.int .u8 (48 + (r : Int))]).cell 0
  have HAL := hd_ (show Below w.heap.size w (w.alloc (.cells #[.int .u8 (48 + (r : Int))] 5)).drew from ((Below.refl w.heap.size w).alloc (Nat.le_refl _) (.cells #[.int .u8 (48 + (r : Int))] 5)).drew)
  have HLT := hd_ (show w.heap.size < (w.alloc (.cells #[.int .u8 (48 + (r : Int))] 5)).drew.heap.size by show w.heap.size < (w.alloc _).heap.size; simp)
  clear hu8
  generalize (w.alloc (.cells #[.int .u8 (48 + (r : Int))] 5)).drew = wa at *
  have HI := hd_ (HIH.out wa)
  refine AnyT.two (i := 2) (j := 8) (by kernel_rfl) rfl rfl (fun K hK => ?_) (fun K hK => ?_)
  ·go_simp
   refine HI.out.mono ?_
   rintro e1 w1 ⟨rfl, hb1⟩
   have hcv := HCV.out w1 ((hb1.cell (p := ⟨w.heap.size, 0, none⟩) HLT.out).trans hcell)
   have HBX := hd_ (HAL.out.trans (hb1.mono HAL.out.size))
   clear hb1
   refine hK.out _ _ trivial (fun hHeld => ?_)
   clear hK K
   (try simp only [pz])
   refine oNe 8 fun K hK => ?_
   go_simp
   refine hK.out _ _ trivial (fun hHeld => ?_)
   clear hK K
   (try simp only [pz])
   (refine tA 9 14 ?_; simp only [pz])
   (refine tA 10 2 ?_; simp only [pz])
   refine AnyT.done (by kernel_rfl) ?_ _
   go_wp2_with fail
   go_ret
   exact ⟨by rw [HW.out]; simp; exact bytes_snoc _ _, HBX.out⟩
  ·have hcv := HCV.out wa hcell
   go_simp
   refine hK.out _ _ trivial (fun hHeld => ?_)
   clear hK K
   (try simp only [pz])
   refine oNe 2 fun K hK => ?_
   go_simp
   refine HI.out.mono ?_
   rintro e1 w1 ⟨rfl, hb1⟩
   have HBX := hd_ (HAL.out.trans (hb1.mono HAL.out.size))
   clear hb1
   refine hK.out _ _ trivial (fun hHeld => ?_)
   clear hK K
   (try simp only [pz])
   (refine tA 9 14 ?_; simp only [pz])
   (refine tA 10 2 ?_; simp only [pz])
   refine AnyT.done (by kernel_rfl) ?_ _
   go_wp2_with fail
   go_ret
   exact ⟨by rw [HW.out]; simp; exact bytes_snoc _ _, HBX.out⟩
theorem l01Whole_zero (w : World) : Calls Tryz.prog 249 #[.int .i64 0] w fun e w' => e = .returned (.string ⟨(wholeT 0).toArray⟩) ∧ Below w.heap.size w w' := by
 go_enter Tryz.func249, Tryz.ntmps249
 go_wp2_with fail
 go_ret
 exact ⟨rfl, Below.refl _ _⟩
theorem l01Whole_any : ∀ (k : Nat), k ≤ 9000000000000 → ∀ (w : World), Calls Tryz.prog 249 #[.int .i64 (k : Int)] w fun e w' => e = .returned (.string ⟨(wholeT k).toArray⟩) ∧ Below w.heap.size w w' := by
 intro k
 induction k using Nat.strongRecOn with
 | _ k ih =>
  intro hk w
  by_cases h0 : k = 0
  ·subst h0; exact l01Whole_zero w
  ·exact l01Whole_step k h0 hk w (fun W => ih (k / 10) (by omega) (by omega) W)
end Go.Proofs.YtnnabkldceklmaaGreatDoor
/- The reference's texts of numbers walked: l01Text, l01Canon, IsCanon. -/
namespace Go.Proofs.YtnnabkldceklmaaGreatDoor
open Go.RowKit
theorem dg_digit {k : Nat} (h : k < 10) : dg (UInt8.ofNat (48 + k)) = k := by
 unfold dg; rw [UInt8.toNat_ofNat']; omega
theorem isDig_digit {k : Nat} (h : k < 10) : isDig (UInt8.ofNat (48 + k)) = true := by
 unfold isDig; rw [UInt8.toNat_ofNat']; simp; omega
theorem decDigits_val (u : Nat) : valFrom 0 (Go.Lib.decDigits u) = u := by
 induction u using Nat.strongRecOn with
 | _ u ih =>
  by_cases h : u < 10
  ·rw [decDigits_small h, valFrom_cons, valFrom_nil, dg_digit h]; omega
  ·rw [decDigits_big h, valFrom_append, ih (u / 10) (by omega), valFrom_cons, valFrom_nil, dg_digit (by omega)]; omega
theorem decDigits_dig (u : Nat) : ∀ c ∈ Go.Lib.decDigits u, isDig c = true := by
 induction u using Nat.strongRecOn with
 | _ u ih =>
  by_cases h : u < 10
  ·rw [decDigits_small h]
   intro c hc
   rw [List.mem_singleton.1 hc]; exact isDig_digit h
  ·rw [decDigits_big h]
   intro c hc
   rcases List.mem_append.1 hc with hc | hc
   ·exact ih (u / 10) (by omega) c hc
   ·rw [List.mem_singleton.1 hc]; exact isDig_digit (by omega)
theorem decDigits_ge (k u : Nat) (h : 10 ^ k ≤ u) : k + 1 ≤ (Go.Lib.decDigits u).length := by
 have h1 := valFrom_lt (Go.Lib.decDigits u) (decDigits_dig u)
 rw [decDigits_val] at h1
 have h2 : 10 ^ k < 10 ^ (Go.Lib.decDigits u).length := Nat.lt_of_le_of_lt h h1
 exact (Nat.pow_lt_pow_iff_right (by decide)).1 h2
theorem trimZ_nil {l : List UInt8} (h : trimZ l = []) : ∀ c ∈ l, c = 48 := by
 unfold trimZ at h
 rw [List.reverse_eq_nil_iff] at h
 intro c hc
 have h2 := List.takeWhile_append_dropWhile (p := fun x : UInt8 => x == 48) (l := l.reverse)
 rw [h, List.append_nil] at h2
 have h3 := mem_takeWhile_dig (fun x : UInt8 => x == 48) l.reverse c (by rw [h2]; exact List.mem_reverse.2 hc)
 simpa using h3
def fracD (r : Nat) : List UInt8 := (Go.Lib.decDigits (1000000 + r)).drop 1
theorem fracD_len {r : Nat} (h : r < 1000000) : (Go.Lib.decDigits (1000000 + r)).length = 7 := by
 have h1 := decDigits_len 6 (1000000 + r) (by omega)
 have h2 := decDigits_ge 6 (1000000 + r) (by omega)
 omega
theorem fracD_trim {r : Nat} (h0 : r ≠ 0) (h : r < 1000000) : trimZ (fracD r) ≠ [] := by
 intro he
 have h1 := trimZ_nil he
 have h2 := decDigits_val (1000000 + r)
 have h3 := fracD_len h
 unfold fracD at h1
 cases hd : Go.Lib.decDigits (1000000 + r) with
 | nil => rw [hd] at h3; cases h3
 | cons c l =>
  rw [hd] at h1 h2 h3
  have h4 : l = List.replicate 6 48 := List.eq_replicate_iff.2 ⟨by simpa using h3, h1⟩
  rw [valFrom_cons, valFrom_split, h4, valFrom_zeros, List.length_replicate] at h2
  omega
theorem fracT_eq {r : Nat} (h : r ≠ 0) : fracT r = 46 :: trimZ (fracD r) := by unfold fracT; rw [if_neg h]; rfl
def strLen : Value → Nat
 | .string s => s.size
 | _ => 0
theorem bytes_last (f : ByteArray) (h : f.size ≠ 0) : f.data.toList = f.data.toList.take (f.size - 1) ++ [f[f.size - 1]] := by
 have h1 := take_snoc' f.data.toList (f.size - 1) f[f.size - 1] (get_list f (f.size - 1) (by omega))
 rw [show f.size - 1 + 1 = f.size by omega] at h1
 rw [← h1, List.take_of_length_le (by simp)]
theorem bytes_drop1 (D : List UInt8) : ((⟨D.toArray⟩ : ByteArray).extract 1 D.length).data.toList = D.drop 1 := by
 rw [ByteArray.data_extract, Array.toList_extract, List.extract_eq_take_drop]
 exact List.take_of_length_le (by rw [List.length_drop]; exact Nat.le_refl _)
theorem bytes_pop (f : ByteArray) (n : Nat) : (f.extract 0 n).data.toList = f.data.toList.take n := by
 rw [ByteArray.data_extract, Array.toList_extract, List.extract_eq_take_drop]
 simp
theorem bytes_full (b : ByteArray) (h : b.size ≠ 0) : b.toList.isEmpty = false := by
 cases he : b.toList with
 | nil =>
  have : b = ⟨#[]⟩ := bytes_toList_inj.1 (he.trans (by simp))
  exact absurd (by rw [this]; rfl) h
 | cons _ _ => rfl
theorem absT_len30 (a : Nat) (h : a ≤ 1000000000000000000) : (absT a).length ≤ 30 := by
 unfold absT
 rw [List.length_append]
 have h1 : (wholeT (a / 1000000)).length ≤ 13 := by
  unfold wholeT
  split
  ·simp
  ·exact decDigits_len 12 _ (by omega)
 have h2 : (fracT (a % 1000000)).length ≤ 8 := by
  unfold fracT
  split
  ·simp
  ·rw [List.length_cons]
   have := trimZ_len ((Go.Lib.decDigits (1000000 + a % 1000000)).drop 1)
   have h3 := decDigits_len 6 (1000000 + a % 1000000) (by omega)
   rw [List.length_drop] at this
   omega
 omega
theorem bytes_beq (A : List UInt8) (s : ByteArray) : decide (A = s.data.toList) = (A == s.toList) := by
 rw [Lib.toList_data]
 by_cases h : A = s.data.toList
 ·rw [decide_eq_true h, h]; simp
 ·rw [decide_eq_false h]; simp [h]
theorem byte_dec (c : UInt8) : (c = 48 ∧ ((c.toNat : Int) == 48) = true) ∨ (c ≠ 48 ∧ ((c.toNat : Int) == 48) = false) := by
 by_cases h : c = 48
 ·exact .inl ⟨h, by rw [h]; rfl⟩
 ·refine .inr ⟨h, ?_⟩
  rw [beq_eq_false_iff_ne]
  exact fun e => h (u8_eq (by have : c.toNat = 48 := (by omega); rw [this]; rfl))
theorem l01Text_pos (a : Nat) (ha : a ≤ 1000000000000000000) (w : World) : Calls Tryz.prog 236 #[.int .i64 (a : Int)] w fun e w' => e = .returned (.string ⟨(if a = 0 then [48] else absT a).toArray⟩) ∧ Below w.heap.size w w' := by
 have h0 : ¬ ((a : Int) < 0) := by omega
 have hq : (a : Int) / 1000000 = ((a / 1000000 : Nat) : Int) := by omega
 have hqt : (a : Int).tdiv 1000000 = ((a / 1000000 : Nat) : Int) := (Int.ofNat_tdiv a 1000000).symm
 have hr : (a : Int) % 1000000 = ((a % 1000000 : Nat) : Int) := by omega
 have hrt : (a : Int).tmod 1000000 = ((a % 1000000 : Nat) : Int) := (Int.ofNat_tmod a 1000000).symm
 have hr6 : a % 1000000 < 1000000 := by omega
 have hq12 : a / 1000000 ≤ 1000000000000 := by omega
 have HA := hd_ (show absT a = wholeT (a / 1000000) ++ fracT (a % 1000000) from rfl)
 have HA0 := hd_ (show a = a / 1000000 * 1000000 + a % 1000000 by omega)
 generalize a / 1000000 = q at *
 generalize a % 1000000 = r at *
 have wq : IntKind.i64.wrap (q : Int) = (q : Int) := IntWalk.i64_in _ (by omega)
 have wr1 : IntKind.i64.wrap (r : Int) = (r : Int) := IntWalk.i64_in _ (by omega)
 have HW := hd_ (fun W => l01Whole_any q (by omega) W)
 have HF := hd_ (show ∀ W, Calls Tryz.prog 249 #[.int .i64 (1000000 + (r : Int))] W fun e w' => e = .returned (.string ⟨(wholeT (1000000 + r)).toArray⟩) ∧ Below W.heap.size W w' from fun W => (Int.natCast_add 1000000 r) ▸ l01Whole_any (1000000 + r) (by omega) W)
 have hwl : (wholeT q).length ≤ 13 := by unfold wholeT; split; exact Nat.zero_le _; exact decDigits_len 12 _ (by omega)
 generalize hT : (if a = 0 then [48] else absT a) = T
 have HT := hd_ hT; clear hT
 by_cases hr0 : r = 0
 ·subst hr0
  have HAW := hd_ (show absT a = wholeT q by rw [HA.out, show fracT 0 = [] from if_pos rfl, List.append_nil])
  by_cases hq0 : q = 0
  ·have hT : [48] = T := by rw [← HT.out, if_pos (by have := HA0.out; omega)]
   subst hT
   have hw0 : wholeT q = [] := by unfold wholeT; rw [if_pos hq0]
   rw [hw0] at HW
   clear hq0 hw0 HF HA HAW HT
   go_enter Tryz.func236, Tryz.ntmps236
   go_upto_region 3 with (fail)
   go_upto_region 4 with (first | fail | (refine (HW.out _).mono ?_; rintro e1 w1 ⟨rfl, hb1⟩))
   have HB1 := hd_ hb1; clear hb1
   go_wp2_with fail
   go_ret
   exact ⟨rfl, HB1.out⟩
  ·have hT : wholeT q = T := by rw [← HT.out, if_neg (by have := HA0.out; omega), HAW.out]
   have he := bytes_full (⟨(wholeT q).toArray⟩ : ByteArray) (by
    unfold wholeT; rw [if_neg hq0]
    have := decDigits_ge 0 q (by omega)
    show (Go.Lib.decDigits q).toArray.size ≠ 0
    rw [List.size_toArray]; omega)
   rw [hT] at HW he
   have he2 : T.isEmpty = false := by
    cases T with
    | nil => exact absurd he (by rw [show (⟨[].toArray⟩ : ByteArray).toList = [] from by simp]; simp)
    | cons _ _ => rfl
   clear hT HA HAW HF HT
   go_enter Tryz.func236, Tryz.ntmps236
   go_upto_region 3 with (fail)
   go_upto_region 4 with (first | fail | (refine (HW.out _).mono ?_; rintro e1 w1 ⟨rfl, hb1⟩))
   have HB1 := hd_ hb1; clear hb1
   go_wp2_with fail
   go_ret
   exact ⟨rfl, HB1.out⟩
 ·have hrp : (0 : Int) < (r : Int) := by omega
  have hwf : wholeT (1000000 + r) = Go.Lib.decDigits (1000000 + r) := by unfold wholeT; rw [if_neg (by omega)]
  have HDT := hd_ (show fracT r = 46 :: trimZ ((wholeT (1000000 + r)).drop 1) by rw [hwf, fracT_eq hr0]; rfl)
  have HDN := hd_ (show trimZ ((wholeT (1000000 + r)).drop 1) ≠ [] by rw [hwf]; exact fracD_trim hr0 hr6)
  have hD7 : (wholeT (1000000 + r)).length = 7 := by rw [hwf]; exact fracD_len hr6
  clear hwf
  generalize wholeT (1000000 + r) = D at *
  go_enter Tryz.func236, Tryz.ntmps236
  go_upto_region 3 with (fail)
  go_upto_region 4 with (first | fail | (refine (HW.out _).mono ?_; rintro e1 w1 ⟨rfl, hb1⟩))
  have HB1 := hd_ hb1; clear hb1
  go_upto_block 0 with (first | fail | (refine (HF.out _).mono ?_; rintro e1 w1 ⟨rfl, hb1⟩))
  have HB2 := hd_ (HB1.out.trans (hb1.mono HB1.out.size)); clear hb1
  go_cut [5] (fun v wr => ∃ f : ByteArray, v = .string f ∧ f.data.toList = trimZ (D.drop 1) ∧ Below w.heap.size w wr)
  case first =>
   go_wp2_with fail
   go_loopw [5] (fun v wr => ∃ f : ByteArray, v = .string f ∧ trimZ f.data.toList = trimZ (D.drop 1) ∧ f.size ≤ 7 ∧ Below w.heap.size w wr) (fun v _ => strLen v)
   case atStart =>
    have hd1 := bytes_drop1 D
    rw [hD7] at hd1
    refine ⟨_, rfl, by rw [hd1], ?_, HB2.out⟩
    have := congrArg List.length hd1
    simp at this ⊢; omega
   case round =>
    obtain ⟨f, rfl, htr, hfs, hbw⟩ := hrel
    have HBW := hd_ hbw; clear hbw
    have hf0 : f.size ≠ 0 := fun h => HDN.out (by rw [← htr, show f.data.toList = [] from List.eq_nil_of_length_eq_zero (by simpa using h)]; rfl)
    have hfl := bytes_last f hf0
    have HTR := hd_ htr; clear htr
    have i1 : (0 : Int) ≤ (f.size : Int) - 1 := by omega
    have HFL := hd_ hfl; clear hfl
    rcases byte_dec f[f.size - 1] with ⟨hc, q48⟩ | ⟨hc, q48⟩
    ·have HC := hd_ hc; clear hc
     go_wp2_with fail
     go_roundw
     case rel => exact ⟨_, rfl, by rw [bytes_pop, ← HTR.out]; conv => rhs; rw [HFL.out, HC.out, trimZ_snoc0], by simp; omega, HBW.out⟩
     case measure => simp [strLen]; omega
    ·have HC := hd_ hc; clear hc
     go_wp2_with fail
     go_meet
     case rel => exact ⟨_, rfl, by rw [← HTR.out]; conv => rhs; rw [HFL.out, trimZ_snoc _ _ HC.out, ← HFL.out], HBW.out⟩
  case rest =>
   obtain ⟨f, rfl, hfd, hbw⟩ := hcut
   have HBW := hd_ hbw; clear hbw
   have hfs : f.size ≤ 6 := by
    have h1 := congrArg List.length hfd
    have h2 := trimZ_len (D.drop 1)
    rw [List.length_drop] at h2
    rw [Array.length_toList] at h1
    have h3 : f.size = f.data.size := rfl
    omega
   have HFD := hd_ hfd; clear hfd
   have hne : ((⟨(wholeT q).toArray⟩ : ByteArray) ++ ((⟨#[46]⟩ : ByteArray) ++ f)).data.toList = absT a := by
    rw [HA.out, HDT.out, ByteArray.data_append, ByteArray.data_append, Array.toList_append, Array.toList_append, HFD.out]; rfl
   have HNE := hd_ hne; clear hne
   have hT : absT a = T := by rw [← HT.out, if_neg (by have := HA0.out; omega)]
   have HTT := hd_ hT; clear hT
   have he := bytes_full ((⟨(wholeT q).toArray⟩ : ByteArray) ++ ((⟨#[46]⟩ : ByteArray) ++ f)) (by rw [ByteArray.size_append, ByteArray.size_append]; show _ + (1 + _) ≠ 0; omega)
   go_wp2_with fail
   go_ret
   exact ⟨by rw [← HTT.out, ← HNE.out, Array.toArray_toList]; rfl, HBW.out⟩
theorem l01Text_neg (a : Nat) (ha : a ≤ 1000000000000000000) (h0 : a ≠ 0) (w : World) : Calls Tryz.prog 236 #[.int .i64 (-(a : Int))] w fun e w' => e = .returned (.string ⟨(45 :: absT a).toArray⟩) ∧ Below w.heap.size w w' := by
 have hn : -(a : Int) < 0 := by omega
 have hnn : - -(a : Int) = (a : Int) := by omega
 have HI := hd_ (fun W => l01Text_pos a ha W)
 have HT := hd_ (show (if a = 0 then [48] else absT a) = absT a from if_neg h0)
 have HC := hd_ (show ((⟨#[45]⟩ : ByteArray) ++ (⟨(absT a).toArray⟩ : ByteArray)) = ⟨(45 :: absT a).toArray⟩ from ByteArray.ext (by rw [ByteArray.data_append]; simp))
 have hlen : (absT a).length ≤ 30 := absT_len30 a ha
 generalize -(a : Int) = m at *
 generalize absT a = T at *
 go_enter Tryz.func236, Tryz.ntmps236
 go_wp2_with (first | fail | (refine (HI.out _).mono ?_; rintro e1 w1 ⟨rfl, hb1⟩; rw [HT.out]))
 have HB := hd_ hb1; clear hb1
 go_wp2_with fail
 go_ret
 exact ⟨by rw [HC.out]; rfl, HB.out⟩
theorem l01Text_any (n : Int) (hn : n.natAbs ≤ 1000000000000000000) (w : World) : Calls Tryz.prog 236 #[.int .i64 n] w fun e w' => e = .returned (.string ⟨(numText n).toArray⟩) ∧ Below w.heap.size w w' := by
 by_cases h : n < 0
 ·obtain ⟨a, rfl⟩ : ∃ a : Nat, n = -(a : Int) := ⟨n.natAbs, by omega⟩
  have := l01Text_neg a (by omega) (by omega) w
  unfold numText
  rw [if_neg (by omega), if_pos h, show (-(a : Int)).natAbs = a by omega]
  exact this
 ·obtain ⟨a, rfl⟩ : ∃ a : Nat, n = (a : Int) := ⟨n.natAbs, by omega⟩
  have := l01Text_pos a (by omega) w
  unfold numText
  rw [if_neg h, show ((a : Int)).natAbs = a by omega]
  by_cases h0 : a = 0
  ·rw [if_pos h0] at this
   rw [if_pos (by omega)]; exact this
  ·rw [if_neg h0] at this
   rw [if_neg (by omega)]; exact this
theorem l01Canon_any (s : ByteArray) (hs : s.size ≤ 1048576) (w : World) : Calls Tryz.prog 250 #[.string s] w fun e w' => e = .returned (.bool (canonB s.data.toList)) ∧ Below w.heap.size w w' := by
 have HO := hd_ (fun W => l01Of_any s hs W)
 have HTX := hd_ (fun W => l01Text_any (numOf s.data.toList) (by have := numOf_abs s.data.toList; unfold maxNum at this; omega) W)
 by_cases h0 : s.size = 0
 ·obtain rfl : s = ⟨#[]⟩ := ByteArray.ext (Array.eq_empty_of_size_eq_zero h0)
  have HR := hd_ canonB_nil
  go_enter Tryz.func250, Tryz.ntmps250
  go_wp2_with fail
  go_ret
  exact ⟨by rw [HR.out]; rfl, Below.refl _ _⟩
 ·have he := bytes_full s h0
  by_cases h21 : s.size ≤ 21
  ·have hi : (s.size : Int) ≤ 21 := by omega
   have hB : canonB s.data.toList = (numText (numOf s.data.toList) == s.toList) := by
    unfold canonB
    generalize numText (numOf s.data.toList) = A
    exact bytes_beq A s
   have HR := hd_ hB; clear hB
   generalize hQ : canonB s.data.toList = Q at *
   clear hQ
   have hab := numOf_abs s.data.toList
   generalize numOf s.data.toList = n at *
   go_enter Tryz.func250, Tryz.ntmps250
   go_wp2_with (first | fail | (refine (HO.out _).mono ?_; rintro e1 w1 ⟨rfl, hb1⟩))
   have HB1 := hd_ hb1; clear hb1
   go_wp2_with (first | fail | (refine (HTX.out _).mono ?_; rintro e1 w1 ⟨rfl, hb1⟩))
   have HB2 := hd_ (HB1.out.trans (hb1.mono HB1.out.size)); clear hb1
   go_wp2_with fail
   go_ret
   exact ⟨by rw [HR.out]; rfl, HB2.out⟩
  ·have hi : ¬ (s.size : Int) ≤ 21 := by omega
   have HR := hd_ (canonB_long (l := s.data.toList) (by rw [Array.length_toList]; show 21 < s.size; omega))
   go_enter Tryz.func250, Tryz.ntmps250
   go_wp2_with fail
   go_ret
   exact ⟨by rw [HR.out]; rfl, Below.refl _ _⟩
end Go.Proofs.YtnnabkldceklmaaGreatDoor
