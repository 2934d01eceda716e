/- Rows of bytes of the call's own: one byte more, a text more, their text; decimal digits of the reference. -/
import Derived.Test.YtnnabkldceklmaaGreatDoorProg
import Derived.Lib.AppendStr
import Derived.Lib.ConvBytes
import Derived.Lib.ItoaNum
import Derived.IntWalk
import Derived.Test.YtnnabkldceklmaaGreatDoorJoinBTAm
import Derived.Test.YtnnabkldceklmaaGreatDoorShelfM
import Derived.Shelf.Strings.SlTrimAscii
import Derived.Lib.AppendIntMem
import Derived.Test.YtnnabkldceklmaaGreatDoorRows
import Derived.WalkKit
import Derived.ProofKit
import Derived.OpenShut
import Derived.ShutString
import Derived.Deep.Slices
import Derived.Deep.Fields
import Derived.ChangeSame
import Derived.SizedLaws
import Derived.SliceStrings
import Derived.Test.YtnnabkldceklmaaGreatDoorCards
import Derived.Test.YtnnabkldceklmaaGreatDoorTie
import Derived.Deep.DeepHandedRow
import Derived.Lay
import Derived.Lib.LaidTab
import Derived.Lib.LaidU8
import Derived.Shelf.Vars
set_option maxHeartbeats 16000000
set_option maxRecDepth 100000
namespace Go.Proofs
open Go.Shelf
def Tryz.lays161_ren : Go.Shelf.Ren := ⟨fun | 161 => 278 | 231 => 291 | 227 => 275 | 233 => 292 | 235 => 293 | 228 => 288 | 197 => 298 | 151 => 290 | 260 => 306 | 152 => 305 | 137 => 309 | 119 => 310 | 224 => 263 | 225 => 262 | 217 => 261 | 266 => 271 | n => n, fun | 9 => 9 | 4 => 4 | 3 => 3 | 5 => 5 | 117 => 273 | 116 => 272 | 0 => 0 | 124 => 276 | 105 => 287 | 21 => 21 | 119 => 298 | 46 => 183 | 139 => 301 | 138 => 300 | n => n, fun | 3 => 2 | 4 => 3 | n => n⟩
theorem Tryz.lays161 : Go.Proofs.Lays.n161 Tryz.prog Tryz.lays161_ren := {
  mixed := by kernel_rfl
  f119 := Tryz.func310.trans (congrArg some (by kernel_rfl))
  f137 := Tryz.func309.trans (congrArg some (by kernel_rfl))
  f151 := Tryz.func290.trans (congrArg some (by kernel_rfl))
  f152 := Tryz.func305.trans (congrArg some (by kernel_rfl))
  f161 := Tryz.func278.trans (congrArg some (by kernel_rfl))
  f197 := Tryz.func298.trans (congrArg some (by kernel_rfl))
  f217 := Tryz.func261.trans (congrArg some (by kernel_rfl))
  f224 := Tryz.func263.trans (congrArg some (by kernel_rfl))
  f225 := Tryz.func262.trans (congrArg some (by kernel_rfl))
  f227 := Tryz.func275.trans (congrArg some (by kernel_rfl))
  f228 := Tryz.func288.trans (congrArg some (by kernel_rfl))
  f231 := Tryz.func291.trans (congrArg some (by kernel_rfl))
  f233 := Tryz.func292.trans (congrArg some (by kernel_rfl))
  f235 := Tryz.func293.trans (congrArg some (by kernel_rfl))
  f260 := Tryz.func306.trans (congrArg some (by kernel_rfl))
  f266 := Tryz.func271.trans (congrArg some (by kernel_rfl))
  t0 := Tryz.underlying0
  a0 := Tryz.isAgg0
  z0 := Tryz.sizeOf0
  v0 := Tryz.zeroValue0
  t3 := Tryz.underlying3
  a3 := Tryz.isAgg3
  z3 := Tryz.sizeOf3
  v3 := Tryz.zeroValue3
  t4 := Tryz.underlying4
  a4 := Tryz.isAgg4
  z4 := Tryz.sizeOf4
  v4 := Tryz.zeroValue4
  t5 := Tryz.underlying5
  a5 := Tryz.isAgg5
  z5 := Tryz.sizeOf5
  v5 := Tryz.zeroValue5
  t9 := Tryz.underlying9
  a9 := Tryz.isAgg9
  z9 := Tryz.sizeOf9
  v9 := Tryz.zeroValue9
  t21 := Tryz.underlying21
  a21 := Tryz.isAgg21
  z21 := Tryz.sizeOf21
  v21 := Tryz.zeroValue21
  t46 := Tryz.underlying183
  a46 := Tryz.isAgg183
  z46 := Tryz.sizeOf183
  v46 := Tryz.zeroValue183
  t105 := Tryz.underlying287
  a105 := Tryz.isAgg287
  z105 := Tryz.sizeOf287
  v105 := Tryz.zeroValue287
  t116 := Tryz.underlying272
  a116 := Tryz.isAgg272
  z116 := Tryz.sizeOf272
  t117 := Tryz.underlying273
  a117 := Tryz.isAgg273
  z117 := Tryz.sizeOf273
  v117 := Tryz.zeroValue273
  t119 := Tryz.underlying298
  a119 := Tryz.isAgg298
  z119 := Tryz.sizeOf298
  t124 := Tryz.underlying276
  a124 := Tryz.isAgg276
  z124 := Tryz.sizeOf276
  v124 := Tryz.zeroValue276
  t138 := Tryz.underlying300
  a138 := Tryz.isAgg300
  z138 := Tryz.sizeOf300
  v138 := Tryz.zeroValue300
  t139 := Tryz.underlying301
  a139 := Tryz.isAgg301
  z139 := Tryz.sizeOf301
  v139 := Tryz.zeroValue301
  g3 := by kernel_rfl
  g4 := by kernel_rfl }
end Go.Proofs
namespace Go.Proofs.YtnnabkldceklmaaGreatDoor
open Go.RowKit
theorem infoByte : (Tryz.prog.info? 5).map (fun i => (i.zero, i.size, i.bytes)) = some (some (.int .u8 0), 1, 1) := by kernel_rfl
abbrev encB : UInt8 → Value := fun c => .int .u8 (c.toNat : Int)
theorem convert_own {w : World} {base : Nat} {v : Value} {xs : List UInt8} (h : OwnR encB w base 5 v xs) :
  (convert 182 9 v).run Tryz.prog w = .ok (.string ⟨xs.toArray⟩) w := by
 obtain ⟨⟨A, c, rfl⟩, ho⟩ := h
 by_cases h0 : 0 < xs.length
 ·obtain ⟨b, off, rfl, _, _, hc⟩ := (RowR.of_own (enc := encB) (d := 0) ho).2 h0
  have := run_convert_bytes_arg (P := Tryz.prog) w 182 5 Tryz.underlying182 Tryz.underlying5 b off xs.length c (xs.map fun c => (c.toNat : Int)) (by simp) (fun i hi => by
   rw [hc i hi]
   simp [List.getD_eq_getElem?_getD, List.getElem?_eq_getElem hi]) 9 Tryz.underlying9
  have e : strOfNums (xs.map fun c => (c.toNat : Int)) = ⟨xs.toArray⟩ := by
   unfold strOfNums
   rw [List.map_map]
   have : ((fun n : Int => UInt8.ofNat n.toNat) ∘ fun c : UInt8 => (c.toNat : Int)) = id := by
    funext c
    simp
   rw [this, List.map_id]
  rw [this, e]
 ·have hx : xs = [] := List.eq_nil_of_length_eq_zero (by omega)
  subst hx
  cases A with
  | none => exact run_convert_bytes_nil (P := Tryz.prog) w 182 5 Tryz.underlying182 Tryz.underlying5 _ _ 9 Tryz.underlying9
  | some a =>
   rw [run_convert_bytes_string w 182 9 5 _ _ _ Tryz.underlying182 Tryz.underlying5 Tryz.underlying9, run_bytesToString w a _ _ [] (by simp [loadCells, loadCellsFrom])]
   rfl
theorem rowBytes (w : World) (s : ByteArray) : ∃ cap w', (convert 9 182 (.string s)).run Tryz.prog w = .ok (.slice (some ⟨w.heap.size, 0, none⟩) s.size cap) w' ∧
  (∀ j (hj : j < s.size), w'.cell? ⟨w.heap.size, j, none⟩ = some (.int .u8 (s[j].toNat : Int))) ∧ Below w.heap.size w w' ∧ w'.heap.size = w.heap.size + 1 := by
 refine ⟨_, _, Lib.run_convert_string_bytes w _ _ 5 s Tryz.underlying9 Tryz.underlying182 Tryz.underlying5, fun j hj => ?_, ?_, Lib.bytesWorld_size _ _ _⟩
 ·rw [Lib.bytesWorld_cell w 5 s j hj]
  have : s.data.toList.getD j 0 = s[j] := by
   have h : j < s.data.toList.length := by simpa using hj
   rw [List.getD_eq_getElem?_getD, List.getElem?_eq_getElem h]
   rfl
  rw [this]
 ·exact ⟨rfl, rfl, rfl, by rw [Lib.bytesWorld_size]; omega, fun k hk => Lib.bytesWorld_at_old w _ s k hk⟩
end Go.Proofs.YtnnabkldceklmaaGreatDoor
/- The reference's plain forms walked: l22Shows, l22Part, l22Plain, PlainText. -/
namespace Go.Proofs.YtnnabkldceklmaaGreatDoor
open Go.RowKit
section
variable {P : Program} {l : List Oper} {Q : Exit → Go.Act → World → Prop} {md : Region.Mode} {S : World → Prop} {z : Nat → Bool}
end
end Go.Proofs.YtnnabkldceklmaaGreatDoor
/- The program's numbers walked: printable, isNum, digitsOf, scaled. -/
namespace Go.Proofs.YtnnabkldceklmaaGreatDoor
open Go.RowKit
theorem isNum_yes (n : Int) (hn : n.natAbs ≤ maxNum) (w : World) : Calls Tryz.prog 265 #[.int .i64 n] w fun e w' => e = .returned (.bool true) ∧ w = w' := by
 have h1 : -999999999999999999 ≤ n := by unfold maxNum at hn; omega
 have h2 : n ≤ 999999999999999999 := by unfold maxNum at hn; omega
 clear hn
 have HW := hd_ (show ∀ W : World, Calls Tryz.prog 52 #[.int .i64 n, .int .i64 (-999999999999999999), .int .i64 999999999999999999] W fun e w' => e = .returned (.bool true) ∧ W = w' from fun W => by
  go_enter Tryz.func52, Tryz.ntmps52
  go_wp2_with fail
  go_ret
  exact ⟨rfl, rfl⟩)
 go_enter Tryz.func265, Tryz.ntmps265
 go_wp2_with (first | fail | (refine (HW.out _).mono ?_; rintro e1 w1 ⟨rfl, rfl⟩))
 go_ret
 exact ⟨rfl, rfl⟩
theorem len_list' (t : ByteArray) : t.data.toList.length = t.size := Array.length_toList
theorem trimLeft_any (s cs : ByteArray) (hcs : cs.size < 4294967281) (ha : cs.data.toList.all (fun b => decide (b.toNat < 128)) = true) (w : World) :
  Calls Tryz.prog 278 #[.string s, .string cs] w fun e w' => e = .returned (.string ⟨(Lib.trimLeftS s.data.toList cs.data.toList).toArray⟩) ∧ Below w.heap.size w w' :=
 Any.strings_TrimLeft_laid Tryz.lays161 (by kernel_rfl) s cs w hcs (ascii_of_all ha)
theorem bytes_drop1' (D : List UInt8) (n : Nat) : ((⟨D.toArray⟩ : ByteArray).extract n D.length).data.toList = D.drop n := by
 rw [ByteArray.data_extract, Array.toList_extract, List.extract_eq_take_drop]
 exact List.take_of_length_le (by rw [List.length_drop]; exact Nat.le_refl _)
theorem dropWhile_len (p : UInt8 → Bool) (l : List UInt8) : l.length - (l.dropWhile p).length = (l.takeWhile p).length ∧ (l.dropWhile p).length ≤ l.length := by
 have h := congrArg List.length (List.takeWhile_append_dropWhile (p := p) (l := l))
 rw [List.length_append] at h
 omega
theorem digitsOf_any (s : ByteArray) (hs : s.size ≤ 1048576) (w : World) : Calls Tryz.prog 280 #[.string s] w fun e w' => e = .returned (.int .i64 ((s.data.toList.takeWhile isDig).length : Nat)) ∧ Below w.heap.size w w' := by
 have HT := hd_ (fun W => trimLeft_any s ⟨#[48, 49, 50, 51, 52, 53, 54, 55, 56, 57]⟩ (by decide) (by decide) W)
 rw [show (⟨#[48, 49, 50, 51, 52, 53, 54, 55, 56, 57]⟩ : ByteArray).data.toList = [48, 49, 50, 51, 52, 53, 54, 55, 56, 57] from rfl, trimLeft_dig] at HT
 have hl := dropWhile_len isDig s.data.toList
 rw [len_list'] at hl
 generalize s.data.toList.dropWhile isDig = D at *
 generalize s.data.toList.takeWhile isDig = N at *
 go_enter Tryz.func280, Tryz.ntmps280
 go_wp2_with (first | fail | (refine (HT.out _).mono ?_; rintro e1 w1 ⟨rfl, hb1⟩))
 go_ret
 exact ⟨by show Ending.returned (Value.int .i64 ((s.size : Int) - (D.length : Int))) = _; rw [show (s.size : Int) - (D.length : Int) = ((N.length : Nat) : Int) by omega], hb1⟩
theorem scaled_any (n : Nat) (hn : n ≤ maxNum) (s : ByteArray) (hs : s.size ≤ 1048576) (hd : ∀ c ∈ s.data.toList, isDig c = true) (w : World) :
  Calls Tryz.prog 282 #[.int .i64 (n : Int), .string s] w fun e w' => e = .returned (.int .i64 ((scaledP n s.data.toList : Nat) : Int)) ∧ Below w.heap.size w w' := by
 have HD := hd_ hd
 clear hd
 unfold maxNum at hn
 obtain ⟨cap1, w1, hcv, hcells, hbw, _⟩ := rowBytes w s
 have HCL := hd_ hcells; have HBW := hd_ hbw
 have hsz1 : w.heap.size < w1.heap.size := by omega
 clear hcells hbw
 go_enter Tryz.func282, Tryz.ntmps282
 go_wp2_with fail
 clear hcv
 go_loopw [0, 10] (fun m i wr => ∃ k nn : Nat, k ≤ s.size ∧ i = .int .i64 k ∧ m = .int .i64 (nn : Int) ∧ nn ≤ 999999999999999999 ∧ scaledP nn (s.data.toList.drop k) = scaledP n s.data.toList ∧ Below w1.heap.size w1 wr) (fun _ i _ => s.size - (intOf i).toNat)
 case atStart => exact ⟨0, n, Nat.zero_le _, rfl, rfl, hn, rfl, Below.refl _ _⟩
 case round =>
  obtain ⟨k, nn, hk, rfl, rfl, hnn, hsc, hbr⟩ := hrel
  have HSC := hd_ hsc; have HBR := hd_ hbr
  by_cases hlt : k < s.size
  ·have i1 : (k : Int) < (s.size : Int) := by omega
   have i0 : (0 : Int) ≤ (k : Int) := by omega
   have hcell : wr.cell? ⟨w.heap.size, k, none⟩ = some (.int .u8 (s[k].toNat : Int)) := (hbr.cell (p := ⟨w.heap.size, k, none⟩) hsz1).trans (HCL.out k hlt)
   have hdc := HD.out s[k] (by
    have := get_list s k hlt
    exact List.mem_of_getElem? this)
   have h9 := dg_le hdc
   have hdv : ((s[k].toNat : Int) - 48) = (dg s[k] : Int) := by unfold isDig at hdc; unfold dg; simp only [decide_eq_true_eq] at hdc; omega
   have hdr : s.data.toList.drop k = s[k] :: s.data.toList.drop (k + 1) := List.drop_eq_getElem_cons (by rw [len_list']; exact hlt)
   have hst := HSC.out
   rw [hdr, scaledP_cons] at hst
   clear hdr hdc hsc hbr
   have hq : ((999999999999999999 : Int) - (dg s[k] : Int)) / 10 = (((maxNum - dg s[k]) / 10 : Nat) : Int) := by unfold maxNum; omega
   generalize hQ : (maxNum - dg s[k]) / 10 = q at *
   have hq1 : q ≤ 99999999999999999 := by unfold maxNum at hQ; omega
   have hq2 : 10 * q + dg s[k] ≤ 999999999999999999 := by unfold maxNum at hQ; omega
   clear hQ
   generalize dg s[k] = d at *
   by_cases hb : q < nn
   ·rw [if_pos hb] at hst
    have HST := hd_ hst
    have hb' : (q : Int) < (nn : Int) := by omega
    clear hst
    go_wp2_with fail
    go_ret
    exact ⟨by rw [← HST.out]; rfl, HBW.out.trans (HBR.out.mono HBW.out.size)⟩
   ·rw [if_neg hb] at hst
    have HST := hd_ hst
    have hb' : ¬ (q : Int) < (nn : Int) := by omega
    clear hst
    go_wp2_with fail
    go_roundw
    case rel => exact ⟨k + 1, 10 * nn + d, by omega, by go_num, by push_cast; rfl, by omega, HST.out, HBR.out⟩
    case measure => simp [intOf]; omega
  ·have i1 : ¬ (k : Int) < (s.size : Int) := by omega
   have hst := HSC.out
   rw [List.drop_of_length_le (by rw [len_list']; omega), scaledP_nil] at hst
   have HST := hd_ hst
   clear hst
   go_wp2_with fail
   go_ret
   exact ⟨by rw [← HST.out]; rfl, HBW.out.trans (HBR.out.mono HBW.out.size)⟩
theorem scaled_arg (Wd F : List UInt8) : ((⟨Wd.toArray⟩ : ByteArray) ++ ((⟨F.toArray⟩ : ByteArray) ++ (⟨#[48, 48, 48, 48, 48, 48]⟩ : ByteArray)).extract 0 6).data.toList = Wd ++ fillP 6 F := by
 rw [ByteArray.data_append, Array.toList_append, bytes_pop, ByteArray.data_append, Array.toList_append]
 rfl
theorem numOf_any (s : ByteArray) (hs : s.size ≤ 65536) (w : World) : Calls Tryz.prog 269 #[.string s] w fun e w' => e = .returned (.int .i64 (numOf s.data.toList)) ∧ Below w.heap.size w w' := by
 have HT := hd_ (fun W => trimLeft_any s ⟨#[43, 45]⟩ (by decide) (by decide) W)
 rw [show (⟨#[43, 45]⟩ : ByteArray).data.toList = [43, 45] from rfl, trimLeft_sgn] at HT
 obtain ⟨hR1, hR2⟩ := dropWhile_len isSgn s.data.toList
 rw [len_list'] at hR1 hR2
 have hRt := take_while isSgn s.data.toList
 rw [len_list'] at hRt
 have hNO : numOf s.data.toList = if ((s.data.toList.takeWhile isSgn).count 45 % 2 == 1) then -(absOf s.data.toList : Int) else (absOf s.data.toList : Int) := rfl
 have hcl : (s.data.toList.takeWhile isSgn).count 45 ≤ 65536 := Nat.le_trans List.count_le_length (by omega)
 have hCT := fun W => Tryz.strings_Count_one (s.extract 0 (s.size - (s.data.toList.dropWhile isSgn).length)) 45 W
 rw [show Lib.countByte (s.extract 0 (s.size - (s.data.toList.dropWhile isSgn).length)).data.toList 45 = (s.data.toList.takeWhile isSgn).count 45 by rw [bytes_pop, hRt]; rfl] at hCT
 have HCT := hd_ hCT
 have HNO := hd_ hNO
 have HAB := hd_ (scaled_abs s.data.toList)
 have hW : wholeOf s.data.toList = (s.data.toList.dropWhile isSgn).takeWhile isDig := rfl
 have hB : behindOf s.data.toList = (s.data.toList.dropWhile isSgn).dropWhile isDig := rfl
 have hwd := wholeOf_dig s.data.toList
 have hfd := fracOf_dig s.data.toList
 have hF1 := fun h => fracOf_none (l := s.data.toList) h
 have hF2 := fun r h => fracOf_point (l := s.data.toList) (r := r) h
 have hab := absOf_le s.data.toList
 clear hNO hCT hRt
 generalize s.data.toList.dropWhile isSgn = R at *
 generalize (s.data.toList.takeWhile isSgn).count 45 = cnt at *
 rw [hR1] at HCT
 generalize (s.data.toList.takeWhile isSgn).length = sg at *
 generalize numOf s.data.toList = Z at *
 generalize absOf s.data.toList = ab at *
 generalize hWd : wholeOf s.data.toList = Wd at *
 generalize hBd : behindOf s.data.toList = B at *
 generalize hFd : fracOf s.data.toList = F at *
 have hx1 : (⟨R.toArray⟩ : ByteArray).extract 0 Wd.length = ⟨Wd.toArray⟩ := ByteArray.ext (by
  rw [ByteArray.data_extract]
  apply Array.toList_inj.1
  rw [Array.toList_extract, List.extract_eq_take_drop, hW]
  show ((R.drop 0).take ((R.takeWhile isDig).length - 0)) = _
  rw [List.drop_zero, Nat.sub_zero]
  exact List.prefix_iff_eq_take.1 (List.takeWhile_prefix isDig) |>.symm)
 have hx2 : (⟨R.toArray⟩ : ByteArray).extract Wd.length R.length = ⟨B.toArray⟩ := ByteArray.ext (by
  apply Array.toList_inj.1
  rw [bytes_drop1' R Wd.length, hB, ← drop_while, hW])
 have hBl : B.length ≤ R.length ∧ Wd.length ≤ R.length := by
  have := dropWhile_len isDig R
  rw [← hW, ← hB] at this
  omega
 obtain ⟨hBl1, hBl2⟩ := hBl
 have HDG := hd_ (fun W => digitsOf_any ⟨R.toArray⟩ (by show R.toArray.size ≤ _; simp; omega) W)
 rw [show (⟨R.toArray⟩ : ByteArray).data.toList = R from rfl, ← hW] at HDG
 have HCP := hd_ (fun W => Tryz.strings_CutPrefix ⟨B.toArray⟩ ⟨#[46]⟩ W)
 rw [show (⟨B.toArray⟩ : ByteArray).data.toList = B from rfl, show (⟨#[46]⟩ : ByteArray).data.toList = [46] from rfl] at HCP
 have wc2 : ((cnt : Int)).tmod 2 = ((cnt % 2 : Nat) : Int) := rfl
 have wc3 : (cnt : Int) % 2 = ((cnt % 2 : Nat) : Int) := by omega
 have hm2 : cnt % 2 ≤ 1 := by omega
 generalize cnt % 2 = par at *
 have hpar : ((par : Int) == 1) = (par == 1) := by
  rcases (show par = 0 ∨ par = 1 by omega) with rfl | rfl <;> rfl
 have HZ := hd_ HNO.out
 clear hW hB hWd hBd hFd HNO
 generalize (par == 1) = neg at *
 have hsc : ∀ W, Calls Tryz.prog 282 #[.int .i64 0, .string ((⟨Wd.toArray⟩ : ByteArray) ++ ((⟨F.toArray⟩ : ByteArray) ++ (⟨#[48, 48, 48, 48, 48, 48]⟩ : ByteArray)).extract 0 6)] W fun e w' => e = .returned (.int .i64 (ab : Int)) ∧ Below W.heap.size W w' := fun W => by
  have h1 := scaled_any 0 (Nat.zero_le _) ((⟨Wd.toArray⟩ : ByteArray) ++ ((⟨F.toArray⟩ : ByteArray) ++ (⟨#[48, 48, 48, 48, 48, 48]⟩ : ByteArray)).extract 0 6) (by
   rw [← len_list', scaled_arg, List.length_append, fillP_len]; omega) (by
   rw [scaled_arg]
   intro c hc
   rcases List.mem_append.1 hc with h | h
   ·exact hwd c h
   ·exact fillP_dig 6 F hfd c h) W
  rw [scaled_arg, HAB.out] at h1
  exact h1
 have HSC := hd_ hsc
 have hwl : ({ data := Wd.toArray } : ByteArray).size = Wd.length := by show Wd.toArray.size = _; simp
 unfold maxNum at hab
 clear hsc hwd hfd HAB
 by_cases hdot : ∃ r, B = 46 :: r
 ·obtain ⟨r, rfl⟩ := hdot
  have hF := hF2 r rfl
  rw [show Lib.hasPrefix (46 :: r) [46] = true by simp [Lib.hasPrefix, List.isPrefixOf], show Lib.trimPrefix (46 :: r) [46] = r by simp [Lib.trimPrefix, Lib.hasPrefix, List.isPrefixOf]] at HCP
  have HDG2 := hd_ (fun W => digitsOf_any ⟨r.toArray⟩ (by show r.toArray.size ≤ _; simp at hBl1 ⊢; omega) W)
  rw [show (⟨r.toArray⟩ : ByteArray).data.toList = r from rfl, ← hF] at HDG2
  have hx3 : (⟨r.toArray⟩ : ByteArray).extract 0 F.length = ⟨F.toArray⟩ := ByteArray.ext (by
   rw [ByteArray.data_extract]
   apply Array.toList_inj.1
   rw [Array.toList_extract, List.extract_eq_take_drop, hF]
   show ((r.drop 0).take ((r.takeWhile isDig).length - 0)) = _
   rw [List.drop_zero, Nat.sub_zero]
   exact List.prefix_iff_eq_take.1 (List.takeWhile_prefix isDig) |>.symm)
  have hfl : F.length ≤ r.length := by rw [hF]; exact (List.takeWhile_sublist isDig (l := r)).length_le
  rw [List.length_cons] at hBl1
  clear hF hF1 hF2
  go_enter Tryz.func269, Tryz.ntmps269
  go_wp2_with fail
  refine (HT.out _).mono ?_; rintro e1 w1 ⟨rfl, hb1⟩
  go_wp2_with fail
  refine (HCT.out _).mono ?_; rintro e2 w2 ⟨rfl, rfl⟩
  go_wp2_with fail
  refine (HDG.out _).mono ?_; rintro e3 w3 ⟨rfl, hb3⟩
  go_wp2_with fail
  refine (HCP.out _).mono ?_; rintro e4 w4 ⟨rfl, rfl⟩
  go_wp2_with fail
  refine (HDG2.out _).mono ?_; rintro e5 w5 ⟨rfl, hb5⟩
  go_wp2_with fail
  refine (HSC.out _).mono ?_; rintro e6 w6 ⟨rfl, hb6⟩
  have HBX := hd_ (hb1.trans ((hb3.mono hb1.size).trans ((hb5.mono (Nat.le_trans hb1.size hb3.size)).trans (hb6.mono (Nat.le_trans hb1.size (Nat.le_trans hb3.size hb5.size))))))
  cases neg
  ·go_wp2_with fail
   go_ret
   exact ⟨by rw [HZ.out]; rfl, HBX.out⟩
  ·go_wp2_with fail
   go_ret
   exact ⟨by rw [HZ.out]; rfl, HBX.out⟩
 ·have hF := hF1 (fun r e => hdot ⟨r, e⟩)
  have hpf : Lib.hasPrefix B [46] = false := by
   unfold Lib.hasPrefix
   cases B with
   | nil => rfl
   | cons b r =>
    rw [List.isPrefixOf]
    have : (46 == b) = false := by rw [beq_eq_false_iff_ne]; exact fun e => hdot ⟨r, by rw [e]⟩
    rw [this]; rfl
  rw [hpf, show Lib.trimPrefix B [46] = B by unfold Lib.trimPrefix; rw [hpf]; rfl] at HCP
  subst hF
  clear hF1 hF2 hdot hpf
  go_enter Tryz.func269, Tryz.ntmps269
  go_wp2_with fail
  refine (HT.out _).mono ?_; rintro e1 w1 ⟨rfl, hb1⟩
  go_wp2_with fail
  refine (HCT.out _).mono ?_; rintro e2 w2 ⟨rfl, rfl⟩
  go_wp2_with fail
  refine (HDG.out _).mono ?_; rintro e3 w3 ⟨rfl, hb3⟩
  go_wp2_with fail
  refine (HCP.out _).mono ?_; rintro e4 w4 ⟨rfl, rfl⟩
  go_wp2_with fail
  refine (HSC.out _).mono ?_; rintro e6 w6 ⟨rfl, hb6⟩
  have HBX := hd_ (hb1.trans ((hb3.mono hb1.size).trans (hb6.mono (Nat.le_trans hb1.size hb3.size))))
  cases neg
  ·go_wp2_with fail
   go_ret
   exact ⟨by rw [HZ.out]; rfl, HBX.out⟩
  ·go_wp2_with fail
   go_ret
   exact ⟨by rw [HZ.out]; rfl, HBX.out⟩
end Go.Proofs.YtnnabkldceklmaaGreatDoor
/- The program's texts of numbers walked: FormatInt, NumText, IsCanon; what the library reads of the world. -/
namespace Go.Proofs.YtnnabkldceklmaaGreatDoor
open Go.RowKit
def TabsIn (w : World) : Prop := Lib.TabIs Tryz.prog w "internal/strconv.uint64pow10" .u64 Lib.pow10Tab
theorem TabsIn.below {w w' : World} (h : TabsIn w) (hb : Below w.heap.size w w') : TabsIn w' := by
 unfold TabsIn Lib.TabIs World.var? at h ⊢
 cases hg : Tryz.prog.globalNamed "internal/strconv.uint64pow10" with
 | none => rw [hg] at h; cases h
 | some g =>
  rw [hg] at h
  simp only [Option.bind_some] at h ⊢
  have hlt : g < w.heap.size := by
   rcases Nat.lt_or_ge g w.heap.size with h' | h'
   ·exact h'
   ·rw [Array.getElem?_eq_none h'] at h; cases h
  rw [hb.block g hlt]
  exact h
def EnvIn (w : World) : Prop := TabsIn w ∧ ∃ m, w.cell? ⟨0, 0, none⟩ = some (.int .i64 m)
theorem EnvIn.below {w w' : World} (h : EnvIn w) (hb : Below w.heap.size w w') : EnvIn w' := by
 refine ⟨h.1.below hb, ?_⟩
 obtain ⟨m, hm⟩ := h.2
 have hlt : 0 < w.heap.size := by
  rcases Nat.lt_or_ge 0 w.heap.size with h' | h'
  ·exact h'
  ·unfold World.cell? at hm
   rw [Array.getElem?_eq_none h'] at hm; cases hm
 exact ⟨m, (hb.cell (p := ⟨0, 0, none⟩) hlt).trans hm⟩
theorem formatInt_any (k : Nat) (hk : k ≤ 9223372036854775807) (w : World) (hT : TabsIn w) : Calls Tryz.prog 266 #[.int .i64 (k : Int), .int .i64 10] w fun e w' => e = .returned (.string ⟨(Go.Lib.decDigits k).toArray⟩) ∧ Below w.heap.size w w' := by
 refine (Tryz.strconv_FormatInt_10 (k : Int) (by omega) (by omega) w hT).mono ?_
 rintro e3 w3 ⟨rfl, q, os, rfl⟩
 refine ⟨?_, Lib.below_grow w.heap.size w (Nat.le_refl _) q os⟩
 unfold Lib.itoa
 rw [if_neg (by omega), Int.toNat_natCast]
theorem mk_app (A B : List UInt8) : ((⟨A.toArray⟩ : ByteArray) ++ ⟨B.toArray⟩) = ⟨(A ++ B).toArray⟩ := ByteArray.ext (by rw [ByteArray.data_append]; simp)
theorem mk_app1 (c : UInt8) (B : List UInt8) : ((⟨#[c]⟩ : ByteArray) ++ ⟨B.toArray⟩) = ⟨(c :: B).toArray⟩ := mk_app [c] B
theorem numText_split (n : Int) (h : n ≠ 0) : numText n = (if n < 0 then [45] else []) ++ absT n.natAbs := by
 unfold numText
 rw [if_neg h]
 split <;> rfl
theorem numText_any (n : Int) (hn : n.natAbs ≤ maxNum) (w : World) (hT : TabsIn w) : Calls Tryz.prog 255 #[.int .i64 n] w fun e w' => e = .returned (.string ⟨(numText n).toArray⟩) ∧ Below w.heap.size w w' := by
 have HT := hd_ hT; clear hT
 have HI := hd_ (fun W => isNum_yes n hn W)
 unfold maxNum at hn
 by_cases h0 : n = 0
 ·have HR := hd_ (show numText n = [48] by unfold numText; exact if_pos h0)
  rw [HR.out]
  subst h0
  clear HR hn
  go_enter Tryz.func255, Tryz.ntmps255
  go_wp2_with fail
  refine (HI.out _).mono ?_; rintro e1 w1 ⟨rfl, rfl⟩
  go_wp2_with fail
  go_ret
  exact ⟨rfl, Below.refl _ _⟩
 ·have HR := hd_ (numText_split n h0)
  have q0 : (n == 0) = false := by rw [beq_eq_false_iff_ne]; exact h0
  generalize numText n = R at *
  obtain ⟨a, ha⟩ : ∃ a, a = n.natAbs := ⟨_, rfl⟩
  rw [← ha] at HR
  have ha1 : 1 ≤ a := by omega
  have ha2 : a ≤ 999999999999999999 := by omega
  go_enter Tryz.func255, Tryz.ntmps255
  go_wp2_with fail
  refine (HI.out _).mono ?_; rintro e1 w1 ⟨rfl, rfl⟩
  go_upto_if 11 with fail
  go_cut [0, 3] (fun m t wr => m = .int .i64 (a : Int) ∧ t = .string ⟨(if n < 0 then [45] else [] : List UInt8).toArray⟩ ∧ w = wr)
  case first =>
   have HAA := hd_ ha
   clear ha
   by_cases hneg : n < 0
   ·have hna : -n = (a : Int) := by have := HAA.out; omega
    go_wp2_with fail
    go_meet
    case rel => exact ⟨by first | rfl | rw [hna] | rw [HAA.out], by rw [if_pos hneg], rfl⟩
   ·have hna : n = (a : Int) := by have := HAA.out; omega
    go_wp2_with fail
    go_meet
    case rel => exact ⟨by first | rfl | rw [hna], by rw [if_neg (by omega)], rfl⟩
  case rest =>
   obtain ⟨rfl, rfl, rfl⟩ := hcut
   have hPl : (if n < 0 then [45] else [] : List UInt8).length ≤ 1 := by split <;> simp
   generalize (if n < 0 then [45] else [] : List UInt8) = P at *
   clear hn h0 q0 ha HI
   have hab : absT a = wholeT (a / 1000000) ++ fracT (a % 1000000) := rfl
   have hq : (a : Int) / 1000000 = ((a / 1000000 : Nat) : Int) := by omega
   have hqt : (a : Int).tdiv 1000000 = ((a / 1000000 : Nat) : Int) := (Int.ofNat_tdiv a 1000000).symm
   have hr : (a : Int) % 1000000 = ((a % 1000000 : Nat) : Int) := by omega
   have hrt : (a : Int).tmod 1000000 = ((a % 1000000 : Nat) : Int) := (Int.ofNat_tmod a 1000000).symm
   have hr6 : a % 1000000 < 1000000 := by omega
   have hq12 : a / 1000000 ≤ 999999999999 := by omega
   have hge : (1000000 ≤ a) ↔ (a / 1000000 ≠ 0) := by omega
   rw [hab] at HR
   generalize a / 1000000 = q at *
   generalize a % 1000000 = r at *
   clear hab
   have hwl : (wholeT q).length ≤ 13 := by unfold wholeT; split; exact Nat.zero_le _; exact decDigits_len 12 _ (by omega)
   go_upto_if 15 with fail
   go_cut [3] (fun t wr => t = .string ⟨(P ++ wholeT q).toArray⟩ ∧ Below w.heap.size w wr)
   case first =>
    by_cases h6 : 1000000 ≤ a
    ·have h6' : (1000000 : Int) ≤ (a : Int) := by omega
     have hwq : wholeT q = Go.Lib.decDigits q := by unfold wholeT; rw [if_neg (hge.1 h6)]
     have HF := hd_ (fun W h => formatInt_any q (by omega) W h)
     rw [← hwq] at HF
     clear hwq h6 hge
     generalize wholeT q = D at *
     generalize hdd : decide ((1000000 : Int) ≤ (a : Int)) = d
     obtain rfl : d = true := by rw [← hdd]; exact decide_eq_true h6'
     clear hdd h6'
     go_wp2_with fail
     refine (HF.out _ HT.out).mono ?_; rintro e2 w2 ⟨rfl, hb2⟩
     go_wp2_with fail
     go_meet
     case rel => exact ⟨by rw [mk_app], hb2⟩
    ·have h6' : ¬ (1000000 : Int) ≤ (a : Int) := by omega
     have HQ := hd_ (show wholeT q = [] by unfold wholeT; rw [if_pos (Decidable.not_not.1 (fun h => h6 (hge.2 h)))])
     generalize hdd : decide ((1000000 : Int) ≤ (a : Int)) = d
     obtain rfl : d = false := by rw [← hdd]; exact decide_eq_false h6'
     clear hdd h6' h6 hge
     go_wp2_with fail
     go_meet
     case rel => exact ⟨by rw [HQ.out, List.append_nil], Below.refl _ _⟩
   case rest =>
    obtain ⟨rfl, hbw⟩ := hcut
    have hTw := hd_ (HT.out.below hbw)
    have HBW := hd_ hbw
    have hbs := hbw.size
    clear hbw hge HT
    by_cases hr0 : r = 0
    ·have HRR := hd_ (show R = P ++ wholeT q by rw [HR.out, hr0, show fracT 0 = [] from if_pos rfl, List.append_nil])
     have hr0' : ¬ (0 : Int) < (r : Int) := by omega
     clear hr0 HR
     go_wp2_with fail
     go_ret
     exact ⟨by rw [HRR.out]; rfl, HBW.out⟩
    ·have hrp : (0 : Int) < (r : Int) := by omega
     have HF := hd_ (show ∀ W, TabsIn W → Calls Tryz.prog 266 #[.int .i64 (1000000 + (r : Int)), .int .i64 10] W fun e w' => e = .returned (.string ⟨(Go.Lib.decDigits (1000000 + r)).toArray⟩) ∧ Below W.heap.size W w' from fun W h => (Int.natCast_add 1000000 r) ▸ formatInt_any (1000000 + r) (by omega) W h)
     have hD7 := fracD_len hr6
     have HFD := hd_ (show fracT r = 46 :: trimZ ((Go.Lib.decDigits (1000000 + r)).drop 1) by rw [fracT_eq hr0]; rfl)
     generalize Go.Lib.decDigits (1000000 + r) = D at *
     have hd1 := bytes_drop1 D
     rw [hD7] at hd1
     have HD1 := hd_ hd1
     have HD1s := hd_ (show ((⟨D.toArray⟩ : ByteArray).extract 1 7).size ≤ 7 by have := congrArg List.length hd1; simp at this ⊢; omega)
     clear hr0 hd1
     go_wp2_with fail
     refine (HF.out _ hTw.out).mono ?_; rintro e3 w3 ⟨rfl, hb3⟩
     go_wp2_with fail
     refine (Tryz.strings_TrimRight_one _ 48 (by decide) _ ?_).mono ?_
     ·have := HD1s.out; omega
     rintro e4 w4 ⟨rfl, rfl⟩
     have HX := hd_ (show (Go.Lib.trimRightB ((⟨D.toArray⟩ : ByteArray).extract 1 7).data.toList 48) = trimZ (D.drop 1) by rw [HD1.out]; rfl)
     rw [HX.out]
     have HBX := hd_ (HBW.out.trans (hb3.mono hbs))
     clear hb3 HX HD1 HD1s HF
     have hZl := trimZ_len (D.drop 1)
     rw [List.length_drop, hD7] at hZl
     generalize trimZ (D.drop 1) = Z at *
     go_wp2_with fail
     go_ret
     exact ⟨by rw [HR.out, HFD.out, ← List.append_assoc, ← mk_app, ← mk_app1]; rfl, HBX.out⟩
theorem implIsCanon_any (s : ByteArray) (hs : s.size ≤ 65536) (w : World) (hT : TabsIn w) : Calls Tryz.prog 268 #[.string s] w fun e w' => e = .returned (.bool (canonB s.data.toList)) ∧ Below w.heap.size w w' := by
 have HT := hd_ hT; clear hT
 have HO := hd_ (fun W => numOf_any s hs W)
 have HTX := hd_ (fun W h => numText_any (numOf s.data.toList) (numOf_abs s.data.toList) W h)
 have hB : canonB s.data.toList = (numText (numOf s.data.toList) == s.toList) := by
  unfold canonB
  generalize numText (numOf s.data.toList) = A
  exact bytes_beq A s
 have HR := hd_ hB; clear hB
 generalize hQ : canonB s.data.toList = Q at *
 clear hQ
 generalize numOf s.data.toList = n at *
 go_enter Tryz.func268, Tryz.ntmps268
 go_wp2_with fail
 refine (HO.out _).mono ?_; rintro e1 w1 ⟨rfl, hb1⟩
 have HB1 := hd_ hb1; clear hb1
 go_wp2_with fail
 refine (HTX.out _ (HT.out.below HB1.out)).mono ?_; rintro e1 w1 ⟨rfl, hb1⟩
 have HB2 := hd_ (HB1.out.trans (hb1.mono HB1.out.size)); clear hb1
 go_wp2_with fail
 go_ret
 exact ⟨by rw [HR.out]; rfl, HB2.out⟩
end Go.Proofs.YtnnabkldceklmaaGreatDoor
/- From the walk of a law to its row: a law that returns true and leaves what was there as it was. -/
namespace Go.Proofs.YtnnabkldceklmaaGreatDoor
open Go.ChangeShapes Go.WideShapes Go.ChangeAt Go.RowKit
theorem own_knob : ownKnob Tryz.prog.godebug = none := by kernel_rfl
theorem laid_out : laidOutB Tryz.prog = true := by kernel_rfl
theorem trodAll_below {H : Type} {enc : TypeId × Value → H} {P : Program} (hl : laidOutB P = true) {W W' : World} (hb : Below W.heap.size W W') :
  ∀ (ts : List TypeId) (vs : List Value) (ds : List (DataW H)) (ps : List MemPlace), (∀ t ∈ ts, P.readableRec t = true ∧ t < P.types.size) → (∀ x ∈ ps, x.block < W.heap.size) →
  DataW.TrodAll enc P W 0 (fun _ => true) true ts vs ds ps → DataW.TrodAll enc P W' 0 (fun b => decide (b < W.heap.size)) true ts vs ds ps
 | [], [], [], _, _, _, h => h
 | t :: ts, v :: vs, d :: ds, ps, hr, hlt, h => by
  obtain ⟨p, q, h1, h2, rfl⟩ := h
  exact ⟨p, q, Below.trod hl (hr t (by simp)).1 (hr t (by simp)).2 h1 hb (fun x hx => hlt x (by simp [hx])),
   trodAll_below hl hb ts vs ds q (fun t ht => hr t (by simp [ht])) (fun x hx => hlt x (by simp [hx])) h2, rfl⟩
 | [], [], _ :: _, _, _, _, h => h.elim
 | [], _ :: _, _, _, _, _, h => h.elim
 | _ :: _, [], _, _, _, _, h => h.elim
 | _ :: _, _ :: _, [], _, _, _, h => h.elim
theorem law_post {H : Type} {enc : TypeId × Value → H} {P : Program} {f : Func} {s : ChangeSpec} {W W' : World} {args : Array Value} {ds gs : List (DataW H)} {before : List MemPlace} {tb : TypeId}
  (hvars : s.vars = []) (hW : DataW.Whole enc P f.params.toList s.vars false W args.toList ds gs before)
  (hfn : s.fn H (ds ++ gs) = { results := [.lit (.bool true)], args := ds }) (hl : laidOutB P = true) (hr : ∀ t ∈ f.params.toList, P.readableRec t = true ∧ t < P.types.size)
  (hrt : f.resultTypes = #[tb]) (htb : P.underlying tb = some .bool) (hb : Below W.heap.size W W') :
  s.post enc P f false true false false W args (.bool true) W' := by
 have hW' := hW
 have hlt : ∀ p ∈ before, p.block < W.heap.size := fun p hp => hW.lt p hp
 obtain ⟨p, q, hA, hV, rfl, hfz, hnd⟩ := hW
 rw [hvars] at hV
 obtain ⟨rfl, rfl⟩ := trodVars_none hV
 refine ⟨ds, [], p ++ [], [], p, [], hW', ?_, ?_, ?_, hb.frame _, fun h => by cases h⟩
 ·rw [hfn, hrt]
  exact trodAll_cons_mk (shut_bool htb _) trodAll_mk0
 ·rw [hfn]
  exact trodAll_below hl hb _ _ _ _ hr (fun x hx => hlt x (by simp [hx])) hA
 ·rw [hfn, hvars]; rfl
end Go.Proofs.YtnnabkldceklmaaGreatDoor
/- From the row's reading of an argument to the words of Mem: texts, lists of texts, lists of numbers, structs. -/
namespace Go.Proofs.YtnnabkldceklmaaGreatDoor
open Go.ChangeShapes Go.WideShapes Go.ChangeAt Go.RowKit
theorem block_of_cell {w : World} {a : Addr} {v : Value} (h : w.cell? a = some v) : a.block < w.heap.size ∧ a.spot = none := by
 unfold World.cell? at h
 split at h
 ·rename_i c t f heq
  constructor
  ·rcases Nat.lt_or_ge a.block w.heap.size with hlt | hge
   ·exact hlt
   ·rw [Array.getElem?_eq_none hge] at heq; cases heq
  ·split at h
   ·cases h
   ·rename_i hs; simpa using hs
 ·cases h
section
variable {H : Type} {enc : TypeId × Value → H} {P : Program} {w : World} {base : Nat} {held : Bool}
theorem open_str {t : TypeId} {fuel : Nat} {cs : List Value} {x : DataW H × List MemPlace} (ht : P.underlying t = some .string) (h : DataW.trod enc P w base (fun _ => true) held fuel t cs = some x) :
  ∃ s : ByteArray, cs = [.string s] ∧ s.size ≤ 9223372036854775807 := by
 obtain ⟨s, h1, _, h2⟩ := DataW.trod_string ht h
 exact ⟨s, h1, by unfold maxLen at h2; exact h2⟩
theorem open_i64 {t : TypeId} {fuel : Nat} {cs : List Value} {x : DataW H × List MemPlace} (ht : P.underlying t = some (.int .i64)) (h : DataW.trod enc P w base (fun _ => true) held fuel t cs = some x) :
  ∃ n : Int, cs = [.int .i64 n] ∧ -9223372036854775808 ≤ n ∧ n ≤ 9223372036854775807 := by
 obtain ⟨n, h1, _, h2⟩ := DataW.trod_int ht h
 refine ⟨n, h1, ?_⟩
 simp [Lit.wf, IntKind.min, IntKind.max, IntKind.signed, IntKind.bits] at h2
 exact ⟨by omega, by omega⟩
end
end Go.Proofs.YtnnabkldceklmaaGreatDoor
/- A field of a struct that came in; how many cells the plain types have. -/
namespace Go.Proofs.YtnnabkldceklmaaGreatDoor
open Go.ChangeShapes Go.WideShapes Go.ChangeAt Go.RowKit
theorem field_of {H : Type} {enc : TypeId × Value → H} {P : Program} {w : World} {base : Nat} {spare : Nat → Bool} {held : Bool} {n : Nat} {cs : List Value} {xs : List (DataW H × List MemPlace)} {fs : Array Field} {l : List (TypeId × Nat)}
  (hl : fs.toList.map (fun f => (f.type, f.offset)) = l) (hx : xs.length = fs.size)
  (hg : ∀ (i : Nat) (f : Field), fs[i]? = some f → DataW.trod enc P w base spare held n f.type ((cs.drop f.offset).take (P.cellsOf f.type)) = xs[i]?) (i : Nat) (t : TypeId) (o : Nat) (hi : l[i]? = some (t, o)) :
  ∃ y, DataW.trod enc P w base spare held n t ((cs.drop o).take (P.cellsOf t)) = some y := by
 rw [← hl, List.getElem?_map] at hi
 cases hf : fs.toList[i]? with
 | none => rw [hf] at hi; cases hi
 | some f =>
  rw [hf] at hi
  simp only [Option.map_some, Option.some.injEq, Prod.mk.injEq] at hi
  obtain ⟨rfl, rfl⟩ := hi
  have hf' : fs[i]? = some f := by rw [← hf, Array.getElem?_toList]
  have := hg i f hf'
  have hlt : i < xs.length := by
   rw [hx]
   rcases Nat.lt_or_ge i fs.size with h | h
   ·exact h
   ·rw [Array.getElem?_eq_none h] at hf'; cases hf'
  exact ⟨_, this.trans (List.getElem?_eq_getElem hlt)⟩
end Go.Proofs.YtnnabkldceklmaaGreatDoor
/- What a tied card's list of tables gives: the table that strconv reads; what package bytealg holds. -/
namespace Go.Proofs.YtnnabkldceklmaaGreatDoor
open Go.ChangeShapes Go.WideShapes Go.ChangeAt Go.RowKit
theorem tabIs_of_reads {P : Program} {W : World} {name : String} {k : IntKind} {zs : List Int} {g : Nat} {t e : TypeId} {n : Nat}
  (hg : P.globalNamed name = some g) (hty : (P.globals[g]?).map (·.type) = some t) (ht : P.underlying t = some (.array n e)) (he : P.underlying e = some (.int k)) (hce : P.cellsOf e = 1) (hct : P.cellsOf t = n)
  (h : Lib.VarReads P W name (Lib.tabData k zs)) : Lib.TabIs P W name k zs := by
 obtain ⟨g', t', cs, fuel, p, hg', ht', hvar, hd⟩ := h
 obtain rfl := Option.some.inj (hg.symm.trans hg')
 obtain rfl := Option.some.inj (hty.symm.trans ht')
 unfold Lib.TabIs
 rw [hvar, ← Lib.cells_of_tab ht he hce hct hd]
theorem pow10_data : (Rows.laid_internal_strconv_uint64pow10 : DataW Unit) = Lib.tabData .u64 Lib.pow10Tab := by kernel_rfl
theorem tabsIn_of {L : List (String × DataW Unit)} {W : World} (hp : laidMetH Tryz.prog L W ↔ laidMet Tryz.prog L W) (hm : ("internal/strconv.uint64pow10", Rows.laid_internal_strconv_uint64pow10) ∈ L) (h : laidMetH Tryz.prog L W) : TabsIn W := by
 have h' := hp.1 h
 exact tabIs_of_reads (g := 1) (t := 291) (e := 253) (n := 20) (by kernel_rfl) (by kernel_rfl) Tryz.underlying291 Tryz.underlying253 (by kernel_rfl) (by kernel_rfl)
  (by have := Lib.laidMet.reads h' hm; rw [pow10_data] at this; exact this)
theorem maxLen_of {W : World} (h : W.ShapedOpen Tryz.prog) : ∃ m, W.cell? ⟨0, 0, none⟩ = some (.int .i64 m) :=
 cell_of_shapedOpen_int (t := 3) (zero := #[.int .i64 0]) h (of_decide_eq_true (by kernel_rfl)) (by kernel_rfl) rfl (by kernel_rfl) (by kernel_rfl) Tryz.underlying3
end Go.Proofs.YtnnabkldceklmaaGreatDoor
