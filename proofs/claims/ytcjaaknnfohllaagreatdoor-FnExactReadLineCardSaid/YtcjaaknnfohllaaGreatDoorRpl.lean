/- ReadPlain of both walked; that they say the same. -/
import Derived.Test.YtcjaaknnfohllaaGreatDoorScnJ
import Derived.Test.YtcjaaknnfohllaaGreatDoorFrmP
import Derived.Test.YtcjaaknnfohllaaGreatDoorNodS
namespace Go.Proofs.YtcjaaknnfohllaaGreatDoor
open Go.RowKit

theorem formP_ge (l : List UInt8) : l.length ≤ (formP l).length := by
  by_cases h : l = []
  · subst h; exact Nat.zero_le _
  · rcases formP_first l h with e | e
    · rw [e]
      have : ∀ m : List UInt8, m.length ≤ (doubled m).length := by
        intro m
        induction m with
        | nil => exact Nat.le_refl _
        | cons c m ihm =>
          unfold doubled at ihm ⊢
          rw [List.flatMap_cons, List.length_append, List.length_cons]
          have : 1 ≤ (if c = 34 then [34, 34] else [c] : List UInt8).length := by split <;> simp
          omega
      have := this l
      simp only [List.length_cons, List.length_append, List.length_nil]; omega
    · rw [e]
      have := codesTo_pos l
      simp only [List.length_cons, List.length_append, List.length_nil]; omega
theorem moreP_ge : ∀ (n : Nat) (l : List UInt8) (k : Nat), l.length ≤ n → l.length ≤ k → l.length ≤ (moreP k l).length
  | 0, l, k, h, _ => by omega
  | n + 1, l, k, hn, hk => by
    by_cases hl : l = []
    · subst hl; exact Nat.zero_le _
    · have h1 := runRest_len l hl
      have h2 := congrArg List.length (runs_split l hl)
      have h3 := moreP_ge n (runRest l) k (by omega) (by omega)
      have h4 := formP_ge (runOf l)
      rw [moreP_step k l hl hk, List.length_cons, List.length_append]
      rw [List.length_append] at h2
      omega
theorem plainP_ge (u : List UInt8) : u.length ≤ (plainP u).length := by
  cases hc : canonB u
  · by_cases h0 : u = []
    · subst h0; exact Nat.zero_le _
    · have h1 := runRest_len u h0
      have h2 := congrArg List.length (runs_split u h0)
      have h3 := moreP_ge u.length (runRest u) u.length (by omega) (by omega)
      have h4 := formP_ge (runOf u)
      rw [plainP_runs hc h0, List.length_append]
      rw [List.length_append] at h2
      omega
  · unfold plainP; rw [hc]; exact Nat.le_refl _
theorem plainP_ne (u : List UInt8) : plainP u ≠ [] := by
  intro e
  have h := plainP_ge u
  rw [e] at h
  obtain rfl := List.eq_nil_of_length_eq_zero (Nat.le_zero.1 h)
  unfold plainP at e
  rw [canonB_nil] at e
  cases e

def plainS (s : List UInt8) : List UInt8 := if 64 < s.length then [] else plainP s
/-- What both read. -/
def rdS (T : List UInt8) : List UInt8 × Bool := if 60000 < T.length then ([], false) else if plainS (tS (T.length + 1) T).1 = T ∧ T ≠ [] then ((tS (T.length + 1) T).1, true) else ([], false)
def rdI (T : List UInt8) : List UInt8 × Bool := if ¬ 64 < (sI T).1.length ∧ plainP (sI T).1 = T then ((sI T).1, true) else ([], false)
theorem rd_same (T : List UInt8) : rdS T = rdI T := by
  by_cases h : ∃ u : List UInt8, u.length ≤ 64 ∧ plainP u = T
  · obtain ⟨u, hu, hT⟩ := h
    have hne : T ≠ [] := by rw [← hT]; exact plainP_ne u
    have hl : T.length ≤ 9 * u.length + 2 := by rw [← hT]; exact plainP_len u
    have hg : u.length ≤ T.length := by rw [← hT]; exact plainP_ge u
    have ht : tS (T.length + 1) T = (u, []) := by
      have := tS_plain u [] (T.length + 1) (by omega) (fun r e => by cases e) (fun r e => by cases e) (fun c r e => by cases e)
      rw [List.append_nil, hT] at this
      exact this
    have hs : sI T = (u, []) := by
      have := sI_plain u [] (fun r e => by cases e) (fun r e => by cases e) (fun c r e => by cases e)
      rw [List.append_nil, hT] at this
      exact this
    unfold rdS rdI plainS
    rw [ht, hs]
    dsimp only
    rw [if_neg (by omega), if_neg (show ¬ 64 < u.length by omega), if_pos ⟨hT, hne⟩, if_pos ⟨by omega, hT⟩]
  · have e1 : rdS T = ([], false) := by
      unfold rdS
      split
      · rfl
      · rw [if_neg]
        rintro ⟨h1, h2⟩
        unfold plainS at h1
        split at h1
        · exact h2 h1.symm
        · rename_i h3; exact h ⟨_, by omega, h1⟩
    have e2 : rdI T = ([], false) := by
      unfold rdI
      rw [if_neg]
      rintro ⟨h1, h2⟩
      exact h ⟨_, by omega, h2⟩
    rw [e1, e2]
theorem bytes_eq (A : List UInt8) (T : ByteArray) : ((⟨A.toArray⟩ : ByteArray).toList == T.toList) = decide (A = T.data.toList) := by
  rw [Bool.eq_iff_iff, beq_iff_eq, decide_eq_true_iff, ByteArray.toList_eq, ByteArray.toList_eq]

set_option maxHeartbeats 4000000 in
set_option maxRecDepth 100000 in
theorem specReadPlain_any (T : ByteArray) (w : World) :
    Calls Tryz.prog 212 #[.string T] w fun e w' => e = .returned (.tuple #[.string ⟨(rdS T.data.toList).1.toArray⟩, .bool (rdS T.data.toList).2]) ∧ Below w.heap.size w w' := by
  by_cases hbig : 60000 < T.size
  · have hR := Lib.hid (show rdS T.data.toList = ([], false) by unfold rdS; rw [if_pos (by rw [len_list]; exact hbig)])
    rw [hR.out]
    have i1 : (60000 : Int) < (T.size : Int) := by omega
    go_enter Tryz.func212, Tryz.ntmps212
    go_wp2_with fail
    go_ret2
    exact ⟨rfl, Below.refl _ _⟩
  · have i1 : ¬ (60000 : Int) < (T.size : Int) := by omega
    have hR := Lib.hid (show rdS T.data.toList = if plainS (tS (T.size + 1) T.data.toList).1 = T.data.toList ∧ T.data.toList ≠ [] then ((tS (T.size + 1) T.data.toList).1, true) else ([], false) by unfold rdS; rw [len_list, if_neg hbig])
    generalize rdS T.data.toList = Q at *
    have BX := Blk.new w 66 #[.string T, .int .i64 ((0 : Nat) : Int)]
    have HB0 := Lib.hid ((Below.refl w.heap.size w).alloc (Nat.le_refl _) (.cells #[.string T, .int .i64 ((0 : Nat) : Int)] 66))
    have htx := textS_any w.heap.size T 0 (T.size + 1) (Nat.zero_le _) (by omega) (by omega) _ BX
    rw [List.drop_zero] at htx
    have HTX := Lib.hid htx
    clear htx BX
    generalize (tS (T.size + 1) T.data.toList).1 = s at *
    have HPT := Lib.hid (fun W => specPlainText_any ⟨s.toArray⟩ W)
    have hsz : (⟨s.toArray⟩ : ByteArray).size = s.length := List.size_toArray
    have HPS := Lib.hid (show (if 64 < (⟨s.toArray⟩ : ByteArray).size then [] else plainP (⟨s.toArray⟩ : ByteArray).data.toList) = plainS s by unfold plainS; rw [hsz])
    rw [HPS.out] at HPT
    have HEQ := Lib.hid (bytes_eq (plainS s) T)
    generalize plainS s = P at *
    clear hsz HPS
    by_cases hp : P = T.data.toList
    · have hq : ((⟨P.toArray⟩ : ByteArray).toList == T.toList) = true := by rw [HEQ.out, decide_eq_true hp]
      by_cases h0 : T.size = 0
      · have he : T.toList.isEmpty = true := by
          rw [ByteArray.toList_eq, show T.data.toList = [] from List.eq_nil_of_length_eq_zero (by rw [len_list]; exact h0)]; rfl
        have HF := Lib.hid (show Q = ([], false) by rw [hR.out, if_neg (fun h => h.2 (List.eq_nil_of_length_eq_zero (by rw [len_list]; exact h0)))])
        have HH := Lib.hid hp; have HZ := Lib.hid h0
        clear hp h0
        generalize (⟨P.toArray⟩ : ByteArray) = PB at *
        go_enter Tryz.func212, Tryz.ntmps212
        go_wp2_with fail
        refine HTX.out.mono ?_; rintro e1 w1 ⟨rfl, _, hw1, _⟩
        have HB1 := Lib.hid (HB0.out.trans (hw1.below (by simp)))
        clear hw1
        go_wp2_with fail
        refine (HPT.out _).mono ?_; rintro e2 w2 ⟨rfl, hb2⟩
        go_wp2_with fail
        go_ret2
        exact ⟨by rw [HF.out]; rfl, HB1.out.trans (hb2.mono HB1.out.size)⟩
      · have he := bytes_full T h0
        have HF := Lib.hid (show Q = (s, true) by rw [hR.out, if_pos ⟨hp, fun e => h0 (by rw [← len_list, e]; rfl)⟩])
        have HH := Lib.hid hp; have HZ := Lib.hid h0
        clear hp h0
        generalize (⟨P.toArray⟩ : ByteArray) = PB at *
        go_enter Tryz.func212, Tryz.ntmps212
        go_wp2_with fail
        refine HTX.out.mono ?_; rintro e1 w1 ⟨rfl, _, hw1, _⟩
        have HB1 := Lib.hid (HB0.out.trans (hw1.below (by simp)))
        clear hw1
        go_wp2_with fail
        refine (HPT.out _).mono ?_; rintro e2 w2 ⟨rfl, hb2⟩
        go_wp2_with fail
        go_ret2
        exact ⟨by rw [HF.out]; rfl, HB1.out.trans (hb2.mono HB1.out.size)⟩
    · have hq : ((⟨P.toArray⟩ : ByteArray).toList == T.toList) = false := by rw [HEQ.out, decide_eq_false hp]
      have HF := Lib.hid (show Q = ([], false) by rw [hR.out, if_neg (fun h => hp h.1)])
      have HH := Lib.hid hp
      clear hp
      generalize (⟨P.toArray⟩ : ByteArray) = PB at *
      go_enter Tryz.func212, Tryz.ntmps212
      go_wp2_with fail
      refine HTX.out.mono ?_; rintro e1 w1 ⟨rfl, _, hw1, _⟩
      have HB1 := Lib.hid (HB0.out.trans (hw1.below (by simp)))
      clear hw1
      go_wp2_with fail
      refine (HPT.out _).mono ?_; rintro e2 w2 ⟨rfl, hb2⟩
      go_wp2_with fail
      go_ret2
      exact ⟨by rw [HF.out]; rfl, HB1.out.trans (hb2.mono HB1.out.size)⟩

set_option maxHeartbeats 4000000 in
set_option maxRecDepth 100000 in
theorem implReadPlain_any (T : ByteArray) (hT : T.size ≤ 1048576) (w : World) (hE : EnvR w) :
    Calls Tryz.prog 213 #[.string T] w fun e w' => e = .returned (.tuple #[.string ⟨(rdI T.data.toList).1.toArray⟩, .bool (rdI T.data.toList).2]) ∧ Below w.heap.size w w' := by
  have HS := Lib.hid (scanPlain_any T hT w hE)
  have hR := Lib.hid (show rdI T.data.toList = if ¬ 64 < (sI T.data.toList).1.length ∧ plainP (sI T.data.toList).1 = T.data.toList then ((sI T.data.toList).1, true) else ([], false) from rfl)
  generalize rdI T.data.toList = Q at *
  have HE := Lib.hid hE
  clear hE
  generalize (sI T.data.toList).1 = s at *
  generalize (sI T.data.toList).2 = z at *
  have HL := Lib.hid (fun b c W h => long_one b ⟨s.toArray⟩ c W h)
  have hsz : (⟨s.toArray⟩ : ByteArray).size = s.length := List.size_toArray
  by_cases h64 : 64 < s.length
  · have hd : decide (64 < (⟨s.toArray⟩ : ByteArray).size) = true := decide_eq_true (by omega)
    rw [hd] at HL
    have HF := Lib.hid (show Q = ([], false) by rw [hR.out, if_neg (fun h => h.1 h64)])
    clear hd hsz
    go_enter Tryz.func213, Tryz.ntmps213
    go_wp2_with fail
    refine HS.out.mono ?_; rintro e1 w1 ⟨rfl, hb1, _⟩
    have HB1 := Lib.hid hb1
    have HBA := Lib.hid ((Below.refl w1.heap.size w1).alloc (Nat.le_refl _) (.cells #[.string ⟨s.toArray⟩] 9))
    clear hb1
    go_wp2_with fail
    refine (HL.out _ _ _ (cell_of_row _ _ _ _ _ _ (heap_alloc_new _ _))).mono ?_
    rintro e2 w2 ⟨rfl, q, rfl⟩
    go_wp2_with fail
    go_ret2
    exact ⟨by rw [HF.out]; rfl, HB1.out.trans ((HBA.out.trans ((below_drewN' _ q).mono HBA.out.size)).mono HB1.out.size)⟩
  · have hd : decide (64 < (⟨s.toArray⟩ : ByteArray).size) = false := decide_eq_false (by omega)
    rw [hd] at HL
    have HP := Lib.hid (fun W h => plain_any ⟨s.toArray⟩ (by omega) W h)
    have HEQ := Lib.hid (bytes_eq (plainP s) T)
    have HPX := Lib.hid (show plainP (⟨s.toArray⟩ : ByteArray).data.toList = plainP s from rfl)
    rw [HPX.out] at HP
    have HQ := Lib.hid (show Q = if plainP s = T.data.toList then (s, true) else ([], false) by
      rw [hR.out]
      by_cases h : plainP s = T.data.toList
      · rw [if_pos ⟨h64, h⟩, if_pos h]
      · rw [if_neg (fun k => h k.2), if_neg h])
    generalize plainP s = P at *
    clear hd HPX hR
    by_cases hp : P = T.data.toList
    · have hq : ((⟨P.toArray⟩ : ByteArray).toList == T.toList) = true := by rw [HEQ.out, decide_eq_true hp]
      have HF := Lib.hid (show Q = (s, true) by rw [HQ.out, if_pos hp])
      have HH := Lib.hid hp
      clear hp hsz
      generalize (⟨P.toArray⟩ : ByteArray) = PB at *
      go_enter Tryz.func213, Tryz.ntmps213
      go_wp2_with fail
      refine HS.out.mono ?_; rintro e1 w1 ⟨rfl, hb1, _⟩
      have HB1 := Lib.hid hb1
      have HBA := Lib.hid ((Below.refl w1.heap.size w1).alloc (Nat.le_refl _) (.cells #[.string ⟨s.toArray⟩] 9))
      clear hb1
      go_wp2_with fail
      refine (HL.out _ _ _ (cell_of_row _ _ _ _ _ _ (heap_alloc_new _ _))).mono ?_
      rintro e2 w2 ⟨rfl, q, rfl⟩
      have HB2 := Lib.hid (HB1.out.trans ((HBA.out.trans ((below_drewN' _ q).mono HBA.out.size)).mono HB1.out.size))
      go_wp2_with fail
      refine (HP.out _ (HE.out.1.below HB2.out)).mono ?_; rintro e3 w3 ⟨rfl, hb3⟩
      go_wp2_with fail
      go_ret2
      exact ⟨by rw [HF.out]; rfl, HB2.out.trans (hb3.mono HB2.out.size)⟩
    · have hq : ((⟨P.toArray⟩ : ByteArray).toList == T.toList) = false := by rw [HEQ.out, decide_eq_false hp]
      have HF := Lib.hid (show Q = ([], false) by rw [HQ.out, if_neg hp])
      have HH := Lib.hid hp
      clear hp hsz
      generalize (⟨P.toArray⟩ : ByteArray) = PB at *
      go_enter Tryz.func213, Tryz.ntmps213
      go_wp2_with fail
      refine HS.out.mono ?_; rintro e1 w1 ⟨rfl, hb1, _⟩
      have HB1 := Lib.hid hb1
      have HBA := Lib.hid ((Below.refl w1.heap.size w1).alloc (Nat.le_refl _) (.cells #[.string ⟨s.toArray⟩] 9))
      clear hb1
      go_wp2_with fail
      refine (HL.out _ _ _ (cell_of_row _ _ _ _ _ _ (heap_alloc_new _ _))).mono ?_
      rintro e2 w2 ⟨rfl, q, rfl⟩
      have HB2 := Lib.hid (HB1.out.trans ((HBA.out.trans ((below_drewN' _ q).mono HBA.out.size)).mono HB1.out.size))
      go_wp2_with fail
      refine (HP.out _ (HE.out.1.below HB2.out)).mono ?_; rintro e3 w3 ⟨rfl, hb3⟩
      go_wp2_with fail
      go_ret2
      exact ⟨by rw [HF.out]; rfl, HB2.out.trans (hb3.mono HB2.out.size)⟩
end Go.Proofs.YtcjaaknnfohllaaGreatDoor
