/- The reference's line of a node. -/
import Derived.Test.YtfibjcaidnofmaaGreatDoorJoinITAh
import Derived.Test.YtfibjcaidnofmaaGreatDoorJoinITAo
import Derived.Test.YtfibjcaidnofmaaGreatDoorJoinITAu
import Derived.Test.YtfibjcaidnofmaaGreatDoorJoinITBd
import Derived.Test.YtfibjcaidnofmaaGreatDoorJoinITAz
namespace Go.Proofs.YtfibjcaidnofmaaGreatDoor
open Go.RowKit

theorem moreP_len : ∀ (n k : Nat) (l : List UInt8), l.length ≤ n → l.length ≤ k → (moreP k l).length ≤ 9 * l.length
  | 0, k, l, hn, _ => by
    obtain rfl := List.eq_nil_of_length_eq_zero (Nat.le_zero.1 hn)
    rw [moreP_nil]; exact Nat.zero_le _
  | n + 1, k, l, hn, hk => by
    by_cases h : l = []
    · subst h; rw [moreP_nil]; exact Nat.zero_le _
    · have h1 := runRest_len l h
      have h2 := congrArg List.length (runs_split l h)
      rw [List.length_append] at h2
      have h3 := formP_len (runOf l)
      have h4 := moreP_len n k (runRest l) (by omega) (by omega)
      rw [moreP_step k l h hk, List.length_cons, List.length_append]
      omega
theorem plainP_len (l : List UInt8) : (plainP l).length ≤ 9 * l.length + 2 := by
  cases hc : canonB l
  · by_cases h : l = []
    · subst h
      unfold plainP
      rw [hc]
      exact Nat.le_refl _
    · have h1 := runRest_len l h
      have h2 := congrArg List.length (runs_split l h)
      rw [List.length_append] at h2
      have h3 := formP_len (runOf l)
      have h4 := moreP_len l.length l.length (runRest l) (by omega) (by omega)
      rw [plainP_runs hc h, List.length_append]
      omega
  · unfold plainP
    rw [hc, if_pos rfl]
    omega

def joinT (l : List ByteArray) : List UInt8 := Lib.join (l.map fun s => plainP s.data.toList) [44]
def subsT (l : List ByteArray) : List UInt8 := if l = [] then [] else 40 :: (joinT l ++ [41])
def lineT (x : Nod) : List UInt8 := 94 :: (x.name.data.toList ++ (subsT x.subs ++ 61 :: plainP x.value.data.toList))
def nodeLineP (x : Nod) : List UInt8 := if nodB x then lineT x else []
/-- What stands ahead of the subscript k. -/
def preT (x : Nod) (k : Nat) : List UInt8 := 94 :: (x.name.data.toList ++ (if k = 0 then [] else 40 :: joinT (x.subs.take k)))
theorem txt_cons (c : UInt8) (s : ByteArray) : ((⟨#[c]⟩ : ByteArray) ++ s) = ⟨(c :: s.data.toList).toArray⟩ := by
  have := mk_app1 c s.data.toList
  rw [Array.toArray_toList] at this
  exact this
theorem preT_zero (x : Nod) : preT x 0 = 94 :: x.name.data.toList := by unfold preT; rw [if_pos rfl, List.append_nil]
theorem preT_one (x : Nod) (h : 0 < x.subs.length) : preT x 1 = preT x 0 ++ [40] ++ plainP (x.subs.getD 0 ByteArray.empty).data.toList := by
  rw [preT_zero]
  unfold preT
  rw [if_neg (by omega), List.take_succ_eq_append_getElem h, List.getD_eq_getElem?_getD, List.getElem?_eq_getElem h]
  show 94 :: (_ ++ 40 :: joinT ([] ++ [_])) = _
  unfold joinT
  rw [List.nil_append, List.map_cons, List.map_nil, join_one]
  simp
theorem preT_more (x : Nod) (k : Nat) (h : k < x.subs.length) (h0 : k ≠ 0) : preT x (k + 1) = preT x k ++ [44] ++ plainP (x.subs.getD k ByteArray.empty).data.toList := by
  unfold preT
  rw [if_neg (by omega), if_neg h0, List.take_succ_eq_append_getElem h, List.getD_eq_getElem?_getD, List.getElem?_eq_getElem h]
  unfold joinT
  rw [List.map_append, List.map_cons, List.map_nil, join_snoc _ _ _ (by intro e; have := congrArg List.length e; rw [List.length_map, List.length_take, List.length_nil, Nat.min_eq_left (by omega)] at this; omega)]
  simp
theorem lineT_pre (x : Nod) : lineT x = preT x x.subs.length ++ (if x.subs.length = 0 then [] else [41]) ++ [61] ++ plainP x.value.data.toList := by
  unfold lineT subsT preT
  by_cases h : x.subs = []
  · rw [h]; simp
  · have h0 : x.subs.length ≠ 0 := fun e => h (List.eq_nil_of_length_eq_zero e)
    rw [if_neg h, if_neg h0, if_neg h0, List.take_length]
    simp
theorem nodB_facts {x : Nod} (h : nodB x = true) : x.name.size ≤ 8 ∧ x.subs.length ≤ 4 ∧ (∀ y ∈ x.subs, y.size ≤ 24) ∧ x.value.size ≤ 64 := by
  unfold nodB subsB at h
  simp only [Bool.and_eq_true, decide_eq_true_eq] at h
  obtain ⟨⟨h1, h2, h3⟩, h4⟩ := h
  refine ⟨?_, h2, fun y hy => ?_, h4⟩
  · unfold nameB at h1
    simp only [Bool.and_eq_true, decide_eq_true_eq] at h1
    exact h1.1.2
  · have := (List.all_eq_true.1 h3) y hy
    unfold subB at this
    simp only [Bool.and_eq_true, decide_eq_true_eq] at this
    exact this.2
theorem getD_mem' {α : Type} {fs : List α} {d : α} {k : Nat} (h : k < fs.length) : fs.getD k d ∈ fs := by
  rw [List.getD_eq_getElem?_getD, List.getElem?_eq_getElem h]
  exact List.getElem_mem _
theorem preT_len (x : Nod) (hb : nodB x = true) : ∀ k, k ≤ x.subs.length → (preT x k).length ≤ 9 + 300 * k
  | 0, _ => by
    have := (nodB_facts hb).1
    rw [preT_zero, List.length_cons, len_list]; omega
  | k + 1, hk => by
    have h1 := preT_len x hb k (by omega)
    have h2 := (nodB_facts hb).2.2.1 _ (getD_mem' (d := ByteArray.empty) (show k < x.subs.length by omega))
    have h3 := plainP_len (x.subs.getD k ByteArray.empty).data.toList
    rw [len_list] at h3
    by_cases h0 : k = 0
    · subst h0
      rw [preT_one x (by omega), List.length_append, List.length_append, List.length_cons, List.length_nil]; omega
    · rw [preT_more x k (by omega) h0, List.length_append, List.length_append, List.length_cons, List.length_nil]; omega

set_option maxHeartbeats 4000000 in
set_option maxRecDepth 100000 in
theorem specNodeLine_any (x : Nod) (v : Value) (lo hi : Nat) (w : World) (hx : NodR w lo hi v x) (hhi : hi ≤ w.heap.size) (hs : NodSmall x) :
    Calls Tryz.prog 38 #[v] w fun e w' => e = .returned (.string ⟨(nodeLineP x).toArray⟩) ∧ Below w.heap.size w w' := by
  obtain ⟨A, c, rfl, hA⟩ := hx
  have hbo := (Below.refl w.heap.size w).alloc (Nat.le_refl _) (.cells #[.string x.name, .slice A x.subs.length c, .string x.value] 32)
  have hsz : (w.alloc (.cells #[.string x.name, .slice A x.subs.length c, .string x.value] 32)).heap.size = w.heap.size + 1 := by simp
  have HC := Lib.hid (l03Node_any x (.agg #[.string x.name, .slice A x.subs.length c, .string x.value]) lo hi _ ⟨A, c, rfl, hA.below hbo hhi⟩ (Nat.le_trans hhi (by omega)) hs)
  have HBK := Lib.hid (Blk.new w 32 #[.string x.name, .slice A x.subs.length c, .string x.value])
  have HA := Lib.hid (hA.below hbo hhi)
  have HD := Lib.hid hbo
  obtain ⟨hs1, hs2, hs3, _⟩ := hs
  clear hA hbo
  cases hB : nodB x
  · rw [hB] at HC
    have HR := Lib.hid (show nodeLineP x = [] by unfold nodeLineP; rw [hB]; rfl)
    rw [HR.out]
    clear hB
    go_enter Tryz.func38, Tryz.ntmps38
    go_wp2_with fail
    refine HC.out.mono ?_; rintro e1 w1 ⟨rfl, hb1⟩
    go_wp2_with fail
    go_ret
    exact ⟨rfl, HD.out.trans (hb1.mono HD.out.size)⟩
  · rw [hB] at HC
    have hR : nodeLineP x = lineT x := by unfold nodeLineP; rw [hB]; rfl
    have HR := Lib.hid (hR.trans (lineT_pre x))
    clear hR
    obtain ⟨f1, f2, f3, f4⟩ := nodB_facts hB
    have HF3 := Lib.hid f3
    have HL := Lib.hid (preT_len x hB)
    have HP0 := Lib.hid (preT_zero x)
    have HPV := Lib.hid (fun W => l22Plain_any x.value (by omega) W)
    have hpv := plainP_len x.value.data.toList
    rw [len_list] at hpv
    clear hB f3
    generalize plainP x.value.data.toList = V at *
    go_enter Tryz.func38, Tryz.ntmps38
    go_wp2_with fail
    refine HC.out.mono ?_; rintro e1 w1 ⟨rfl, hb1⟩
    have hsz1 := hb1.size
    have B1 := HBK.out.below hb1 (by omega)
    have c1 := B1.cell
    have HB1 := Lib.hid B1
    have HBL := Lib.hid (HD.out.trans (hb1.mono HD.out.size))
    have HA1 := Lib.hid (HA.out.below hb1 (by omega))
    clear hb1 B1 HC HBK HA
    generalize w.alloc (.cells #[.string x.name, .slice A x.subs.length c, .string x.value] 32) = w0 at *
    go_wp2_with fail
    go_loopw [3, 4] (fun t i wr => ∃ k : Nat, k ≤ x.subs.length ∧ i = .int .i64 k ∧ t = .string ⟨(preT x k).toArray⟩ ∧ Below w1.heap.size w1 wr) (fun _ i _ => x.subs.length - (intOf i).toNat)
    case atStart => exact ⟨0, Nat.zero_le _, rfl, by rw [HP0.out, ← txt_cons], Below.refl _ _⟩
    case round =>
      obtain ⟨k, hk, rfl, rfl, hbr⟩ := hrel
      have hlk := HL.out k hk
      have hszr := hbr.size
      have B2 := HB1.out.below hbr (by omega)
      have c2 := B2.cell
      have HBR := Lib.hid hbr
      have hAr := HA1.out.below hbr (by omega)
      clear B2 c1 hbr
      by_cases hlt : k < x.subs.length
      · obtain ⟨b, off, rfl, _, _, hcell⟩ := hAr.at_ hlt
        have k1 : (k : Int) < (x.subs.length : Int) := by omega
        have hsX := HF3.out _ (getD_mem' (d := ByteArray.empty) hlt)
        have HP := Lib.hid (fun W => l22Plain_any (x.subs.getD k ByteArray.empty) (by omega) W)
        have hpl := plainP_len (x.subs.getD k ByteArray.empty).data.toList
        rw [len_list] at hpl
        by_cases h0 : k = 0
        · have q0 : ((k : Int) == 0) = true := by rw [h0]; rfl
          have HN := Lib.hid (show preT x (k + 1) = preT x k ++ [40] ++ plainP (x.subs.getD k ByteArray.empty).data.toList by rw [h0]; exact preT_one x (by omega))
          clear h0 hAr
          generalize plainP (x.subs.getD k ByteArray.empty).data.toList = F at *
          generalize x.subs.getD k ByteArray.empty = X at *
          generalize preT x k = Q at *
          go_wp2_with fail
          refine (HP.out _).mono ?_; rintro e2 w2 ⟨rfl, hb2⟩
          go_wp2_with fail
          go_roundw
          case rel => exact ⟨k + 1, by omega, by go_num, by rw [HN.out, ← mk_app, ← mk_app], HBR.out.trans (hb2.mono HBR.out.size)⟩
          case measure => simp [intOf]; omega
        · have q0 : ((k : Int) == 0) = false := by rw [beq_eq_false_iff_ne]; omega
          have HN := Lib.hid (preT_more x k hlt h0)
          clear h0 hAr
          generalize plainP (x.subs.getD k ByteArray.empty).data.toList = F at *
          generalize x.subs.getD k ByteArray.empty = X at *
          generalize preT x k = Q at *
          go_wp2_with fail
          refine (HP.out _).mono ?_; rintro e2 w2 ⟨rfl, hb2⟩
          go_wp2_with fail
          go_roundw
          case rel => exact ⟨k + 1, by omega, by go_num, by rw [HN.out, ← mk_app, ← mk_app], HBR.out.trans (hb2.mono HBR.out.size)⟩
          case measure => simp [intOf]; omega
      · have k1 : ¬ (k : Int) < (x.subs.length : Int) := by omega
        obtain rfl : k = x.subs.length := by omega
        generalize preT x x.subs.length = Q at *
        by_cases h0 : x.subs.length = 0
        · have z0 : ¬ (0 : Int) < (x.subs.length : Int) := by omega
          rw [if_pos h0, List.append_nil] at HR
          have HZ := Lib.hid h0
          clear h0
          go_wp2_with fail
          refine (HPV.out _).mono ?_; rintro e2 w2 ⟨rfl, hb2⟩
          go_wp2_with fail
          go_ret
          exact ⟨by rw [HR.out, ← mk_app, ← mk_app]; rfl, HBL.out.trans ((HBR.out.trans (hb2.mono HBR.out.size)).mono HBL.out.size)⟩
        · have z0 : (0 : Int) < (x.subs.length : Int) := by omega
          rw [if_neg h0] at HR
          clear h0
          go_wp2_with fail
          refine (HPV.out _).mono ?_; rintro e2 w2 ⟨rfl, hb2⟩
          go_wp2_with fail
          go_ret
          exact ⟨by rw [HR.out, ← mk_app, ← mk_app, ← mk_app]; rfl, HBL.out.trans ((HBR.out.trans (hb2.mono HBR.out.size)).mono HBL.out.size)⟩
end Go.Proofs.YtfibjcaidnofmaaGreatDoor

/- ReadPlain of both walked; that they say the same. -/
namespace Go.Proofs.YtfibjcaidnofmaaGreatDoor
open Go.RowKit

theorem formP_ge (l : List UInt8) : l.length ≤ (formP l).length := by
  by_cases h : l = []
  · subst h; exact Nat.zero_le _
  · rcases formP_first l h with e | e
    · rw [e]
      have : ∀ m : List UInt8, m.length ≤ (doubled m).length := by
        intro m
        induction m with
        | nil => exact Nat.le_refl _
        | cons c m ihm =>
          unfold doubled at ihm ⊢
          rw [List.flatMap_cons, List.length_append, List.length_cons]
          have : 1 ≤ (if c = 34 then [34, 34] else [c] : List UInt8).length := by split <;> simp
          omega
      have := this l
      simp only [List.length_cons, List.length_append, List.length_nil]; omega
    · rw [e]
      have := codesTo_pos l
      simp only [List.length_cons, List.length_append, List.length_nil]; omega
theorem moreP_ge : ∀ (n : Nat) (l : List UInt8) (k : Nat), l.length ≤ n → l.length ≤ k → l.length ≤ (moreP k l).length
  | 0, l, k, h, _ => by omega
  | n + 1, l, k, hn, hk => by
    by_cases hl : l = []
    · subst hl; exact Nat.zero_le _
    · have h1 := runRest_len l hl
      have h2 := congrArg List.length (runs_split l hl)
      have h3 := moreP_ge n (runRest l) k (by omega) (by omega)
      have h4 := formP_ge (runOf l)
      rw [moreP_step k l hl hk, List.length_cons, List.length_append]
      rw [List.length_append] at h2
      omega
theorem plainP_ge (u : List UInt8) : u.length ≤ (plainP u).length := by
  cases hc : canonB u
  · by_cases h0 : u = []
    · subst h0; exact Nat.zero_le _
    · have h1 := runRest_len u h0
      have h2 := congrArg List.length (runs_split u h0)
      have h3 := moreP_ge u.length (runRest u) u.length (by omega) (by omega)
      have h4 := formP_ge (runOf u)
      rw [plainP_runs hc h0, List.length_append]
      rw [List.length_append] at h2
      omega
  · unfold plainP; rw [hc]; exact Nat.le_refl _
theorem bytes_eq (A : List UInt8) (T : ByteArray) : ((⟨A.toArray⟩ : ByteArray).toList == T.toList) = decide (A = T.data.toList) := by
  rw [Bool.eq_iff_iff, beq_iff_eq, decide_eq_true_iff, ByteArray.toList_eq, ByteArray.toList_eq]

end Go.Proofs.YtfibjcaidnofmaaGreatDoor
