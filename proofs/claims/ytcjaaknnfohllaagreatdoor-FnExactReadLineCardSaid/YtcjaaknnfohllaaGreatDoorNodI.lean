/- The program's line of a node. -/
import Derived.Test.YtcjaaknnfohllaaGreatDoorNodS
import Derived.Test.YtcjaaknnfohllaaGreatDoorFrmP
namespace Go.Proofs.YtcjaaknnfohllaaGreatDoor
open Go.RowKit

theorem lineT_split (x : Nod) : lineT x = ((94 :: x.name.data.toList) ++ subsT x.subs) ++ [61] ++ plainP x.value.data.toList := by
  unfold lineT
  simp
theorem joinT_len (l : List ByteArray) (n : Nat) (hn : l.length ≤ n) (h : ∀ y ∈ l, y.size ≤ 24) : (joinT l).length ≤ 300 * n := by
  unfold joinT
  have : ∀ (l : List ByteArray), (∀ y ∈ l, y.size ≤ 24) → (Lib.join (l.map fun s => plainP s.data.toList) [44]).length ≤ 300 * l.length := by
    intro l h
    cases l with
    | nil => exact Nat.zero_le _
    | cons a l =>
      rw [List.map_cons, join_cons, List.length_append, List.length_cons]
      have h1 := plainP_len a.data.toList
      have h2 := h a (List.mem_cons_self ..)
      rw [len_list] at h1
      have h3 : ((l.map fun s => plainP s.data.toList).map ([44] ++ ·)).flatten.length ≤ 300 * l.length := by
        clear h1 h2
        induction l with
        | nil => exact Nat.zero_le _
        | cons b l ih =>
          have h4 := ih (fun y hy => h y (by rcases List.mem_cons.1 hy with e | e; exact e ▸ List.mem_cons_self .. ; exact List.mem_cons_of_mem _ (List.mem_cons_of_mem _ e)))
          have h5 := plainP_len b.data.toList
          have h6 := h b (List.mem_cons_of_mem _ (List.mem_cons_self ..))
          rw [len_list] at h5
          rw [List.map_cons, List.map_cons, List.flatten_cons, List.length_append, List.length_append, List.length_cons, List.length_cons, List.length_nil]
          omega
      omega
  have := this l h
  have h7 : 300 * l.length ≤ 300 * n := Nat.mul_le_mul_left _ hn
  omega

set_option maxHeartbeats 4000000 in
set_option maxRecDepth 100000 in
theorem nodeLine_any (x : Nod) (v : Value) (lo hi : Nat) (w : World) (hx : NodR w lo hi v x) (hhi : hi ≤ w.heap.size) (hB : nodB x = true) (hE : EnvIn w) :
    Calls Tryz.prog 110 #[v] w fun e w' => e = .returned (.string ⟨(lineT x).toArray⟩) ∧ Below w.heap.size w w' := by
  obtain ⟨A, c, rfl, hA⟩ := hx
  obtain ⟨f1, f2, f3, f4⟩ := nodB_facts hB
  have hbo := (Below.refl w.heap.size w).alloc (Nat.le_refl _) (.cells #[.string x.name, .slice A x.subs.length c, .string x.value] 37)
  have hsz : (w.alloc (.cells #[.string x.name, .slice A x.subs.length c, .string x.value] 37)).heap.size = w.heap.size + 1 := by simp
  have HBK := Lib.hid (Blk.new w 37 #[.string x.name, .slice A x.subs.length c, .string x.value])
  have HA := Lib.hid (hA.below hbo hhi)
  have HD := Lib.hid hbo
  have HE := Lib.hid (hE.below hbo)
  have HF3 := Lib.hid f3
  have HJ := Lib.hid (joinT_len x.subs 4 f2 f3)
  have HR := Lib.hid (lineT_split x)
  have HPV := Lib.hid (fun W h => plain_any x.value (by omega) W h)
  have hpv := plainP_len x.value.data.toList
  rw [len_list] at hpv
  clear hA hbo hE f3 hB
  generalize plainP x.value.data.toList = V at *
  by_cases h0 : x.subs.length = 0
  · have z0 : ¬ (0 : Int) < (x.subs.length : Int) := by omega
    have HS := Lib.hid (show subsT x.subs = [] by unfold subsT; exact if_pos (List.eq_nil_of_length_eq_zero h0))
    have HZ := Lib.hid h0
    clear h0
    have c1 := HBK.out.cell
    go_enter Tryz.func110, Tryz.ntmps110
    go_wp2_with fail
    refine (HPV.out _ HE.out).mono ?_; rintro e2 w2 ⟨rfl, hb2⟩
    go_wp2_with fail
    go_ret
    exact ⟨by rw [HR.out, HS.out, List.append_nil, ← mk_app, ← mk_app, ← txt_cons]; rfl, HD.out.trans (hb2.mono HD.out.size)⟩
  · have z0 : (0 : Int) < (x.subs.length : Int) := by omega
    have HS := Lib.hid (show subsT x.subs = 40 :: (joinT x.subs ++ [41]) by unfold subsT; exact if_neg (fun e => h0 (by rw [e]; rfl)))
    have HZ := Lib.hid h0
    have hd0 : decide (0 < x.subs.length) = true := decide_eq_true (by omega)
    have hd1 : decide ((0 : Int) < (x.subs.length : Int)) = true := decide_eq_true z0
    clear h0
    have c1 := HBK.out.cell
    go_enter Tryz.func110, Tryz.ntmps110
    go_upto_region 4 with fail
    generalize hw1 : w.alloc (.cells #[.string x.name, .slice A x.subs.length c, .string x.value] 37) = w1 at *
    have HW1 := Lib.hid hw1; clear hw1
    have hlt1 : w.heap.size < w1.heap.size := by omega
    have hsz := Lib.hid hsz
    have hown0 : OwnStrs (w1.alloc (.cells #[] 9)) w1.heap.size 9 (.slice (some ⟨w.heap.size + 1, 0, none⟩) 0 0) [] := by
      have := OwnR.none_ (enc := Value.string) w1 w1.heap.size 9 (Nat.le_refl _)
      rw [hsz.out] at this ⊢
      exact this
    have hb0 : Below w1.heap.size w1 (w1.alloc (.cells #[] 9)) := (Below.refl _ _).alloc (Nat.le_refl _) _
    have c2 := (HBK.out.below hb0 (by omega)).cell
    have HB0 := Lib.hid hb0
    clear c1 hb0
    go_wp2_with fail
    go_loopw [4, 18] (fun v i wr => ∃ (k : Nat) (fs : List ByteArray), k ≤ x.subs.length ∧ i = .int .i64 k ∧ OwnStrs wr w1.heap.size 9 v fs ∧ fs.length = k ∧ fs.map (·.data.toList) = (x.subs.take k).map (fun s => plainP s.data.toList) ∧ Below w1.heap.size w1 wr) (fun _ i _ => x.subs.length - (intOf i).toNat)
    case atStart => exact ⟨0, [], Nat.zero_le _, rfl, hown0, rfl, rfl, HB0.out⟩
    case round =>
      clear c2 hown0
      obtain ⟨k, fs, hk, rfl, hown, hfl, hfs, hbr⟩ := hrel
      have HFS := Lib.hid hfs
      have hszr := hbr.size
      have HBR := Lib.hid hbr
      have hAr := HA.out.below hbr (by omega)
      have c3 := (HBK.out.below hbr (by omega)).cell
      clear hfs
      by_cases hlt : k < x.subs.length
      · obtain ⟨b, off, rfl, _, _, hcell⟩ := hAr.at_ hlt
        have k1 : (k : Int) < (x.subs.length : Int) := by omega
        have hsX := HF3.out _ (getD_mem' (d := ByteArray.empty) hlt)
        have HP := Lib.hid (plain_any (x.subs.getD k ByteArray.empty) (by omega) wr (HE.out.below hbr))
        have HN := Lib.hid (show (fs ++ [(⟨(plainP (x.subs.getD k ByteArray.empty).data.toList).toArray⟩ : ByteArray)]).map (·.data.toList) = (x.subs.take (k + 1)).map (fun s => plainP s.data.toList) by
          rw [List.take_succ_eq_append_getElem hlt, List.map_append, List.map_append, HFS.out, List.getD_eq_getElem?_getD, List.getElem?_eq_getElem hlt]; rfl)
        clear hAr hbr c3
        generalize plainP (x.subs.getD k ByteArray.empty).data.toList = F at *
        generalize x.subs.getD k ByteArray.empty = X at *
        go_wp2_with fail
        refine HP.out.mono ?_; rintro e2 w2 ⟨rfl, hb2⟩; have hown3 := hown.below hb2; have hs2 := Nat.le_trans hszr hb2.size
        go_wp2_with (first
          | fail
          | (at_builtin; refine wpList_app1 (enc := Value.string) rfl (.tmp 22) (.tmp 25) 22 9 rfl Tryz.underlying22 rfl (by omega) (fun _ => rfl) infoTxt w2 w1.heap.size _ fs ⟨F.toArray⟩ rfl hown3 rfl (by omega) hs2 ?_; intro v3 w3 hown4 hb3))
        go_roundw
        case rel => exact ⟨k + 1, _, by omega, by go_num, hown4, by rw [List.length_append, hfl]; rfl, HN.out, HBR.out.trans ((hb2.mono hszr).trans hb3)⟩
        case measure => simp [intOf]; omega
      · have k1 : ¬ (k : Int) < (x.subs.length : Int) := by omega
        obtain rfl : k = x.subs.length := by omega
        have hjn : Lib.join (fs.map (·.data.toList)) [44] = joinT x.subs := by
          rw [HFS.out, List.take_length]; rfl
        have HJO := Lib.hid (join_own hown (by omega) ⟨#[44]⟩ (by show (Lib.join (fs.map (·.data.toList)) [44]).length ≤ _; rw [hjn]; have := HJ.out; omega))
        have HJN := Lib.hid (show Lib.join (fs.map (·.data.toList)) (⟨#[44]⟩ : ByteArray).data.toList = joinT x.subs from hjn)
        have hjl := HJ.out
        have hEr := Lib.hid (HE.out.below hbr)
        clear hjn hown hbr hAr
        have HX := Lib.hid (show ∀ D : List UInt8, ((⟨#[40]⟩ : ByteArray) ++ ⟨D.toArray⟩ ++ (⟨#[41]⟩ : ByteArray)) = ⟨(40 :: (D ++ [41])).toArray⟩ from fun D => by rw [mk_app1]; exact mk_app (40 :: D) [41])
        go_wp2_with fail
        refine HJO.out.mono ?_; rintro e3 w3 ⟨rfl, hb3⟩
        rw [HJN.out]
        have c4 := (HBK.out.below (HBR.out.trans (hb3.mono HBR.out.size)) (by omega)).cell
        have HB3 := Lib.hid (HBR.out.trans (hb3.mono HBR.out.size))
        have hE3 := Lib.hid (HE.out.below HB3.out)
        generalize joinT x.subs = D at *
        clear c3 hb3
        go_wp2_with fail
        refine (HPV.out _ hE3.out).mono ?_; rintro e4 w4 ⟨rfl, hb4⟩
        go_wp2_with fail
        go_ret
        exact ⟨by rw [HR.out, HS.out, ← mk_app, ← mk_app, ← mk_app, ← HX.out, ← txt_cons]; rfl, HD.out.trans ((HB3.out.trans (hb4.mono HB3.out.size)).mono HD.out.size)⟩

set_option maxHeartbeats 1000000 in
theorem implNodeLine_any (x : Nod) (v : Value) (lo hi : Nat) (w : World) (hx : NodR w lo hi v x) (hhi : hi ≤ w.heap.size) (hs : NodSmall x) (hE : EnvIn w) :
    Calls Tryz.prog 47 #[v] w fun e w' => e = .returned (.string ⟨(nodeLineP x).toArray⟩) ∧ Below w.heap.size w w' := by
  obtain ⟨A, c, rfl, hA⟩ := hx
  have hbo := (Below.refl w.heap.size w).alloc (Nat.le_refl _) (.cells #[.string x.name, .slice A x.subs.length c, .string x.value] 37)
  have hsz : (w.alloc (.cells #[.string x.name, .slice A x.subs.length c, .string x.value] 37)).heap.size = w.heap.size + 1 := by simp
  have HC := Lib.hid (nodeOk_any x (.agg #[.string x.name, .slice A x.subs.length c, .string x.value]) lo hi _ ⟨A, c, rfl, hA.below hbo hhi⟩ (Nat.le_trans hhi (by omega)) hs)
  have HBK := Lib.hid (Blk.new w 37 #[.string x.name, .slice A x.subs.length c, .string x.value])
  have HA := Lib.hid (hA.below hbo hhi)
  have HD := Lib.hid hbo
  have HE := Lib.hid (hE.below hbo)
  clear hA hbo hE hs
  cases hB : nodB x
  · rw [hB] at HC
    have HR := Lib.hid (show nodeLineP x = [] by unfold nodeLineP; rw [hB]; rfl)
    rw [HR.out]
    clear hB
    go_enter Tryz.func47, Tryz.ntmps47
    go_wp2_with fail
    refine HC.out.mono ?_; rintro e1 w1 ⟨rfl, hb1⟩
    go_wp2_with fail
    go_ret
    exact ⟨rfl, HD.out.trans (hb1.mono HD.out.size)⟩
  · rw [hB] at HC
    have HR := Lib.hid (show nodeLineP x = lineT x by unfold nodeLineP; rw [hB]; rfl)
    rw [HR.out]
    have HNL := Lib.hid (fun W lo hi h1 h2 h3 => nodeLine_any x (.agg #[.string x.name, .slice A x.subs.length c, .string x.value]) lo hi W h1 h2 hB h3)
    clear hB
    generalize lineT x = T at *
    go_enter Tryz.func47, Tryz.ntmps47
    go_wp2_with fail
    refine HC.out.mono ?_; rintro e1 w1 ⟨rfl, hb1⟩
    have c1 := (HBK.out.below hb1 (by omega)).cell
    have HB1 := Lib.hid (HD.out.trans (hb1.mono HD.out.size))
    have HN1 := Lib.hid (HNL.out w1 lo hi ⟨A, c, rfl, HA.out.below hb1 (by omega)⟩ (Nat.le_trans hhi HB1.out.size) (HE.out.below hb1))
    clear hb1
    go_wp2_with fail
    refine HN1.out.mono ?_; rintro e2 w2 ⟨rfl, hb2⟩
    go_wp2_with fail
    go_ret
    exact ⟨rfl, HB1.out.trans (hb2.mono HB1.out.size)⟩
end Go.Proofs.YtcjaaknnfohllaaGreatDoor
