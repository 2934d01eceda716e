/- The reference's reading of an operation walked: a job's words. -/
import Derived.Test.YtcjaaknnfohllaaGreatDoorJoinRSAAq
import Derived.Test.YtcjaaknnfohllaaGreatDoorJoinRSAAd
import Derived.Test.YtcjaaknnfohllaaGreatDoorJoinRSAAk
import Derived.Test.YtcjaaknnfohllaaGreatDoorJoinRSAAo
import Derived.Test.YtcjaaknnfohllaaGreatDoorShelfP
namespace Go.Proofs.YtcjaaknnfohllaaGreatDoor
open Go.RowKit

theorem rdW_size (x : ByteArray) : (rdW x).size ≤ x.size := by
  have h : (rdI x.data.toList).1.length ≤ x.data.toList.length := by
    unfold rdI
    split
    · rename_i hc
      have h1 := plainP_ge (sI x.data.toList).1
      rw [hc.2] at h1
      exact h1
    · exact Nat.zero_le _
  rw [len_list] at h
  show (rdI x.data.toList).1.toArray.size ≤ _
  rw [List.size_toArray]; exact h
theorem specRead_rd (x : ByteArray) (w : World) : Calls Tryz.prog 212 #[.string x] w fun e w' => e = .returned (.tuple #[.string (rdW x), .bool (rdI x.data.toList).2]) ∧ Below w.heap.size w w' := by
  have h := specReadPlain_any x w
  rw [rd_same] at h
  exact h
theorem in_list : wIn.toList = [105, 110] := by rw [ByteArray.toList_eq]; rfl
theorem own_alloc_sz (w : World) (o : Obj) : (w.alloc o).heap.size = w.heap.size + 1 := by simp
/-- The cells of a job that is being read. -/
abbrev jobCs (r l : ByteArray) (A : Option Addr) (na c : Nat) (B : Option Addr) (nb d : Nat) : Array Value := #[.int .i64 1, .int .i64 0, .string r, .string l, .slice A na c, .slice B nb d, .slice none 0 0]
/-- The rows of a job that is being read: the arguments; behind 'in' the input. -/
def JobSt (w : World) (N : Nat) (r l : ByteArray) (f : Bool) (ga gi : List ByteArray) : Prop :=
  ∃ (A B : Option Addr) (c d m : Nat), Blk w N 30 (jobCs r l A ga.length c B gi.length d) ∧ N + 1 ≤ m ∧ m ≤ w.heap.size ∧
    ((f = false ∧ OwnStrs w (N + 1) 9 (.slice A ga.length c) ga ∧ gi = [] ∧ B = none ∧ d = 0) ∨ (f = true ∧ StrR w (N + 1) m A ga.length ga ∧ OwnStrs w m 9 (.slice B gi.length d) gi))
theorem JobSt.below {w w' : World} {N : Nat} {r l : ByteArray} {f : Bool} {ga gi : List ByteArray} (h : JobSt w N r l f ga gi) (hb : Below w.heap.size w w') : JobSt w' N r l f ga gi := by
  obtain ⟨A, B, c, d, m, h1, h2, h3, h4⟩ := h
  refine ⟨A, B, c, d, m, h1.below hb h1.lt, h2, Nat.le_trans h3 hb.size, ?_⟩
  rcases h4 with ⟨f1, o1, i1⟩ | ⟨f1, r1, o1⟩
  · exact .inl ⟨f1, o1.below hb, i1⟩
  · exact .inr ⟨f1, r1.below hb h3, o1.below hb⟩
theorem JobSt.toIn {w : World} {N : Nat} {r l : ByteArray} {ga gi : List ByteArray} (h : JobSt w N r l false ga gi) : JobSt w N r l true ga gi := by
  obtain ⟨A, B, c, d, m, h1, h2, h3, h4⟩ := h
  rcases h4 with ⟨_, o1, i1, i2, i3⟩ | ⟨f1, _⟩
  · subst i1 i2 i3
    exact ⟨A, none, c, 0, w.heap.size, h1, Nat.le_trans h2 h3, Nat.le_refl _, .inr ⟨rfl, OwnR.reads o1, OwnR.nil_ _ _ _⟩⟩
  · cases f1
theorem JobSt.act {w : World} {N : Nat} {r l : ByteArray} {f : Bool} {ga gi : List ByteArray} (h : JobSt w N r l f ga gi) : ∃ A B c d, Blk w N 30 (jobCs r l A ga.length c B gi.length d) ∧ StrR w (N + 1) w.heap.size A ga.length ga ∧ StrR w (N + 1) w.heap.size B gi.length gi := by
  obtain ⟨A, B, c, d, m, h1, h2, h3, h4⟩ := h
  refine ⟨A, B, c, d, h1, ?_⟩
  rcases h4 with ⟨_, o1, i1, i2, i3⟩ | ⟨_, r1, o1⟩
  · subst i1
    exact ⟨OwnR.reads o1, ⟨rfl, fun h => absurd h (Nat.lt_irrefl 0)⟩⟩
  · exact ⟨r1.more (Nat.le_refl _) h3, (OwnR.reads o1).more h2 (Nat.le_refl _)⟩
/-- What is still to be read: the arguments, the input. -/
def jobEnd (f : Bool) (ga gi R : List ByteArray) : List ByteArray × List ByteArray :=
  if f then (ga, gi ++ (R.filter (fun y => decide (y ≠ wIn))).map rdW)
  else (ga ++ (R.takeWhile (fun y => decide (y ≠ wIn))).map rdW, gi ++ ((R.dropWhile (fun y => decide (y ≠ wIn))).filter (fun y => decide (y ≠ wIn))).map rdW)
theorem jobEnd_in (f : Bool) (ga gi R : List ByteArray) (Y : ByteArray) (h : Y = wIn) : jobEnd f ga gi (Y :: R) = jobEnd true ga gi R := by
  subst h
  unfold jobEnd
  cases f
  · rw [if_neg Bool.false_ne_true, if_pos rfl, List.takeWhile_cons, List.dropWhile_cons, if_neg (by simp), if_neg (by simp), List.filter_cons, if_neg (by simp), List.map_nil, List.append_nil]
  · rw [if_pos rfl, if_pos rfl, List.filter_cons, if_neg (by simp)]
theorem jobEnd_arg (ga gi R : List ByteArray) (Y : ByteArray) (h : Y ≠ wIn) : jobEnd false ga gi (Y :: R) = jobEnd false (ga ++ [rdW Y]) gi R := by
  unfold jobEnd
  rw [if_neg Bool.false_ne_true, if_neg Bool.false_ne_true, List.takeWhile_cons, List.dropWhile_cons, if_pos (by simpa using h), if_pos (by simpa using h), List.map_cons, List.append_assoc]
  rfl
theorem jobEnd_put (ga gi R : List ByteArray) (Y : ByteArray) (h : Y ≠ wIn) : jobEnd true ga gi (Y :: R) = jobEnd true ga (gi ++ [rdW Y]) R := by
  unfold jobEnd
  rw [if_pos rfl, if_pos rfl, List.filter_cons, if_pos (by simpa using h), List.map_cons, List.append_assoc]
  rfl
theorem jobEnd_nil (f : Bool) (ga gi : List ByteArray) : jobEnd f ga gi [] = (ga, gi) := by
  unfold jobEnd
  cases f <;> simp

theorem OwnR.set_lo {α : Type} {enc : α → Value} {w : World} {base g o : Nat} {u : Value} {t : TypeId} {v : Value} {xs : List α} (h : OwnR enc w base t v xs) (hg : g < base) : OwnR enc (w.setCell ⟨g, o, none⟩ u) base t v xs := h.within (within_set w g o u) (by omega)
theorem RowR.set_lo {α : Type} {enc : α → Value} {d : α} {w : World} {lo hi g o : Nat} {u : Value} {A : Option Addr} {n : Nat} {xs : List α} (h : RowR enc d w lo hi A n xs) (hg : g < lo) : RowR enc d (w.setCell ⟨g, o, none⟩ u) lo hi A n xs :=
  h.keep fun b h1 _ => Below.heap_setCell w ⟨g, o, none⟩ u b (by show b ≠ g; omega)
set_option maxHeartbeats 8000000 in
set_option maxRecDepth 100000 in
theorem l34Job_any (A : Option Addr) (n c lo hi : Nat) (xs : List ByteArray) (w : World) (ha : StrR w lo hi A n xs) (hhi : hi ≤ w.heap.size) (hn : n ≤ 1048576) :
    Calls Tryz.prog 172 #[.slice A n c] w fun e w' => (∃ v, e = .returned v ∧ ActR w' w.heap.size w'.heap.size v (jobS xs)) ∧ Below w.heap.size w w' := by
  have hl := ha.1
  subst hl
  have HBZ := Lib.hid (Blk.new w 30 #[.int .i64 0, .int .i64 0, .string ⟨#[]⟩, .string ⟨#[]⟩, .slice none 0 0, .slice none 0 0, .slice none 0 0])
  have hd1 := (Below.refl w.heap.size w).alloc (Nat.le_refl _) (.cells #[.int .i64 0, .int .i64 0, .string ⟨#[]⟩, .string ⟨#[]⟩, .slice none 0 0, .slice none 0 0, .slice none 0 0] 30)
  have HD1 := Lib.hid hd1
  have HA1 := Lib.hid (ha.below hd1 hhi)
  have HA0 := Lib.hid ha
  have hs1 := own_alloc_sz w (.cells #[.int .i64 0, .int .i64 0, .string ⟨#[]⟩, .string ⟨#[]⟩, .slice none 0 0, .slice none 0 0, .slice none 0 0] 30)
  clear ha hd1
  have hbn := Blk.new (w.alloc (.cells #[.int .i64 0, .int .i64 0, .string ⟨#[]⟩, .string ⟨#[]⟩, .slice none 0 0, .slice none 0 0, .slice none 0 0] 30)) 30 #[.int .i64 1, .int .i64 0, .string ⟨#[]⟩, .string ⟨#[]⟩, .slice none 0 0, .slice none 0 0, .slice none 0 0]
  rw [hs1] at hbn
  have HBN := Lib.hid hbn
  clear hbn
  have HZ2 := Lib.hid (HBZ.out.alloc (.cells #[.int .i64 1, .int .i64 0, .string ⟨#[]⟩, .string ⟨#[]⟩, .slice none 0 0, .slice none 0 0, .slice none 0 0] 30))
  have HB2 := Lib.hid (HD1.out.alloc HD1.out.size (.cells #[.int .i64 1, .int .i64 0, .string ⟨#[]⟩, .string ⟨#[]⟩, .slice none 0 0, .slice none 0 0, .slice none 0 0] 30))
  have hs2 := own_alloc_sz (w.alloc (.cells #[.int .i64 0, .int .i64 0, .string ⟨#[]⟩, .string ⟨#[]⟩, .slice none 0 0, .slice none 0 0, .slice none 0 0] 30)) (.cells #[.int .i64 1, .int .i64 0, .string ⟨#[]⟩, .string ⟨#[]⟩, .slice none 0 0, .slice none 0 0, .slice none 0 0] 30)
  rw [hs1] at hs2
  have HA2 := Lib.hid (HA1.out.below ((Below.refl _ _).alloc (Nat.le_refl _) (.cells #[.int .i64 1, .int .i64 0, .string ⟨#[]⟩, .string ⟨#[]⟩, .slice none 0 0, .slice none 0 0, .slice none 0 0] 30)) (by omega))
  by_cases h3 : xs.length < 3
  · have HR := Lib.hid (show jobS xs = ⟨1, 0, eB, eB, [], [], []⟩ from if_pos h3)
    have i3 : (xs.length : Int) < 3 := by omega
    rw [HR.out]
    go_enter Tryz.func172, Tryz.ntmps172
    go_upto_region 2 with fail
    generalize ((w.alloc (.cells #[.int .i64 0, .int .i64 0, .string ⟨#[]⟩, .string ⟨#[]⟩, .slice none 0 0, .slice none 0 0, .slice none 0 0] 30)).alloc (.cells #[.int .i64 1, .int .i64 0, .string ⟨#[]⟩, .string ⟨#[]⟩, .slice none 0 0, .slice none 0 0, .slice none 0 0] 30)) = w2 at *
    clear HD1 HA1 hs1 HBZ
    generalize hN : w.heap.size + 1 = N at *
    have fn := HBN.out.cell
    have fz := HZ2.out.cell
    have zz := HZ2.out.frozen
    go_wp2_with fail
    refine bodyPost_ret (v := .agg #[.int .i64 1, .int .i64 0, .string ⟨#[]⟩, .string ⟨#[]⟩, .slice none 0 0, .slice none 0 0, .slice none 0 0]) (by simp [results, Tryz.results172, go_sem, fz]) rfl ⟨⟨_, rfl, ⟨none, 0, none, 0, none, 0, rfl, ⟨rfl, fun h => absurd h (Nat.lt_irrefl 0)⟩, ⟨rfl, fun h => absurd h (Nat.lt_irrefl 0)⟩, ⟨rfl, fun h => absurd h (Nat.lt_irrefl 0)⟩⟩⟩, ?_⟩
    repeat (with_reducible refine Below.setCell ?_ (by first | exact Nat.le_refl _ | (show _ ≤ _; omega)) _)
    exact HB2.out
  · have i3 : ¬ (xs.length : Int) < 3 := by omega
    have HR := Lib.hid (show jobS xs = ⟨1, 0, xs.getD 1 eB, xs.getD 2 eB, ((xs.drop 3).takeWhile (fun y => decide (y ≠ wIn))).map rdW, (((xs.drop 3).dropWhile (fun y => decide (y ≠ wIn))).filter (fun y => decide (y ≠ wIn))).map rdW, []⟩ from if_neg h3)
    have HE := Lib.hid (show jobEnd false [] [] (xs.drop 3) = (((xs.drop 3).takeWhile (fun y => decide (y ≠ wIn))).map rdW, (((xs.drop 3).dropWhile (fun y => decide (y ≠ wIn))).filter (fun y => decide (y ≠ wIn))).map rdW) from rfl)
    generalize ((xs.drop 3).takeWhile (fun y => decide (y ≠ wIn))).map rdW = FA at *
    generalize (((xs.drop 3).dropWhile (fun y => decide (y ≠ wIn))).filter (fun y => decide (y ≠ wIn))).map rdW = FB at *
    rw [HR.out]
    clear HR
    have HRD := Lib.hid (fun x W => specRead_rd x W)
    have h1x : 1 < xs.length := by omega
    have h2x : 2 < xs.length := by omega
    obtain ⟨b, off, rfl, hbl0, hbh0, hcw⟩ := HA0.out.2 (by omega)
    have HCW := Lib.hid hcw
    have hc1 := HA2.out.at_ h1x
    have hc2 := HA2.out.at_ h2x
    obtain ⟨b1, off1, e1, _, _, hc1⟩ := hc1
    obtain ⟨b2, off2, e2, _, _, hc2⟩ := hc2
    injection e1 with e1
    injection e2 with e2
    injection e1 with e11 e12
    injection e2 with e21 e22
    subst e11 e12 e21 e22
    clear HA0 hcw
    have hR1s : xs.getD 1 eB = xs.getD 1 eB := rfl
    generalize xs.getD 1 ByteArray.empty = R1 at *
    generalize xs.getD 2 ByteArray.empty = L1 at *
    clear hR1s
    go_enter Tryz.func172, Tryz.ntmps172
    go_upto_region 2 with fail
    generalize ((w.alloc (.cells #[.int .i64 0, .int .i64 0, .string ⟨#[]⟩, .string ⟨#[]⟩, .slice none 0 0, .slice none 0 0, .slice none 0 0] 30)).alloc (.cells #[.int .i64 1, .int .i64 0, .string ⟨#[]⟩, .string ⟨#[]⟩, .slice none 0 0, .slice none 0 0, .slice none 0 0] 30)) = w2 at *
    clear HD1 HA1 hs1 HBZ
    generalize hN : w.heap.size + 1 = N at *
    have fn := HBN.out.cell
    have zn := HBN.out.frozen
    have hi1 : (1 : Int) < (xs.length : Int) := by omega
    have hi2 : (2 : Int) < (xs.length : Int) := by omega
    have hneb : b ≠ N := by omega
    have HAx := Lib.hid (show StrR ((w2.setCell ⟨N, 2, none⟩ (.string R1)).setCell ⟨N, 3, none⟩ (.string L1)) lo hi (some ⟨b, off, none⟩) xs.length xs from HA2.out.keep fun k _ hk => (Below.heap_setCell _ ⟨N, 3, none⟩ _ k (by show k ≠ N; omega)).trans (Below.heap_setCell _ ⟨N, 2, none⟩ _ k (by show k ≠ N; omega)))
    have HBx := Lib.hid (show Blk ((w2.setCell ⟨N, 2, none⟩ (.string R1)).setCell ⟨N, 3, none⟩ (.string L1)) N 30 (jobCs R1 L1 none 0 0 none 0 0) from (HBN.out.set_ 2 _).set_ 3 _)
    have HZx := Lib.hid (show Blk ((w2.setCell ⟨N, 2, none⟩ (.string R1)).setCell ⟨N, 3, none⟩ (.string L1)) w.heap.size 30 _ from (HZ2.out.far (by show w.heap.size ≠ N; omega) _).far (by show w.heap.size ≠ N; omega) _)
    have HB3 := Lib.hid ((HB2.out.setCell (p := ⟨N, 2, none⟩) (by show w.heap.size ≤ N; omega) (.string R1)).setCell (p := ⟨N, 3, none⟩) (by show w.heap.size ≤ N; omega) (.string L1))
    have hc2x : (w2.setCell ⟨N, 2, none⟩ (.string R1)).cell? ⟨b, off + 2, none⟩ = some (.string L1) := (World.cell?_of_block (Below.heap_setCell _ ⟨N, 2, none⟩ _ b hneb)).trans hc2
    go_upto_region 6 with fail
    have hst0 : JobSt ((w2.setCell ⟨N, 2, none⟩ (.string R1)).setCell ⟨N, 3, none⟩ (.string L1)) N R1 L1 false [] [] := ⟨none, none, 0, 0, N + 1, HBx.out, Nat.le_refl _, by simp [World.setCell]; omega, .inl ⟨rfl, OwnR.nil_ _ _ _, rfl, rfl, rfl⟩⟩
    have HST := Lib.hid hst0
    generalize (w2.setCell ⟨N, 2, none⟩ (.string R1)).setCell ⟨N, 3, none⟩ (.string L1) = w3 at *
    clear hst0 HBx HAx hc1 hc2 hc2x fn zn HA2 HBN HZ2 HB2 hi1 hi2 hneb
    go_wp2_with fail
    go_loopw [4, 5] (fun f i wr => ∃ (k : Nat) (fl : Bool) (ga gi : List ByteArray), k ≤ xs.length ∧ f = .bool fl ∧ i = .int .i64 (k : Int) ∧ JobSt wr N R1 L1 fl ga gi ∧ jobEnd fl ga gi (xs.drop k) = (FA, FB) ∧ ga.length ≤ k ∧ gi.length ≤ k ∧ Blk wr w.heap.size 30 #[.int .i64 0, .int .i64 0, .string ⟨#[]⟩, .string ⟨#[]⟩, .slice none 0 0, .slice none 0 0, .slice none 0 0] ∧ Below w.heap.size w wr) (fun _ i _ => xs.length - (intOf i).toNat)
    case atStart => exact ⟨3, false, [], [], by omega, rfl, rfl, HST.out, HE.out, Nat.zero_le _, Nat.zero_le _, HZx.out, HB3.out⟩
    case round =>
      clear HST HZx HB3 HE
      obtain ⟨k, fl, ga, gi, hk, rfl, rfl, hst, hje, hgl, hil, hz, hbw⟩ := hrel
      have HSTr := Lib.hid hst; have HZr := Lib.hid hz; have HBr := Lib.hid hbw; have HJE := Lib.hid hje
      clear hst hz hbw hje
      by_cases hlt : k < xs.length
      · have hcell := (HBr.out.cell (p := ⟨b, off + k, none⟩) (by show b < w.heap.size; omega)).trans (HCW.out k hlt)
        have i1 : (k : Int) < (xs.length : Int) := by omega
        have i0 : (0 : Int) ≤ (k : Int) := by omega
        have HDR := Lib.hid (drop_one xs k hlt)
        generalize xs.getD k ByteArray.empty = Y at *
        have hj2 := HJE.out
        rw [HDR.out] at hj2
        by_cases hY : Y = wIn
        · have hb1 : (Y.toList == [105, 110]) = true := by rw [← in_list, beq_dec]; exact decide_eq_true hY
          have HJ2 := Lib.hid ((jobEnd_in fl ga gi (xs.drop (k + 1)) Y hY).symm.trans hj2)
          have HST2 := Lib.hid (show JobSt wr N R1 L1 true ga gi by cases fl; exact HSTr.out.toIn; exact HSTr.out)
          have HH := Lib.hid hY
          clear hY hj2 HJE
          go_wp2_with fail
          go_roundw
          case rel => exact ⟨k + 1, true, ga, gi, by omega, rfl, by go_num, HST2.out, HJ2.out, by omega, by omega, HZr.out, HBr.out⟩
          case measure => simp [intOf]; omega
        · have hb1 : (Y.toList == [105, 110]) = false := by rw [← in_list, beq_dec]; exact decide_eq_false hY
          have HRY := Lib.hid (fun W => HRD.out Y W)
          have HH := Lib.hid hY
          cases fl
          · have HJ2 := Lib.hid ((jobEnd_arg ga gi (xs.drop (k + 1)) Y hY).symm.trans hj2)
            generalize rdW Y = y at *
            clear hY hj2 HJE
            go_wp2_with fail
            refine (HRY.out _).mono ?_; rintro e5 w5 ⟨rfl, hb5⟩
            obtain ⟨A5, B5, c5, d5, m5, hbk5, hm5, hs5, hor⟩ := HSTr.out.below hb5
            have ho5 : OwnStrs w5 (N + 1) 9 (.slice A5 ga.length c5) ga ∧ gi = [] ∧ B5 = none ∧ d5 = 0 := by
              rcases hor with ⟨_, h1, h2, h3, h4⟩ | ⟨h, _⟩
              · exact ⟨h1, h2, h3, h4⟩
              · cases h
            obtain ⟨hown5, rfl, rfl, rfl⟩ := ho5
            have HZ5 := Lib.hid (HZr.out.below hb5 HZr.out.lt)
            have HB5 := Lib.hid (HBr.out.trans (hb5.mono HBr.out.size))
            have HBK5 := Lib.hid hbk5
            have f5 := hbk5.cell
            have hfb : ∀ o, ∀ i, (w5.alloc o).cell? ⟨N, i, none⟩ = (jobCs R1 L1 A5 ga.length c5 none 0 0)[i]? := fun o => (HBK5.out.alloc o).cell
            have hNs : N + 1 ≤ w5.heap.size := hbk5.lt
            have hgl2 : ga.length ≤ 1000000000 := by omega
            clear hb5 hbk5 hor
            go_wp2_with (first
              | fail
              | (at_builtin; refine wpList_app1 (enc := Value.string) rfl (.tmp 48) (.tmp 50) 22 9 rfl Tryz.underlying22 rfl (by omega) (fun _ => rfl) infoTxt w5 (N + 1) _ ga y rfl hown5 rfl hgl2 hNs ?_; intro v6 w6 hown6 hb6; obtain ⟨A6, c6, rfl⟩ := hown6.1; have HBK6 := Lib.hid (HBK5.out.below hb6 (Nat.lt_succ_self N)); have f6 := HBK6.out.cell; have z6 := HBK6.out.frozen))
            have HZ7 := Lib.hid (show Blk (w6.setCell ⟨N, 4, none⟩ (.slice A6 (ga ++ [y]).length c6)) w.heap.size 30 _ from (HZ5.out.below hb6 (by omega)).far (by show w.heap.size ≠ N; omega) _)
            have HB7 := Lib.hid ((HB5.out.trans (hb6.mono (by omega))).setCell (p := ⟨N, 4, none⟩) (by show w.heap.size ≤ N; omega) (.slice A6 (ga ++ [y]).length c6))
            have HST7 : JobSt (w6.setCell ⟨N, 4, none⟩ (.slice A6 (ga ++ [y]).length c6)) N R1 L1 false (ga ++ [y]) [] := ⟨A6, none, c6, 0, N + 1, HBK6.out.set_ 4 _, Nat.le_refl _, by have := HBK6.out.lt; simp [World.setCell]; omega, .inl ⟨rfl, hown6.set_lo (by omega), rfl, rfl, rfl⟩⟩
            go_roundw
            case rel => exact ⟨k + 1, false, ga ++ [y], [], by omega, rfl, by go_num, by rw [List.length_append, List.length_singleton] at HST7; exact HST7, HJ2.out, by rw [List.length_append, List.length_singleton]; omega, by omega, by rw [List.length_append, List.length_singleton] at HZ7; exact HZ7.out, by rw [List.length_append, List.length_singleton] at HB7; exact HB7.out⟩
            case measure => simp [intOf]; omega
          · have HJ2 := Lib.hid ((jobEnd_put ga gi (xs.drop (k + 1)) Y hY).symm.trans hj2)
            generalize rdW Y = y at *
            clear hY hj2 HJE
            go_wp2_with fail
            refine (HRY.out _).mono ?_; rintro e5 w5 ⟨rfl, hb5⟩
            obtain ⟨A5, B5, c5, d5, m5, hbk5, hm5, hs5, hor⟩ := HSTr.out.below hb5
            have ho5 : StrR w5 (N + 1) m5 A5 ga.length ga ∧ OwnStrs w5 m5 9 (.slice B5 gi.length d5) gi := by
              rcases hor with ⟨h, _⟩ | ⟨_, h1, h2⟩
              · cases h
              · exact ⟨h1, h2⟩
            obtain ⟨hra5, hown5⟩ := ho5
            have HRA5 := Lib.hid hra5
            have HZ5 := Lib.hid (HZr.out.below hb5 HZr.out.lt)
            have HB5 := Lib.hid (HBr.out.trans (hb5.mono HBr.out.size))
            have HBK5 := Lib.hid hbk5
            have f5 := hbk5.cell
            have hfb : ∀ o, ∀ i, (w5.alloc o).cell? ⟨N, i, none⟩ = (jobCs R1 L1 A5 ga.length c5 B5 gi.length d5)[i]? := fun o => (HBK5.out.alloc o).cell
            have hgl2 : gi.length ≤ 1000000000 := by omega
            clear hb5 hbk5 hor hra5
            go_wp2_with (first
              | fail
              | (at_builtin; refine wpList_app1 (enc := Value.string) rfl (.tmp 42) (.tmp 44) 22 9 rfl Tryz.underlying22 rfl (by omega) (fun _ => rfl) infoTxt w5 m5 _ gi y rfl hown5 rfl hgl2 hs5 ?_; intro v6 w6 hown6 hb6; obtain ⟨B6, d6, rfl⟩ := hown6.1; have HBK6 := Lib.hid (HBK5.out.below hb6 (Nat.lt_of_lt_of_le (Nat.lt_succ_self N) hm5)); have f6 := HBK6.out.cell; have z6 := HBK6.out.frozen))
            have HZ7 := Lib.hid (show Blk (w6.setCell ⟨N, 5, none⟩ (.slice B6 (gi ++ [y]).length d6)) w.heap.size 30 _ from (HZ5.out.below hb6 (by omega)).far (by show w.heap.size ≠ N; omega) _)
            have HB7 := Lib.hid ((HB5.out.trans (hb6.mono (by omega))).setCell (p := ⟨N, 5, none⟩) (by show w.heap.size ≤ N; omega) (.slice B6 (gi ++ [y]).length d6))
            have HST7 : JobSt (w6.setCell ⟨N, 5, none⟩ (.slice B6 (gi ++ [y]).length d6)) N R1 L1 true ga (gi ++ [y]) := ⟨A5, B6, c5, d6, m5, HBK6.out.set_ 5 _, hm5, by have := hb6.size; simp [World.setCell]; omega, .inr ⟨rfl, (HRA5.out.below hb6 (Nat.le_refl _)).keep fun q h1 h2 => Below.heap_setCell _ ⟨N, 5, none⟩ _ q (by show q ≠ N; omega), hown6.set_lo (by omega)⟩⟩
            go_roundw
            case rel => exact ⟨k + 1, true, ga, gi ++ [y], by omega, rfl, by go_num, by rw [List.length_append, List.length_singleton] at HST7; exact HST7, HJ2.out, by omega, by rw [List.length_append, List.length_singleton]; omega, by rw [List.length_append, List.length_singleton] at HZ7; exact HZ7.out, by rw [List.length_append, List.length_singleton] at HB7; exact HB7.out⟩
            case measure => simp [intOf]; omega
      · have i1 : ¬ (k : Int) < (xs.length : Int) := by omega
        have hj2 := HJE.out
        rw [List.drop_of_length_le (by omega), jobEnd_nil] at hj2
        injection hj2 with j1 j2
        obtain ⟨A5, B5, c5, d5, hbk5, ra5, rb5⟩ := HSTr.out.act
        have HRA := Lib.hid ra5; have HRB := Lib.hid rb5
        have f5 := hbk5.cell
        have fz := HZr.out.cell
        have zz := HZr.out.frozen
        have hNl := hbk5.lt
        have HJ1 := Lib.hid j1; have HJ2 := Lib.hid j2
        clear j1 j2 HJE hbk5 ra5 rb5
        go_wp2_with fail
        refine bodyPost_ret (v := .agg (jobCs R1 L1 A5 ga.length c5 B5 gi.length d5)) (by simp [results, Tryz.results172, go_sem, fz]) rfl ⟨⟨_, rfl, ⟨A5, c5, B5, d5, none, 0, ?_, ?_, ?_, ⟨rfl, fun h => absurd h (Nat.lt_irrefl 0)⟩⟩⟩, ?_⟩
        · rw [← HJ1.out, ← HJ2.out]; rfl
        · rw [← HJ1.out]
          refine RowR.more (lo := N + 1) (hi := wr.heap.size) ?_ (by omega) (by simp [World.setCell])
          iterate 7 (with_reducible refine RowR.set_lo ?_ (by show w.heap.size < N + 1; omega))
          exact HRA.out
        · rw [← HJ2.out]
          refine RowR.more (lo := N + 1) (hi := wr.heap.size) ?_ (by omega) (by simp [World.setCell])
          iterate 7 (with_reducible refine RowR.set_lo ?_ (by show w.heap.size < N + 1; omega))
          exact HRB.out
        · repeat (with_reducible refine Below.setCell ?_ (by first | exact Nat.le_refl _ | (show _ ≤ _; omega)) _)
          exact HBr.out
end Go.Proofs.YtcjaaknnfohllaaGreatDoor

/- The program's words of an operation walked: decimal, siteWord, sitesWord. -/
namespace Go.Proofs.YtcjaaknnfohllaaGreatDoor
open Go.RowKit

theorem decI_any (n : Int) (h1 : -9223372036854775807 ≤ n) (h2 : n ≤ 9223372036854775807) (w : World) (hT : TabsIn w) : Calls Tryz.prog 34 #[.int .i64 n] w fun e w' => e = .returned (.string (decW n)) ∧ Below w.heap.size w w' := by
  have HF := Lib.hid (fun W h => Tryz.strconv_FormatInt_10 n (by omega) (by omega) W h)
  go_enter Tryz.func34, Tryz.ntmps34
  go_wp2_with fail
  refine (HF.out _ hT).mono ?_
  rintro e1 w1 ⟨rfl, q, os, rfl⟩
  have hb := Lib.hid (Lib.below_grow w.heap.size w (Nat.le_refl _) q os)
  go_wp2_with fail
  go_ret
  exact ⟨rfl, hb.out⟩

def wordK (k : Int) : ByteArray := if k = 1 then wJob else if k = 2 then wStep else if k = 3 then wTick else if k = 4 then wFlush else if k = 5 then wPages else if k = 6 then wCheck else wCrash
def wordS (k : Int) : ByteArray := if k = 2 then wShip else if k = 3 then wArrive else if k = 4 then wLose else if k = 5 then wTwice else if k = 6 then wCopy else wSwitch
set_option maxHeartbeats 4000000 in
set_option maxRecDepth 100000 in
theorem siteWord_any (k : Int) (h1 : 1 ≤ k) (h2 : k ≤ 7) (w : World) : Calls Tryz.prog 53 #[.int .i64 k] w fun e w' => e = .returned (.string (wordK k)) ∧ Below w.heap.size w w' := by
  have HD := Lib.hid (fun o => (Below.refl w.heap.size w).alloc (Nat.le_refl _) o)
  rcases (show k = 1 ∨ k = 2 ∨ k = 3 ∨ k = 4 ∨ k = 5 ∨ k = 6 ∨ k = 7 by omega) with rfl | rfl | rfl | rfl | rfl | rfl | rfl
  all_goals
    go_enter Tryz.func53, Tryz.ntmps53
    go_wp2_with fail
    go_ret
    exact ⟨rfl, HD.out _⟩
set_option maxHeartbeats 4000000 in
set_option maxRecDepth 100000 in
theorem sitesWord_any (k : Int) (h1 : 2 ≤ k) (h2 : k ≤ 7) (w : World) : Calls Tryz.prog 33 #[.int .i64 k] w fun e w' => e = .returned (.string (wordS k)) ∧ Below w.heap.size w w' := by
  have HD := Lib.hid (fun o => (Below.refl w.heap.size w).alloc (Nat.le_refl _) o)
  rcases (show k = 2 ∨ k = 3 ∨ k = 4 ∨ k = 5 ∨ k = 6 ∨ k = 7 by omega) with rfl | rfl | rfl | rfl | rfl | rfl
  all_goals
    go_enter Tryz.func33, Tryz.ntmps33
    go_wp2_with fail
    go_ret
    exact ⟨rfl, HD.out _⟩
end Go.Proofs.YtcjaaknnfohllaaGreatDoor

/- The program's reading of an operation walked: numbers, texts. -/
namespace Go.Proofs.YtcjaaknnfohllaaGreatDoor
open Go.RowKit

theorem uint_len : ∀ (l : List UInt8) (acc u : Nat), Lib.parseUint10 acc l = .ok u → u < (acc + 1) * 10 ^ l.length
  | [], acc, u, h => by
    simp only [Lib.parseUint10] at h
    injection h with h
    simp; omega
  | c :: r, acc, u, h => by
    simp only [Lib.parseUint10] at h
    split at h
    · rename_i hc
      split at h
      · cases h
      · split at h
        · cases h
        · have h1 := uint_len r _ u h
          have h2 : acc * 10 + (c.toNat - 48) + 1 ≤ (acc + 1) * 10 := by omega
          have h3 := Nat.mul_le_mul_right (10 ^ r.length) h2
          rw [List.length_cons, Nat.pow_succ]
          have h4 : (acc + 1) * 10 * 10 ^ r.length = (acc + 1) * (10 ^ r.length * 10) := by rw [Nat.mul_assoc, Nat.mul_comm 10]
          omega
    · cases h
theorem mag_len {l : List UInt8} {u : Nat} (h : Lib.parseMag l = .ok u) : u < 10 ^ l.length := by
  unfold Lib.parseMag at h
  split at h
  · cases h
  · have := uint_len l 0 u h
    simpa using this
theorem atoi_len {l : List UInt8} {n : Int} (h : Lib.atoiAll l = .ok n) (hl : l.length ≤ 8) : -100000000 ≤ n ∧ n ≤ 100000000 := by
  cases l with
  | nil => cases h
  | cons c r =>
    have hp : ∀ (m : List UInt8) (u : Nat), m.length ≤ 8 → Lib.parseMag m = .ok u → u ≤ 100000000 := fun m u hm hu => by
      have h1 := mag_len hu
      have h2 : 10 ^ m.length ≤ 10 ^ 8 := Nat.pow_le_pow_right (by decide) hm
      omega
    rw [List.length_cons] at hl
    by_cases h43 : c.toNat = 43
    · have : c = 43 := u8_eq h43
      subst this
      rw [Lib.atoiAll_plus] at h
      unfold Lib.signless at h
      split at h
      · cases h
      · cases h
      · rename_i u hu
        have := hp r u (by omega) hu
        split at h
        · cases h
        · injection h with h; omega
    · by_cases h45 : c.toNat = 45
      · have : c = 45 := u8_eq h45
        subst this
        rw [Lib.atoiAll_minus] at h
        unfold Lib.signed at h
        split at h
        · cases h
        · cases h
        · rename_i u hu
          have := hp r u (by omega) hu
          split at h
          · cases h
          · injection h with h; omega
      · rw [Lib.atoiAll_plain c r h43 h45] at h
        unfold Lib.signless at h
        split at h
        · cases h
        · cases h
        · rename_i u hu
          have := hp (c :: r) u (by rw [List.length_cons]; omega) hu
          split at h
          · cases h
          · injection h with h; omega

/-- strconv.ParseInt(s, 10, 64) at every text. -/
theorem parseInt_any (s : ByteArray) (hs : s.size ≤ 1048576) (w : World) (hE : EnvR w) :
    Calls Tryz.prog 117 #[.string s, .int .i64 10, .int .i64 64] w fun e w' => (∃ v ev, e = .returned (.tuple #[.int .i64 v, ev]) ∧ ((Lib.atoiAll s.data.toList = .ok v ∧ ev = .nilIface) ∨ ((∀ n, Lib.atoiAll s.data.toList ≠ .ok n) ∧ ∃ t p, ev = .iface t p))) ∧ Below w.heap.size w w' := by
  rw [← Lib.parseIntB_64]
  cases h : Lib.parseIntB 64 s.data.toList with
  | ok v =>
    refine (Tryz.strconv_ParseInt_10_at64_ok s (by omega) v h w).mono ?_
    rintro e w' ⟨rfl, hw⟩
    refine ⟨⟨v, .nilIface, rfl, .inl ⟨rfl, rfl⟩⟩, ?_⟩
    rcases hw with rfl | ⟨t, rfl⟩
    · exact Below.refl _ _
    · exact ⟨rfl, rfl, rfl, by rw [Lib.bytesWorld_size]; omega, fun k hk => Lib.bytesWorld_at_old w _ t k hk⟩
  | range =>
    obtain ⟨ev, h1, h2⟩ := hE.2.2
    refine (Tryz.strconv_ParseInt_10_at64_range s (by omega) h ev w h1 h2).mono ?_
    rintro e w' ⟨N, rfl, _, _, hb⟩
    exact ⟨⟨_, _, rfl, .inr ⟨fun n hn => (by cases hn), _, _, rfl⟩⟩, hb⟩
  | _ =>
    obtain ⟨ev, h1, h2⟩ := hE.2.1
    refine (Tryz.strconv_ParseInt_10_at64_syntax s (by omega) h ev w h1 h2).mono ?_
    rintro e w' ⟨N, rfl, _, _, hb⟩
    exact ⟨⟨_, _, rfl, .inr ⟨fun n hn => (by cases hn), _, _, rfl⟩⟩, hb⟩

set_option maxHeartbeats 4000000 in
set_option maxRecDepth 100000 in
theorem readInteger_any (x : ByteArray) (hs : x.size ≤ 1048576) (w : World) (hE : EnvR w) :
    Calls Tryz.prog 55 #[.string x] w fun e w' => e = .returned (.tuple #[.int .i64 (numI x).1, .bool (numI x).2]) ∧ Below w.heap.size w w' := by
  have HP := Lib.hid (parseInt_any x hs w hE)
  have HE := Lib.hid hE
  have HDC := Lib.hid (fun n h1 h2 W h => decI_any n h1 h2 W h)
  have HNI := Lib.hid (show numI x = _ from rfl)
  unfold numI at HNI
  clear hE
  cases ha : Lib.atoiAll x.data.toList with
  | ok n =>
    have hn : numI x = if x.size ≤ 8 ∧ decW n = x then (n, true) else (0, false) := by unfold numI; rw [ha]
    have hP2 : Calls Tryz.prog 117 #[.string x, .int .i64 10, .int .i64 64] w fun e w' => e = .returned (.tuple #[.int .i64 n, .nilIface]) ∧ Below w.heap.size w w' := HP.out.mono fun e w' ⟨⟨v, ev, he, h⟩, hb⟩ => by
      rw [ha] at h
      rcases h with ⟨h1, h2⟩ | ⟨h1, _⟩
      · injection h1 with h1
        subst h1 h2
        exact ⟨he, hb⟩
      · exact absurd rfl (h1 n)
    have HP2 := Lib.hid hP2
    by_cases h8 : x.size ≤ 8
    · have i8 : ¬ (8 : Int) < (x.size : Int) := by omega
      obtain ⟨b1, b2⟩ := atoi_len ha (by rw [len_list]; exact h8)
      have HD := Lib.hid (fun W h => HDC.out n (by omega) (by omega) W h)
      have HBD := Lib.hid (beq_dec (decW n) x)
      have HN := Lib.hid hn
      have H8 := Lib.hid h8
      clear hn ha HP hP2 HNI HDC h8
      by_cases hd : decW n = x
      · have hq : ((decW n).toList == x.toList) = true := by rw [HBD.out, decide_eq_true hd]
        have HF := Lib.hid (show numI x = (n, true) by rw [HN.out, if_pos ⟨H8.out, hd⟩])
        rw [HF.out]
        have HH := Lib.hid hd
        clear hd
        generalize decW n = DN at *
        go_enter Tryz.func55, Tryz.ntmps55
        go_wp2_with fail
        refine HP2.out.mono ?_; rintro e1 w1 ⟨rfl, hb1⟩
        have HB1 := Lib.hid hb1
        clear hb1
        go_wp2_with fail
        refine (HD.out _ (HE.out.1.1.below HB1.out)).mono ?_; rintro e2 w2 ⟨rfl, hb2⟩
        go_wp2_with fail
        go_ret2
        exact ⟨rfl, HB1.out.trans (hb2.mono HB1.out.size)⟩
      · have hq : ((decW n).toList == x.toList) = false := by rw [HBD.out, decide_eq_false hd]
        have HF := Lib.hid (show numI x = (0, false) by rw [HN.out, if_neg (fun h => hd h.2)])
        rw [HF.out]
        have HH := Lib.hid hd
        clear hd
        generalize decW n = DN at *
        go_enter Tryz.func55, Tryz.ntmps55
        go_wp2_with fail
        refine HP2.out.mono ?_; rintro e1 w1 ⟨rfl, hb1⟩
        have HB1 := Lib.hid hb1
        clear hb1
        go_wp2_with fail
        refine (HD.out _ (HE.out.1.1.below HB1.out)).mono ?_; rintro e2 w2 ⟨rfl, hb2⟩
        go_wp2_with fail
        go_ret2
        exact ⟨rfl, HB1.out.trans (hb2.mono HB1.out.size)⟩
    · have i8 : (8 : Int) < (x.size : Int) := by omega
      have HF := Lib.hid (show numI x = (0, false) by rw [hn, if_neg (fun h => h8 h.1)])
      rw [HF.out]
      clear hn ha HP hP2 HNI HDC
      go_enter Tryz.func55, Tryz.ntmps55
      go_wp2_with fail
      refine HP2.out.mono ?_; rintro e1 w1 ⟨rfl, hb1⟩
      go_wp2_with fail
      go_ret2
      exact ⟨rfl, hb1⟩
  | _ =>
    have hn : numI x = (0, false) := by unfold numI; rw [ha]
    have HF := Lib.hid hn
    rw [HF.out]
    have hP2 : Calls Tryz.prog 117 #[.string x, .int .i64 10, .int .i64 64] w fun e w' => (∃ v t p, e = .returned (.tuple #[.int .i64 v, .iface t p])) ∧ Below w.heap.size w w' := HP.out.mono fun e w' ⟨⟨v, ev, he, h⟩, hb⟩ => by
      rcases h with ⟨h1, h2⟩ | ⟨_, t, p, h2⟩
      · rw [ha] at h1; cases h1
      · subst h2; exact ⟨⟨v, t, p, he⟩, hb⟩
    have HP2 := Lib.hid hP2
    clear hn ha HP hP2 HNI HDC
    go_enter Tryz.func55, Tryz.ntmps55
    go_wp2_with fail
    refine HP2.out.mono ?_; rintro e1 w1 ⟨⟨v1, t1, p1, rfl⟩, hb1⟩
    go_wp2_with fail
    go_ret2
    exact ⟨rfl, hb1⟩
end Go.Proofs.YtcjaaknnfohllaaGreatDoor
