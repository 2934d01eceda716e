/- The program's reading of an operation walked: a job's words. -/
import Derived.Test.YtcjaaknnfohllaaGreatDoorJoinRSAAs
import Derived.Test.YtcjaaknnfohllaaGreatDoorJoinRSAAf
import Derived.Test.YtcjaaknnfohllaaGreatDoorJoinRSAAa
import Derived.Test.YtcjaaknnfohllaaGreatDoorJoinRSAAo
import Derived.Test.YtcjaaknnfohllaaGreatDoorShelfF
namespace Go.Proofs.YtcjaaknnfohllaaGreatDoor
open Go.RowKit

set_option maxHeartbeats 8000000 in
set_option maxRecDepth 100000 in
theorem readJob_any (A : Option Addr) (n c lo hi : Nat) (xs : List ByteArray) (w : World) (hEw : EnvR w) (ha : StrR w lo hi A n xs) (hhi : hi ≤ w.heap.size) (hn : n ≤ 1048576) (hcap : n ≤ c) (hsz : ∀ y ∈ xs, y.size ≤ 1048576) :
    Calls Tryz.prog 116 #[.slice A n c] w fun e w' => (∃ v, e = .returned v ∧ ActO w' w.heap.size v (jobI xs)) ∧ Below w.heap.size w w' := by
  have hl := ha.1
  subst hl
  have HBZ := Lib.hid (Blk.new w 30 #[.int .i64 0, .int .i64 0, .string ⟨#[]⟩, .string ⟨#[]⟩, .slice none 0 0, .slice none 0 0, .slice none 0 0])
  have hd1 := (Below.refl w.heap.size w).alloc (Nat.le_refl _) (.cells #[.int .i64 0, .int .i64 0, .string ⟨#[]⟩, .string ⟨#[]⟩, .slice none 0 0, .slice none 0 0, .slice none 0 0] 30)
  have HD1 := Lib.hid hd1
  have HA1 := Lib.hid (ha.below hd1 hhi)
  have HA0 := Lib.hid ha
  have hs1 := own_alloc_sz w (.cells #[.int .i64 0, .int .i64 0, .string ⟨#[]⟩, .string ⟨#[]⟩, .slice none 0 0, .slice none 0 0, .slice none 0 0] 30)
  clear ha hd1
  have hbn := Blk.new (w.alloc (.cells #[.int .i64 0, .int .i64 0, .string ⟨#[]⟩, .string ⟨#[]⟩, .slice none 0 0, .slice none 0 0, .slice none 0 0] 30)) 30 #[.int .i64 1, .int .i64 0, .string ⟨#[]⟩, .string ⟨#[]⟩, .slice none 0 0, .slice none 0 0, .slice none 0 0]
  rw [hs1] at hbn
  have HBN := Lib.hid hbn
  clear hbn
  have HZ2 := Lib.hid (HBZ.out.alloc (.cells #[.int .i64 1, .int .i64 0, .string ⟨#[]⟩, .string ⟨#[]⟩, .slice none 0 0, .slice none 0 0, .slice none 0 0] 30))
  have HB2 := Lib.hid (HD1.out.alloc HD1.out.size (.cells #[.int .i64 1, .int .i64 0, .string ⟨#[]⟩, .string ⟨#[]⟩, .slice none 0 0, .slice none 0 0, .slice none 0 0] 30))
  have hs2 := own_alloc_sz (w.alloc (.cells #[.int .i64 0, .int .i64 0, .string ⟨#[]⟩, .string ⟨#[]⟩, .slice none 0 0, .slice none 0 0, .slice none 0 0] 30)) (.cells #[.int .i64 1, .int .i64 0, .string ⟨#[]⟩, .string ⟨#[]⟩, .slice none 0 0, .slice none 0 0, .slice none 0 0] 30)
  rw [hs1] at hs2
  have HA2 := Lib.hid (HA1.out.below ((Below.refl _ _).alloc (Nat.le_refl _) (.cells #[.int .i64 1, .int .i64 0, .string ⟨#[]⟩, .string ⟨#[]⟩, .slice none 0 0, .slice none 0 0, .slice none 0 0] 30)) (by omega))
  have HEW := Lib.hid hEw
  have HSY := Lib.hid hsz
  clear hEw hsz
  by_cases h3 : xs.length < 2
  · have HR := Lib.hid (show jobI xs = ⟨1, 0, eB, eB, [], [], []⟩ from if_pos h3)
    have i3 : (xs.length : Int) < 2 := by omega
    rw [HR.out]
    go_enter Tryz.func116, Tryz.ntmps116
    go_upto_region 2 with fail
    generalize ((w.alloc (.cells #[.int .i64 0, .int .i64 0, .string ⟨#[]⟩, .string ⟨#[]⟩, .slice none 0 0, .slice none 0 0, .slice none 0 0] 30)).alloc (.cells #[.int .i64 1, .int .i64 0, .string ⟨#[]⟩, .string ⟨#[]⟩, .slice none 0 0, .slice none 0 0, .slice none 0 0] 30)) = w2 at *
    clear HD1 HA1 hs1 HBZ
    generalize hN : w.heap.size + 1 = N at *
    have fn := HBN.out.cell
    have fz := HZ2.out.cell
    have zz := HZ2.out.frozen
    go_wp2_with fail
    refine bodyPost_ret (v := .agg #[.int .i64 1, .int .i64 0, .string ⟨#[]⟩, .string ⟨#[]⟩, .slice none 0 0, .slice none 0 0, .slice none 0 0]) (by simp [results, Tryz.results116, go_sem, fz]) rfl ⟨⟨_, rfl, ⟨none, 0, none, 0, none, 0, w.heap.size, w.heap.size, rfl, Nat.le_refl _, Nat.le_refl _, by simp [World.setCell]; omega, OwnIn.nil_ _ _ _ _ _, OwnIn.nil_ _ _ _ _ _, OwnIn.nil_ _ _ _ _ _⟩⟩, ?_⟩
    repeat (with_reducible refine Below.setCell ?_ (by first | exact Nat.le_refl _ | (show _ ≤ _; omega)) _)
    exact HB2.out
  · have i3 : ¬ (xs.length : Int) < 2 := by omega
    have HR := Lib.hid (show jobI xs = ⟨1, 0, xs.getD 0 eB, xs.getD 1 eB, ((xs.drop 2).takeWhile (fun y => decide (y ≠ wIn))).map rdW, (((xs.drop 2).dropWhile (fun y => decide (y ≠ wIn))).drop 1).map rdW, []⟩ from if_neg h3)
    have HPC := Lib.hid (placeIn_cases wIn (xs.drop 2) 0)
    have HLD := Lib.hid (show (xs.drop 2).length = xs.length - 2 from List.length_drop ..)
    have HXD := Lib.hid (fun y (hy : y ∈ xs.drop 2) => HSY.out y (List.mem_of_mem_drop hy))
    obtain ⟨b, off, rfl, hbl0, hbh0, hcw⟩ := HA0.out.2 (by omega)
    have HAD := Lib.hid (fun (h : 2 < xs.length) => drop_row HA0.out 2 h)
    have hR1 : w.cell? ⟨b, off, none⟩ = some (.string (xs.getD 0 eB)) := hcw 0 (by omega)
    have hR2 : w.cell? ⟨b, off + 1, none⟩ = some (.string (xs.getD 1 eB)) := hcw 1 (by omega)
    generalize xs.getD 0 eB = R1 at *
    generalize xs.getD 1 eB = L1 at *
    rw [HR.out]
    generalize (xs.drop 2).takeWhile (fun y => decide (y ≠ wIn)) = T at *
    generalize (xs.drop 2).dropWhile (fun y => decide (y ≠ wIn)) = D at *
    have c1 := (HB2.out.cell (p := ⟨b, off, none⟩) (by show b < w.heap.size; omega)).trans hR1
    have c2 := (HB2.out.cell (p := ⟨b, off + 1, none⟩) (by show b < w.heap.size; omega)).trans hR2
    have HRW := Lib.hid hR1
    clear HR hR1 hR2 hcw
    go_enter Tryz.func116, Tryz.ntmps116
    go_upto_region 2 with fail
    generalize ((w.alloc (.cells #[.int .i64 0, .int .i64 0, .string ⟨#[]⟩, .string ⟨#[]⟩, .slice none 0 0, .slice none 0 0, .slice none 0 0] 30)).alloc (.cells #[.int .i64 1, .int .i64 0, .string ⟨#[]⟩, .string ⟨#[]⟩, .slice none 0 0, .slice none 0 0, .slice none 0 0] 30)) = w2 at *
    clear HD1 HA1 hs1 HBZ
    generalize hN : w.heap.size + 1 = N at *
    have hi1 : 1 < xs.length := by omega
    have hi2 : 0 < xs.length := by omega
    have hj1 : (1 : Int) < (xs.length : Int) := by omega
    have hj2 : (0 : Int) < (xs.length : Int) := by omega
    have hneb : b ≠ N := by omega
    have HC1 := Lib.hid c1; have HC2 := Lib.hid c2
    clear c1 c2
    go_upto_region 4 with fail
    refine AnyT.region (fun _ => false) (fun w' => w'.cell? ⟨b, off, none⟩ = some (.string R1) ∧ w'.cell? ⟨b, off + 1, none⟩ = some (.string L1)) (by kernel_rfl) ⟨HC1.out, HC2.out⟩ (fun hHeld => ?_)
    ((refine AnyT.takeAny 0 12 ?_ rfl (by kernel_rfl) (by kernel_rfl) (by kernel_rfl) rfl rfl (fun _ _ _ _ h => h) rfl ?_ (by assumption) ?_); rotate_left; (intro w; go_simp; (try (with_reducible rfl))); simp only [Act.put, List.setIfInBounds_toArray, List.set_cons_zero, List.set_cons_succ])
    ((refine AnyT.takeAny 1 13 ?_ rfl (by kernel_rfl) (by kernel_rfl) (by kernel_rfl) rfl rfl (fun _ _ _ _ h => h) rfl ?_ (by assumption) ?_); rotate_left; (intro w; go_simp; (try (with_reducible rfl))); simp only [Act.put, List.setIfInBounds_toArray, List.set_cons_zero, List.set_cons_succ])
    ((refine AnyT.take 2 14 ?_ rfl (by kernel_rfl) (by kernel_rfl) (by kernel_rfl) (by kernel_rfl) rfl (by kernel_rfl) rfl (fun _ _ _ _ h => h) rfl ?_ (by assumption) ?_); rotate_left; (intro w hSw; (try dsimp only at hSw); go_simp; (try (with_reducible rfl))); simp only [Act.put, List.setIfInBounds_toArray, List.set_cons_zero, List.set_cons_succ])
    ((refine AnyT.takeAny 3 15 ?_ rfl (by kernel_rfl) (by kernel_rfl) (by kernel_rfl) rfl rfl (fun _ _ _ _ h => h) rfl ?_ (by assumption) ?_); rotate_left; (intro w; go_simp; (try (with_reducible rfl))); simp only [Act.put, List.setIfInBounds_toArray, List.set_cons_zero, List.set_cons_succ])
    ((refine AnyT.takeAny 4 16 ?_ rfl (by kernel_rfl) (by kernel_rfl) (by kernel_rfl) rfl rfl (fun _ _ _ _ h => h) rfl ?_ (by assumption) ?_); rotate_left; (intro w; go_simp; (try (with_reducible rfl))); simp only [Act.put, List.setIfInBounds_toArray, List.set_cons_zero, List.set_cons_succ])
    ((refine AnyT.take 5 17 ?_ rfl (by kernel_rfl) (by kernel_rfl) (by kernel_rfl) (by kernel_rfl) rfl (by kernel_rfl) rfl (fun _ _ _ _ h => h) rfl ?_ (by assumption) ?_); rotate_left; (intro w hSw; (try dsimp only at hSw); go_simp; (try (with_reducible rfl))); simp only [Act.put, List.setIfInBounds_toArray, List.set_cons_zero, List.set_cons_succ])
    ((refine AnyT.takeAny 6 18 ?_ rfl (by kernel_rfl) (by kernel_rfl) (by kernel_rfl) rfl rfl (fun _ _ _ _ h => h) rfl ?_ (by assumption) ?_); rotate_left; (intro w; go_simp; (try (with_reducible rfl))); simp only [Act.put, List.setIfInBounds_toArray, List.set_cons_zero, List.set_cons_succ])
    have fn := HBN.out.cell
    have zn := HBN.out.frozen
    ((refine AnyT.one (i := 7) (by kernel_rfl) rfl (fun K hK => ?_)))
    go_simp
    have HS3 := Lib.hid (show (w2.setCell ⟨N, 2, none⟩ (.string R1)).cell? ⟨b, off, none⟩ = some (.string R1) ∧ (w2.setCell ⟨N, 2, none⟩ (.string R1)).cell? ⟨b, off + 1, none⟩ = some (.string L1) from ⟨(World.cell?_of_block (Below.heap_setCell _ ⟨N, 2, none⟩ _ b hneb)).trans HC1.out, (World.cell?_of_block (Below.heap_setCell _ ⟨N, 2, none⟩ _ b hneb)).trans HC2.out⟩)
    refine hK.out _ _ HS3.out (fun hHeld => ?_)
    clear hK K fn zn
    (try simp only [Go.Act.put, List.setIfInBounds_toArray, List.set_cons_zero, List.set_cons_succ])
    ((refine AnyT.takeAny 8 19 ?_ rfl (by kernel_rfl) (by kernel_rfl) (by kernel_rfl) rfl rfl (fun _ _ _ _ h => h) rfl ?_ (by assumption) ?_); rotate_left; (intro w; go_simp; (try (with_reducible rfl))); simp only [Act.put, List.setIfInBounds_toArray, List.set_cons_zero, List.set_cons_succ])
    have hbk3 : Blk (w2.setCell ⟨N, 2, none⟩ (.string R1)) N 30 (jobCs R1 eB none 0 0 none 0 0) := HBN.out.set_ 2 _
    have HBK3 := Lib.hid hbk3
    have fn := hbk3.cell
    have zn := hbk3.frozen
    clear hbk3
    ((refine AnyT.one (i := 9) (by kernel_rfl) rfl (fun K hK => ?_)))
    go_simp
    have HS4 := Lib.hid (show ((w2.setCell ⟨N, 2, none⟩ (.string R1)).setCell ⟨N, 3, none⟩ (.string L1)).cell? ⟨b, off, none⟩ = some (.string R1) ∧ ((w2.setCell ⟨N, 2, none⟩ (.string R1)).setCell ⟨N, 3, none⟩ (.string L1)).cell? ⟨b, off + 1, none⟩ = some (.string L1) from ⟨(World.cell?_of_block (Below.heap_setCell _ ⟨N, 3, none⟩ _ b hneb)).trans HS3.out.1, (World.cell?_of_block (Below.heap_setCell _ ⟨N, 3, none⟩ _ b hneb)).trans HS3.out.2⟩)
    refine hK.out _ _ HS4.out (fun hHeld => ?_)
    clear hK K fn zn
    (try simp only [Go.Act.put, List.setIfInBounds_toArray, List.set_cons_zero, List.set_cons_succ])
    refine AnyT.done (by kernel_rfl) ?_ _
    have HBK4 := Lib.hid (show Blk ((w2.setCell ⟨N, 2, none⟩ (.string R1)).setCell ⟨N, 3, none⟩ (.string L1)).drew N 30 (jobCs R1 L1 none 0 0 none 0 0) from HBK3.out.set_ 3 _)
    have HZ4 := Lib.hid (show Blk ((w2.setCell ⟨N, 2, none⟩ (.string R1)).setCell ⟨N, 3, none⟩ (.string L1)).drew w.heap.size 30 _ from (HZ2.out.far (by show w.heap.size ≠ N; omega) _).far (by show w.heap.size ≠ N; omega) _)
    have HB4 := Lib.hid (show Below w.heap.size w ((w2.setCell ⟨N, 2, none⟩ (.string R1)).setCell ⟨N, 3, none⟩ (.string L1)).drew from ((HB2.out.setCell (p := ⟨N, 2, none⟩) (by show w.heap.size ≤ N; omega) (.string R1)).setCell (p := ⟨N, 3, none⟩) (by show w.heap.size ≤ N; omega) (.string L1)).drew)
    generalize ((w2.setCell ⟨N, 2, none⟩ (.string R1)).setCell ⟨N, 3, none⟩ (.string L1)).drew = w4 at *
    clear HS3 HS4 HBK3 HC1 HC2 HBN HZ2 HB2 HA2 hs2 hHeld
    have hle2 : 2 ≤ xs.length := by omega
    have hlc2 : 2 ≤ c := by omega
    go_upto_region 6 with fail
    obtain ⟨o2, hA2, ho2⟩ : ∃ o2 : Nat, (if c = 2 then some (⟨b, off, none⟩ : Addr) else some ⟨b, off + 2, none⟩) = some ⟨b, o2, none⟩ ∧ (2 < xs.length → o2 = off + 2) := by
      by_cases hc2 : c = 2
      · exact ⟨off, by rw [if_pos hc2], fun h => by omega⟩
      · exact ⟨off + 2, by rw [if_neg hc2], fun _ => rfl⟩
    rw [hA2]
    have HRX := Lib.hid (show StrR w lo hi (some ⟨b, o2, none⟩) (xs.length - 2) (xs.drop 2) from by
      by_cases h2 : 2 < xs.length
      · have := HAD.out h2
        rw [ho2 h2]; exact this
      · exact ⟨HLD.out, fun h => absurd h (by omega)⟩)
    have hb5 := (Below.refl w4.heap.size w4).alloc (Nat.le_refl _) (.cells #[] 9)
    have HBK5 := Lib.hid (HBK4.out.alloc (.cells #[] 9))
    have HZ5 := Lib.hid (HZ4.out.alloc (.cells #[] 9))
    have HB5 := Lib.hid (HB4.out.trans (hb5.mono HB4.out.size))
    have HR5 := Lib.hid (HRX.out.below HB5.out hhi)
    have HE5 := Lib.hid (show StrR (w4.alloc (.cells #[] 9)) w4.heap.size (w4.alloc (.cells #[] 9)).heap.size (some ⟨w4.heap.size, 0, none⟩) 0 [] from ⟨rfl, fun h => absurd h (Nat.lt_irrefl 0)⟩)
    have hs5 := own_alloc_sz w4 (.cells #[] 9)
    have hN5 := HBK5.out.lt
    clear HBK4 HZ4 HB4 HA0 HAD hA2 ho2 hb5 HRX hs5
    generalize w4.alloc (.cells #[] 9) = w5 at *
    have HIX := Lib.hid (index_any (some ⟨b, o2, none⟩) (xs.length - 2) (c - 2) lo hi (xs.drop 2) wIn w5 HR5.out (by omega))
    have hcX : xs.length - 2 ≤ c - 2 := by omega
    generalize hX : xs.drop 2 = X at *
    generalize hNX : xs.length - 2 = NX at *
    generalize hCX : c - 2 = CX at *
    clear hX
    generalize w4.heap.size = M4 at *
    rcases HPC.out with ⟨hp, ht, hdw⟩ | ⟨m, hp, hm, ht, hdw⟩
    · have HI2 := Lib.hid (show Calls Tryz.prog 174 #[.slice (some ⟨b, o2, none⟩) NX CX, .string ⟨#[105, 110]⟩] w5 fun e w' => e = .returned (.int .i64 (-1)) ∧ w5 = w' from by
        have h := HIX.out
        rw [hp] at h
        exact h)
      clear HIX
      have HT := Lib.hid (show T = X from ht)
      have HDD := Lib.hid (show D.drop 1 = [] by rw [hdw]; rfl)
      clear HPC hp ht hdw
      go_wp2_with fail
      refine HI2.out.mono ?_; rintro e6 w6 ⟨rfl, hw6⟩
      rw [hw6] at HBK5 HZ5 HB5 HR5 HE5 HI2
      clear hw6
      have HBK6 := HBK5; have HZ6 := HZ5; have HB6 := HB5
      have HR1 := Lib.hid (HR5.out.more (Nat.le_refl _) (Nat.le_trans hhi HB5.out.size))
      have HR2 := HE5
      have HS1 := HXD
      have HS2 := Lib.hid (show ∀ y ∈ ([] : List ByteArray), y.size ≤ 1048576 from fun y hy => absurd hy List.not_mem_nil)
      clear HBK5 HZ5 HB5 HR5 HE5 HI2
      go_wp2_with fail
      have hN6 := HBK6.out.lt
      refine (readPlains_any (some ⟨b, o2, none⟩) NX CX lo w6.heap.size X w6 (HEW.out.below HB6.out) HR1.out (Nat.le_refl _) (by omega) HS1.out).mono ?_
      rintro e7 w7 ⟨⟨v7, rfl, hv7⟩, hb7⟩
      obtain ⟨A7, c7, rfl⟩ := hv7.1
      have hs7 := hb7.size
      have HO7 := Lib.hid (OwnIn.of_own hv7)
      have HR7 := Lib.hid (HR2.out.below hb7 (Nat.le_refl _))
      have HBK7 := Lib.hid (HBK6.out.below hb7 HBK6.out.lt)
      have HZ7 := Lib.hid (HZ6.out.below hb7 HZ6.out.lt)
      have HB7 := Lib.hid (HB6.out.trans (hb7.mono HB6.out.size))
      simp only [List.length_map, List.map_nil, List.length_nil] at HO7
      clear hb7 hv7 HBK6 HZ6 HB6 HR1 HR2
      go_wp2_with fail
      refine (readPlains_any (some ⟨M4, 0, none⟩) 0 0 M4 w6.heap.size [] w7 (HEW.out.below HB7.out) HR7.out (by omega) (by omega) HS2.out).mono ?_
      rintro e8 w8 ⟨⟨v8, rfl, hv8⟩, hb8⟩
      obtain ⟨A8, c8, rfl⟩ := hv8.1
      have hs8 := hb8.size
      have HO8 := Lib.hid (OwnIn.of_own hv8)
      have HP8 := Lib.hid (HO7.out.below hb8)
      have HBK8 := Lib.hid (HBK7.out.below hb8 HBK7.out.lt)
      have HZ8 := Lib.hid (HZ7.out.below hb8 HZ7.out.lt)
      have HB8 := Lib.hid (HB7.out.trans (hb8.mono HB7.out.size))
      simp only [List.length_map, List.map_nil, List.length_nil] at HO8
      clear hb8 hv8 HBK7 HZ7 HB7 HR7 HO7
      have fn := HBK8.out.cell
      have zn := HBK8.out.frozen
      have hNl := HBK8.out.lt
      go_upto_region 10 with fail
      have hbk9 : Blk ((w8.setCell ⟨N, 4, none⟩ (.slice A7 X.length c7)).setCell ⟨N, 5, none⟩ (.slice A8 0 c8)) N 30 (jobCs R1 L1 A7 X.length c7 A8 0 c8) := (HBK8.out.set_ 4 _).set_ 5 _
      have hz9 : Blk ((w8.setCell ⟨N, 4, none⟩ (.slice A7 X.length c7)).setCell ⟨N, 5, none⟩ (.slice A8 0 c8)) w.heap.size 30 _ := (HZ8.out.far (by show w.heap.size ≠ N; omega) _).far (by show w.heap.size ≠ N; omega) _
      have HB9 := Lib.hid ((HB8.out.setCell (p := ⟨N, 4, none⟩) (by show w.heap.size ≤ N; omega) (.slice A7 X.length c7)).setCell (p := ⟨N, 5, none⟩) (by show w.heap.size ≤ N; omega) (.slice A8 0 c8))
      have HP9 := Lib.hid ((HP8.out.set_lo (g := N) (o := 4) (u := .slice A7 X.length c7) (by omega)).set_lo (g := N) (o := 5) (u := .slice A8 0 c8) (by omega))
      have HO9 := Lib.hid ((HO8.out.set_lo (g := N) (o := 4) (u := .slice A7 X.length c7) (by omega)).set_lo (g := N) (o := 5) (u := .slice A8 0 c8) (by omega))
      have hs9 : ((w8.setCell ⟨N, 4, none⟩ (.slice A7 X.length c7)).setCell ⟨N, 5, none⟩ (.slice A8 0 c8)).heap.size = w8.heap.size := by simp [World.setCell]
      clear fn zn HBK8 HZ8 HP8 HO8 HB8
      generalize (w8.setCell ⟨N, 4, none⟩ (.slice A7 X.length c7)).setCell ⟨N, 5, none⟩ (.slice A8 0 c8) = w9 at *
      have fn := hbk9.cell
      have fz := hz9.cell
      have zz := hz9.frozen
      have HS9 := Lib.hid hs9
      clear hbk9 hz9 hs9
      go_wp2_with fail
      refine bodyPost_ret (v := .agg #[.int .i64 1, .int .i64 0, .string R1, .string L1, .slice A7 X.length c7, .slice A8 0 c8, .slice none 0 0]) (by simp [results, Tryz.results116, go_sem, fz]) rfl ⟨?_, ?_⟩
      · rw [HT.out, HDD.out]
        refine ⟨_, rfl, ⟨A7, c7, A8, c8, none, 0, w7.heap.size, w8.heap.size, by simp only [List.length_map, List.map_nil, List.length_nil], by omega, hs8, by simp [World.setCell]; have := HS9.out; omega, ?_, ?_, OwnIn.nil_ _ _ _ _ _⟩⟩
        · simp only [List.length_map, List.map_nil, List.length_nil]
          refine ⟨OwnR.mono (base := w6.heap.size) ?_ (by omega), HP9.out.2⟩
          iterate 7 (with_reducible refine OwnR.set_lo ?_ (by show w.heap.size < w6.heap.size; omega))
          exact HP9.out.1
        · simp only [List.length_map, List.map_nil, List.length_nil]
          iterate 7 (with_reducible refine OwnIn.set_lo ?_ (by show w.heap.size < w7.heap.size; omega))
          exact HO9.out
      · repeat (with_reducible refine Below.setCell ?_ (by first | exact Nat.le_refl _ | (show _ ≤ _; omega)) _)
        exact HB9.out
    · have HI2 := Lib.hid (show Calls Tryz.prog 174 #[.slice (some ⟨b, o2, none⟩) NX CX, .string ⟨#[105, 110]⟩] w5 fun e w' => e = .returned (.int .i64 (m : Nat)) ∧ w5 = w' from by
        have h := HIX.out
        rw [hp, Nat.zero_add] at h
        exact h)
      clear HIX
      have HT := Lib.hid (show T = X.take m from ht)
      have HDD := Lib.hid (show D.drop 1 = X.drop (m + 1) by rw [hdw, List.drop_drop])
      have HLX := HLD.out
      have hmn : m < NX := by omega
      have HL1 := Lib.hid (show (X.take m).length = m by rw [List.length_take]; omega)
      have HL2 := Lib.hid (show (X.drop (m + 1)).length = NX - (m + 1) by rw [List.length_drop]; omega)
      have HS1 := Lib.hid (fun y (hy : y ∈ X.take m) => HXD.out y (List.mem_of_mem_take hy))
      have HS2 := Lib.hid (fun y (hy : y ∈ X.drop (m + 1)) => HXD.out y (List.mem_of_mem_drop hy))
      have HRT := Lib.hid (show StrR w5 lo hi (some ⟨b, o2, none⟩) m (X.take m) from ⟨HL1.out, fun _ => by
        obtain ⟨b', o', e, q1, q2, hc⟩ := HR5.out.2 (by omega)
        injection e with e
        injection e with e1 e2
        subst e1 e2
        exact ⟨b, o2, rfl, q1, q2, fun j hj => by rw [hc j (by omega)]; simp only [List.getD_eq_getElem?_getD, List.getElem?_take, if_pos hj]⟩⟩)
      have HRD := Lib.hid (fun (h : m + 1 < NX) => drop_row HR5.out (m + 1) h)
      clear HPC hp hm ht hdw HLX
      generalize X.take m = LT at *
      generalize X.drop (m + 1) = LD at *
      go_wp2_with fail
      refine HI2.out.mono ?_; rintro e6 w6 ⟨rfl, hw6⟩
      rw [hw6] at HBK5 HZ5 HB5 HR5 HE5 HI2 HRT HRD
      clear hw6
      have HBK6 := HBK5; have HZ6 := HZ5; have HB6 := HB5
      clear HBK5 HZ5 HB5 HE5 HI2
      have hm0 : (0 : Int) ≤ (m : Int) := by omega
      go_upto_region 8 with fail
      obtain ⟨o3, ho3, hoe⟩ : ∃ o3 : Nat, (if CX = m + 1 then some (⟨b, o2, none⟩ : Addr) else some ⟨b, o2 + (m + 1), none⟩) = some ⟨b, o3, none⟩ ∧ (m + 1 < NX → o3 = o2 + (m + 1)) := by
        by_cases hc2 : CX = m + 1
        · exact ⟨o2, by rw [if_pos hc2], fun h => by omega⟩
        · exact ⟨o2 + (m + 1), by rw [if_neg hc2], fun _ => rfl⟩
      have hmn1 : m + 1 ≤ NX := by omega
      have hmc : m ≤ CX := by omega
      have hmc1 : m + 1 ≤ CX := by omega
      have hz0 : (0 : Int) ≤ (m : Int) + 1 := by omega
      have hz1 : (m : Int) + 1 ≤ (NX : Int) := by omega
      have hwm : IntKind.i64.wrap ((m : Int) + 1) = ((m + 1 : Nat) : Int) := by rw [IntWalk.i64_in _ (by omega)]; rfl
      refine AnyT.region (fun _ => false) (fun _ => True) (by kernel_rfl) trivial (fun hHeld => ?_)
      ((refine AnyT.takeAny 0 27 ?_ rfl (by kernel_rfl) (by kernel_rfl) (by kernel_rfl) rfl rfl (fun _ _ _ _ h => h) rfl ?_ (by assumption) ?_); rotate_left; (intro w; go_simp; (try (with_reducible rfl))); simp only [Act.put, List.setIfInBounds_toArray, List.set_cons_zero, List.set_cons_succ])
      ((refine AnyT.takeAny 1 28 ?_ rfl (by kernel_rfl) (by kernel_rfl) (by kernel_rfl) rfl rfl (fun _ _ _ _ h => h) rfl ?_ (by assumption) ?_); rotate_left; (intro w; go_simp; (try (with_reducible rfl))); simp only [Act.put, List.setIfInBounds_toArray, List.set_cons_zero, List.set_cons_succ])
      ((refine AnyT.takeAny 2 29 ?_ rfl (by kernel_rfl) (by kernel_rfl) (by kernel_rfl) rfl rfl (fun _ _ _ _ h => h) rfl ?_ (by assumption) ?_); rotate_left; (intro w; go_simp; (try (with_reducible rfl))); simp only [Act.put, List.setIfInBounds_toArray, List.set_cons_zero, List.set_cons_succ])
      ((refine AnyT.takeAny 3 30 ?_ rfl (by kernel_rfl) (by kernel_rfl) (by kernel_rfl) rfl rfl (fun _ _ _ _ h => h) rfl ?_ (by assumption) ?_); rotate_left; (intro w; go_simp; (try (with_reducible rfl))); simp only [Act.put, List.setIfInBounds_toArray, List.set_cons_zero, List.set_cons_succ])
      ((refine AnyT.takeAny 4 31 ?_ rfl (by kernel_rfl) (by kernel_rfl) (by kernel_rfl) rfl rfl (fun _ _ _ _ h => h) rfl ?_ (by assumption) ?_); rotate_left; (intro w; go_simp; (try (with_reducible rfl))); simp only [Act.put, List.setIfInBounds_toArray, List.set_cons_zero, List.set_cons_succ])
      ((refine AnyT.takeAny 5 32 ?_ rfl (by kernel_rfl) (by kernel_rfl) (by kernel_rfl) rfl rfl (fun _ _ _ _ h => h) rfl ?_ (by assumption) ?_); rotate_left; (intro w; go_simp; (try (with_reducible rfl))); simp only [Act.put, List.setIfInBounds_toArray, List.set_cons_zero, List.set_cons_succ])
      ((refine AnyT.takeAny 6 33 ?_ rfl (by kernel_rfl) (by kernel_rfl) (by kernel_rfl) rfl rfl (fun _ _ _ _ h => h) rfl ?_ (by assumption) ?_); rotate_left; (intro w; go_simp; (try (with_reducible rfl))); simp only [Act.put, List.setIfInBounds_toArray, List.set_cons_zero, List.set_cons_succ])
      ((refine AnyT.takeAny 7 4 ?_ rfl (by kernel_rfl) (by kernel_rfl) (by kernel_rfl) rfl rfl (fun _ _ _ _ h => h) rfl ?_ (by assumption) ?_); rotate_left; (intro w; go_simp; (try (with_reducible rfl))); simp only [Act.put, List.setIfInBounds_toArray, List.set_cons_zero, List.set_cons_succ])
      ((refine AnyT.takeAny 8 5 ?_ rfl (by kernel_rfl) (by kernel_rfl) (by kernel_rfl) rfl rfl (fun _ _ _ _ h => h) rfl ?_ (by assumption) ?_); rotate_left; (intro w; go_simp; (try (with_reducible rfl))); simp only [Act.put, List.setIfInBounds_toArray, List.set_cons_zero, List.set_cons_succ])
      refine AnyT.done (by kernel_rfl) ?_ _
      have HBKd := Lib.hid (show Blk w6.drew N 30 (jobCs R1 L1 none 0 0 none 0 0) from HBK6.out)
      have HZd := Lib.hid (show Blk w6.drew w.heap.size 30 _ from HZ6.out)
      have HBd := Lib.hid (show Below w.heap.size w w6.drew from HB6.out.drew)
      have HRTd := Lib.hid (show StrR w6.drew lo hi (some ⟨b, o2, none⟩) m LT from HRT.out.drewN 1)
      have HRDd := Lib.hid (show StrR w6.drew lo hi (some ⟨b, o3, none⟩) (NX - (m + 1)) LD from by
        by_cases hq : m + 1 < NX
        · rw [hoe hq]; exact (HRD.out hq).drewN 1
        · exact ⟨HL2.out, fun h => absurd h (by omega)⟩)
      have HR1 := Lib.hid (HRTd.out.more (Nat.le_refl _) (Nat.le_trans hhi HBd.out.size))
      have HR2 := Lib.hid (HRDd.out.more (Nat.le_refl _) (Nat.le_trans hhi HBd.out.size))
      clear HBK6 HZ6 HB6 HRT HRD HR5 HRTd HRDd ho3 hoe hHeld
      generalize w6.drew = w6 at *
      have HBK6 := HBKd; have HZ6 := HZd; have HB6 := HBd
      clear HBKd HZd HBd
      go_wp2_with fail
      have hN6 := HBK6.out.lt
      refine (readPlains_any (some ⟨b, o2, none⟩) m CX lo w6.heap.size LT w6 (HEW.out.below HB6.out) HR1.out (Nat.le_refl _) (by omega) HS1.out).mono ?_
      rintro e7 w7 ⟨⟨v7, rfl, hv7⟩, hb7⟩
      obtain ⟨A7, c7, rfl⟩ := hv7.1
      have hs7 := hb7.size
      have HO7 := Lib.hid (OwnIn.of_own hv7)
      have HR7 := Lib.hid (HR2.out.below hb7 (Nat.le_refl _))
      have HBK7 := Lib.hid (HBK6.out.below hb7 HBK6.out.lt)
      have HZ7 := Lib.hid (HZ6.out.below hb7 HZ6.out.lt)
      have HB7 := Lib.hid (HB6.out.trans (hb7.mono HB6.out.size))
      simp only [List.length_map, List.map_nil, List.length_nil] at HO7
      clear hb7 hv7 HBK6 HZ6 HB6 HR1 HR2
      go_wp2_with fail
      refine (readPlains_any (some ⟨b, o3, none⟩) (NX - (m + 1)) (CX - (m + 1)) lo w6.heap.size LD w7 (HEW.out.below HB7.out) HR7.out (by omega) (by omega) HS2.out).mono ?_
      rintro e8 w8 ⟨⟨v8, rfl, hv8⟩, hb8⟩
      obtain ⟨A8, c8, rfl⟩ := hv8.1
      have hs8 := hb8.size
      have HO8 := Lib.hid (OwnIn.of_own hv8)
      have HP8 := Lib.hid (HO7.out.below hb8)
      have HBK8 := Lib.hid (HBK7.out.below hb8 HBK7.out.lt)
      have HZ8 := Lib.hid (HZ7.out.below hb8 HZ7.out.lt)
      have HB8 := Lib.hid (HB7.out.trans (hb8.mono HB7.out.size))
      simp only [List.length_map, List.map_nil, List.length_nil] at HO8
      clear hb8 hv8 HBK7 HZ7 HB7 HR7 HO7
      have fn := HBK8.out.cell
      have zn := HBK8.out.frozen
      have hNl := HBK8.out.lt
      go_upto_region 10 with fail
      have hbk9 : Blk ((w8.setCell ⟨N, 4, none⟩ (.slice A7 LT.length c7)).setCell ⟨N, 5, none⟩ (.slice A8 LD.length c8)) N 30 (jobCs R1 L1 A7 LT.length c7 A8 LD.length c8) := (HBK8.out.set_ 4 _).set_ 5 _
      have hz9 : Blk ((w8.setCell ⟨N, 4, none⟩ (.slice A7 LT.length c7)).setCell ⟨N, 5, none⟩ (.slice A8 LD.length c8)) w.heap.size 30 _ := (HZ8.out.far (by show w.heap.size ≠ N; omega) _).far (by show w.heap.size ≠ N; omega) _
      have HB9 := Lib.hid ((HB8.out.setCell (p := ⟨N, 4, none⟩) (by show w.heap.size ≤ N; omega) (.slice A7 LT.length c7)).setCell (p := ⟨N, 5, none⟩) (by show w.heap.size ≤ N; omega) (.slice A8 LD.length c8))
      have HP9 := Lib.hid ((HP8.out.set_lo (g := N) (o := 4) (u := .slice A7 LT.length c7) (by omega)).set_lo (g := N) (o := 5) (u := .slice A8 LD.length c8) (by omega))
      have HO9 := Lib.hid ((HO8.out.set_lo (g := N) (o := 4) (u := .slice A7 LT.length c7) (by omega)).set_lo (g := N) (o := 5) (u := .slice A8 LD.length c8) (by omega))
      have hs9 : ((w8.setCell ⟨N, 4, none⟩ (.slice A7 LT.length c7)).setCell ⟨N, 5, none⟩ (.slice A8 LD.length c8)).heap.size = w8.heap.size := by simp [World.setCell]
      clear fn zn HBK8 HZ8 HP8 HO8 HB8
      generalize (w8.setCell ⟨N, 4, none⟩ (.slice A7 LT.length c7)).setCell ⟨N, 5, none⟩ (.slice A8 LD.length c8) = w9 at *
      have fn := hbk9.cell
      have fz := hz9.cell
      have zz := hz9.frozen
      have HS9 := Lib.hid hs9
      clear hbk9 hz9 hs9
      go_wp2_with fail
      refine bodyPost_ret (v := .agg #[.int .i64 1, .int .i64 0, .string R1, .string L1, .slice A7 LT.length c7, .slice A8 LD.length c8, .slice none 0 0]) (by simp [results, Tryz.results116, go_sem, fz]) rfl ⟨?_, ?_⟩
      · rw [HT.out, HDD.out]
        refine ⟨_, rfl, ⟨A7, c7, A8, c8, none, 0, w7.heap.size, w8.heap.size, by simp only [List.length_map, List.map_nil, List.length_nil], by omega, hs8, by simp [World.setCell]; have := HS9.out; omega, ?_, ?_, OwnIn.nil_ _ _ _ _ _⟩⟩
        · simp only [List.length_map, List.map_nil, List.length_nil]
          refine ⟨OwnR.mono (base := w6.heap.size) ?_ (by omega), HP9.out.2⟩
          iterate 7 (with_reducible refine OwnR.set_lo ?_ (by show w.heap.size < w6.heap.size; omega))
          exact HP9.out.1
        · simp only [List.length_map, List.map_nil, List.length_nil]
          iterate 7 (with_reducible refine OwnIn.set_lo ?_ (by show w.heap.size < w7.heap.size; omega))
          exact HO9.out
      · repeat (with_reducible refine Below.setCell ?_ (by first | exact Nat.le_refl _ | (show _ ≤ _; omega)) _)
        exact HB9.out
end Go.Proofs.YtcjaaknnfohllaaGreatDoor

/- The program's reading of an operation walked: an operation of one site. -/
namespace Go.Proofs.YtcjaaknnfohllaaGreatDoor
open Go.RowKit

theorem vals_more (xs : List ByteArray) (k : Nat) (h : k < xs.length) : (xs.take (k + 1)).map valI = (xs.take k).map valI ++ [valI (xs.getD k ByteArray.empty)] := by
  rw [take_one_more xs ByteArray.empty k h, List.map_append]; rfl
theorem all_more (xs : List ByteArray) (k : Nat) (h : k < xs.length) : (xs.take (k + 1)).all okI = ((xs.take k).all okI && okI (xs.getD k ByteArray.empty)) := by
  rw [take_one_more xs ByteArray.empty k h, List.all_append]
  congr 1
  simp
theorem all_no (xs : List ByteArray) (k : Nat) (h : k < xs.length) (ho : okI (xs.getD k ByteArray.empty) = false) : xs.all okI = false := by
  rw [List.all_eq_false]
  refine ⟨xs.getD k ByteArray.empty, ?_, by rw [ho]; exact Bool.false_ne_true⟩
  rw [List.getD_eq_getElem?_getD, List.getElem?_eq_getElem h]
  exact List.getElem_mem h

set_option maxHeartbeats 8000000 in
set_option maxRecDepth 100000 in
theorem readMain_any (kind : Int) (A : Option Addr) (n c lo hi : Nat) (xs : List ByteArray) (w : World) (hEw : EnvR w) (ha : StrR w lo hi A n xs) (hhi : hi ≤ w.heap.size) (hn : n ≤ 1048576) (hcap : n ≤ c) (hsz : ∀ y ∈ xs, y.size ≤ 1048576) :
    Calls Tryz.prog 54 #[.int .i64 kind, .slice A n c] w fun e w' => (∃ v, e = .returned (.tuple #[v, .bool (mainI kind xs).2]) ∧ ActO w' w.heap.size v (mainI kind xs).1) ∧ Below w.heap.size w w' := by
  have hl := ha.1
  subst hl
  have HBZ := Lib.hid (Blk.new w 30 #[.int .i64 0, .int .i64 0, .string ⟨#[]⟩, .string ⟨#[]⟩, .slice none 0 0, .slice none 0 0, .slice none 0 0])
  have hd1 := (Below.refl w.heap.size w).alloc (Nat.le_refl _) (.cells #[.int .i64 0, .int .i64 0, .string ⟨#[]⟩, .string ⟨#[]⟩, .slice none 0 0, .slice none 0 0, .slice none 0 0] 30)
  have HD1 := Lib.hid hd1
  have HA1 := Lib.hid (ha.below hd1 hhi)
  have HE1 := Lib.hid (hEw.below hd1)
  have hs1 := own_alloc_sz w (.cells #[.int .i64 0, .int .i64 0, .string ⟨#[]⟩, .string ⟨#[]⟩, .slice none 0 0, .slice none 0 0, .slice none 0 0] 30)
  clear ha hd1
  by_cases h1 : kind = 1
  · have HF := Lib.hid (show mainI kind xs = (jobI xs, true) from if_pos h1)
    have hk1 : (kind == 1) = true := by rw [beq_iff_eq]; exact h1
    have HJ := Lib.hid (readJob_any A xs.length c lo hi xs _ HE1.out HA1.out (by omega) hn hcap hsz)
    have HK := Lib.hid h1
    rw [HF.out]
    clear h1 hEw hsz
    go_enter Tryz.func54, Tryz.ntmps54
    go_upto_region 1 with fail
    generalize w.alloc (.cells #[.int .i64 0, .int .i64 0, .string ⟨#[]⟩, .string ⟨#[]⟩, .slice none 0 0, .slice none 0 0, .slice none 0 0] 30) = w1 at *
    go_wp2_with fail
    refine HJ.out.mono ?_; rintro e2 w2 ⟨⟨v2, rfl, A2, ca, B2, cb, C2, cc, m1, m2, rfl, q1, q2, q3, oA, oB, oC⟩, hb2⟩
    have hs2 := hb2.size
    have HOA := Lib.hid oA; have HOB := Lib.hid oB; have HOC := Lib.hid oC
    have HZ2 := Lib.hid (HBZ.out.below hb2 (by omega))
    have HB2 := Lib.hid (HD1.out.trans (hb2.mono HD1.out.size))
    clear hb2 oA oB oC HJ HBZ HD1 HA1
    have fz := HZ2.out.cell
    have zz := HZ2.out.frozen
    go_wp2_with fail
    refine bodyPost_ret (v := .tuple #[.agg #[.int .i64 (jobI xs).k, .int .i64 (jobI xs).a, .string (jobI xs).r, .string (jobI xs).l, .slice A2 (jobI xs).args.length ca, .slice B2 (jobI xs).input.length cb, .slice C2 (jobI xs).keep.length cc], .bool true]) (by simp [results, Tryz.results54, go_sem, fz]) rfl ⟨⟨_, rfl, A2, ca, B2, cb, C2, cc, m1, m2, rfl, by omega, q2, by simp [World.setCell]; omega, ?_, ?_, ?_⟩, ?_⟩
    · refine ⟨OwnR.mono (base := w.heap.size + 1) ?_ (by omega), HOA.out.2⟩
      iterate 7 (with_reducible refine OwnR.set_lo ?_ (by show w.heap.size < w.heap.size + 1; omega))
      rw [← hs1]
      exact HOA.out.1
    · iterate 7 (with_reducible refine OwnIn.set_lo ?_ (by show w.heap.size < m1; omega))
      exact HOB.out
    · refine ⟨?_, fun g hg => by have := HOC.out.2 g hg; simp [World.setCell]; omega⟩
      iterate 7 (with_reducible refine OwnR.set_lo ?_ (by show w.heap.size < m2; omega))
      exact HOC.out.1
    · repeat (with_reducible refine Below.setCell ?_ (by first | exact Nat.le_refl _ | (show _ ≤ _; omega)) _)
      exact HB2.out
  · have hk1 : (kind == 1) = false := by rw [beq_eq_false_iff_ne]; exact h1
    have HF := Lib.hid (show mainI kind xs = if xs.all okI then (⟨kind, (xs.map valI).getD 0 0, eB, eB, [], [], (xs.map valI).drop 1⟩, true) else (act0, false) from if_neg h1)
    generalize mainI kind xs = Q at *
    have HK := Lib.hid h1
    have hbn := Blk.new (w.alloc (.cells #[.int .i64 0, .int .i64 0, .string ⟨#[]⟩, .string ⟨#[]⟩, .slice none 0 0, .slice none 0 0, .slice none 0 0] 30)) 30 #[.int .i64 kind, .int .i64 0, .string ⟨#[]⟩, .string ⟨#[]⟩, .slice none 0 0, .slice none 0 0, .slice none 0 0]
    rw [hs1] at hbn
    have HBN := Lib.hid hbn
    have HZ2 := Lib.hid (HBZ.out.alloc (.cells #[.int .i64 kind, .int .i64 0, .string ⟨#[]⟩, .string ⟨#[]⟩, .slice none 0 0, .slice none 0 0, .slice none 0 0] 30))
    have HB2 := Lib.hid (HD1.out.alloc HD1.out.size (.cells #[.int .i64 kind, .int .i64 0, .string ⟨#[]⟩, .string ⟨#[]⟩, .slice none 0 0, .slice none 0 0, .slice none 0 0] 30))
    have hs2 := own_alloc_sz (w.alloc (.cells #[.int .i64 0, .int .i64 0, .string ⟨#[]⟩, .string ⟨#[]⟩, .slice none 0 0, .slice none 0 0, .slice none 0 0] 30)) (.cells #[.int .i64 kind, .int .i64 0, .string ⟨#[]⟩, .string ⟨#[]⟩, .slice none 0 0, .slice none 0 0, .slice none 0 0] 30)
    rw [hs1] at hs2
    have HA2 := Lib.hid (HA1.out.below ((Below.refl _ _).alloc (Nat.le_refl _) (.cells #[.int .i64 kind, .int .i64 0, .string ⟨#[]⟩, .string ⟨#[]⟩, .slice none 0 0, .slice none 0 0, .slice none 0 0] 30)) (by omega))
    have HEW := Lib.hid hEw
    have HSY := Lib.hid (fun k (h : k < xs.length) => (show (xs.getD k ByteArray.empty).size ≤ 1048576 from hsz _ (by rw [List.getD_eq_getElem?_getD, List.getElem?_eq_getElem h]; exact List.getElem_mem h)))
    have HVM := Lib.hid (fun k h => vals_more xs k h)
    have HAM := Lib.hid (fun k h => all_more xs k h)
    have HAN := Lib.hid (fun k h ho => all_no xs k h ho)
    have HRI := Lib.hid (fun x h W hW => readInteger_any x h W hW)
    clear hbn h1 hEw hsz HE1
    go_enter Tryz.func54, Tryz.ntmps54
    go_upto_region 4 with fail
    generalize ((w.alloc (.cells #[.int .i64 0, .int .i64 0, .string ⟨#[]⟩, .string ⟨#[]⟩, .slice none 0 0, .slice none 0 0, .slice none 0 0] 30)).alloc (.cells #[.int .i64 kind, .int .i64 0, .string ⟨#[]⟩, .string ⟨#[]⟩, .slice none 0 0, .slice none 0 0, .slice none 0 0] 30)) = w2 at *
    clear HD1 HA1 hs1 HBZ
    generalize hN : w.heap.size + 1 = N at *
    go_wp2_with fail
    go_loopw [19] (fun i wr => ∃ (k : Nat) (C : Option Addr) (cc : Nat), k ≤ xs.length ∧ i = .int .i64 (k : Int) ∧ (xs.take k).all okI = true ∧ Blk wr N 30 #[.int .i64 kind, .int .i64 (((xs.take k).map valI).getD 0 0), .string ⟨#[]⟩, .string ⟨#[]⟩, .slice none 0 0, .slice none 0 0, .slice C (((xs.take k).map valI).drop 1).length cc] ∧ OwnInts wr (N + 1) 2 (.slice C (((xs.take k).map valI).drop 1).length cc) (((xs.take k).map valI).drop 1) ∧ Blk wr w.heap.size 30 #[.int .i64 0, .int .i64 0, .string ⟨#[]⟩, .string ⟨#[]⟩, .slice none 0 0, .slice none 0 0, .slice none 0 0] ∧ StrR wr lo hi A xs.length xs ∧ Below w.heap.size w wr) (fun i _ => xs.length - (intOf i).toNat)
    case atStart => exact ⟨0, none, 0, Nat.zero_le _, rfl, rfl, HBN.out, OwnR.nil_ _ _ _, HZ2.out, HA2.out, HB2.out⟩
    case round =>
      clear HBN HZ2 HA2 HB2
      obtain ⟨k, C, cc, hk, rfl, hall, hbn, hown, hz, hrd, hbw⟩ := hrel
      have HALL := Lib.hid hall; have HBNr := Lib.hid hbn; have HOr := Lib.hid hown; have HZr := Lib.hid hz; have HRr := Lib.hid hrd; have HBr := Lib.hid hbw
      have hNr := hbn.lt
      clear hall hbn hown hz hrd hbw
      by_cases hlt : k < xs.length
      · obtain ⟨b, off, rfl, hb1, hb2, hcell⟩ := HRr.out.at_ hlt
        have i1 : (k : Int) < (xs.length : Int) := by omega
        have i0 : (0 : Int) ≤ (k : Int) := by omega
        have HV1 := Lib.hid (HVM.out k hlt)
        have HA1 := Lib.hid (HAM.out k hlt)
        have HN1 := Lib.hid (HAN.out k hlt)
        have HS1 := Lib.hid (HSY.out k hlt)
        generalize xs.getD k ByteArray.empty = Y at *
        have HI1 := Lib.hid (fun W hW => HRI.out Y HS1.out W hW)
        have HOV := Lib.hid (show okI Y = (numI Y).2 from rfl)
        have HVV := Lib.hid (show valI Y = (numI Y).1 from rfl)
        have hVl : ((xs.take k).map valI).length = k := by rw [List.length_map, List.length_take]; omega
        have HVL := Lib.hid hVl
        generalize (xs.take k).map valI = V at *
        generalize numI Y = NY at *
        clear hVl
        cases hok : NY.2
        · rw [hok] at HI1 HOV
          have HQ := Lib.hid (show Q = (act0, false) by rw [HF.out, HN1.out HOV.out, if_neg Bool.false_ne_true])
          clear hok
          go_wp2_with fail
          refine (HI1.out _ (HEW.out.below HBr.out)).mono ?_; rintro e5 w5 ⟨rfl, hb5⟩
          have hz5 := HZr.out.below hb5 HZr.out.lt
          have HB5 := Lib.hid (HBr.out.trans (hb5.mono HBr.out.size))
          have fz := hz5.cell
          have zz := hz5.frozen
          have hs5 := hb5.size
          clear hb5 hz5
          go_wp2_with fail
          refine bodyPost_ret (v := .tuple #[.agg #[.int .i64 0, .int .i64 0, .string ⟨#[]⟩, .string ⟨#[]⟩, .slice none 0 0, .slice none 0 0, .slice none 0 0], .bool false]) (by simp [results, Tryz.results54, go_sem, fz]) rfl ⟨?_, ?_⟩
          · rw [HQ.out]
            exact ⟨_, rfl, none, 0, none, 0, none, 0, w.heap.size, w.heap.size, rfl, Nat.le_refl _, Nat.le_refl _, by simp [World.setCell]; omega, OwnIn.nil_ _ _ _ _ _, OwnIn.nil_ _ _ _ _ _, OwnIn.nil_ _ _ _ _ _⟩
          · repeat (with_reducible refine Below.setCell ?_ (by first | exact Nat.le_refl _ | (show _ ≤ _; omega)) _)
            exact HB5.out
        · rw [hok] at HI1 HOV
          rw [HVV.out] at HV1
          rw [HALL.out, HOV.out] at HA1
          have HG0 := Lib.hid (fun (h : k = 0) => (show (∀ z : Int, (V ++ [z]).getD 0 0 = z) ∧ ∀ z : Int, (V ++ [z]).drop 1 = V.drop 1 from by
            obtain rfl : V = [] := List.eq_nil_of_length_eq_zero (by rw [HVL.out]; exact h)
            exact ⟨fun z => rfl, fun z => rfl⟩))
          have HG1 := Lib.hid (fun (h : 0 < k) => (show (∀ z : Int, (V ++ [z]).getD 0 0 = V.getD 0 0) ∧ ∀ z : Int, (V ++ [z]).drop 1 = V.drop 1 ++ [z] from by
            have hl := HVL.out
            cases V with
            | nil => simp at hl; omega
            | cons a t => exact ⟨fun z => rfl, fun z => rfl⟩))
          have hdl : (V.drop 1).length ≤ 1048576 := by rw [List.length_drop, HVL.out]; omega
          generalize V.drop 1 = D at *
          generalize V.getD 0 0 = G at *
          generalize NY.1 = Z at *
          clear hok HN1 HOV HVV
          by_cases h0 : k = 0
          · have q0 : ((k : Int) == 0) = true := by rw [beq_iff_eq]; omega
            obtain ⟨g1, g2⟩ := HG0.out h0
            have HGA := Lib.hid (g1 Z); have HGB := Lib.hid (g2 Z); have H0 := Lib.hid h0
            clear h0 g1 g2
            go_wp2_with fail
            refine (HI1.out _ (HEW.out.below HBr.out)).mono ?_; rintro e5 w5 ⟨rfl, hb5⟩
            have HBK5 := Lib.hid (HBNr.out.below hb5 hNr)
            have HO5 := Lib.hid (HOr.out.below hb5)
            have HZ5 := Lib.hid (HZr.out.below hb5 HZr.out.lt)
            have HR5 := Lib.hid (HRr.out.below hb5 (Nat.le_trans hhi HBr.out.size))
            have HB5 := Lib.hid (HBr.out.trans (hb5.mono HBr.out.size))
            have hs5 := hb5.size
            have fn := HBK5.out.cell
            have zn := HBK5.out.frozen
            clear hb5
            go_wp2_with fail
            have HBK6 := Lib.hid (show Blk (w5.setCell ⟨N, 1, none⟩ (.int .i64 Z)) N 30 #[.int .i64 kind, .int .i64 Z, .string ⟨#[]⟩, .string ⟨#[]⟩, .slice none 0 0, .slice none 0 0, .slice C D.length cc] from HBK5.out.set_ 1 _)
            have HO6 := Lib.hid (OwnR.set_lo (g := N) (o := 1) (u := .int .i64 Z) HO5.out (by omega))
            have HZ6 := Lib.hid (HZ5.out.far (p := ⟨N, 1, none⟩) (by show w.heap.size ≠ N; omega) (.int .i64 Z))
            have HR6 := Lib.hid (show StrR (w5.setCell ⟨N, 1, none⟩ (.int .i64 Z)) lo hi (some ⟨b, off, none⟩) xs.length xs from HR5.out.keep fun q _ hq => Below.heap_setCell _ ⟨N, 1, none⟩ _ q (by show q ≠ N; omega))
            have HB6 := Lib.hid (HB5.out.setCell (p := ⟨N, 1, none⟩) (by show w.heap.size ≤ N; omega) (.int .i64 Z))
            go_roundw
            case rel => exact ⟨k + 1, C, cc, by omega, by go_num, HA1.out, by rw [HV1.out, HGA.out, HGB.out]; exact HBK6.out, by rw [HV1.out, HGB.out]; exact HO6.out, HZ6.out, HR6.out, HB6.out⟩
            case measure => simp [intOf]; omega
          · have q0 : ((k : Int) == 0) = false := by rw [beq_eq_false_iff_ne]; omega
            obtain ⟨g1, g2⟩ := HG1.out (by omega)
            have HGA := Lib.hid (g1 Z); have HGB := Lib.hid (g2 Z); have H0 := Lib.hid h0
            clear h0 g1 g2
            go_wp2_with fail
            refine (HI1.out _ (HEW.out.below HBr.out)).mono ?_; rintro e5 w5 ⟨rfl, hb5⟩
            have HBK5 := Lib.hid (HBNr.out.below hb5 hNr)
            have hown5 := HOr.out.below hb5
            have HZ5 := Lib.hid (HZr.out.below hb5 HZr.out.lt)
            have HR5 := Lib.hid (HRr.out.below hb5 (Nat.le_trans hhi HBr.out.size))
            have HB5 := Lib.hid (HBr.out.trans (hb5.mono HBr.out.size))
            have hs5 := hb5.size
            have f5 := HBK5.out.cell
            have hfb : ∀ o, ∀ i, (w5.alloc o).cell? ⟨N, i, none⟩ = (#[.int .i64 kind, .int .i64 G, .string ⟨#[]⟩, .string ⟨#[]⟩, .slice none 0 0, .slice none 0 0, .slice C D.length cc] : Array Value)[i]? := fun o => (HBK5.out.alloc o).cell
            have hNs : N + 1 ≤ w5.heap.size := HBK5.out.lt
            have hdl2 : D.length ≤ 1000000000 := by omega
            clear hb5
            go_wp2_with (first
              | fail
              | (at_builtin; refine wpList_app1 (enc := Value.int .i64) rfl (.tmp 37) (.tmp 39) 23 2 rfl Tryz.underlying23 rfl (by omega) (fun _ => rfl) infoInt64 w5 (N + 1) _ D Z rfl hown5 rfl hdl2 hNs ?_; intro v6 w6 hown6 hb6; obtain ⟨A6, c6, rfl⟩ := hown6.1; have HBK6 := Lib.hid (HBK5.out.below hb6 (Nat.lt_succ_self N)); have f6 := HBK6.out.cell; have z6 := HBK6.out.frozen))
            have HBK7 := Lib.hid (show Blk (w6.setCell ⟨N, 6, none⟩ (.slice A6 (D ++ [Z]).length c6)) N 30 #[.int .i64 kind, .int .i64 G, .string ⟨#[]⟩, .string ⟨#[]⟩, .slice none 0 0, .slice none 0 0, .slice A6 (D ++ [Z]).length c6] from HBK6.out.set_ 6 _)
            have HO7 := Lib.hid (OwnR.set_lo (g := N) (o := 6) (u := .slice A6 (D ++ [Z]).length c6) hown6 (by omega))
            have HZ7 := Lib.hid ((HZ5.out.below hb6 (by omega)).far (p := ⟨N, 6, none⟩) (by show w.heap.size ≠ N; omega) (.slice A6 (D ++ [Z]).length c6))
            have HR7 := Lib.hid (show StrR (w6.setCell ⟨N, 6, none⟩ (.slice A6 (D ++ [Z]).length c6)) lo hi (some ⟨b, off, none⟩) xs.length xs from (HR5.out.below hb6 (by omega)).keep fun q _ hq => Below.heap_setCell _ ⟨N, 6, none⟩ _ q (by show q ≠ N; omega))
            have HB7 := Lib.hid ((HB5.out.trans (hb6.mono (by omega))).setCell (p := ⟨N, 6, none⟩) (by show w.heap.size ≤ N; omega) (.slice A6 (D ++ [Z]).length c6))
            rw [List.length_append, List.length_singleton] at HBK7 HO7 HZ7 HR7 HB7
            have HLL := Lib.hid (show (D ++ [Z]).length = D.length + 1 by rw [List.length_append, List.length_singleton])
            go_roundw
            case rel => exact ⟨k + 1, A6, c6, by omega, by go_num, HA1.out, by rw [HV1.out, HGA.out, HGB.out, HLL.out]; exact HBK7.out, by rw [HV1.out, HGB.out, HLL.out]; exact HO7.out, HZ7.out, HR7.out, HB7.out⟩
            case measure => simp [intOf]; omega
      · have i1 : ¬ (k : Int) < (xs.length : Int) := by omega
        obtain rfl : k = xs.length := by omega
        rw [List.take_length] at HALL HBNr HOr
        have HQ := Lib.hid (show Q = (⟨kind, (xs.map valI).getD 0 0, eB, eB, [], [], (xs.map valI).drop 1⟩, true) by rw [HF.out, if_pos HALL.out])
        clear HF HALL HVM HAM HAN HRI HSY
        generalize (xs.map valI).getD 0 0 = G at *
        generalize (xs.map valI).drop 1 = D at *
        have fn := HBNr.out.cell
        have fz := HZr.out.cell
        have zz := HZr.out.frozen
        go_wp2_with fail
        refine bodyPost_ret (v := .tuple #[.agg #[.int .i64 kind, .int .i64 G, .string ⟨#[]⟩, .string ⟨#[]⟩, .slice none 0 0, .slice none 0 0, .slice C D.length cc], .bool true]) (by simp [results, Tryz.results54, go_sem, fz]) rfl ⟨?_, ?_⟩
        · rw [HQ.out]
          refine ⟨_, rfl, none, 0, none, 0, C, cc, w.heap.size, w.heap.size, rfl, Nat.le_refl _, Nat.le_refl _, by simp [World.setCell]; have := HBr.out.size; omega, OwnIn.nil_ _ _ _ _ _, OwnIn.nil_ _ _ _ _ _, OwnR.mono (base := N + 1) ?_ (by omega), fun g hg => by have := (HOr.out.2.lt g hg).2; simp [World.setCell]; omega⟩
          iterate 7 (with_reducible refine OwnR.set_lo ?_ (by show w.heap.size < N + 1; omega))
          exact HOr.out
        · repeat (with_reducible refine Below.setCell ?_ (by first | exact Nat.le_refl _ | (show _ ≤ _; omega)) _)
          exact HBr.out
end Go.Proofs.YtcjaaknnfohllaaGreatDoor

/- Walks: the reference's and the program's LineWords. -/
namespace Go.Proofs.YtcjaaknnfohllaaGreatDoor
open Go.RowKit

theorem infoStr : (Tryz.prog.info? 9).map (fun i => (i.zero, i.size, i.bytes)) = some (some (.string ⟨#[]⟩), 1, 16) := by kernel_rfl

theorem get_bang {s : ByteArray} {k : Nat} (h : k < s.size) : s.get! k = s[k] := by
  show s.data[k]! = s.data[k]
  exact getElem!_pos s.data k h

theorem wordsTo_cut {s : ByteArray} {k : Nat} (h : k = s.size ∨ (s.get! k).toNat = 32) : wordsTo s (k + 1) = ((wordsTo s k).1 ++ [s.extract (wordsTo s k).2 k], k + 1) := by
  conv => lhs; unfold wordsTo
  rw [if_pos h]
theorem wordsTo_stay {s : ByteArray} {k : Nat} (h : ¬ (k = s.size ∨ (s.get! k).toNat = 32)) : wordsTo s (k + 1) = wordsTo s k := by
  conv => lhs; unfold wordsTo
  rw [if_neg h]

set_option maxHeartbeats 1000000 in
theorem l30Words_any (s : ByteArray) (w : World) (hs : s.size ≤ 6000) :
    Calls Tryz.prog 169 #[.string s] w fun e w' => ∃ v, e = .returned v ∧ OwnStrs w' w.heap.size 9 v (wordsTo s (s.size + 1)).1 ∧ Below w.heap.size w w' := by
  go_enter Tryz.func169, Tryz.ntmps169
  go_wp2
  go_loopw [3, 4, 5] (fun v f i wr => ∃ k : Nat, k ≤ s.size + 1 ∧ i = .int .i64 k ∧ f = .int .i64 (wordsTo s k).2 ∧ OwnStrs wr w.heap.size 9 v (wordsTo s k).1 ∧ Below w.heap.size w wr) (fun _ _ i _ => s.size + 1 - (intOf i).toNat)
  case atStart => exact ⟨0, Nat.zero_le _, rfl, rfl, OwnR.none_ _ _ _ (Nat.le_refl _), (Below.refl _ _).alloc (Nat.le_refl _) _⟩
  case round =>
    obtain ⟨k, hk, rfl, rfl, ⟨⟨A, c, rfl⟩, hown⟩, hbel⟩ := hrel
    have hlen := wordsTo_len s k
    have hfle := wordsTo_le s k
    have hown' : OwnStrs wr w.heap.size 9 (.slice A (wordsTo s k).1.length c) (wordsTo s k).1 := ⟨⟨_, _, rfl⟩, hown⟩
    clear hown
    by_cases hle : k ≤ s.size
    · by_cases hend : k = s.size ∨ (s.get! k).toNat = 32
      · have HW := Lib.hid (wordsTo_cut hend)
        generalize hws : (wordsTo s k).1 = ws at *
        generalize hfr : (wordsTo s k).2 = fr at *
        clear hws hfr
        by_cases hkn : ((k : Int) == (s.size : Int)) = true
        · clear hend
          go_wp2_with (at_builtin; refine wpList_app1 rfl (.tmp 23) (.tmp 28) 22 9 rfl Tryz.underlying22 rfl (by omega) (fun _ => rfl) infoStr wr w.heap.size _ ws _ rfl hown' rfl (by omega) hbel.size ?_; intro v1 w1 hown1 hb1)
          go_roundw
          case rel => exact ⟨k + 1, by omega, by go_num, by rw [HW.out]; go_num, by rw [HW.out]; exact hown1, hbel.trans hb1⟩
          case measure => simp [intOf]; omega
        · simp only [Bool.not_eq_true] at hkn
          have hlt : k < s.size := by rw [beq_eq_false_iff_ne] at hkn; omega
          have h32 : ((s[k].toNat : Int) == 32) = true := by
            rw [beq_iff_eq]
            rcases hend with h | h
            · omega
            · rw [get_bang hlt] at h; omega
          clear hend
          go_wp2_with (at_builtin; refine wpList_app1 rfl (.tmp 23) (.tmp 28) 22 9 rfl Tryz.underlying22 rfl (by omega) (fun _ => rfl) infoStr wr w.heap.size _ ws _ rfl hown' rfl (by omega) hbel.size ?_; intro v1 w1 hown1 hb1)
          go_roundw
          case rel => exact ⟨k + 1, by omega, by go_num, by rw [HW.out]; go_num, by rw [HW.out]; exact hown1, hbel.trans hb1⟩
          case measure => simp [intOf]; omega
      · have HW := Lib.hid (wordsTo_stay hend)
        have hlt : k < s.size := by omega
        have h32 : ((s[k].toNat : Int) == 32) = false := by
          rw [get_bang hlt] at hend
          rw [beq_eq_false_iff_ne]; omega
        have hkn : ((k : Int) == (s.size : Int)) = false := by rw [beq_eq_false_iff_ne]; omega
        clear hend
        generalize hws : (wordsTo s k).1 = ws at *
        generalize hfr : (wordsTo s k).2 = fr at *
        have HWS := Lib.hid hws; have HFR := Lib.hid hfr; clear hws hfr
        go_wp2
        go_roundw
        case rel => exact ⟨k + 1, by omega, by go_num, by rw [HW.out, HFR.out], by rw [HW.out, HWS.out]; exact hown', hbel⟩
        case measure => simp [intOf]; omega
    · go_wp2
      go_ret
      obtain rfl : k = s.size + 1 := by omega
      exact ⟨_, rfl, hown', hbel⟩

/-- The pieces that are not empty, among the first k. -/
theorem fullOnes_take_succ (l : List ByteArray) (k : Nat) (h : k < l.length) : fullOnes (l.take (k + 1)) = if ((l.getD k ByteArray.empty).size != 0) = true then fullOnes (l.take k) ++ [l.getD k ByteArray.empty] else fullOnes (l.take k) := by
  rw [List.take_succ_eq_append_getElem h, fullOnes_snoc]
  simp [List.getD_eq_getElem?_getD, List.getElem?_eq_getElem h]

theorem fullOnes_len (l : List ByteArray) : (fullOnes l).length ≤ l.length := List.length_filter_le _ _

theorem isEmpty_bytes {x : ByteArray} : x.toList.isEmpty = !(x.size != 0) := by
  rw [ByteArray.toList_eq]
  cases x with | mk a => cases a with | mk l => cases l <;> simp [ByteArray.size]

set_option maxHeartbeats 1000000 in
theorem l34Words_any (s : ByteArray) (w : World) (hs : s.size ≤ 6000) :
    Calls Tryz.prog 112 #[.string s] w fun e w' => ∃ v, e = .returned v ∧ OwnStrs w' w.heap.size 9 v (fullOnes (wordsTo s (s.size + 1)).1) ∧ Below w.heap.size w w' := by
  have hl := wordsTo_len s (s.size + 1)
  have HC := Lib.hid (fun W => l30Words_any s W hs)
  generalize (wordsTo s (s.size + 1)).1 = L at *
  go_enter Tryz.func112, Tryz.ntmps112
  go_wp2_with fail
  refine (HC.out _).mono ?_
  rintro e w1 ⟨v1, rfl, ⟨⟨A1, c1, rfl⟩, ho1⟩, hb1⟩
  have hr1 := StrR.of_own ho1
  have h0 := (OwnR.none_ (enc := Value.string) w w.heap.size 9 (Nat.le_refl _)).below hb1
  have hbw : Below w.heap.size w w1 := ((Below.refl _ _).alloc (Nat.le_refl _) _).trans (hb1.mono (by simp))
  clear hb1 ho1
  go_wp2
  go_loopw [3, 5] (fun v i wr => ∃ k : Nat, k ≤ L.length ∧ i = .int .i64 k ∧ Grows Value.string wr w1.heap.size 9 (.slice (some ⟨w.heap.size, 0, none⟩) 0 0) v (fullOnes (L.take k)) ∧ Below w1.heap.size w1 wr) (fun _ i _ => L.length - (intOf i).toNat)
  case atStart => exact ⟨0, Nat.zero_le _, rfl, Grows.start _ _ _ _, Below.refl _ _⟩
  case round =>
    obtain ⟨k, hk, rfl, hown, hbel⟩ := hrel
    by_cases hlt : k < L.length
    · obtain ⟨b, off, rfl, _, hblt, hc⟩ := (hr1.below hbel (Nat.le_refl _)).at_ hlt
      have HF := Lib.hid (fullOnes_take_succ L k hlt)
      have hfl := fullOnes_len (L.take k)
      rw [List.length_take] at hfl
      generalize hX : L.getD k ByteArray.empty = X at *
      generalize hF : fullOnes (L.take k) = F at *
      have HF2 := Lib.hid hF; clear hX hF
      by_cases he : (X.size != 0) = true
      · have hq : X.toList.isEmpty = false := by rw [isEmpty_bytes, he]; rfl
        have hq2 : (!X.toList.isEmpty) = true := by rw [hq]; rfl
        have HE := Lib.hid he; clear he
        go_wp2_with (at_builtin; refine wpList_app1G rfl (.tmp 20) (.tmp 25) 22 9 rfl Tryz.underlying22 rfl (by omega) (fun _ => rfl) infoStr wr w1.heap.size _ _ F _ rfl hown rfl (by omega) hbel.size ?_; intro v1 w2 hown1 hb2)
        go_roundw
        case rel => exact ⟨k + 1, by omega, by go_num, by rw [HF.out, if_pos HE.out]; exact hown1, hbel.trans hb2⟩
        case measure => simp [intOf]; omega
      · have hq : X.toList.isEmpty = true := by rw [isEmpty_bytes]; simpa using he
        have hq2 : (!X.toList.isEmpty) = false := by rw [hq]; rfl
        have HE := Lib.hid he; clear he
        go_wp2
        go_roundw
        case rel => exact ⟨k + 1, by omega, by go_num, by rw [HF.out, if_neg HE.out]; exact hown, hbel⟩
        case measure => simp [intOf]; omega
    · go_wp2
      go_ret
      obtain rfl : k = L.length := by omega
      rw [List.take_length] at hown
      exact ⟨_, rfl, hown.done h0 hbel hbw.size, hbw.trans (hbel.mono hbw.size)⟩

theorem blank_pays (w : World) : PredAtRunes Tryz.prog 115 #[] blankP w := by
  intro W x hx hb
  unfold FnGives
  by_cases h : x = 32
  · subst h
    go_enter Tryz.func115, Tryz.ntmps115
    go_wp2
    go_ret
    exact ⟨rfl, 0, rfl⟩
  · have h2 : ((x : Int) == 32) = false := by rw [beq_eq_false_iff_ne]; omega
    have h3 : blankP x = false := by unfold blankP; rw [beq_eq_false_iff_ne]; exact h
    rw [h3]
    go_enter Tryz.func115, Tryz.ntmps115
    go_wp2
    go_ret
    exact ⟨rfl, 0, rfl⟩

set_option maxHeartbeats 400000 in
theorem wordsOf_any (s : ByteArray) (w : World) (hs : s.size ≤ 1048576) :
    Calls Tryz.prog 52 #[.string s] w fun e w' => ∃ v, e = .returned v ∧ OwnStrs w' w.heap.size 9 v (fullOnes (wordsTo s (s.size + 1)).1) ∧ Below w.heap.size w w' := by
  rw [← words_fields]
  have HC := Lib.hid (fun W => Tryz.strings_FieldsFunc_runes 115 #[] (enters_of Tryz.func115 (by kernel_rfl) rfl) blankP s W (by omega) (blank_pays _))
  generalize Lib.goFieldsP blankP s = L at *
  go_enter Tryz.func52, Tryz.ntmps52
  go_wp2_with fail
  refine (HC.out _).mono ?_
  rintro e w1 ⟨A, rfl, _, ho, hb⟩
  go_wp2
  go_ret
  exact ⟨_, rfl, ⟨⟨_, _, rfl⟩, ho⟩, hb⟩

end Go.Proofs.YtcjaaknnfohllaaGreatDoor
