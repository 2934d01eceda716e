/- The program's reading of an operation walked: texts in plain form. -/
import Derived.Test.YtcjaaknnfohllaaGreatDoorJoinRSAAr
namespace Go.Proofs.YtcjaaknnfohllaaGreatDoor
open Go.RowKit

theorem implRead_rd (x : ByteArray) (hs : x.size ≤ 1048576) (w : World) (hE : EnvR w) : Calls Tryz.prog 213 #[.string x] w fun e w' => e = .returned (.tuple #[.string (rdW x), .bool (rdI x.data.toList).2]) ∧ Below w.heap.size w w' :=
  implReadPlain_any x hs w hE

set_option maxHeartbeats 4000000 in
set_option maxRecDepth 100000 in
theorem readPlains_any (A : Option Addr) (n c lo hi : Nat) (xs : List ByteArray) (w : World) (hE : EnvR w) (ha : StrR w lo hi A n xs) (hhi : hi ≤ w.heap.size) (hn : n ≤ 1048576) (hsz : ∀ y ∈ xs, y.size ≤ 1048576) :
    Calls Tryz.prog 175 #[.slice A n c] w fun e w' => (∃ v, e = .returned v ∧ OwnStrs w' w.heap.size 9 v (xs.map rdW)) ∧ Below w.heap.size w w' := by
  have hl := ha.1
  subst hl
  have hbo := (Below.refl w.heap.size w).alloc (Nat.le_refl _) (.cells #[] 9)
  have HD := Lib.hid hbo
  have h0 := OwnR.none_ (enc := Value.string) w w.heap.size 9 (Nat.le_refl _)
  have HH0 := Lib.hid h0
  have HA := Lib.hid (ha.below hbo hhi)
  have HE := Lib.hid (hE.below hbo)
  have hsz1 : (w.alloc (.cells #[] 9)).heap.size = w.heap.size + 1 := by simp
  have HTK := Lib.hid (fun k (h : k < xs.length) => (show (xs.take (k + 1)).map rdW = (xs.take k).map rdW ++ [rdW (xs.getD k ByteArray.empty)] by rw [take_one_more xs ByteArray.empty k h, List.map_append]; rfl))
  have HN := Lib.hid (fun x (h : x.size ≤ 1048576) W hW => implRead_rd x h W hW)
  have HSZ := Lib.hid (fun k (h : k < xs.length) => (show (xs.getD k ByteArray.empty).size ≤ 1048576 from hsz _ (by rw [List.getD_eq_getElem?_getD, List.getElem?_eq_getElem h]; exact List.getElem_mem h)))
  clear ha hbo h0 hE hsz
  go_enter Tryz.func175, Tryz.ntmps175
  go_wp2_with fail
  generalize w.alloc (.cells #[] 9) = w0 at *
  go_loopw [3, 11] (fun v i wr => ∃ k : Nat, k ≤ xs.length ∧ i = .int .i64 k ∧ Grows Value.string wr w0.heap.size 9 (.slice (some ⟨w.heap.size, 0, none⟩) 0 0) v ((xs.take k).map rdW) ∧ Below w0.heap.size w0 wr) (fun _ i _ => xs.length - (intOf i).toNat)
  case atStart => exact ⟨0, Nat.zero_le _, rfl, Grows.start _ _ _ _, Below.refl _ _⟩
  case round =>
    obtain ⟨k, hk, rfl, hown, hbel⟩ := hrel
    have hszr := hbel.size
    by_cases hlt : k < xs.length
    · obtain ⟨b, off, rfl, _, hblt, hc⟩ := (HA.out.below hbel (by omega)).at_ hlt
      have HT := Lib.hid (HTK.out k hlt)
      have HSX := Lib.hid (HSZ.out k hlt)
      have hfl : ((xs.take k).map rdW).length ≤ 1048576 := by
        rw [List.length_map, List.length_take]; omega
      generalize xs.getD k ByteArray.empty = X at *
      generalize (xs.take k).map rdW = F at *
      have HNX := Lib.hid (fun W hW => HN.out X HSX.out W hW)
      generalize rdW X = Y at *
      have HB := Lib.hid hbel
      have HEr := Lib.hid (HE.out.below hbel)
      clear hbel
      go_wp2_with fail
      refine (HNX.out _ HEr.out).mono ?_; rintro e1 w1 ⟨rfl, hb1⟩
      have hs1 := Nat.le_trans hszr hb1.size
      have hown1 := hown.over hb1
      have HB1 := Lib.hid (HB.out.trans (hb1.mono hszr))
      clear hb1
      go_wp2_with (first
        | fail
        | (at_builtin; refine wpList_app1G (enc := Value.string) rfl (.tmp 20) (.tmp 22) 22 9 rfl Tryz.underlying22 rfl (by omega) (fun _ => rfl) infoString w1 w0.heap.size _ _ F Y rfl hown1 rfl (by omega) hs1 ?_; intro v3 w3 hown3 hb3))
      go_roundw
      case rel => exact ⟨k + 1, by omega, by go_num, by rw [HT.out]; exact hown3, HB1.out.trans hb3⟩
      case measure => simp [intOf]; omega
    · obtain rfl : k = xs.length := by omega
      have HB := Lib.hid hbel
      clear hbel
      rw [List.take_length] at hown
      go_wp2_with fail
      go_ret
      exact ⟨⟨_, rfl, hown.done HH0.out (HB.out.mono (Nat.le_refl _)) (by omega)⟩, HD.out.trans (HB.out.mono (by omega))⟩
end Go.Proofs.YtcjaaknnfohllaaGreatDoor

/- The reference's reading of an operation walked: what it guesses. -/
namespace Go.Proofs.YtcjaaknnfohllaaGreatDoor
open Go.RowKit

theorem placeIn_lt (x : ByteArray) : ∀ (L : List ByteArray) (j k : Nat), placeIn x L j = some k → k < j + L.length
  | [], _, _, h => by cases h
  | y :: L, j, k, h => by
    rw [placeIn] at h
    split at h
    · injection h with h; rw [← h, List.length_cons]; omega
    · have := placeIn_lt x L (j + 1) k h
      rw [List.length_cons]; omega
def atN (xs : List ByteArray) : Int := if 1 < xs.length then valS (xs.getD 1 eB) else 0
theorem guess_main (xs : List ByteArray) (k : Nat) (h : placeIn (xs.getD 0 eB) mainsW 0 = some k) : guessS xs = (1, 0, if k = 0 then jobS xs else ⟨(k : Int) + 1, atN xs, eB, eB, [], [], if k = 6 then ((xs.drop 2).filter okS).map valS else []⟩) := by
  unfold guessS
  rw [h]
  rfl
theorem guess_wire (xs : List ByteArray) (h : placeIn (xs.getD 0 eB) mainsW 0 = none) : guessS xs = (placeZ (placeIn (xs.getD 0 eB) wiresW 0) + 2, atN xs, act0) := by
  unfold guessS
  rw [h]
  cases placeIn (xs.getD 0 eB) wiresW 0 <;> rfl
theorem row_nil (w : World) (lo hi : Nat) : StrR w lo hi none 0 [] := ⟨rfl, fun h => absurd h (Nat.lt_irrefl 0)⟩
theorem row_nilI (w : World) (lo hi : Nat) : IntR w lo hi none 0 [] := ⟨rfl, fun h => absurd h (Nat.lt_irrefl 0)⟩
theorem drop_row {w : World} {lo hi b off n : Nat} {xs : List ByteArray} (h : StrR w lo hi (some ⟨b, off, none⟩) n xs) (k : Nat) (hk : k < n) : StrR w lo hi (some ⟨b, off + k, none⟩) (n - k) (xs.drop k) := by
  refine ⟨by rw [List.length_drop, h.1], fun _ => ?_⟩
  obtain ⟨b', off', e, h1, h2, hc⟩ := h.2 (by omega)
  injection e with e
  injection e with e1 e2
  subst e1 e2
  refine ⟨b, off + k, rfl, h1, h2, fun j hj => ?_⟩
  have := hc (k + j) (by omega)
  rw [Nat.add_assoc, this]
  simp only [List.getD_eq_getElem?_getD, List.getElem?_drop]

/-- Seven cells of block N written. -/
def put7 (w : World) (N : Nat) (v0 v1 v2 v3 v4 v5 v6 : Value) : World := ((((((w.setCell ⟨N, 0, none⟩ v0).setCell ⟨N, 1, none⟩ v1).setCell ⟨N, 2, none⟩ v2).setCell ⟨N, 3, none⟩ v3).setCell ⟨N, 4, none⟩ v4).setCell ⟨N, 5, none⟩ v5).setCell ⟨N, 6, none⟩ v6
theorem put7_blk {w : World} {N : Nat} {t : TypeId} {c0 c1 c2 c3 c4 c5 c6 : Value} (h : Blk w N t #[c0, c1, c2, c3, c4, c5, c6]) (v0 v1 v2 v3 v4 v5 v6 : Value) : Blk (put7 w N v0 v1 v2 v3 v4 v5 v6) N t #[v0, v1, v2, v3, v4, v5, v6] := by
  have h0 : Blk (w.setCell ⟨N, 0, none⟩ v0) N t #[v0, c1, c2, c3, c4, c5, c6] := h.set_ 0 v0
  have h1 : Blk ((w.setCell ⟨N, 0, none⟩ v0).setCell ⟨N, 1, none⟩ v1) N t #[v0, v1, c2, c3, c4, c5, c6] := h0.set_ 1 v1
  have h2 : Blk (((w.setCell ⟨N, 0, none⟩ v0).setCell ⟨N, 1, none⟩ v1).setCell ⟨N, 2, none⟩ v2) N t #[v0, v1, v2, c3, c4, c5, c6] := h1.set_ 2 v2
  have h3 : Blk ((((w.setCell ⟨N, 0, none⟩ v0).setCell ⟨N, 1, none⟩ v1).setCell ⟨N, 2, none⟩ v2).setCell ⟨N, 3, none⟩ v3) N t #[v0, v1, v2, v3, c4, c5, c6] := h2.set_ 3 v3
  have h4 : Blk (((((w.setCell ⟨N, 0, none⟩ v0).setCell ⟨N, 1, none⟩ v1).setCell ⟨N, 2, none⟩ v2).setCell ⟨N, 3, none⟩ v3).setCell ⟨N, 4, none⟩ v4) N t #[v0, v1, v2, v3, v4, c5, c6] := h3.set_ 4 v4
  have h5 : Blk ((((((w.setCell ⟨N, 0, none⟩ v0).setCell ⟨N, 1, none⟩ v1).setCell ⟨N, 2, none⟩ v2).setCell ⟨N, 3, none⟩ v3).setCell ⟨N, 4, none⟩ v4).setCell ⟨N, 5, none⟩ v5) N t #[v0, v1, v2, v3, v4, v5, c6] := h4.set_ 5 v5
  have h6 : Blk (((((((w.setCell ⟨N, 0, none⟩ v0).setCell ⟨N, 1, none⟩ v1).setCell ⟨N, 2, none⟩ v2).setCell ⟨N, 3, none⟩ v3).setCell ⟨N, 4, none⟩ v4).setCell ⟨N, 5, none⟩ v5).setCell ⟨N, 6, none⟩ v6) N t #[v0, v1, v2, v3, v4, v5, v6] := h5.set_ 6 v6
  exact h6
theorem put7_far {w : World} {N g : Nat} {t : TypeId} {cs : Array Value} (h : Blk w g t cs) (hg : g ≠ N) (v0 v1 v2 v3 v4 v5 v6 : Value) : Blk (put7 w N v0 v1 v2 v3 v4 v5 v6) g t cs :=
  ((((((h.far (p := ⟨N, 0, none⟩) hg v0).far (p := ⟨N, 1, none⟩) hg v1).far (p := ⟨N, 2, none⟩) hg v2).far (p := ⟨N, 3, none⟩) hg v3).far (p := ⟨N, 4, none⟩) hg v4).far (p := ⟨N, 5, none⟩) hg v5).far (p := ⟨N, 6, none⟩) hg v6
theorem put7_row {α : Type} {enc : α → Value} {d : α} {w : World} {lo hi N : Nat} {A : Option Addr} {n : Nat} {xs : List α} (h : RowR enc d w lo hi A n xs) (hg : N < lo) (v0 v1 v2 v3 v4 v5 v6 : Value) : RowR enc d (put7 w N v0 v1 v2 v3 v4 v5 v6) lo hi A n xs :=
  ((((((h.set_lo hg).set_lo hg).set_lo hg).set_lo hg).set_lo hg).set_lo hg).set_lo hg
theorem put7_below {w0 w : World} {B N : Nat} (h : Below B w0 w) (hg : B ≤ N) (v0 v1 v2 v3 v4 v5 v6 : Value) : Below B w0 (put7 w N v0 v1 v2 v3 v4 v5 v6) :=
  ((((((h.setCell (p := ⟨N, 0, none⟩) hg v0).setCell (p := ⟨N, 1, none⟩) hg v1).setCell (p := ⟨N, 2, none⟩) hg v2).setCell (p := ⟨N, 3, none⟩) hg v3).setCell (p := ⟨N, 4, none⟩) hg v4).setCell (p := ⟨N, 5, none⟩) hg v5).setCell (p := ⟨N, 6, none⟩) hg v6
theorem put7_size (w : World) (N : Nat) (v0 v1 v2 v3 v4 v5 v6 : Value) : (put7 w N v0 v1 v2 v3 v4 v5 v6).heap.size = w.heap.size := by simp [put7, World.setCell]

set_option maxHeartbeats 8000000 in
set_option maxRecDepth 100000 in
theorem l34Guess_any (b off n c lo hi : Nat) (xs : List ByteArray) (w : World) (ha : StrR w lo hi (some ⟨b, off, none⟩) n xs) (hhi : hi ≤ w.heap.size) (hn : n ≤ 1048576) (h0 : 0 < n) (hcap : n ≤ c) :
    Calls Tryz.prog 113 #[.slice (some ⟨b, off, none⟩) n c] w fun e w' => (∃ v, e = .returned v ∧ SActR w' w.heap.size w'.heap.size v (guessS xs).1 (guessS xs).2.1 (guessS xs).2.2) ∧ Below w.heap.size w w' := by
  have hl := ha.1
  subst hl
  have HBZ := Lib.hid (Blk.new w 32 #[.int .i64 0, .int .i64 0, .int .i64 0, .int .i64 0, .string ⟨#[]⟩, .string ⟨#[]⟩, .slice none 0 0, .slice none 0 0, .slice none 0 0])
  have hd1 := (Below.refl w.heap.size w).alloc (Nat.le_refl _) (.cells #[.int .i64 0, .int .i64 0, .int .i64 0, .int .i64 0, .string ⟨#[]⟩, .string ⟨#[]⟩, .slice none 0 0, .slice none 0 0, .slice none 0 0] 32)
  have HB1 := Lib.hid hd1
  have HA1 := Lib.hid (ha.below hd1 hhi)
  have hs1 := own_alloc_sz w (.cells #[.int .i64 0, .int .i64 0, .int .i64 0, .int .i64 0, .string ⟨#[]⟩, .string ⟨#[]⟩, .slice none 0 0, .slice none 0 0, .slice none 0 0] 32)
  have HPL := Lib.hid (fun A n c lo hi ys x W h1 h2 => l29Place_any A n c lo hi ys x W h1 h2)
  have HNU := Lib.hid (fun x W => l34Number_any x W)
  have HJO := Lib.hid (fun W (hb : Below w.heap.size w W) => l34Job_any (some ⟨b, off, none⟩) xs.length c lo hi xs W (ha.below hb hhi) (Nat.le_trans hhi hb.size) hn)
  have HNS := Lib.hid (fun W (hb : Below w.heap.size w W) (h2 : 2 < xs.length) => l34Numbers_any (some ⟨b, off + 2, none⟩) (xs.length - 2) (c - 2) lo hi (xs.drop 2) W ((drop_row (ha.below hb hhi) 2 h2)) (Nat.le_trans hhi hb.size) (by omega))
  have HGM := Lib.hid (fun k h => guess_main xs k h)
  have HGW := Lib.hid (fun h => guess_wire xs h)
  have HKL := Lib.hid (fun k h => placeIn_lt (xs.getD 0 eB) mainsW 0 k h)
  have HKW := Lib.hid (fun k h => placeIn_lt (xs.getD 0 eB) wiresW 0 k h)
  have hcap1 : (xs.length : Int) ≤ (c : Int) := by omega
  obtain ⟨b1, off1, e1, _, hbh, hc0⟩ := (ha.at_ h0)
  injection e1 with e1
  injection e1 with e11 e12
  subst e11 e12
  have hc0' : w.cell? ⟨b, off, none⟩ = some (.string (xs.getD 0 ByteArray.empty)) := hc0
  have HC0 := Lib.hid (fun W (hb : Below w.heap.size w W) => (hb.cell (p := ⟨b, off, none⟩) (by show b < w.heap.size; omega)).trans hc0')
  have HC1 := Lib.hid (fun (h1 : 1 < xs.length) W (hb : Below w.heap.size w W) => (by
    obtain ⟨b2, off2, e2, _, _, hc⟩ := ha.at_ h1
    injection e2 with e2
    injection e2 with e21 e22
    subst e21 e22
    exact (hb.cell (p := ⟨b, off + 1, none⟩) (by show b < w.heap.size; omega)).trans hc : W.cell? ⟨b, off + 1, none⟩ = some (.string (xs.getD 1 ByteArray.empty))))
  have hz0 : (0 : Int) < (xs.length : Int) := by omega
  generalize xs.getD 0 ByteArray.empty = W0 at *
  generalize hG : guessS xs = G at *
  have HG := Lib.hid hG
  clear ha hd1 hG hc0 hc0'
  by_cases h1 : 1 < xs.length
  · have i1 : (1 : Int) < (xs.length : Int) := by omega
    have HAT := Lib.hid (show atN xs = valS (xs.getD 1 eB) from if_pos h1)
    have HC1' := Lib.hid (fun W hb => HC1.out h1 W hb)
    have HVX := Lib.hid (show valS (xs.getD 1 eB) = (numS (xs.getD 1 eB)).1 from rfl)
    generalize xs.getD 1 ByteArray.empty = W1 at *
    clear HC1
    go_enter Tryz.func113, Tryz.ntmps113
    go_upto_region 2 with fail
    generalize w.alloc (.cells #[.int .i64 0, .int .i64 0, .int .i64 0, .int .i64 0, .string ⟨#[]⟩, .string ⟨#[]⟩, .slice none 0 0, .slice none 0 0, .slice none 0 0] 32) = w1 at *
    have g1 := HC1'.out w1 HB1.out
    go_wp2_with fail
    refine (HNU.out _ _).mono ?_; rintro e2 w2 ⟨rfl, hb2⟩
    rw [HVX.out] at HAT
    generalize (numS W1).1 = NN at *
    generalize (numS W1).2 = NK at *
    have HZ2 := Lib.hid (HBZ.out.below hb2 (by omega))
    have HB2 := Lib.hid (HB1.out.trans (hb2.mono (by omega)))
    have hs2 := hb2.size
    clear hb2 g1 HBZ HB1 HNU
    go_upto_region 5 with fail
    have HLm := Lib.hid (show StrR (w2.alloc (.cells #[.string ⟨#[106, 111, 98]⟩, .string ⟨#[115, 116, 101, 112]⟩, .string ⟨#[116, 105, 99, 107]⟩, .string ⟨#[102, 108, 117, 115, 104]⟩, .string ⟨#[112, 97, 103, 101, 115]⟩, .string ⟨#[99, 104, 101, 99, 107]⟩, .string ⟨#[99, 114, 97, 115, 104]⟩] 9)) w2.heap.size (w2.alloc (.cells #[.string ⟨#[106, 111, 98]⟩, .string ⟨#[115, 116, 101, 112]⟩, .string ⟨#[116, 105, 99, 107]⟩, .string ⟨#[102, 108, 117, 115, 104]⟩, .string ⟨#[112, 97, 103, 101, 115]⟩, .string ⟨#[99, 104, 101, 99, 107]⟩, .string ⟨#[99, 114, 97, 115, 104]⟩] 9)).heap.size (some ⟨w2.heap.size, 0, none⟩) 7 mainsW from OwnR.reads (d := ByteArray.empty) (OwnR.lit_ (enc := Value.string) w2 w2.heap.size 9 mainsW (by decide) (Nat.le_refl _)))
    have hb3 := (Below.refl w2.heap.size w2).alloc (Nat.le_refl _) (.cells #[.string ⟨#[106, 111, 98]⟩, .string ⟨#[115, 116, 101, 112]⟩, .string ⟨#[116, 105, 99, 107]⟩, .string ⟨#[102, 108, 117, 115, 104]⟩, .string ⟨#[112, 97, 103, 101, 115]⟩, .string ⟨#[99, 104, 101, 99, 107]⟩, .string ⟨#[99, 114, 97, 115, 104]⟩] 9)
    have HZ3 := Lib.hid (HZ2.out.alloc (.cells #[.string ⟨#[106, 111, 98]⟩, .string ⟨#[115, 116, 101, 112]⟩, .string ⟨#[116, 105, 99, 107]⟩, .string ⟨#[102, 108, 117, 115, 104]⟩, .string ⟨#[112, 97, 103, 101, 115]⟩, .string ⟨#[99, 104, 101, 99, 107]⟩, .string ⟨#[99, 114, 97, 115, 104]⟩] 9))
    have HB3 := Lib.hid (HB2.out.trans (hb3.mono (by omega)))
    have hs3 := hb3.size
    have g0 := HC0.out _ HB3.out
    generalize w2.alloc (.cells #[.string ⟨#[106, 111, 98]⟩, .string ⟨#[115, 116, 101, 112]⟩, .string ⟨#[116, 105, 99, 107]⟩, .string ⟨#[102, 108, 117, 115, 104]⟩, .string ⟨#[112, 97, 103, 101, 115]⟩, .string ⟨#[99, 104, 101, 99, 107]⟩, .string ⟨#[99, 114, 97, 115, 104]⟩] 9) = w3 at *
    clear hb3 HZ2 HB2
    go_wp2_with fail
    refine (HPL.out _ 7 7 _ _ mainsW W0 w3 HLm.out (by decide)).mono ?_; rintro e4 w4 ⟨rfl, hw4⟩
    subst hw4
    clear HLm
    cases hp : placeIn W0 mainsW 0 with
    | none =>
      have HGE := Lib.hid (show G = (placeZ (placeIn W0 wiresW 0) + 2, NN, act0) by rw [HGW.out hp, HAT.out])
      have hpz : -1 ≤ placeZ (placeIn W0 wiresW 0) ∧ placeZ (placeIn W0 wiresW 0) ≤ 5 := by
        cases hq : placeIn W0 wiresW 0 with
        | none => exact ⟨by decide, by decide⟩
        | some q =>
          have h2 : q < 0 + 6 := HKW.out q hq
          exact ⟨by show -1 ≤ (q : Int); omega, by show (q : Int) ≤ 5; omega⟩
      have HLw := Lib.hid (show StrR (w3.alloc (.cells #[.string ⟨#[115, 104, 105, 112]⟩, .string ⟨#[97, 114, 114, 105, 118, 101]⟩, .string ⟨#[108, 111, 115, 101]⟩, .string ⟨#[116, 119, 105, 99, 101]⟩, .string ⟨#[99, 111, 112, 121]⟩, .string ⟨#[115, 119, 105, 116, 99, 104]⟩] 9)) w3.heap.size (w3.alloc (.cells #[.string ⟨#[115, 104, 105, 112]⟩, .string ⟨#[97, 114, 114, 105, 118, 101]⟩, .string ⟨#[108, 111, 115, 101]⟩, .string ⟨#[116, 119, 105, 99, 101]⟩, .string ⟨#[99, 111, 112, 121]⟩, .string ⟨#[115, 119, 105, 116, 99, 104]⟩] 9)).heap.size (some ⟨w3.heap.size, 0, none⟩) 6 wiresW from OwnR.reads (d := ByteArray.empty) (OwnR.lit_ (enc := Value.string) w3 w3.heap.size 9 wiresW (by decide) (Nat.le_refl _)))
      have hb5 := (Below.refl w3.heap.size w3).alloc (Nat.le_refl _) (.cells #[.string ⟨#[115, 104, 105, 112]⟩, .string ⟨#[97, 114, 114, 105, 118, 101]⟩, .string ⟨#[108, 111, 115, 101]⟩, .string ⟨#[116, 119, 105, 99, 101]⟩, .string ⟨#[99, 111, 112, 121]⟩, .string ⟨#[115, 119, 105, 116, 99, 104]⟩] 9)
      have HZ5 := Lib.hid (HZ3.out.alloc (.cells #[.string ⟨#[115, 104, 105, 112]⟩, .string ⟨#[97, 114, 114, 105, 118, 101]⟩, .string ⟨#[108, 111, 115, 101]⟩, .string ⟨#[116, 119, 105, 99, 101]⟩, .string ⟨#[99, 111, 112, 121]⟩, .string ⟨#[115, 119, 105, 116, 99, 104]⟩] 9))
      have HB5 := Lib.hid (HB3.out.trans (hb5.mono (by omega)))
      have g5 := HC0.out _ HB5.out
      have HPW := Lib.hid (fun lo hi W h => HPL.out (some ⟨w3.heap.size, 0, none⟩) 6 6 lo hi wiresW W0 W h (by decide))
      generalize placeZ (placeIn W0 wiresW 0) = PZ at *
      have hwz : IntKind.i64.wrap (PZ + 2) = PZ + 2 := IntWalk.i64_in _ (by omega)
      clear hb5 g0 HG HGM HGW HKL HKW HPL HJO HNS hp
      go_upto_region 16 with fail
      generalize w3.alloc (.cells #[.string ⟨#[115, 104, 105, 112]⟩, .string ⟨#[97, 114, 114, 105, 118, 101]⟩, .string ⟨#[108, 111, 115, 101]⟩, .string ⟨#[116, 119, 105, 99, 101]⟩, .string ⟨#[99, 111, 112, 121]⟩, .string ⟨#[115, 119, 105, 116, 99, 104]⟩] 9) = w5 at *
      have f5 := HZ5.out.cell
      have z5 := HZ5.out.frozen
      go_wp2_with fail
      refine (HPW.out _ _ w5 HLw.out).mono ?_; rintro e6 w6 ⟨rfl, hw6⟩
      subst hw6
      go_wp2_with fail
      refine bodyPost_ret (v := .agg #[.int .i64 (PZ + 2), .int .i64 NN, .int .i64 0, .int .i64 0, .string ⟨#[]⟩, .string ⟨#[]⟩, .slice none 0 0, .slice none 0 0, .slice none 0 0]) (by simp [results, Tryz.results113, go_sem, f5]) rfl ⟨⟨_, rfl, ?_⟩, ?_⟩
      · rw [HGE.out]
        exact ⟨none, 0, none, 0, none, 0, rfl, row_nil _ _ _, row_nil _ _ _, row_nilI _ _ _⟩
      · repeat (with_reducible refine Below.setCell ?_ (by first | exact Nat.le_refl _ | (show _ ≤ _; omega)) _)
        exact HB5.out
    | some k =>
      have hk7 : k < 0 + 7 := HKL.out k hp
      have HGK := Lib.hid (show G = (1, 0, if k = 0 then jobS xs else ⟨(k : Int) + 1, NN, eB, eB, [], [], if k = 6 then ((xs.drop 2).filter okS).map valS else []⟩) by rw [HGM.out k hp, HAT.out])
      have hk0 : (0 : Int) ≤ (k : Int) := by omega
      have hwk : IntKind.i64.wrap ((k : Int) + 1) = (k : Int) + 1 := IntWalk.i64_in _ (by omega)
      have hpz : placeZ (some k) = (k : Int) := rfl
      have HGK2 := HGK
      clear HG HGM HGW HKL HKW HPL hp g0 HGK
      obtain ⟨KK, hKK⟩ : ∃ KK : Int, KK = (k : Int) + 1 := ⟨_, rfl⟩
      have hNk : k = 0 ∨ k = 6 ∨ (k ≠ 0 ∧ k ≠ 6) := by omega
      have HBK5 := Lib.hid (Blk.new w3 30 #[.int .i64 KK, .int .i64 NN, .string ⟨#[]⟩, .string ⟨#[]⟩, .slice none 0 0, .slice none 0 0, .slice none 0 0])
      have HZ5 := Lib.hid (HZ3.out.alloc (.cells #[.int .i64 KK, .int .i64 NN, .string ⟨#[]⟩, .string ⟨#[]⟩, .slice none 0 0, .slice none 0 0, .slice none 0 0] 30))
      have hb5 := (Below.refl w3.heap.size w3).alloc (Nat.le_refl _) (.cells #[.int .i64 KK, .int .i64 NN, .string ⟨#[]⟩, .string ⟨#[]⟩, .slice none 0 0, .slice none 0 0, .slice none 0 0] 30)
      have HB5 := Lib.hid (HB3.out.trans (hb5.mono (by omega)))
      have hs5 := own_alloc_sz w3 (.cells #[.int .i64 KK, .int .i64 NN, .string ⟨#[]⟩, .string ⟨#[]⟩, .slice none 0 0, .slice none 0 0, .slice none 0 0] 30)
      have hBN : w.heap.size < w3.heap.size := by have := HZ3.out.lt; exact this
      clear hb5 HZ3
      rcases hNk with rfl | rfl | ⟨k0, k6⟩
      · obtain rfl : KK = 1 := by omega
        clear hKK
        have HGE := Lib.hid (show G = (1, 0, jobS xs) from HGK2.out)
        clear HGK2 hwk hk7 hk0
        go_upto_region 8 with fail
        generalize w3.alloc (.cells #[.int .i64 1, .int .i64 NN, .string ⟨#[]⟩, .string ⟨#[]⟩, .slice none 0 0, .slice none 0 0, .slice none 0 0] 30) = w5 at *
        generalize w3.heap.size = NB at *
        have f5 := HBK5.out.cell
        have z5 := HBK5.out.frozen
        have fz := HZ5.out.cell
        have zz := HZ5.out.frozen
        go_wp2_with fail
        refine (HJO.out w5 HB5.out).mono ?_; rintro e6 w6 ⟨⟨v6, rfl, hact⟩, hb6⟩
        obtain ⟨A6, ca, B6, cb, C6, cc, rfl, rA, rB, rC⟩ := hact
        have hs6 := hb6.size
        have HBK6 := Lib.hid (HBK5.out.below hb6 (by omega))
        have HZ6 := Lib.hid (HZ5.out.below hb6 (by omega))
        have HB6 := Lib.hid (HB5.out.trans (hb6.mono (by omega)))
        have HRA := Lib.hid rA; have HRB := Lib.hid rB; have HRC := Lib.hid rC
        generalize jobS xs = J at *
        clear hb6 rA rB rC f5 z5 fz zz HBK5 HZ5
        have f6 := HBK6.out.cell
        have z6 := HBK6.out.frozen
        go_upto_region 14 with fail
        change Code.wp _ _ _ _ (put7 w6 NB (.int .i64 J.k) (.int .i64 J.a) (.string J.r) (.string J.l) (.slice A6 J.args.length ca) (.slice B6 J.input.length cb) (.slice C6 J.keep.length cc))
        have HBK7 := Lib.hid (put7_blk HBK6.out (.int .i64 J.k) (.int .i64 J.a) (.string J.r) (.string J.l) (.slice A6 J.args.length ca) (.slice B6 J.input.length cb) (.slice C6 J.keep.length cc))
        have HZ7 := Lib.hid (put7_far HZ6.out (N := NB) (by omega) (.int .i64 J.k) (.int .i64 J.a) (.string J.r) (.string J.l) (.slice A6 J.args.length ca) (.slice B6 J.input.length cb) (.slice C6 J.keep.length cc))
        have HB7 := Lib.hid (put7_below HB6.out (N := NB) (by omega) (.int .i64 J.k) (.int .i64 J.a) (.string J.r) (.string J.l) (.slice A6 J.args.length ca) (.slice B6 J.input.length cb) (.slice C6 J.keep.length cc))
        have HRA7 := Lib.hid (put7_row (N := NB) HRA.out (by omega) (.int .i64 J.k) (.int .i64 J.a) (.string J.r) (.string J.l) (.slice A6 J.args.length ca) (.slice B6 J.input.length cb) (.slice C6 J.keep.length cc))
        have HRB7 := Lib.hid (put7_row (N := NB) HRB.out (by omega) (.int .i64 J.k) (.int .i64 J.a) (.string J.r) (.string J.l) (.slice A6 J.args.length ca) (.slice B6 J.input.length cb) (.slice C6 J.keep.length cc))
        have HRC7 := Lib.hid (put7_row (N := NB) HRC.out (by omega) (.int .i64 J.k) (.int .i64 J.a) (.string J.r) (.string J.l) (.slice A6 J.args.length ca) (.slice B6 J.input.length cb) (.slice C6 J.keep.length cc))
        have hs7 := put7_size w6 NB (.int .i64 J.k) (.int .i64 J.a) (.string J.r) (.string J.l) (.slice A6 J.args.length ca) (.slice B6 J.input.length cb) (.slice C6 J.keep.length cc)
        generalize put7 w6 NB (.int .i64 J.k) (.int .i64 J.a) (.string J.r) (.string J.l) (.slice A6 J.args.length ca) (.slice B6 J.input.length cb) (.slice C6 J.keep.length cc) = w7 at *
        clear f6 z6 HBK6 HZ6 HB6 HRA HRB HRC
        have f7 := HBK7.out.cell
        have fz := HZ7.out.cell
        have zz := HZ7.out.frozen
        go_wp2_with fail
        refine bodyPost_ret (v := .agg #[.int .i64 1, .int .i64 0, .int .i64 J.k, .int .i64 J.a, .string J.r, .string J.l, .slice A6 J.args.length ca, .slice B6 J.input.length cb, .slice C6 J.keep.length cc]) (by simp [results, Tryz.results113, go_sem, fz]) rfl ⟨⟨_, rfl, ?_⟩, ?_⟩
        · rw [HGE.out]
          exact ⟨A6, ca, B6, cb, C6, cc, rfl, (by refine RowR.more (lo := w5.heap.size) (hi := w6.heap.size) ?_ (by omega) (by simp [World.setCell]; omega); (iterate 9 (with_reducible refine RowR.set_lo ?_ (by show w.heap.size < w5.heap.size; omega))); exact HRA7.out), (by refine RowR.more (lo := w5.heap.size) (hi := w6.heap.size) ?_ (by omega) (by simp [World.setCell]; omega); (iterate 9 (with_reducible refine RowR.set_lo ?_ (by show w.heap.size < w5.heap.size; omega))); exact HRB7.out), (by refine RowR.more (lo := w5.heap.size) (hi := w6.heap.size) ?_ (by omega) (by simp [World.setCell]; omega); (iterate 9 (with_reducible refine RowR.set_lo ?_ (by show w.heap.size < w5.heap.size; omega))); exact HRC7.out)⟩
        · repeat (with_reducible refine Below.setCell ?_ (by first | exact Nat.le_refl _ | (show _ ≤ _; omega)) _)
          exact HB7.out
      · obtain rfl : KK = 7 := by omega
        clear hKK
        have HGE0 := Lib.hid (show G = (1, 0, ⟨7, NN, eB, eB, [], [], ((xs.drop 2).filter okS).map valS⟩) from HGK2.out)
        clear HGK2 hwk hk7 hk0 HJO
        by_cases h2 : 2 < xs.length
        · have i2 : (2 : Int) < (xs.length : Int) := by omega
          have i2' : (2 : Int) ≤ (xs.length : Int) := by omega
          have HGE := HGE0
          go_upto_region 8 with fail
          generalize w3.alloc (.cells #[.int .i64 7, .int .i64 NN, .string ⟨#[]⟩, .string ⟨#[]⟩, .slice none 0 0, .slice none 0 0, .slice none 0 0] 30) = w5 at *
          generalize w3.heap.size = NB at *
          have f5 := HBK5.out.cell
          have z5 := HBK5.out.frozen
          have fz := HZ5.out.cell
          have zz := HZ5.out.frozen
          go_wp2_with fail
          refine (HNS.out w5 HB5.out h2).mono ?_; rintro e6 w6 ⟨⟨v6, rfl, hv6⟩, hb6⟩
          obtain ⟨C6, cc, rfl⟩ := hv6.1
          have hs6 := hb6.size
          have HBK6 := Lib.hid (HBK5.out.below hb6 (by omega))
          have HZ6 := Lib.hid (HZ5.out.below hb6 (by omega))
          have HB6 := Lib.hid (HB5.out.trans (hb6.mono (by omega)))
          have HRC := Lib.hid (OwnR.reads (d := (0 : Int)) hv6)
          generalize ((xs.drop 2).filter okS).map valS = KL at *
          clear hb6 hv6 f5 z5 fz zz HBK5 HZ5
          have f6 := HBK6.out.cell
          have z6 := HBK6.out.frozen
          have HBK7 := Lib.hid (show Blk (w6.setCell ⟨NB, 6, none⟩ (.slice C6 KL.length cc)) NB 30 #[.int .i64 7, .int .i64 NN, .string ⟨#[]⟩, .string ⟨#[]⟩, .slice none 0 0, .slice none 0 0, .slice C6 KL.length cc] from HBK6.out.set_ 6 _)
          have HZ7 := Lib.hid (show Blk (w6.setCell ⟨NB, 6, none⟩ (.slice C6 KL.length cc)) w.heap.size 32 _ from HZ6.out.far (by show w.heap.size ≠ NB; omega) _)
          have HB7 := Lib.hid (HB6.out.setCell (p := ⟨NB, 6, none⟩) (by show w.heap.size ≤ NB; omega) (.slice C6 KL.length cc))
          have HRC7 := Lib.hid (HRC.out.set_lo (g := NB) (o := 6) (u := .slice C6 KL.length cc) (by omega))
          have hs7 : (w6.setCell ⟨NB, 6, none⟩ (.slice C6 KL.length cc)).heap.size = w6.heap.size := by simp [World.setCell]
          go_upto_region 14 with fail
          generalize w6.setCell ⟨NB, 6, none⟩ (.slice C6 KL.length cc) = w7 at *
          clear f6 z6 HBK6 HZ6 HB6 HRC
          have f7 := HBK7.out.cell
          have fz := HZ7.out.cell
          have zz := HZ7.out.frozen
          go_wp2_with fail
          refine bodyPost_ret (v := .agg #[.int .i64 1, .int .i64 0, .int .i64 7, .int .i64 NN, .string ⟨#[]⟩, .string ⟨#[]⟩, .slice none 0 0, .slice none 0 0, .slice C6 KL.length cc]) (by simp [results, Tryz.results113, go_sem, fz]) rfl ⟨⟨_, rfl, ?_⟩, ?_⟩
          · rw [HGE.out]
            exact ⟨none, 0, none, 0, C6, cc, rfl, row_nil _ _ _, row_nil _ _ _, (by refine RowR.more (lo := w5.heap.size) (hi := w6.heap.size) ?_ (by omega) (by simp [World.setCell]; omega); (iterate 9 (with_reducible refine RowR.set_lo ?_ (by show w.heap.size < w5.heap.size; omega))); exact HRC7.out)⟩
          · repeat (with_reducible refine Below.setCell ?_ (by first | exact Nat.le_refl _ | (show _ ≤ _; omega)) _)
            exact HB7.out
        · have i2 : ¬ (2 : Int) < (xs.length : Int) := by omega
          have HGE := Lib.hid (show G = (1, 0, ⟨7, NN, eB, eB, [], [], []⟩) by rw [HGE0.out, List.drop_of_length_le (by omega)]; rfl)
          go_upto_region 8 with fail
          generalize w3.alloc (.cells #[.int .i64 7, .int .i64 NN, .string ⟨#[]⟩, .string ⟨#[]⟩, .slice none 0 0, .slice none 0 0, .slice none 0 0] 30) = w5 at *
          generalize w3.heap.size = NB at *
          have f5 := HBK5.out.cell
          have z5 := HBK5.out.frozen
          have fz := HZ5.out.cell
          have zz := HZ5.out.frozen
          go_wp2_with fail
          refine bodyPost_ret (v := .agg #[.int .i64 1, .int .i64 0, .int .i64 7, .int .i64 NN, .string ⟨#[]⟩, .string ⟨#[]⟩, .slice none 0 0, .slice none 0 0, .slice none 0 0]) (by simp [results, Tryz.results113, go_sem, fz]) rfl ⟨⟨_, rfl, ?_⟩, ?_⟩
          · rw [HGE.out]
            exact ⟨none, 0, none, 0, none, 0, rfl, row_nil _ _ _, row_nil _ _ _, row_nilI _ _ _⟩
          · repeat (with_reducible refine Below.setCell ?_ (by first | exact Nat.le_refl _ | (show _ ≤ _; omega)) _)
            exact HB5.out
      · subst hKK
        have HGE := Lib.hid (show G = (1, 0, ⟨(k : Int) + 1, NN, eB, eB, [], [], []⟩) by rw [HGK2.out, if_neg k0, if_neg k6])
        have q1 : (((k : Int) + 1) == 1) = false := by rw [beq_eq_false_iff_ne]; omega
        have q7 : (((k : Int) + 1) == 7) = false := by rw [beq_eq_false_iff_ne]; omega
        clear HGK2 HJO HNS k0 k6
        go_upto_region 8 with fail
        generalize w3.alloc (.cells #[.int .i64 ((k : Int) + 1), .int .i64 NN, .string ⟨#[]⟩, .string ⟨#[]⟩, .slice none 0 0, .slice none 0 0, .slice none 0 0] 30) = w5 at *
        generalize w3.heap.size = NB at *
        have f5 := HBK5.out.cell
        have z5 := HBK5.out.frozen
        have fz := HZ5.out.cell
        have zz := HZ5.out.frozen
        go_wp2_with fail
        refine bodyPost_ret (v := .agg #[.int .i64 1, .int .i64 0, .int .i64 ((k : Int) + 1), .int .i64 NN, .string ⟨#[]⟩, .string ⟨#[]⟩, .slice none 0 0, .slice none 0 0, .slice none 0 0]) (by simp [results, Tryz.results113, go_sem, fz]) rfl ⟨⟨_, rfl, ?_⟩, ?_⟩
        · rw [HGE.out]
          exact ⟨none, 0, none, 0, none, 0, rfl, row_nil _ _ _, row_nil _ _ _, row_nilI _ _ _⟩
        · repeat (with_reducible refine Below.setCell ?_ (by first | exact Nat.le_refl _ | (show _ ≤ _; omega)) _)
          exact HB5.out
  · have i1 : ¬ (1 : Int) < (xs.length : Int) := by omega
    have HAT := Lib.hid (show atN xs = 0 from if_neg h1)
    clear HC1
    go_enter Tryz.func113, Tryz.ntmps113
    go_upto_region 2 with fail
    generalize w.alloc (.cells #[.int .i64 0, .int .i64 0, .int .i64 0, .int .i64 0, .string ⟨#[]⟩, .string ⟨#[]⟩, .slice none 0 0, .slice none 0 0, .slice none 0 0] 32) = w1 at *
    obtain ⟨w2, hw2⟩ : ∃ w2, w2 = w1 := ⟨_, rfl⟩
    have HZ2 := Lib.hid (show Blk w2 w.heap.size 32 _ by rw [hw2]; exact HBZ.out)
    have HB2 := Lib.hid (show Below w.heap.size w w2 by rw [hw2]; exact HB1.out)
    have hs2 : w1.heap.size ≤ w2.heap.size := by rw [hw2]; exact Nat.le_refl _
    rw [← hw2]
    clear hw2 HBZ HB1 HNU
    go_upto_region 5 with fail
    have HLm := Lib.hid (show StrR (w2.alloc (.cells #[.string ⟨#[106, 111, 98]⟩, .string ⟨#[115, 116, 101, 112]⟩, .string ⟨#[116, 105, 99, 107]⟩, .string ⟨#[102, 108, 117, 115, 104]⟩, .string ⟨#[112, 97, 103, 101, 115]⟩, .string ⟨#[99, 104, 101, 99, 107]⟩, .string ⟨#[99, 114, 97, 115, 104]⟩] 9)) w2.heap.size (w2.alloc (.cells #[.string ⟨#[106, 111, 98]⟩, .string ⟨#[115, 116, 101, 112]⟩, .string ⟨#[116, 105, 99, 107]⟩, .string ⟨#[102, 108, 117, 115, 104]⟩, .string ⟨#[112, 97, 103, 101, 115]⟩, .string ⟨#[99, 104, 101, 99, 107]⟩, .string ⟨#[99, 114, 97, 115, 104]⟩] 9)).heap.size (some ⟨w2.heap.size, 0, none⟩) 7 mainsW from OwnR.reads (d := ByteArray.empty) (OwnR.lit_ (enc := Value.string) w2 w2.heap.size 9 mainsW (by decide) (Nat.le_refl _)))
    have hb3 := (Below.refl w2.heap.size w2).alloc (Nat.le_refl _) (.cells #[.string ⟨#[106, 111, 98]⟩, .string ⟨#[115, 116, 101, 112]⟩, .string ⟨#[116, 105, 99, 107]⟩, .string ⟨#[102, 108, 117, 115, 104]⟩, .string ⟨#[112, 97, 103, 101, 115]⟩, .string ⟨#[99, 104, 101, 99, 107]⟩, .string ⟨#[99, 114, 97, 115, 104]⟩] 9)
    have HZ3 := Lib.hid (HZ2.out.alloc (.cells #[.string ⟨#[106, 111, 98]⟩, .string ⟨#[115, 116, 101, 112]⟩, .string ⟨#[116, 105, 99, 107]⟩, .string ⟨#[102, 108, 117, 115, 104]⟩, .string ⟨#[112, 97, 103, 101, 115]⟩, .string ⟨#[99, 104, 101, 99, 107]⟩, .string ⟨#[99, 114, 97, 115, 104]⟩] 9))
    have HB3 := Lib.hid (HB2.out.trans (hb3.mono (by omega)))
    have hs3 := hb3.size
    have g0 := HC0.out _ HB3.out
    generalize w2.alloc (.cells #[.string ⟨#[106, 111, 98]⟩, .string ⟨#[115, 116, 101, 112]⟩, .string ⟨#[116, 105, 99, 107]⟩, .string ⟨#[102, 108, 117, 115, 104]⟩, .string ⟨#[112, 97, 103, 101, 115]⟩, .string ⟨#[99, 104, 101, 99, 107]⟩, .string ⟨#[99, 114, 97, 115, 104]⟩] 9) = w3 at *
    clear hb3 HZ2 HB2
    go_wp2_with fail
    refine (HPL.out _ 7 7 _ _ mainsW W0 w3 HLm.out (by decide)).mono ?_; rintro e4 w4 ⟨rfl, hw4⟩
    subst hw4
    clear HLm
    cases hp : placeIn W0 mainsW 0 with
    | none =>
      have HGE := Lib.hid (show G = (placeZ (placeIn W0 wiresW 0) + 2, 0, act0) by rw [HGW.out hp, HAT.out])
      have hpz : -1 ≤ placeZ (placeIn W0 wiresW 0) ∧ placeZ (placeIn W0 wiresW 0) ≤ 5 := by
        cases hq : placeIn W0 wiresW 0 with
        | none => exact ⟨by decide, by decide⟩
        | some q =>
          have h2 : q < 0 + 6 := HKW.out q hq
          exact ⟨by show -1 ≤ (q : Int); omega, by show (q : Int) ≤ 5; omega⟩
      have HLw := Lib.hid (show StrR (w3.alloc (.cells #[.string ⟨#[115, 104, 105, 112]⟩, .string ⟨#[97, 114, 114, 105, 118, 101]⟩, .string ⟨#[108, 111, 115, 101]⟩, .string ⟨#[116, 119, 105, 99, 101]⟩, .string ⟨#[99, 111, 112, 121]⟩, .string ⟨#[115, 119, 105, 116, 99, 104]⟩] 9)) w3.heap.size (w3.alloc (.cells #[.string ⟨#[115, 104, 105, 112]⟩, .string ⟨#[97, 114, 114, 105, 118, 101]⟩, .string ⟨#[108, 111, 115, 101]⟩, .string ⟨#[116, 119, 105, 99, 101]⟩, .string ⟨#[99, 111, 112, 121]⟩, .string ⟨#[115, 119, 105, 116, 99, 104]⟩] 9)).heap.size (some ⟨w3.heap.size, 0, none⟩) 6 wiresW from OwnR.reads (d := ByteArray.empty) (OwnR.lit_ (enc := Value.string) w3 w3.heap.size 9 wiresW (by decide) (Nat.le_refl _)))
      have hb5 := (Below.refl w3.heap.size w3).alloc (Nat.le_refl _) (.cells #[.string ⟨#[115, 104, 105, 112]⟩, .string ⟨#[97, 114, 114, 105, 118, 101]⟩, .string ⟨#[108, 111, 115, 101]⟩, .string ⟨#[116, 119, 105, 99, 101]⟩, .string ⟨#[99, 111, 112, 121]⟩, .string ⟨#[115, 119, 105, 116, 99, 104]⟩] 9)
      have HZ5 := Lib.hid (HZ3.out.alloc (.cells #[.string ⟨#[115, 104, 105, 112]⟩, .string ⟨#[97, 114, 114, 105, 118, 101]⟩, .string ⟨#[108, 111, 115, 101]⟩, .string ⟨#[116, 119, 105, 99, 101]⟩, .string ⟨#[99, 111, 112, 121]⟩, .string ⟨#[115, 119, 105, 116, 99, 104]⟩] 9))
      have HB5 := Lib.hid (HB3.out.trans (hb5.mono (by omega)))
      have g5 := HC0.out _ HB5.out
      have HPW := Lib.hid (fun lo hi W h => HPL.out (some ⟨w3.heap.size, 0, none⟩) 6 6 lo hi wiresW W0 W h (by decide))
      generalize placeZ (placeIn W0 wiresW 0) = PZ at *
      have hwz : IntKind.i64.wrap (PZ + 2) = PZ + 2 := IntWalk.i64_in _ (by omega)
      clear hb5 g0 HG HGM HGW HKL HKW HPL HJO HNS hp
      go_upto_region 16 with fail
      generalize w3.alloc (.cells #[.string ⟨#[115, 104, 105, 112]⟩, .string ⟨#[97, 114, 114, 105, 118, 101]⟩, .string ⟨#[108, 111, 115, 101]⟩, .string ⟨#[116, 119, 105, 99, 101]⟩, .string ⟨#[99, 111, 112, 121]⟩, .string ⟨#[115, 119, 105, 116, 99, 104]⟩] 9) = w5 at *
      have f5 := HZ5.out.cell
      have z5 := HZ5.out.frozen
      go_wp2_with fail
      refine (HPW.out _ _ w5 HLw.out).mono ?_; rintro e6 w6 ⟨rfl, hw6⟩
      subst hw6
      go_wp2_with fail
      refine bodyPost_ret (v := .agg #[.int .i64 (PZ + 2), .int .i64 0, .int .i64 0, .int .i64 0, .string ⟨#[]⟩, .string ⟨#[]⟩, .slice none 0 0, .slice none 0 0, .slice none 0 0]) (by simp [results, Tryz.results113, go_sem, f5]) rfl ⟨⟨_, rfl, ?_⟩, ?_⟩
      · rw [HGE.out]
        exact ⟨none, 0, none, 0, none, 0, rfl, row_nil _ _ _, row_nil _ _ _, row_nilI _ _ _⟩
      · repeat (with_reducible refine Below.setCell ?_ (by first | exact Nat.le_refl _ | (show _ ≤ _; omega)) _)
        exact HB5.out
    | some k =>
      have hk7 : k < 0 + 7 := HKL.out k hp
      have HGK := Lib.hid (show G = (1, 0, if k = 0 then jobS xs else ⟨(k : Int) + 1, 0, eB, eB, [], [], if k = 6 then ((xs.drop 2).filter okS).map valS else []⟩) by rw [HGM.out k hp, HAT.out])
      have hk0 : (0 : Int) ≤ (k : Int) := by omega
      have hwk : IntKind.i64.wrap ((k : Int) + 1) = (k : Int) + 1 := IntWalk.i64_in _ (by omega)
      have hpz : placeZ (some k) = (k : Int) := rfl
      have HGK2 := HGK
      clear HG HGM HGW HKL HKW HPL hp g0 HGK
      obtain ⟨KK, hKK⟩ : ∃ KK : Int, KK = (k : Int) + 1 := ⟨_, rfl⟩
      have hNk : k = 0 ∨ k = 6 ∨ (k ≠ 0 ∧ k ≠ 6) := by omega
      have HBK5 := Lib.hid (Blk.new w3 30 #[.int .i64 KK, .int .i64 0, .string ⟨#[]⟩, .string ⟨#[]⟩, .slice none 0 0, .slice none 0 0, .slice none 0 0])
      have HZ5 := Lib.hid (HZ3.out.alloc (.cells #[.int .i64 KK, .int .i64 0, .string ⟨#[]⟩, .string ⟨#[]⟩, .slice none 0 0, .slice none 0 0, .slice none 0 0] 30))
      have hb5 := (Below.refl w3.heap.size w3).alloc (Nat.le_refl _) (.cells #[.int .i64 KK, .int .i64 0, .string ⟨#[]⟩, .string ⟨#[]⟩, .slice none 0 0, .slice none 0 0, .slice none 0 0] 30)
      have HB5 := Lib.hid (HB3.out.trans (hb5.mono (by omega)))
      have hs5 := own_alloc_sz w3 (.cells #[.int .i64 KK, .int .i64 0, .string ⟨#[]⟩, .string ⟨#[]⟩, .slice none 0 0, .slice none 0 0, .slice none 0 0] 30)
      have hBN : w.heap.size < w3.heap.size := by have := HZ3.out.lt; exact this
      clear hb5 HZ3
      rcases hNk with rfl | rfl | ⟨k0, k6⟩
      · obtain rfl : KK = 1 := by omega
        clear hKK
        have HGE := Lib.hid (show G = (1, 0, jobS xs) from HGK2.out)
        clear HGK2 hwk hk7 hk0
        go_upto_region 8 with fail
        generalize w3.alloc (.cells #[.int .i64 1, .int .i64 0, .string ⟨#[]⟩, .string ⟨#[]⟩, .slice none 0 0, .slice none 0 0, .slice none 0 0] 30) = w5 at *
        generalize w3.heap.size = NB at *
        have f5 := HBK5.out.cell
        have z5 := HBK5.out.frozen
        have fz := HZ5.out.cell
        have zz := HZ5.out.frozen
        go_wp2_with fail
        refine (HJO.out w5 HB5.out).mono ?_; rintro e6 w6 ⟨⟨v6, rfl, hact⟩, hb6⟩
        obtain ⟨A6, ca, B6, cb, C6, cc, rfl, rA, rB, rC⟩ := hact
        have hs6 := hb6.size
        have HBK6 := Lib.hid (HBK5.out.below hb6 (by omega))
        have HZ6 := Lib.hid (HZ5.out.below hb6 (by omega))
        have HB6 := Lib.hid (HB5.out.trans (hb6.mono (by omega)))
        have HRA := Lib.hid rA; have HRB := Lib.hid rB; have HRC := Lib.hid rC
        generalize jobS xs = J at *
        clear hb6 rA rB rC f5 z5 fz zz HBK5 HZ5
        have f6 := HBK6.out.cell
        have z6 := HBK6.out.frozen
        go_upto_region 14 with fail
        change Code.wp _ _ _ _ (put7 w6 NB (.int .i64 J.k) (.int .i64 J.a) (.string J.r) (.string J.l) (.slice A6 J.args.length ca) (.slice B6 J.input.length cb) (.slice C6 J.keep.length cc))
        have HBK7 := Lib.hid (put7_blk HBK6.out (.int .i64 J.k) (.int .i64 J.a) (.string J.r) (.string J.l) (.slice A6 J.args.length ca) (.slice B6 J.input.length cb) (.slice C6 J.keep.length cc))
        have HZ7 := Lib.hid (put7_far HZ6.out (N := NB) (by omega) (.int .i64 J.k) (.int .i64 J.a) (.string J.r) (.string J.l) (.slice A6 J.args.length ca) (.slice B6 J.input.length cb) (.slice C6 J.keep.length cc))
        have HB7 := Lib.hid (put7_below HB6.out (N := NB) (by omega) (.int .i64 J.k) (.int .i64 J.a) (.string J.r) (.string J.l) (.slice A6 J.args.length ca) (.slice B6 J.input.length cb) (.slice C6 J.keep.length cc))
        have HRA7 := Lib.hid (put7_row (N := NB) HRA.out (by omega) (.int .i64 J.k) (.int .i64 J.a) (.string J.r) (.string J.l) (.slice A6 J.args.length ca) (.slice B6 J.input.length cb) (.slice C6 J.keep.length cc))
        have HRB7 := Lib.hid (put7_row (N := NB) HRB.out (by omega) (.int .i64 J.k) (.int .i64 J.a) (.string J.r) (.string J.l) (.slice A6 J.args.length ca) (.slice B6 J.input.length cb) (.slice C6 J.keep.length cc))
        have HRC7 := Lib.hid (put7_row (N := NB) HRC.out (by omega) (.int .i64 J.k) (.int .i64 J.a) (.string J.r) (.string J.l) (.slice A6 J.args.length ca) (.slice B6 J.input.length cb) (.slice C6 J.keep.length cc))
        have hs7 := put7_size w6 NB (.int .i64 J.k) (.int .i64 J.a) (.string J.r) (.string J.l) (.slice A6 J.args.length ca) (.slice B6 J.input.length cb) (.slice C6 J.keep.length cc)
        generalize put7 w6 NB (.int .i64 J.k) (.int .i64 J.a) (.string J.r) (.string J.l) (.slice A6 J.args.length ca) (.slice B6 J.input.length cb) (.slice C6 J.keep.length cc) = w7 at *
        clear f6 z6 HBK6 HZ6 HB6 HRA HRB HRC
        have f7 := HBK7.out.cell
        have fz := HZ7.out.cell
        have zz := HZ7.out.frozen
        go_wp2_with fail
        refine bodyPost_ret (v := .agg #[.int .i64 1, .int .i64 0, .int .i64 J.k, .int .i64 J.a, .string J.r, .string J.l, .slice A6 J.args.length ca, .slice B6 J.input.length cb, .slice C6 J.keep.length cc]) (by simp [results, Tryz.results113, go_sem, fz]) rfl ⟨⟨_, rfl, ?_⟩, ?_⟩
        · rw [HGE.out]
          exact ⟨A6, ca, B6, cb, C6, cc, rfl, (by refine RowR.more (lo := w5.heap.size) (hi := w6.heap.size) ?_ (by omega) (by simp [World.setCell]; omega); (iterate 9 (with_reducible refine RowR.set_lo ?_ (by show w.heap.size < w5.heap.size; omega))); exact HRA7.out), (by refine RowR.more (lo := w5.heap.size) (hi := w6.heap.size) ?_ (by omega) (by simp [World.setCell]; omega); (iterate 9 (with_reducible refine RowR.set_lo ?_ (by show w.heap.size < w5.heap.size; omega))); exact HRB7.out), (by refine RowR.more (lo := w5.heap.size) (hi := w6.heap.size) ?_ (by omega) (by simp [World.setCell]; omega); (iterate 9 (with_reducible refine RowR.set_lo ?_ (by show w.heap.size < w5.heap.size; omega))); exact HRC7.out)⟩
        · repeat (with_reducible refine Below.setCell ?_ (by first | exact Nat.le_refl _ | (show _ ≤ _; omega)) _)
          exact HB7.out
      · obtain rfl : KK = 7 := by omega
        clear hKK
        have HGE0 := Lib.hid (show G = (1, 0, ⟨7, 0, eB, eB, [], [], ((xs.drop 2).filter okS).map valS⟩) from HGK2.out)
        clear HGK2 hwk hk7 hk0 HJO
        have i2 : ¬ (2 : Int) < (xs.length : Int) := by omega
        have HGE := Lib.hid (show G = (1, 0, ⟨7, 0, eB, eB, [], [], []⟩) by rw [HGE0.out, List.drop_of_length_le (by omega)]; rfl)
        go_upto_region 8 with fail
        generalize w3.alloc (.cells #[.int .i64 7, .int .i64 0, .string ⟨#[]⟩, .string ⟨#[]⟩, .slice none 0 0, .slice none 0 0, .slice none 0 0] 30) = w5 at *
        generalize w3.heap.size = NB at *
        have f5 := HBK5.out.cell
        have z5 := HBK5.out.frozen
        have fz := HZ5.out.cell
        have zz := HZ5.out.frozen
        go_wp2_with fail
        refine bodyPost_ret (v := .agg #[.int .i64 1, .int .i64 0, .int .i64 7, .int .i64 0, .string ⟨#[]⟩, .string ⟨#[]⟩, .slice none 0 0, .slice none 0 0, .slice none 0 0]) (by simp [results, Tryz.results113, go_sem, fz]) rfl ⟨⟨_, rfl, ?_⟩, ?_⟩
        · rw [HGE.out]
          exact ⟨none, 0, none, 0, none, 0, rfl, row_nil _ _ _, row_nil _ _ _, row_nilI _ _ _⟩
        · repeat (with_reducible refine Below.setCell ?_ (by first | exact Nat.le_refl _ | (show _ ≤ _; omega)) _)
          exact HB5.out
      · subst hKK
        have HGE := Lib.hid (show G = (1, 0, ⟨(k : Int) + 1, 0, eB, eB, [], [], []⟩) by rw [HGK2.out, if_neg k0, if_neg k6])
        have q1 : (((k : Int) + 1) == 1) = false := by rw [beq_eq_false_iff_ne]; omega
        have q7 : (((k : Int) + 1) == 7) = false := by rw [beq_eq_false_iff_ne]; omega
        clear HGK2 HJO HNS k0 k6
        go_upto_region 8 with fail
        generalize w3.alloc (.cells #[.int .i64 ((k : Int) + 1), .int .i64 0, .string ⟨#[]⟩, .string ⟨#[]⟩, .slice none 0 0, .slice none 0 0, .slice none 0 0] 30) = w5 at *
        generalize w3.heap.size = NB at *
        have f5 := HBK5.out.cell
        have z5 := HBK5.out.frozen
        have fz := HZ5.out.cell
        have zz := HZ5.out.frozen
        go_wp2_with fail
        refine bodyPost_ret (v := .agg #[.int .i64 1, .int .i64 0, .int .i64 ((k : Int) + 1), .int .i64 0, .string ⟨#[]⟩, .string ⟨#[]⟩, .slice none 0 0, .slice none 0 0, .slice none 0 0]) (by simp [results, Tryz.results113, go_sem, fz]) rfl ⟨⟨_, rfl, ?_⟩, ?_⟩
        · rw [HGE.out]
          exact ⟨none, 0, none, 0, none, 0, rfl, row_nil _ _ _, row_nil _ _ _, row_nilI _ _ _⟩
        · repeat (with_reducible refine Below.setCell ?_ (by first | exact Nat.le_refl _ | (show _ ≤ _; omega)) _)
          exact HB5.out
end Go.Proofs.YtcjaaknnfohllaaGreatDoor

/- The program's reading of an operation walked: where a text lies in a list; rows of the call's own. -/
namespace Go.Proofs.YtcjaaknnfohllaaGreatDoor
open Go.RowKit

/-- Where the first equal text lies; what lies ahead and behind. -/
theorem placeIn_cases (x : ByteArray) : ∀ (l : List ByteArray) (k : Nat), (placeIn x l k = none ∧ l.takeWhile (fun y => decide (y ≠ x)) = l ∧ l.dropWhile (fun y => decide (y ≠ x)) = []) ∨ ∃ m, placeIn x l k = some (k + m) ∧ m < l.length ∧ l.takeWhile (fun y => decide (y ≠ x)) = l.take m ∧ l.dropWhile (fun y => decide (y ≠ x)) = l.drop m
  | [], k => .inl ⟨rfl, rfl, rfl⟩
  | y :: l, k => by
    by_cases h : y = x
    · refine .inr ⟨0, by rw [placeIn, if_pos h]; rfl, by simp, ?_, ?_⟩
      · rw [List.takeWhile_cons, if_neg (by simpa using h)]; rfl
      · rw [List.dropWhile_cons, if_neg (by simpa using h)]; rfl
    · have hd : (decide (y ≠ x)) = true := by simpa using h
      rcases placeIn_cases x l (k + 1) with ⟨h1, h2, h3⟩ | ⟨m, h1, h2, h3, h4⟩
      · refine .inl ⟨by rw [placeIn, if_neg h]; exact h1, ?_, ?_⟩
        · rw [List.takeWhile_cons, if_pos hd, h2]
        · rw [List.dropWhile_cons, if_pos hd, h3]
      · refine .inr ⟨m + 1, by rw [placeIn, if_neg h, h1]; congr 1; omega, by rw [List.length_cons]; omega, ?_, ?_⟩
        · rw [List.takeWhile_cons, if_pos hd, h3]; rfl
        · rw [List.dropWhile_cons, if_pos hd, h4]; rfl
theorem idx_place (x : ByteArray) : ∀ (l : List ByteArray) (k : Nat), Lib.idxByFrom (fun x y : ByteArray => x.toList == y.toList) x l k = placeZ (placeIn x l k)
  | [], _ => rfl
  | y :: l, k => by
    rw [Lib.idxByFrom, placeIn, beq_dec]
    by_cases h : y = x
    · rw [if_pos h, if_pos (by simpa using h.symm)]; rfl
    · rw [if_neg h, if_neg (by simpa using fun e => h e.symm), idx_place x l (k + 1)]
theorem index_any (A : Option Addr) (n c lo hi : Nat) (xs : List ByteArray) (x : ByteArray) (w : World) (h : StrR w lo hi A n xs) (hn : n ≤ 1048576) :
    Calls Tryz.prog 174 #[.slice A n c, .string x] w fun e w' => e = .returned (.int .i64 (placeZ (placeIn x xs 0))) ∧ w = w' := by
  have hl := h.1
  subst hl
  by_cases h0 : 0 < xs.length
  · obtain ⟨b, off, rfl, _, _, hc⟩ := h.2 h0
    refine (Tryz.slices_Index (α := ByteArray) Value.string _ (EqlAt.string _ _) b off xs.length c xs x w (Nat.le_refl _) (by omega) (fun j hj => ?_)).mono ?_
    · rw [hc j hj]
      congr 2
      rw [List.getD_eq_getElem?_getD, List.getElem?_eq_getElem hj]
      simp [hj]
    · rintro e w' ⟨rfl, rfl⟩
      exact ⟨by rw [List.take_length, Lib.idxBy, idx_place], rfl⟩
  · have : xs = [] := List.eq_nil_of_length_eq_zero (by omega)
    subst this
    refine (Tryz.slices_Index_empty (α := ByteArray) A c (.string x) w).mono ?_
    rintro e w' ⟨rfl, rfl⟩
    exact ⟨rfl, rfl⟩

/-- A row of the call's own below a line. -/
def OwnIn {α : Type} (enc : α → Value) (w : World) (lo hi : Nat) (t : TypeId) (v : Value) (xs : List α) : Prop := OwnR enc w lo t v xs ∧ ∀ g, v.ownBlock = some g → g < hi
theorem OwnIn.below {α : Type} {enc : α → Value} {w w' : World} {lo hi : Nat} {t : TypeId} {v : Value} {xs : List α} (h : OwnIn enc w lo hi t v xs) (hb : Below w.heap.size w w') : OwnIn enc w' lo hi t v xs := ⟨h.1.below hb, h.2⟩
theorem OwnIn.set_lo {α : Type} {enc : α → Value} {w : World} {lo hi g o : Nat} {u : Value} {t : TypeId} {v : Value} {xs : List α} (h : OwnIn enc w lo hi t v xs) (hg : g < lo) : OwnIn enc (w.setCell ⟨g, o, none⟩ u) lo hi t v xs := ⟨OwnR.set_lo h.1 hg, h.2⟩
theorem OwnIn.nil_ {α : Type} (enc : α → Value) (w : World) (lo hi : Nat) (t : TypeId) : OwnIn enc w lo hi t (.slice none 0 0) [] := ⟨OwnR.nil_ _ _ _, fun g h => (by cases h)⟩
theorem OwnIn.of_own {α : Type} {enc : α → Value} {w : World} {lo : Nat} {t : TypeId} {v : Value} {xs : List α} (h : OwnR enc w lo t v xs) : OwnIn enc w lo w.heap.size t v xs := ⟨h, fun g hg => (h.2.lt g hg).2⟩
/-- An operation whose rows are of the call's own and lie apart. -/
def ActO (w : World) (lo : Nat) (v : Value) (x : Act) : Prop :=
  ∃ (A : Option Addr) (ca : Nat) (B : Option Addr) (cb : Nat) (C : Option Addr) (cc m1 m2 : Nat), v = .agg #[.int .i64 x.k, .int .i64 x.a, .string x.r, .string x.l, .slice A x.args.length ca, .slice B x.input.length cb, .slice C x.keep.length cc] ∧ lo ≤ m1 ∧ m1 ≤ m2 ∧ m2 ≤ w.heap.size ∧
    OwnIn Value.string w lo m1 9 (.slice A x.args.length ca) x.args ∧ OwnIn Value.string w m1 m2 9 (.slice B x.input.length cb) x.input ∧ OwnIn (Value.int .i64) w m2 w.heap.size 2 (.slice C x.keep.length cc) x.keep
end Go.Proofs.YtcjaaknnfohllaaGreatDoor
