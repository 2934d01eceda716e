/- FnFiles returns true, whatever the bytes: the walk of the law. -/
import Derived.Test.YtmeholhmadeehaaGreatDoorJoinFLAv
import Derived.Test.YtmeholhmadeehaaGreatDoorJoinFLAw
import Derived.Test.YtmeholhmadeehaaGreatDoorJoinFLAx
import Derived.Test.YtmeholhmadeehaaGreatDoorRows
import Derived.WalkKit
import Derived.ProofKit
import Derived.OpenShut
import Derived.ShutString
import Derived.Deep.Slices
import Derived.Deep.Fields
import Derived.ChangeSame
import Derived.SizedLaws
import Derived.Test.YtmeholhmadeehaaGreatDoorJoinFLAa
import Derived.SliceStrings
namespace Go.Proofs.YtmeholhmadeehaaGreatDoor
open Go.RowKit

section
variable {P : Program} {l : List Oper} {Q : Exit → Go.Act → World → Prop} {md : Region.Mode} {S : World → Prop} {z : Nat → Bool}
/-- Two operations may come up: behind each S is to be shown. -/
theorem AnyT.two {i j : Nat} {oi oj : Oper} {n : Nat} {listed : Array Bool} {a : Go.Act} {w : World} (hr : Region.ready md l.toArray listed = [i, j]) (hi : l[i]? = some oi) (hj : l[j]? = some oj)
    (h1 : ∀ K' : Go.Act → World → Prop, Shut (∀ a w, S w → (S w → AnyT P md l.toArray Q S z n (listed.setIfInBounds i true) a w) → K' a w) → if Region.wanted oi (yielded l.toArray a.tmps) = true then Oper.wp P oi a w K' Q else K' (a.put oi.dst undef) w)
    (h2 : ∀ K' : Go.Act → World → Prop, Shut (∀ a w, S w → (S w → AnyT P md l.toArray Q S z n (listed.setIfInBounds j true) a w) → K' a w) → if Region.wanted oj (yielded l.toArray a.tmps) = true then Oper.wp P oj a w K' Q else K' (a.put oj.dst undef) w) :
    AnyT P md l.toArray Q S z (n + 1) listed a w := by
  refine ⟨fun h0 => (by rw [hr] at h0; cases h0), fun k hk => ?_⟩
  rw [hr] at hk
  rcases List.mem_cons.1 hk with rfl | hk
  · exact wpOp_step (by simpa using hi) (fun K' hK => h1 K' (fun a w hS hW => hK a w ⟨fun _ => hS, hW hS⟩))
  · obtain rfl : k = j := by simpa using hk
    exact wpOp_step (by simpa using hj) (fun K' hK => h2 K' (fun a w hS hW => hK a w ⟨fun _ => hS, hW hS⟩))
end

theorem loc_bytesR (lo hi : Nat) (A : Option Addr) (n : Nat) : Loc lo hi (fun w => BytesR w lo hi A n) := fun _ _ hk h => h.keep hk
theorem typed_lit (W : World) : StrR (W.alloc (.cells #[.string ⟨#[116, 121, 112, 101, 100]⟩] 9)) W.heap.size (W.heap.size + 1) (some ⟨W.heap.size, 0, none⟩) typedK.length typedK :=
  ⟨rfl, fun _ => ⟨W.heap.size, 0, rfl, Nat.le_refl _, by omega, fun j hj => by
    rw [(Blk.new W 9 _).cell]
    have hj' : j < 1 := hj
    match j, hj' with
    | 0, _ => rfl⟩⟩
theorem DevR.form {w : World} {lo hi : Nat} {v : Value} {d : Dev} (h : DevR w lo hi v d) : ∃ A c F f K k, v = .agg (devCs d A c F f K k) := by
  obtain ⟨A, c, F, f, K, k, e, _⟩ := h; exact ⟨A, c, F, f, K, k, e⟩

theorem new_typed_any (W : World) (c lo hi : Nat) (A : Option Addr) (ha : StrR W lo hi A typedK.length typedK) (hhi : hi ≤ W.heap.size) :
    Calls Tryz.prog 13 #[.slice A 1 c] W fun e w' => ∃ v, e = .returned (.tuple #[v, .int .i64 0]) ∧ DevR w' W.heap.size w'.heap.size v ⟨0, blankScr, [], typedK⟩ ∧ Below W.heap.size W w' := by
  have h := implNewDevices_any A c lo hi typedK W ha hhi (by decide) (by intro x hx; simp [typedK] at hx; rw [hx]; decide)
  rw [new_typed] at h
  exact h.mono fun e w' ⟨v, h1, h2, h3⟩ => ⟨v, h1, h2.devX.reads, h3⟩
theorem iUse {d d' : Dev} {nm : ByteArray} {code : Int} (hq : useP d nm = (d', code)) (v : Value) (lo hi : Nat) (w : World) (hx : DevR w lo hi v d) (hhi : hi ≤ w.heap.size) (hs : DevSmall d) (hl : nm.size ≤ 1048576) :
    Calls Tryz.prog 15 #[v, .string nm] w fun e w' => ∃ v', e = .returned (.tuple #[v', .int .i64 code]) ∧ DevR w' w.heap.size w'.heap.size v' d' ∧ Below w.heap.size w w' := by
  have h := implUseDevice_any d nm v lo hi w hx hhi hs hl
  rw [hq] at h
  exact h.mono fun e w' ⟨v', h1, h2, h3⟩ => ⟨v', h1, h2.reads, h3⟩
theorem iWrite {d d' : Dev} {t : ByteArray} {code : Int} (hq : writeP d t = (d', code)) (v : Value) (lo hi : Nat) (w : World) (hx : DevR w lo hi v d) (hhi : hi ≤ w.heap.size) (hs : DevSmall d) (hl : t.size ≤ 1048576) :
    Calls Tryz.prog 16 #[v, .string t] w fun e w' => ∃ v', e = .returned (.tuple #[v', .int .i64 code]) ∧ DevR w' w.heap.size w'.heap.size v' d' ∧ Below w.heap.size w w' := by
  have h := implWriteTo_any d t v lo hi w hx hhi hs hl
  rw [hq] at h
  exact h.mono fun e w' ⟨v', h1, h2, h3⟩ => ⟨v', h1, h2.reads, h3⟩
theorem iRead {d d' : Dev} {m : Int} {t : ByteArray} {code : Int} (hq : readP d m = ⟨d', t, code⟩) (v : Value) (lo hi : Nat) (w : World) (hT : TabsIn w) (hx : DevR w lo hi v d) (hhi : hi ≤ w.heap.size) (hs : DevSmall d) :
    Calls Tryz.prog 8 #[v, .int .i64 m] w fun e w' => ∃ v', e = .returned (.tuple #[v', .string t, .int .i64 code]) ∧ DevR w' w.heap.size w'.heap.size v' d' ∧ Below w.heap.size w w' := by
  have h := implReadFrom_any d m v lo hi w hT hx hhi hs
  rw [hq] at h
  exact h.mono fun e w' ⟨v', h1, h2, h3⟩ => ⟨v', h1, h2.reads, h3⟩
theorem iClose {d d' : Dev} {nm : ByteArray} {code : Int} (hq : closeP d nm = (d', code)) (v : Value) (lo hi : Nat) (w : World) (hx : DevR w lo hi v d) (hhi : hi ≤ w.heap.size) (hs : DevSmall d) :
    Calls Tryz.prog 17 #[v, .string nm] w fun e w' => ∃ v', e = .returned (.tuple #[v', .int .i64 code]) ∧ DevR w' w.heap.size w'.heap.size v' d' ∧ Below w.heap.size w w' := by
  have h := implCloseFile_any d nm v lo hi w hx hhi hs
  rw [hq] at h
  exact h.mono fun e w' ⟨v', h1, h2, h3⟩ => ⟨v', h1, h2.reads, h3⟩
theorem line_at {W : World} {lo hi g n k : Nat} {ls : List ByteArray} (h : StrR W lo hi (some ⟨g, 0, none⟩) n ls) (hk : k < n) : W.cell? ⟨g, k, none⟩ = some (.string (ls.getD k ByteArray.empty)) := by
  obtain ⟨b, off, ex, hb1, hb2, hcell⟩ := RowR.at_ h hk
  injection ex with ex; injection ex with e1 e2
  subst e1 e2
  rwa [Nat.zero_add] at hcell
/-- A block of six cells stored anew. -/
theorem Blk.six {w : World} {b : Nat} {t : TypeId} {x0 x1 x2 x3 x4 x5 : Value} (h : Blk w b t #[x0, x1, x2, x3, x4, x5]) (u0 u1 u2 u3 u4 u5 : Value) :
    Blk ((((((w.setCell ⟨b, 0, none⟩ u0).setCell ⟨b, 1, none⟩ u1).setCell ⟨b, 2, none⟩ u2).setCell ⟨b, 3, none⟩ u3).setCell ⟨b, 4, none⟩ u4).setCell ⟨b, 5, none⟩ u5) b t #[u0, u1, u2, u3, u4, u5] := by
  have := (((((h.set_ 0 u0).set_ 1 u1).set_ 2 u2).set_ 3 u3).set_ 4 u4).set_ 5 u5
  simpa only [List.setIfInBounds_toArray, List.set_cons_zero, List.set_cons_succ] using this
theorem Grows.over_alloc {w : World} {base : Nat} {t : TypeId} {v0 v : Value} {xs : List ByteArray} (h : Grows Value.string w base t v0 v xs) (o : Obj) : Grows Value.string (w.alloc o) base t v0 v xs := h.imp (fun h => h.alloc o) id
theorem Grows.over_below {w w' : World} {base : Nat} {t : TypeId} {v0 v : Value} {xs : List ByteArray} (h : Grows Value.string w base t v0 v xs) (hb : Below w.heap.size w w') : Grows Value.string w' base t v0 v xs := h.imp (fun h => h.below hb) id
theorem Grows.whole {w : World} {base : Nat} {t : TypeId} {v0 v : Value} {xs : List ByteArray} (h : Grows Value.string w base t v0 v xs) (hn : xs.length = 6) : OwnR Value.string w base t v xs := by
  rcases h with h | ⟨h0, _⟩
  · exact h
  · rw [h0] at hn; cases hn
theorem four_lit (W : World) : RowR Value.string ByteArray.empty (W.alloc (.cells #[.string ⟨#[]⟩, .string ⟨#[111, 110, 101]⟩, .string ⟨#[116, 119, 111, 32, 119, 111, 114, 100, 115]⟩, .string ⟨#[51]⟩] 9)) W.heap.size (W.heap.size + 1) (some ⟨W.heap.size, 0, none⟩) 4 fourLines :=
  ⟨rfl, fun _ => ⟨W.heap.size, 0, rfl, Nat.le_refl _, by omega, fun j hj => by
    rw [(Blk.new W 9 _).cell]
    match j, hj with
    | 0, _ => rfl
    | 1, _ => rfl
    | 2, _ => rfl
    | 3, _ => rfl⟩⟩

set_option maxHeartbeats 16000000 in
set_option maxRecDepth 100000 in
theorem law_FnFiles (A B : Option Addr) (n c m d : Nat) (w : World) (hA : BytesR w 0 w.heap.size A n) (hB : BytesR w 0 w.heap.size B m) (hTB : Hid (TabsIn w)) :
    Calls Tryz.prog 4 #[.slice A n c, .slice B m d] w fun e w' => e = .returned (.bool true) ∧ Below w.heap.size w w' := by
  have R0 := ((Stand.nil w).add 0 w.heap.size _ (loc_bytesR 0 w.heap.size A n) (Nat.le_refl _) hA).add 0 w.heap.size _ (loc_bytesR 0 w.heap.size B m) (Nat.le_refl _) hB
  have HR0 := Lib.hid R0
  have HND := Lib.hid (new_typed_any)
  have HLOW := Lib.hid (show DevSmall ⟨0, blankScr, [], typedK⟩ from (useP_low ⟨0, blankScr, [], typedK⟩ ⟨#[]⟩).small)
  have HLG := Lib.hid use_log
  generalize (⟨0, blankScr, [], typedK⟩ : Dev) = D0 at *
  clear R0 hA hB
  go_enter Tryz.func4, Tryz.ntmps4
  go_wp2_with fail
  refine (b10Long_any A B n c m d w).mono ?_
  rintro e1 w1 ⟨rfl, hb1⟩
  have HR1 := Lib.hid (HR0.out.below hb1)
  clear HR0
  by_cases hl : 1048576 < n ∨ 1048576 < m
  · have hl' : (decide (1048576 < n) || decide (1048576 < m)) = true := by simpa using hl
    rw [hl']
    have HB := Lib.hid HR1.out.1
    clear hb1 hl hl' HR1
    go_wp2_with fail
    go_ret
    exact ⟨rfl, HB.out⟩
  have hl' : (decide (1048576 < n) || decide (1048576 < m)) = false := by simpa using hl
  rw [hl']
  have HN := Lib.hid (show n ≤ 1048576 ∧ m ≤ 1048576 by omega)
  have s1 := hb1.size
  clear hl hl' hb1
  have HLT := Lib.hid (typed_lit w1)
  have HR2 := Lib.hid (HR1.out.alloc (.cells #[.string ⟨#[116, 121, 112, 101, 100]⟩] 9))
  have s2 : w1.heap.size + 1 ≤ (w1.alloc (.cells #[.string ⟨#[116, 121, 112, 101, 100]⟩] 9)).heap.size := by simp
  clear HR1
  go_wp2_with fail
  generalize w1.alloc (.cells #[.string ⟨#[116, 121, 112, 101, 100]⟩] 9) = w2 at *
  refine (HND.out w2 1 _ _ _ HLT.out (by omega)).mono ?_
  rintro e3 w3 ⟨v3, rfl, hx3, hb3⟩
  obtain ⟨A3, c3, F3, f3, K3, k3, rfl⟩ := hx3.form
  have s3 := hb3.size
  have R4 := ((HR2.out.below hb3).add w2.heap.size w3.heap.size _ (loc_devR _ _ _ D0) (Nat.le_refl _) hx3).box 32 (devCs D0 A3 c3 F3 f3 K3 k3)
  have s4 : w3.heap.size + 1 ≤ (w3.alloc (.cells (devCs D0 A3 c3 F3 f3 K3 k3) 32)).heap.size := by simp
  have HR4 := Lib.hid R4; clear R4 HR2 hb3 hx3 HLT HND
  go_upto_region 4 with fail
  change Code.wp _ _ _ _ (w3.alloc (.cells (devCs D0 A3 c3 F3 f3 K3 k3) 32))
  generalize w3.alloc (.cells (devCs D0 A3 c3 F3 f3 K3 k3) 32) = w4 at *
  generalize w3.heap.size = DB at *
  have HO0 := Lib.hid (OwnR.none_ (enc := Value.string) w4 w4.heap.size 9 (Nat.le_refl _))
  have HB0 := Lib.hid ((Below.refl w4.heap.size w4).alloc (Nat.le_refl _) (.cells #[] 9))
  go_wp2_with fail
  go_loopw [7, 8] (fun vs i wr => ∃ (k : Nat) (ls : List ByteArray), k ≤ 6 ∧ i = .int .i64 k ∧ ls.length = k ∧ (∀ y ∈ ls, y ∈ fourLines) ∧ Grows Value.string wr w4.heap.size 9 (.slice (some ⟨w4.heap.size, 0, none⟩) 0 0) vs ls ∧ Below w4.heap.size w4 wr) (fun _ i _ => 6 - (intOf i).toNat)
  case atStart => exact ⟨0, [], by omega, rfl, rfl, (fun y hy => by cases hy), Grows.start _ _ _ _, HB0.out⟩
  case round =>
    obtain ⟨k, ls, hk, rfl, hlen, hls, hg, hbr⟩ := hrel
    have HLS := Lib.hid hls; have HLN := Lib.hid hlen
    clear hls hlen
    by_cases hlt : k < 6
    · have i1 : (k : Int) < 6 := by omega
      have hsz := hbr.size
      have HF5 := Lib.hid (four_lit wr)
      have HB5 := Lib.hid (hbr.alloc hsz (.cells #[.string ⟨#[]⟩, .string ⟨#[111, 110, 101]⟩, .string ⟨#[116, 119, 111, 32, 119, 111, 114, 100, 115]⟩, .string ⟨#[51]⟩] 9))
      have hg5 := Grows.over_alloc hg (.cells #[.string ⟨#[]⟩, .string ⟨#[111, 110, 101]⟩, .string ⟨#[116, 119, 111, 32, 119, 111, 114, 100, 115]⟩, .string ⟨#[51]⟩] 9)
      have HG5 := Lib.hid hg5
      have hz5 : wr.heap.size + 1 ≤ (wr.alloc (.cells #[.string ⟨#[]⟩, .string ⟨#[111, 110, 101]⟩, .string ⟨#[116, 119, 111, 32, 119, 111, 114, 100, 115]⟩, .string ⟨#[51]⟩] 9)).heap.size := by simp
      clear hg hg5 hbr
      go_wp2_with fail
      generalize wr.alloc (.cells #[.string ⟨#[]⟩, .string ⟨#[111, 110, 101]⟩, .string ⟨#[116, 119, 111, 32, 119, 111, 114, 100, 115]⟩, .string ⟨#[51]⟩] 9) = w5 at *
      generalize wr.heap.size = X at *
      refine (b10At_any 0 w.heap.size A n c k 4 w5 ((HR4.out.below HB5.out).get 3 rfl) (by omega) (by omega)).mono ?_
      rintro e6 w6 ⟨r, rfl, hr0, hr4, hb6⟩
      have hr4' := hr4 (by omega)
      obtain ⟨rr, rfl⟩ := Int.eq_ofNat_of_zero_le hr0
      have hrr : rr < 4 := by omega
      have hl6 := HF5.out.keep (w' := w6) (fun b h1 h2 => hb6.block b (by omega))
      obtain ⟨b, off, ex, hb1, hb2, hcell⟩ := hl6.at_ (k := rr) hrr
      injection ex with ex; injection ex with e1 e2
      subst e1 e2
      rw [Nat.zero_add] at hcell
      have HX := Lib.hid (show fourLines.getD rr ByteArray.empty ∈ fourLines from getD_mem (by show rr < 4; omega))
      generalize fourLines.getD rr ByteArray.empty = Y at *
      have hg6 := Grows.over_below HG5.out hb6
      have hs6 : w4.heap.size ≤ w6.heap.size := by have := hb6.size; omega
      have HB6 := Lib.hid (HB5.out.trans (hb6.mono (by omega)))
      have hll : ls.length ≤ 1000000000 := by have := HLN.out; omega
      clear hl6 hb6 HG5 HF5 hr4 HB5
      go_wp2_with (at_builtin; refine wpList_app1G (enc := Value.string) rfl (.tmp 47) (.tmp 54) 22 9 rfl Tryz.underlying22 rfl (by omega) (fun _ => rfl) infoString w6 w4.heap.size _ _ ls Y rfl hg6 rfl hll hs6 ?_; intro v7 w7 hg7 hb7)
      go_roundw
      case rel => exact ⟨k + 1, ls ++ [Y], by omega, by go_num, by simp [HLN.out], fun y hy => by
        rcases List.mem_append.1 hy with hy | hy
        · exact HLS.out y hy
        · obtain rfl : y = Y := by simpa using hy
          exact HX.out, hg7, HB6.out.trans hb7⟩
      case measure => simp [intOf]; omega
    · obtain rfl : k = 6 := by omega
      have hsz := hbr.size
      have hown := hg.whole HLN.out
      obtain ⟨⟨L, lc, e⟩, ho⟩ := hown
      subst e
      obtain ⟨lg, lcap, e, hlg1, hlg2⟩ := ho.form (by have := HLN.out; omega)
      injection e with e1 e2 e3
      subst e1 e3
      have HRW := Lib.hid (show StrR wr w4.heap.size wr.heap.size (some ⟨lg, 0, none⟩) 6 ls from by
        have := OwnR.reads (enc := Value.string) (d := ByteArray.empty) (A := some ⟨lg, 0, none⟩) (c := lc) (n := ls.length) ⟨⟨_, _, rfl⟩, ho⟩
        rwa [HLN.out] at this)
      obtain ⟨D, E, bk, hplan, hD0⟩ := plan_of HLN.out HLS.out
      have HPL := Lib.hid hplan
      rw [← hD0] at HLG
      have hl6 := HLN.out
      rw [hl6]
      have R5 := ((HR4.out.below hbr).add w4.heap.size wr.heap.size _ (loc_strR0 _ _ _ _ ls) (Nat.le_refl _) HRW.out).only [0, 1, 2, 3]
      have HR5 := Lib.hid R5
      clear R5 hg ho HRW HR4 hbr hplan hD0 HLS HLN hl6
      have f5 := (HR5.out.get 1 rfl).cell
      go_wp2_with fail
      refine (iUse HLG.out _ w2.heap.size DB wr (HR5.out.get 2 rfl) (HR5.out.le 2 rfl) HLOW.out (by decide)).mono ?_
      rintro e6 w6 ⟨v6, rfl, hx6, hb6⟩
      obtain ⟨A6, c6, F6, f6, K6, k6, rfl⟩ := hx6.form
      have s6 := hb6.size
      have R7 := (((HR5.out.below hb6).add wr.heap.size w6.heap.size _ (loc_devR _ _ _ (D 0)) (Nat.le_refl _) hx6).only [0, 1, 4]).box 32 (devCs (D 0) A6 c6 F6 f6 K6 k6)
      have s7 : w6.heap.size + 1 ≤ (w6.alloc (.cells (devCs (D 0) A6 c6 F6 f6 K6 k6) 32)).heap.size := by simp
      have HR7 := Lib.hid R7
      clear R7 HR5 hb6 hx6 f5
      go_upto_region 10 with fail
      change Code.wp _ _ _ _ (w6.alloc (.cells (devCs (D 0) A6 c6 F6 f6 K6 k6) 32))
      generalize w6.alloc (.cells (devCs (D 0) A6 c6 F6 f6 K6 k6) 32) = w7 at *
      generalize w6.heap.size = U at *
      generalize wr.heap.size = L1 at *
      go_wp2_with fail
      go_loopw [11] (fun i wr => ∃ (k : Nat) (A8 : Option Addr) (c8 : Nat) (F8 : Option Addr) (f8 : Nat) (K8 : Option Addr) (k8 dl dh : Nat), k ≤ 6 ∧ i = .int .i64 k ∧ Stand w [(U, U + 1, fun W => Blk W U 32 (devCs (D k) A8 c8 F8 f8 K8 k8)), (dl, dh, fun W => DevR W dl dh (.agg (devCs (D k) A8 c8 F8 f8 K8 k8)) (D k)), (w4.heap.size, L1, fun W => StrR W w4.heap.size L1 (some ⟨lg, 0, none⟩) 6 ls), (0, w.heap.size, fun W => BytesR W 0 w.heap.size B m)] wr ∧ (dh ≤ U ∨ U < dl)) (fun i _ => 6 - (intOf i).toNat)
      case atStart => exact ⟨0, A6, c6, F6, f6, K6, k6, L1, U, by omega, rfl, HR7.out, .inl (Nat.le_refl _)⟩
      case round =>
        clear HR7 s7
        obtain ⟨k, A8, c8, F8, f8, K8, k8, dl, dh, hk, rfl, hst, hgeo⟩ := hrel
        have HS := Lib.hid hst; clear hst
        by_cases hlt : k < 6
        · obtain ⟨x, hw1, hw2, hxs⟩ := HPL.out.one k hlt
          have htx := HPL.out.texts k hlt
          have HC := Lib.hid (fun W (h : StrR W w4.heap.size L1 (some ⟨lg, 0, none⟩) 6 ls) => line_at h hlt)
          generalize ls.getD k ByteArray.empty = T at *
          have HW1 := Lib.hid hw1; have HW2 := Lib.hid hw2; have HXS := Lib.hid hxs
          clear hw1 hw2 hxs
          have i1 : (k : Int) < 6 := by omega
          have HS8 := Lib.hid HS.out.drew
          have s8 := HS.out.le 0 rfl
          have s8d := HS.out.le 1 rfl
          go_upto_region 15 with fail
          refine AnyT.region (fun _ => false) (fun W => (∀ i, W.cell? ⟨U, i, none⟩ = (devCs (D k) A8 c8 F8 f8 K8 k8)[i]?) ∧ W.cell? ⟨lg, k, none⟩ = some (.string T)) (by kernel_rfl) ⟨(HS8.out.get 0 rfl).cell, HC.out _ (HS8.out.get 2 rfl)⟩ (fun hHeld => ?_)
          have s9 : wr.heap.size ≤ wr.drew.heap.size := Nat.le_refl _
          clear HS
          generalize wr.drew = w8 at *
          ((refine AnyT.take 0 70 ?_ rfl (by kernel_rfl) (by kernel_rfl) (by kernel_rfl) (by kernel_rfl) rfl (by kernel_rfl) rfl (fun _ _ _ _ h => h) rfl ?_ (by assumption) ?_); rotate_left; (intro w hSw; (try dsimp only at hSw); go_simp; (try (with_reducible rfl))); simp only [Act.put, List.setIfInBounds_toArray, List.set_cons_zero, List.set_cons_succ])
          ((refine AnyT.takeAny 1 71 ?_ rfl (by kernel_rfl) (by kernel_rfl) (by kernel_rfl) rfl rfl (fun _ _ _ _ h => h) rfl ?_ (by assumption) ?_); rotate_left; (intro w; go_simp; (try (with_reducible rfl))); simp only [Act.put, List.setIfInBounds_toArray, List.set_cons_zero, List.set_cons_succ])
          ((refine AnyT.takeAny 2 72 ?_ rfl (by kernel_rfl) (by kernel_rfl) (by kernel_rfl) rfl rfl (fun _ _ _ _ h => h) rfl ?_ (by assumption) ?_); rotate_left; (intro w; go_simp; (try (with_reducible rfl))); simp only [Act.put, List.setIfInBounds_toArray, List.set_cons_zero, List.set_cons_succ])
          ((refine AnyT.takeAny 3 73 ?_ rfl (by kernel_rfl) (by kernel_rfl) (by kernel_rfl) rfl rfl (fun _ _ _ _ h => h) rfl ?_ (by assumption) ?_); rotate_left; (intro w; go_simp; (try (with_reducible rfl))); simp only [Act.put, List.setIfInBounds_toArray, List.set_cons_zero, List.set_cons_succ])
          ((refine AnyT.take 4 74 ?_ rfl (by kernel_rfl) (by kernel_rfl) (by kernel_rfl) (by kernel_rfl) rfl (by kernel_rfl) rfl (fun _ _ _ _ h => h) rfl ?_ (by assumption) ?_); rotate_left; (intro w hSw; (try dsimp only at hSw); go_simp; (try (with_reducible rfl))); simp only [Act.put, List.setIfInBounds_toArray, List.set_cons_zero, List.set_cons_succ])
          refine AnyT.two (i := 5) (j := 9) (by kernel_rfl) rfl rfl (fun K hK => ?_) (fun K hK => ?_)
          · go_simp
            refine (iWrite HW1.out _ dl dh w8 (HS8.out.get 1 rfl) (HS8.out.le 1 rfl) (HPL.out.small k) (by omega)).mono ?_
            rintro e9 w9 ⟨v9, rfl, hx9, hb9⟩
            obtain ⟨A9, c9, F9, f9, K9, k9, rfl⟩ := hx9.form
            have s10 := hb9.size
            go_simp
            have HF9 := Lib.hid ((HS8.out.below hb9).add w8.heap.size w9.heap.size _ (loc_devR _ _ _ x) (Nat.le_refl _) hx9)
            refine hK.out _ _ ⟨(HF9.out.get 1 rfl).cell, HC.out _ (HF9.out.get 3 rfl)⟩ (fun hHeld => ?_)
            clear hK K HS8 hx9 hb9
            (try simp only [Act.put, List.setIfInBounds_toArray, List.set_cons_zero, List.set_cons_succ])
            ((refine AnyT.takeAny 6 69 ?_ rfl (by kernel_rfl) (by kernel_rfl) (by kernel_rfl) rfl rfl (fun _ _ _ _ h => h) rfl ?_ (by assumption) ?_); rotate_left; (intro w; go_simp; (try (with_reducible rfl))); simp only [Act.put, List.setIfInBounds_toArray, List.set_cons_zero, List.set_cons_succ])
            ((refine AnyT.takeAny 7 76 ?_ rfl (by kernel_rfl) (by kernel_rfl) (by kernel_rfl) rfl rfl (fun _ _ _ _ h => h) rfl ?_ (by assumption) ?_); rotate_left; (intro w; go_simp; (try (with_reducible rfl))); simp only [Act.put, List.setIfInBounds_toArray, List.set_cons_zero, List.set_cons_succ])
            ((refine AnyT.takeAny 8 77 ?_ rfl (by kernel_rfl) (by kernel_rfl) (by kernel_rfl) rfl rfl (fun _ _ _ _ h => h) rfl ?_ (by assumption) ?_); rotate_left; (intro w; go_simp; (try (with_reducible rfl))); simp only [Act.put, List.setIfInBounds_toArray, List.set_cons_zero, List.set_cons_succ])
            ((refine AnyT.one (i := 9) (by kernel_rfl) rfl (fun K hK => ?_)))
            go_simp
            have HF10 := Lib.hid (HF9.out.box 32 #[.int .i64 0, .int .i64 0, .int .i64 0, .slice none 0 0, .slice none 0 0, .slice none 0 0])
            have s11 : w9.heap.size + 1 ≤ (w9.alloc (.cells #[.int .i64 0, .int .i64 0, .int .i64 0, .slice none 0 0, .slice none 0 0, .slice none 0 0] 32)).heap.size := by simp
            refine hK.out _ _ ⟨(HF10.out.get 2 rfl).cell, HC.out _ (HF10.out.get 4 rfl)⟩ (fun hHeld => ?_)
            clear hK K HF9
            (try simp only [Act.put, List.setIfInBounds_toArray, List.set_cons_zero, List.set_cons_succ])
            generalize w9.alloc (.cells #[.int .i64 0, .int .i64 0, .int .i64 0, .slice none 0 0, .slice none 0 0, .slice none 0 0] 32) = w10 at *
            generalize w9.heap.size = V at *
            have gV := (HF10.out.get 0 rfl).cell; have zV := (HF10.out.get 0 rfl).frozen
            ((refine AnyT.one (i := 10) (by kernel_rfl) rfl (fun K hK => ?_)))
            go_simp
            have HF := Lib.hid (((HF10.out.only [1, 2, 4, 5]).set6 V (.int .i64 x.use) (.int .i64 x.scr.row) (.int .i64 x.scr.col) (.slice A9 x.scr.rows.length c9) (.slice F9 x.files.length f9) (.slice K9 x.keys.length k9) (by
                intro f hf
                simp only [List.filterMap_cons, List.filterMap_nil, List.getElem?_cons_zero, List.getElem?_cons_succ, List.mem_cons, List.not_mem_nil, or_false] at hf
                rcases hf with rfl | rfl | rfl | rfl
                all_goals (simp only; omega)) (by omega)).add V (V + 1) _ (loc_blk _ _ _) (by simp [World.setCell]; omega) (Blk.six (HF10.out.get 0 rfl) (.int .i64 x.use) (.int .i64 x.scr.row) (.int .i64 x.scr.col) (.slice A9 x.scr.rows.length c9) (.slice F9 x.files.length f9) (.slice K9 x.keys.length k9)))
            have s12 : V + 1 ≤ ((((((w10.setCell ⟨V, 0, none⟩ (.int .i64 x.use)).setCell ⟨V, 1, none⟩ (.int .i64 x.scr.row)).setCell ⟨V, 2, none⟩ (.int .i64 x.scr.col)).setCell ⟨V, 3, none⟩ (.slice A9 x.scr.rows.length c9)).setCell ⟨V, 4, none⟩ (.slice F9 x.files.length f9)).setCell ⟨V, 5, none⟩ (.slice K9 x.keys.length k9)).heap.size := by simp [World.setCell]; omega
            refine hK.out _ _ ⟨(HF.out.get 2 rfl).cell, HC.out _ (HF.out.get 3 rfl)⟩ (fun hHeld => ?_)
            clear hK K HF10 gV zV
            (try simp only [Act.put, List.setIfInBounds_toArray, List.set_cons_zero, List.set_cons_succ])
            generalize ((((((w10.setCell ⟨V, 0, none⟩ (.int .i64 x.use)).setCell ⟨V, 1, none⟩ (.int .i64 x.scr.row)).setCell ⟨V, 2, none⟩ (.int .i64 x.scr.col)).setCell ⟨V, 3, none⟩ (.slice A9 x.scr.rows.length c9)).setCell ⟨V, 4, none⟩ (.slice F9 x.files.length f9)).setCell ⟨V, 5, none⟩ (.slice K9 x.keys.length k9)) = w11 at *
            ((refine AnyT.takeAny 11 13 ?_ rfl (by kernel_rfl) (by kernel_rfl) (by kernel_rfl) rfl rfl (fun _ _ _ _ h => h) rfl ?_ (by assumption) ?_); rotate_left; (intro w; go_simp; (try (with_reducible rfl))); simp only [Act.put, List.setIfInBounds_toArray, List.set_cons_zero, List.set_cons_succ])
            refine AnyT.done (by kernel_rfl) ?_ _
            clear hHeld
            have fV := (HF.out.get 0 rfl).cell
            go_wp2_with fail
            refine (iWrite (t := ⟨#[10]⟩) HW2.out _ _ _ w11 (HF.out.get 1 rfl) (HF.out.le 1 rfl) HXS.out (by decide)).mono ?_
            rintro e12 w12 ⟨v12, rfl, hx12, hb12⟩
            obtain ⟨A12, c12, F12, f12, K12, k12, rfl⟩ := hx12.form
            have s12 := hb12.size
            have R13 := (((HF.out.below hb12).add w11.heap.size w12.heap.size _ (loc_devR _ _ _ (D (k + 1))) (Nat.le_refl _) hx12).only [0, 3, 4, 5]).box 32 (devCs (D (k + 1)) A12 c12 F12 f12 K12 k12)
            have s13 : w12.heap.size + 1 ≤ (w12.alloc (.cells (devCs (D (k + 1)) A12 c12 F12 f12 K12 k12) 32)).heap.size := by simp
            have HR13 := Lib.hid R13
            clear R13 HF hb12 hx12 fV
            go_upto_region 17 with fail
            change Code.wp _ _ _ _ (w12.alloc (.cells (devCs (D (k + 1)) A12 c12 F12 f12 K12 k12) 32))
            generalize w12.alloc (.cells (devCs (D (k + 1)) A12 c12 F12 f12 K12 k12) 32) = w13 at *
            generalize w12.heap.size = Y at *
            have fY := (HR13.out.get 0 rfl).cell; have fU := (HR13.out.get 2 rfl).cell; have zU := (HR13.out.get 2 rfl).frozen
            generalize hDN : D (k + 1) = DN at *
            have HDN := Lib.hid hDN; clear hDN
            go_wp2_with fail
            go_roundw
            case rel =>
              have HG := ((HR13.out.only [1, 3, 4]).set6 U (.int .i64 DN.use) (.int .i64 DN.scr.row) (.int .i64 DN.scr.col) (.slice A12 DN.scr.rows.length c12) (.slice F12 DN.files.length f12) (.slice K12 DN.keys.length k12) (by
                  intro f hf
                  simp only [List.filterMap_cons, List.filterMap_nil, List.getElem?_cons_zero, List.getElem?_cons_succ, List.mem_cons, List.not_mem_nil, or_false] at hf
                  rcases hf with rfl | rfl | rfl
                  all_goals (simp only; omega)) (by omega)).add U (U + 1) _ (loc_blk _ _ _) (by simp [World.setCell]; omega) (Blk.six (HR13.out.get 2 rfl) (.int .i64 DN.use) (.int .i64 DN.scr.row) (.int .i64 DN.scr.col) (.slice A12 DN.scr.rows.length c12) (.slice F12 DN.files.length f12) (.slice K12 DN.keys.length k12))
              exact ⟨k + 1, A12, c12, F12, f12, K12, k12, w11.heap.size, Y, by omega, by go_num, by rw [HDN.out]; exact HG, .inr (by omega)⟩
            case measure => simp [intOf]; omega
          · go_simp
            have HF9 := Lib.hid (HS8.out.box 32 #[.int .i64 0, .int .i64 0, .int .i64 0, .slice none 0 0, .slice none 0 0, .slice none 0 0])
            have s10 : w8.heap.size + 1 ≤ (w8.alloc (.cells #[.int .i64 0, .int .i64 0, .int .i64 0, .slice none 0 0, .slice none 0 0, .slice none 0 0] 32)).heap.size := by simp
            refine hK.out _ _ ⟨(HF9.out.get 1 rfl).cell, HC.out _ (HF9.out.get 3 rfl)⟩ (fun hHeld => ?_)
            clear hK K HS8
            (try simp only [Act.put, List.setIfInBounds_toArray, List.set_cons_zero, List.set_cons_succ])
            generalize w8.alloc (.cells #[.int .i64 0, .int .i64 0, .int .i64 0, .slice none 0 0, .slice none 0 0, .slice none 0 0] 32) = w9 at *
            generalize w8.heap.size = V at *
            ((refine AnyT.one (i := 5) (by kernel_rfl) rfl (fun K hK => ?_)))
            go_simp
            refine (iWrite HW1.out _ dl dh w9 (HF9.out.get 2 rfl) (HF9.out.le 2 rfl) (HPL.out.small k) (by omega)).mono ?_
            rintro e9 w10 ⟨v9, rfl, hx9, hb9⟩
            obtain ⟨A9, c9, F9, f9, K9, k9, rfl⟩ := hx9.form
            have s11 := hb9.size
            go_simp
            have HF10 := Lib.hid ((HF9.out.below hb9).add w9.heap.size w10.heap.size _ (loc_devR _ _ _ x) (Nat.le_refl _) hx9)
            refine hK.out _ _ ⟨(HF10.out.get 2 rfl).cell, HC.out _ (HF10.out.get 4 rfl)⟩ (fun hHeld => ?_)
            clear hK K HF9 hx9 hb9
            (try simp only [Act.put, List.setIfInBounds_toArray, List.set_cons_zero, List.set_cons_succ])
            ((refine AnyT.takeAny 6 69 ?_ rfl (by kernel_rfl) (by kernel_rfl) (by kernel_rfl) rfl rfl (fun _ _ _ _ h => h) rfl ?_ (by assumption) ?_); rotate_left; (intro w; go_simp; (try (with_reducible rfl))); simp only [Act.put, List.setIfInBounds_toArray, List.set_cons_zero, List.set_cons_succ])
            ((refine AnyT.takeAny 7 76 ?_ rfl (by kernel_rfl) (by kernel_rfl) (by kernel_rfl) rfl rfl (fun _ _ _ _ h => h) rfl ?_ (by assumption) ?_); rotate_left; (intro w; go_simp; (try (with_reducible rfl))); simp only [Act.put, List.setIfInBounds_toArray, List.set_cons_zero, List.set_cons_succ])
            ((refine AnyT.takeAny 8 77 ?_ rfl (by kernel_rfl) (by kernel_rfl) (by kernel_rfl) rfl rfl (fun _ _ _ _ h => h) rfl ?_ (by assumption) ?_); rotate_left; (intro w; go_simp; (try (with_reducible rfl))); simp only [Act.put, List.setIfInBounds_toArray, List.set_cons_zero, List.set_cons_succ])
            have gV := (HF10.out.get 1 rfl).cell; have zV := (HF10.out.get 1 rfl).frozen
            ((refine AnyT.one (i := 10) (by kernel_rfl) rfl (fun K hK => ?_)))
            go_simp
            have HF := Lib.hid (((HF10.out.only [0, 2, 4, 5]).set6 V (.int .i64 x.use) (.int .i64 x.scr.row) (.int .i64 x.scr.col) (.slice A9 x.scr.rows.length c9) (.slice F9 x.files.length f9) (.slice K9 x.keys.length k9) (by
                intro f hf
                simp only [List.filterMap_cons, List.filterMap_nil, List.getElem?_cons_zero, List.getElem?_cons_succ, List.mem_cons, List.not_mem_nil, or_false] at hf
                rcases hf with rfl | rfl | rfl | rfl
                all_goals (simp only; omega)) (by omega)).add V (V + 1) _ (loc_blk _ _ _) (by simp [World.setCell]; omega) (Blk.six (HF10.out.get 1 rfl) (.int .i64 x.use) (.int .i64 x.scr.row) (.int .i64 x.scr.col) (.slice A9 x.scr.rows.length c9) (.slice F9 x.files.length f9) (.slice K9 x.keys.length k9)))
            have s12 : V + 1 ≤ ((((((w10.setCell ⟨V, 0, none⟩ (.int .i64 x.use)).setCell ⟨V, 1, none⟩ (.int .i64 x.scr.row)).setCell ⟨V, 2, none⟩ (.int .i64 x.scr.col)).setCell ⟨V, 3, none⟩ (.slice A9 x.scr.rows.length c9)).setCell ⟨V, 4, none⟩ (.slice F9 x.files.length f9)).setCell ⟨V, 5, none⟩ (.slice K9 x.keys.length k9)).heap.size := by simp [World.setCell]; omega
            refine hK.out _ _ ⟨(HF.out.get 2 rfl).cell, HC.out _ (HF.out.get 3 rfl)⟩ (fun hHeld => ?_)
            clear hK K HF10 gV zV
            (try simp only [Act.put, List.setIfInBounds_toArray, List.set_cons_zero, List.set_cons_succ])
            generalize ((((((w10.setCell ⟨V, 0, none⟩ (.int .i64 x.use)).setCell ⟨V, 1, none⟩ (.int .i64 x.scr.row)).setCell ⟨V, 2, none⟩ (.int .i64 x.scr.col)).setCell ⟨V, 3, none⟩ (.slice A9 x.scr.rows.length c9)).setCell ⟨V, 4, none⟩ (.slice F9 x.files.length f9)).setCell ⟨V, 5, none⟩ (.slice K9 x.keys.length k9)) = w11 at *
            ((refine AnyT.takeAny 11 13 ?_ rfl (by kernel_rfl) (by kernel_rfl) (by kernel_rfl) rfl rfl (fun _ _ _ _ h => h) rfl ?_ (by assumption) ?_); rotate_left; (intro w; go_simp; (try (with_reducible rfl))); simp only [Act.put, List.setIfInBounds_toArray, List.set_cons_zero, List.set_cons_succ])
            refine AnyT.done (by kernel_rfl) ?_ _
            clear hHeld
            have fV := (HF.out.get 0 rfl).cell
            go_wp2_with fail
            refine (iWrite (t := ⟨#[10]⟩) HW2.out _ _ _ w11 (HF.out.get 1 rfl) (HF.out.le 1 rfl) HXS.out (by decide)).mono ?_
            rintro e12 w12 ⟨v12, rfl, hx12, hb12⟩
            obtain ⟨A12, c12, F12, f12, K12, k12, rfl⟩ := hx12.form
            have s12 := hb12.size
            have R13 := (((HF.out.below hb12).add w11.heap.size w12.heap.size _ (loc_devR _ _ _ (D (k + 1))) (Nat.le_refl _) hx12).only [0, 3, 4, 5]).box 32 (devCs (D (k + 1)) A12 c12 F12 f12 K12 k12)
            have s13 : w12.heap.size + 1 ≤ (w12.alloc (.cells (devCs (D (k + 1)) A12 c12 F12 f12 K12 k12) 32)).heap.size := by simp
            have HR13 := Lib.hid R13
            clear R13 HF hb12 hx12 fV
            go_upto_region 17 with fail
            change Code.wp _ _ _ _ (w12.alloc (.cells (devCs (D (k + 1)) A12 c12 F12 f12 K12 k12) 32))
            generalize w12.alloc (.cells (devCs (D (k + 1)) A12 c12 F12 f12 K12 k12) 32) = w13 at *
            generalize w12.heap.size = Y at *
            have fY := (HR13.out.get 0 rfl).cell; have fU := (HR13.out.get 2 rfl).cell; have zU := (HR13.out.get 2 rfl).frozen
            generalize hDN : D (k + 1) = DN at *
            have HDN := Lib.hid hDN; clear hDN
            go_wp2_with fail
            go_roundw
            case rel =>
              have HG := ((HR13.out.only [1, 3, 4]).set6 U (.int .i64 DN.use) (.int .i64 DN.scr.row) (.int .i64 DN.scr.col) (.slice A12 DN.scr.rows.length c12) (.slice F12 DN.files.length f12) (.slice K12 DN.keys.length k12) (by
                  intro f hf
                  simp only [List.filterMap_cons, List.filterMap_nil, List.getElem?_cons_zero, List.getElem?_cons_succ, List.mem_cons, List.not_mem_nil, or_false] at hf
                  rcases hf with rfl | rfl | rfl
                  all_goals (simp only; omega)) (by omega)).add U (U + 1) _ (loc_blk _ _ _) (by simp [World.setCell]; omega) (Blk.six (HR13.out.get 2 rfl) (.int .i64 DN.use) (.int .i64 DN.scr.row) (.int .i64 DN.scr.col) (.slice A12 DN.scr.rows.length c12) (.slice F12 DN.files.length f12) (.slice K12 DN.keys.length k12))
              exact ⟨k + 1, A12, c12, F12, f12, K12, k12, w11.heap.size, Y, by omega, by go_num, by rw [HDN.out]; exact HG, .inr (by omega)⟩
            case measure => simp [intOf]; omega
        · obtain rfl : k = 6 := by omega
          rw [show ((6 : Nat) : Int) = 6 from rfl]
          have hes := HPL.out.start
          have R14 := HS.out
          rw [← hes] at R14
          have HR14 := Lib.hid R14
          clear hes R14 HS
          go_wp2_with fail
          go_loopw [16] (fun i wr => ∃ (k : Nat) (A8 : Option Addr) (c8 : Nat) (F8 : Option Addr) (f8 : Nat) (K8 : Option Addr) (k8 dl dh : Nat), k ≤ 6 ∧ i = .int .i64 k ∧ Stand w [(U, U + 1, fun W => Blk W U 32 (devCs (E k) A8 c8 F8 f8 K8 k8)), (dl, dh, fun W => DevR W dl dh (.agg (devCs (E k) A8 c8 F8 f8 K8 k8)) (E k)), (w4.heap.size, L1, fun W => StrR W w4.heap.size L1 (some ⟨lg, 0, none⟩) 6 ls), (0, w.heap.size, fun W => BytesR W 0 w.heap.size B m)] wr ∧ (dh ≤ U ∨ U < dl)) (fun i _ => 6 - (intOf i).toNat)
          case atStart => exact ⟨0, A8, c8, F8, f8, K8, k8, dl, dh, by omega, rfl, HR14.out, hgeo⟩
          case round =>
            clear HR14 hgeo
            obtain ⟨k, A8, c8, F8, f8, K8, k8, dl, dh, hk, rfl, hst, hgeo⟩ := hrel
            have HS := Lib.hid hst; clear hst
            by_cases hlt : k < 6
            · have HRD := Lib.hid (HPL.out.read k hlt)
              have HC := Lib.hid (fun W (h : StrR W w4.heap.size L1 (some ⟨lg, 0, none⟩) 6 ls) => line_at h hlt)
              generalize ls.getD k ByteArray.empty = T at *
              have i1 : (k : Int) < 6 := by omega
              have s8 := HS.out.le 0 rfl
              have s8d := HS.out.le 1 rfl
              have fU := (HS.out.get 0 rfl).cell
              go_wp2_with fail
              refine (iRead HRD.out _ dl dh wr (hTB.out.below HS.out.1) (HS.out.get 1 rfl) (HS.out.le 1 rfl) (HPL.out.esmall k (by omega))).mono ?_
              rintro e12 w12 ⟨v12, rfl, hx12, hb12⟩
              obtain ⟨A12, c12, F12, f12, K12, k12, rfl⟩ := hx12.form
              have s12 := hb12.size
              have R13 := (((HS.out.below hb12).add wr.heap.size w12.heap.size _ (loc_devR _ _ _ (E (k + 1))) (Nat.le_refl _) hx12).only [0, 1, 3, 4]).box 32 (devCs (E (k + 1)) A12 c12 F12 f12 K12 k12)
              have s13 : w12.heap.size + 1 ≤ (w12.alloc (.cells (devCs (E (k + 1)) A12 c12 F12 f12 K12 k12) 32)).heap.size := by simp
              have HR13 := Lib.hid R13
              clear R13 HS hb12 hx12 fU
              go_upto_region 24 with fail
              change Code.wp _ _ _ _ (w12.alloc (.cells (devCs (E (k + 1)) A12 c12 F12 f12 K12 k12) 32))
              generalize w12.alloc (.cells (devCs (E (k + 1)) A12 c12 F12 f12 K12 k12) 32) = w13 at *
              generalize w12.heap.size = Y at *
              have fY := (HR13.out.get 0 rfl).cell; have fU := (HR13.out.get 2 rfl).cell; have zU := (HR13.out.get 2 rfl).frozen
              have fL := HC.out _ (HR13.out.get 3 rfl)
              have nX : (!T.toList == T.toList) = false := by simp
              generalize hDN : E (k + 1) = DN at *
              have HDN := Lib.hid hDN; clear hDN HRD
              go_wp2_with fail
              go_roundw
              case rel =>
                have HG := ((HR13.out.only [1, 3, 4]).set6 U (.int .i64 DN.use) (.int .i64 DN.scr.row) (.int .i64 DN.scr.col) (.slice A12 DN.scr.rows.length c12) (.slice F12 DN.files.length f12) (.slice K12 DN.keys.length k12) (by
                    intro f hf
                    simp only [List.filterMap_cons, List.filterMap_nil, List.getElem?_cons_zero, List.getElem?_cons_succ, List.mem_cons, List.not_mem_nil, or_false] at hf
                    rcases hf with rfl | rfl | rfl
                    all_goals (simp only; omega)) (by omega)).add U (U + 1) _ (loc_blk _ _ _) (by simp [World.setCell]; omega) (Blk.six (HR13.out.get 2 rfl) (.int .i64 DN.use) (.int .i64 DN.scr.row) (.int .i64 DN.scr.col) (.slice A12 DN.scr.rows.length c12) (.slice F12 DN.files.length f12) (.slice K12 DN.keys.length k12))
                exact ⟨k + 1, A12, c12, F12, f12, K12, k12, wr.heap.size, Y, by omega, by go_num, by rw [HDN.out]; exact HG, .inr (by omega)⟩
              case measure => simp [intOf]; omega
            · obtain rfl : k = 6 := by omega
              rw [show ((6 : Nat) : Int) = 6 from rfl]
              have fU := (HS.out.get 0 rfl).cell
              go_wp2_with fail
              refine (iRead (t := ⟨#[]⟩) HPL.out.fin _ dl dh wr (hTB.out.below HS.out.1) (HS.out.get 1 rfl) (HS.out.le 1 rfl) (HPL.out.esmall 6 (by omega))).mono ?_
              rintro e12 w12 ⟨v12, rfl, hx12, hb12⟩
              obtain ⟨A12, c12, F12, f12, K12, k12, rfl⟩ := hx12.form
              have HS12 := Lib.hid ((HS.out.below hb12).alloc (.cells (devCs noDev A12 c12 F12 f12 K12 k12) 32))
              clear HS hb12 hx12 fU
              go_upto_region 28 with fail
              change Code.wp _ _ _ _ (w12.alloc (.cells (devCs noDev A12 c12 F12 f12 K12 k12) 32))
              generalize w12.alloc (.cells (devCs noDev A12 c12 F12 f12 K12 k12) 32) = w13 at *
              have fU := (HS12.out.get 0 rfl).cell
              go_wp2_with fail
              refine (iUse (nm := ⟨#[]⟩) HPL.out.back _ dl dh w13 (HS12.out.get 1 rfl) (HS12.out.le 1 rfl) (HPL.out.esmall 6 (by omega)) (by decide)).mono ?_
              rintro e14 w14 ⟨v14, rfl, hx14, hb14⟩
              obtain ⟨A14, c14, F14, f14, K14, k14, rfl⟩ := hx14.form
              have s14 := hb14.size
              have R15 := (((HS12.out.below hb14).add w13.heap.size w14.heap.size _ (loc_devR _ _ _ bk) (Nat.le_refl _) hx14).only [0, 4]).box 32 (devCs bk A14 c14 F14 f14 K14 k14)
              have s15 : w14.heap.size + 1 ≤ (w14.alloc (.cells (devCs bk A14 c14 F14 f14 K14 k14) 32)).heap.size := by simp
              have HR15 := Lib.hid R15
              clear R15 HS12 hb14 hx14 fU
              go_upto_region 29 with fail
              change Code.wp _ _ _ _ (w14.alloc (.cells (devCs bk A14 c14 F14 f14 K14 k14) 32))
              generalize w14.alloc (.cells (devCs bk A14 c14 F14 f14 K14 k14) 32) = w15 at *
              generalize w14.heap.size = Q at *
              have HTY := Lib.hid HPL.out.typed
              have HBS := Lib.hid HPL.out.bsmall
              have s16 : w15.heap.size ≤ w15.drew.heap.size := Nat.le_refl _
              have HR16 := Lib.hid HR15.out.drew
              have hwq := HR15.out.le 2 rfl
              refine AnyT.region (fun _ => false) (fun W => ∀ i, W.cell? ⟨Q, i, none⟩ = (devCs bk A14 c14 F14 f14 K14 k14)[i]?) (by kernel_rfl) (HR16.out.get 0 rfl).cell (fun hHeld => ?_)
              clear HR15 HPL
              generalize w15.drew = w16 at *
              have hbk := HR16.out.le 1 rfl
              ((refine AnyT.take 0 125 ?_ rfl (by kernel_rfl) (by kernel_rfl) (by kernel_rfl) (by kernel_rfl) rfl (by kernel_rfl) rfl (fun _ _ _ _ h => h) rfl ?_ (by assumption) ?_); rotate_left; (intro w hSw; (try dsimp only at hSw); go_simp; (try (with_reducible rfl))); simp only [Act.put, List.setIfInBounds_toArray, List.set_cons_zero, List.set_cons_succ])
              ((refine AnyT.takeAny 1 126 ?_ rfl (by kernel_rfl) (by kernel_rfl) (by kernel_rfl) rfl rfl (fun _ _ _ _ h => h) rfl ?_ (by assumption) ?_); rotate_left; (intro w; go_simp; (try (with_reducible rfl))); simp only [Act.put, List.setIfInBounds_toArray, List.set_cons_zero, List.set_cons_succ])
              have HF16 := Lib.hid HR16.out
              clear HR16
              refine AnyT.two (i := 2) (j := 8) (by kernel_rfl) rfl rfl (fun K hK => ?_) (fun K hK => ?_)
              · go_simp
                refine (b10At_any 0 w.heap.size B m d 0 3 w16 (HF16.out.get 2 rfl) (by omega) (by omega)).mono ?_
                rintro e17 w17 ⟨r, rfl, hr0, hr3, hb17⟩
                obtain ⟨z, t, wz, hrd, ht1, ht5, hzs, hcl, hwf, hwu⟩ := HTY.out r hr0 (by have := hr3 (by omega); omega)
                have HRD := Lib.hid hrd; have HTS := Lib.hid ht1; have HZS := Lib.hid hzs; have HCL := Lib.hid hcl; have HWF := Lib.hid hwf; have HWU := Lib.hid hwu
                clear hrd ht1 hzs hcl hwf hwu hr3
                have s17 := hb17.size
                go_simp
                have HF17 := Lib.hid (HF16.out.below hb17)
                refine hK.out _ _ (HF17.out.get 0 rfl).cell (fun hHeld => ?_)
                clear hK K HF16 hb17
                (try simp only [Act.put, List.setIfInBounds_toArray, List.set_cons_zero, List.set_cons_succ])
                refine AnyT.two (i := 3) (j := 8) (by kernel_rfl) rfl rfl (fun K hK => ?_) (fun K hK => ?_)
                · go_simp
                  refine (iRead HRD.out _ _ _ w17 (hTB.out.below HF17.out.1) (HF17.out.get 1 rfl) (HF17.out.le 1 rfl) HBS.out).mono ?_
                  rintro e18 w18 ⟨v18, rfl, hx18, hb18⟩
                  obtain ⟨A18, c18, F18, f18, K18, k18, rfl⟩ := hx18.form
                  have s18 := hb18.size
                  go_simp
                  have HF18 := Lib.hid ((HF17.out.below hb18).add w17.heap.size w18.heap.size _ (loc_devR _ _ _ z) (Nat.le_refl _) hx18)
                  refine hK.out _ _ (HF18.out.get 1 rfl).cell (fun hHeld => ?_)
                  clear hK K HF17 hb18 hx18
                  (try simp only [Act.put, List.setIfInBounds_toArray, List.set_cons_zero, List.set_cons_succ])
                  ((refine AnyT.takeAny 4 124 ?_ rfl (by kernel_rfl) (by kernel_rfl) (by kernel_rfl) rfl rfl (fun _ _ _ _ h => h) rfl ?_ (by assumption) ?_); rotate_left; (intro w; go_simp; (try (with_reducible rfl))); simp only [Act.put, List.setIfInBounds_toArray, List.set_cons_zero, List.set_cons_succ])
                  ((refine AnyT.takeAny 5 129 ?_ rfl (by kernel_rfl) (by kernel_rfl) (by kernel_rfl) rfl rfl (fun _ _ _ _ h => h) rfl ?_ (by assumption) ?_); rotate_left; (intro w; go_simp; (try (with_reducible rfl))); simp only [Act.put, List.setIfInBounds_toArray, List.set_cons_zero, List.set_cons_succ])
                  ((refine AnyT.takeAny 6 130 ?_ rfl (by kernel_rfl) (by kernel_rfl) (by kernel_rfl) rfl rfl (fun _ _ _ _ h => h) rfl ?_ (by assumption) ?_); rotate_left; (intro w; go_simp; (try (with_reducible rfl))); simp only [Act.put, List.setIfInBounds_toArray, List.set_cons_zero, List.set_cons_succ])
                  ((refine AnyT.takeAny 7 131 ?_ rfl (by kernel_rfl) (by kernel_rfl) (by kernel_rfl) rfl rfl (fun _ _ _ _ h => h) rfl ?_ (by assumption) ?_); rotate_left; (intro w; go_simp; (try (with_reducible rfl))); simp only [Act.put, List.setIfInBounds_toArray, List.set_cons_zero, List.set_cons_succ])
                  ((refine AnyT.one (i := 8) (by kernel_rfl) rfl (fun K hK => ?_)))
                  go_simp
                  have HF19 := Lib.hid (HF18.out.box 32 #[.int .i64 0, .int .i64 0, .int .i64 0, .slice none 0 0, .slice none 0 0, .slice none 0 0])
                  have s19 : w18.heap.size + 1 ≤ (w18.alloc (.cells #[.int .i64 0, .int .i64 0, .int .i64 0, .slice none 0 0, .slice none 0 0, .slice none 0 0] 32)).heap.size := by simp
                  refine hK.out _ _ (HF19.out.get 2 rfl).cell (fun hHeld => ?_)
                  clear hK K HF18
                  (try simp only [Act.put, List.setIfInBounds_toArray, List.set_cons_zero, List.set_cons_succ])
                  generalize w18.alloc (.cells #[.int .i64 0, .int .i64 0, .int .i64 0, .slice none 0 0, .slice none 0 0, .slice none 0 0] 32) = w19 at *
                  generalize w18.heap.size = V at *
                  have gV := (HF19.out.get 0 rfl).cell; have zV := (HF19.out.get 0 rfl).frozen
                  ((refine AnyT.one (i := 9) (by kernel_rfl) rfl (fun K hK => ?_)))
                  go_simp
                  have HG := Lib.hid (((HF19.out.only [1, 4, 2]).set6 V (.int .i64 z.use) (.int .i64 z.scr.row) (.int .i64 z.scr.col) (.slice A18 z.scr.rows.length c18) (.slice F18 z.files.length f18) (.slice K18 z.keys.length k18) (by
                      intro f hf
                      simp only [List.filterMap_cons, List.filterMap_nil, List.getElem?_cons_zero, List.getElem?_cons_succ, List.mem_cons, List.not_mem_nil, or_false] at hf
                      rcases hf with rfl | rfl | rfl
                      all_goals (simp only; omega)) (by omega)).add V (V + 1) _ (loc_blk _ _ _) (by simp [World.setCell]; omega) (Blk.six (HF19.out.get 0 rfl) (.int .i64 z.use) (.int .i64 z.scr.row) (.int .i64 z.scr.col) (.slice A18 z.scr.rows.length c18) (.slice F18 z.files.length f18) (.slice K18 z.keys.length k18)))
                  have hQ2 := (HG.out.get 3 rfl).cell
                  have HF := Lib.hid (HG.out.only [0, 1, 2])
                  refine hK.out _ _ hQ2 (fun hHeld => ?_)
                  clear hK K HF19 gV zV hQ2 HG
                  (try simp only [Act.put, List.setIfInBounds_toArray, List.set_cons_zero, List.set_cons_succ])
                  generalize ((((((w19.setCell ⟨V, 0, none⟩ (.int .i64 z.use)).setCell ⟨V, 1, none⟩ (.int .i64 z.scr.row)).setCell ⟨V, 2, none⟩ (.int .i64 z.scr.col)).setCell ⟨V, 3, none⟩ (.slice A18 z.scr.rows.length c18)).setCell ⟨V, 4, none⟩ (.slice F18 z.files.length f18)).setCell ⟨V, 5, none⟩ (.slice K18 z.keys.length k18)) = w20 at *
                  ((refine AnyT.takeAny 10 26 ?_ rfl (by kernel_rfl) (by kernel_rfl) (by kernel_rfl) rfl rfl (fun _ _ _ _ h => h) rfl ?_ (by assumption) ?_); rotate_left; (intro w; go_simp; (try (with_reducible rfl))); simp only [Act.put, List.setIfInBounds_toArray, List.set_cons_zero, List.set_cons_succ])
                  ((refine AnyT.takeAny 11 27 ?_ rfl (by kernel_rfl) (by kernel_rfl) (by kernel_rfl) rfl rfl (fun _ _ _ _ h => h) rfl ?_ (by assumption) ?_); rotate_left; (intro w; go_simp; (try (with_reducible rfl))); simp only [Act.put, List.setIfInBounds_toArray, List.set_cons_zero, List.set_cons_succ])
                  refine AnyT.done (by kernel_rfl) ?_ _
                  clear hHeld
                  have fV := (HF.out.get 0 rfl).cell
                  go_wp2_with fail
                  refine (iClose (nm := ⟨#[76, 79, 71]⟩) HCL.out _ _ _ w20 (HF.out.get 1 rfl) (HF.out.le 1 rfl) HZS.out).mono ?_
                  rintro e22 w22 ⟨v22, rfl, hx22, hb22⟩
                  obtain ⟨A22, c22, F22, f22, K22, k22, rfl⟩ := hx22.form
                  have R23 := ((HF.out.below hb22).only [2]).box 32 (devCs wz A22 c22 F22 f22 K22 k22)
                  have HR23 := Lib.hid R23
                  clear R23 HF hb22 hx22 fV
                  go_upto_region 31 with fail
                  change Code.wp _ _ _ _ (w22.alloc (.cells (devCs wz A22 c22 F22 f22 K22 k22) 32))
                  generalize w22.alloc (.cells (devCs wz A22 c22 F22 f22 K22 k22) 32) = w23 at *
                  generalize w22.heap.size = C at *
                  go_wp2_with fail
                  refine (drawWriteTo_any 0 w.heap.size B m d w23 (HR23.out.get 1 rfl) (HR23.out.le 1 rfl) HN.out.2).mono ?_
                  rintro e24 w24 ⟨v24, a, tx, rfl, hx24, has, htx, hb24⟩
                  obtain ⟨A24, c24, F24, f24, K24, k24, rfl⟩ := hx24.form
                  have HAS := Lib.hid has
                  have R25 := (((HR23.out.below hb24).add w23.heap.size w24.heap.size _ (loc_devR _ _ _ a) (Nat.le_refl _) hx24).only [0, 1]).box 32 (devCs a A24 c24 F24 f24 K24 k24)
                  have HR25 := Lib.hid R25
                  clear R25 HR23 hb24 hx24 has
                  go_upto_region 32 with fail
                  change Code.wp _ _ _ _ (w24.alloc (.cells (devCs a A24 c24 F24 f24 K24 k24) 32))
                  generalize w24.alloc (.cells (devCs a A24 c24 F24 f24 K24 k24) 32) = w25 at *
                  generalize w24.heap.size = G at *
                  have fG := (HR25.out.get 0 rfl).cell
                  go_wp2_with fail
                  refine (implWriteTo_any a tx _ _ _ w25 (HR25.out.get 1 rfl) (HR25.out.le 1 rfl) HAS.out (by omega)).mono ?_
                  rintro e26 w26 ⟨v26, rfl, hx26, hb26⟩
                  have hx27 := hx26.reads
                  have HOK := Lib.hid (writeP_ok (d := a) (t := tx)); have HLW := Lib.hid (writeP_low a tx).small
                  clear hx26
                  generalize writeP a tx = TT at *
                  obtain ⟨d26, code⟩ := TT
                  dsimp only at hx27 HOK HLW
                  obtain ⟨A26, c26, F26, f26, K26, k26, rfl⟩ := hx27.form
                  have R27 := (((HR25.out.below hb26).add w25.heap.size w26.heap.size _ (loc_devR _ _ _ d26) (Nat.le_refl _) hx27).only [0, 3]).box 32 (devCs d26 A26 c26 F26 f26 K26 k26)
                  have HR27 := Lib.hid R27
                  clear R27 HR25 hb26 hx27 fG
                  dsimp only
                  go_upto_region 33 with fail
                  change Code.wp _ _ _ _ (w26.alloc (.cells (devCs d26 A26 c26 F26 f26 K26 k26) 32))
                  generalize w26.alloc (.cells (devCs d26 A26 c26 F26 f26 K26 k26) 32) = w27 at *
                  generalize w26.heap.size = I at *
                  have fC := (HR27.out.get 2 rfl).cell; have fI := (HR27.out.get 0 rfl).cell
                  have hw1 : ((wz.files.length : Int) == 0) = true := by rw [HWF.out]; rfl
                  have hw2 : (wz.use == 0) = true := by rw [HWU.out]; rfl
                  have ht0 : (0 : Int) < (t.size : Int) := by have := HTS.out; omega
                  by_cases hc : code = 0
                  · have HDB := Lib.hid (HOK.out hc)
                    subst hc
                    go_wp2_with fail
                    refine (specDevicesOk_any d26 _ _ _ w27 (HR27.out.get 1 rfl) (HR27.out.le 1 rfl) HLW.out).mono ?_
                    rintro e28 w28 ⟨rfl, hb28⟩
                    rw [HDB.out]
                    have HB28 := Lib.hid (HR27.out.below hb28).1
                    clear HR27 hb28
                    go_wp2_with fail
                    go_ret
                    exact ⟨rfl, HB28.out⟩
                  · have hc' : (code != 0) = true := by simp [hc]
                    have HB28 := Lib.hid HR27.out.1
                    clear HR27
                    go_wp2_with fail
                    go_ret
                    exact ⟨rfl, HB28.out⟩
                · go_simp
                  have HF18 := Lib.hid (HF17.out.box 32 #[.int .i64 0, .int .i64 0, .int .i64 0, .slice none 0 0, .slice none 0 0, .slice none 0 0])
                  have s18 : w17.heap.size + 1 ≤ (w17.alloc (.cells #[.int .i64 0, .int .i64 0, .int .i64 0, .slice none 0 0, .slice none 0 0, .slice none 0 0] 32)).heap.size := by simp
                  refine hK.out _ _ (HF18.out.get 1 rfl).cell (fun hHeld => ?_)
                  clear hK K HF17
                  (try simp only [Act.put, List.setIfInBounds_toArray, List.set_cons_zero, List.set_cons_succ])
                  generalize w17.alloc (.cells #[.int .i64 0, .int .i64 0, .int .i64 0, .slice none 0 0, .slice none 0 0, .slice none 0 0] 32) = w18 at *
                  generalize w17.heap.size = V at *
                  ((refine AnyT.one (i := 3) (by kernel_rfl) rfl (fun K hK => ?_)))
                  go_simp
                  refine (iRead HRD.out _ _ _ w18 (hTB.out.below HF18.out.1) (HF18.out.get 2 rfl) (HF18.out.le 2 rfl) HBS.out).mono ?_
                  rintro e19 w19 ⟨v18, rfl, hx18, hb19⟩
                  obtain ⟨A18, c18, F18, f18, K18, k18, rfl⟩ := hx18.form
                  have s19 := hb19.size
                  go_simp
                  have HF19 := Lib.hid ((HF18.out.below hb19).add w18.heap.size w19.heap.size _ (loc_devR _ _ _ z) (Nat.le_refl _) hx18)
                  refine hK.out _ _ (HF19.out.get 2 rfl).cell (fun hHeld => ?_)
                  clear hK K HF18 hb19 hx18
                  (try simp only [Act.put, List.setIfInBounds_toArray, List.set_cons_zero, List.set_cons_succ])
                  ((refine AnyT.takeAny 4 124 ?_ rfl (by kernel_rfl) (by kernel_rfl) (by kernel_rfl) rfl rfl (fun _ _ _ _ h => h) rfl ?_ (by assumption) ?_); rotate_left; (intro w; go_simp; (try (with_reducible rfl))); simp only [Act.put, List.setIfInBounds_toArray, List.set_cons_zero, List.set_cons_succ])
                  ((refine AnyT.takeAny 5 129 ?_ rfl (by kernel_rfl) (by kernel_rfl) (by kernel_rfl) rfl rfl (fun _ _ _ _ h => h) rfl ?_ (by assumption) ?_); rotate_left; (intro w; go_simp; (try (with_reducible rfl))); simp only [Act.put, List.setIfInBounds_toArray, List.set_cons_zero, List.set_cons_succ])
                  ((refine AnyT.takeAny 6 130 ?_ rfl (by kernel_rfl) (by kernel_rfl) (by kernel_rfl) rfl rfl (fun _ _ _ _ h => h) rfl ?_ (by assumption) ?_); rotate_left; (intro w; go_simp; (try (with_reducible rfl))); simp only [Act.put, List.setIfInBounds_toArray, List.set_cons_zero, List.set_cons_succ])
                  ((refine AnyT.takeAny 7 131 ?_ rfl (by kernel_rfl) (by kernel_rfl) (by kernel_rfl) rfl rfl (fun _ _ _ _ h => h) rfl ?_ (by assumption) ?_); rotate_left; (intro w; go_simp; (try (with_reducible rfl))); simp only [Act.put, List.setIfInBounds_toArray, List.set_cons_zero, List.set_cons_succ])
                  have gV := (HF19.out.get 1 rfl).cell; have zV := (HF19.out.get 1 rfl).frozen
                  ((refine AnyT.one (i := 9) (by kernel_rfl) rfl (fun K hK => ?_)))
                  go_simp
                  have HG := Lib.hid (((HF19.out.only [0, 4, 2]).set6 V (.int .i64 z.use) (.int .i64 z.scr.row) (.int .i64 z.scr.col) (.slice A18 z.scr.rows.length c18) (.slice F18 z.files.length f18) (.slice K18 z.keys.length k18) (by
                      intro f hf
                      simp only [List.filterMap_cons, List.filterMap_nil, List.getElem?_cons_zero, List.getElem?_cons_succ, List.mem_cons, List.not_mem_nil, or_false] at hf
                      rcases hf with rfl | rfl | rfl
                      all_goals (simp only; omega)) (by omega)).add V (V + 1) _ (loc_blk _ _ _) (by simp [World.setCell]; omega) (Blk.six (HF19.out.get 1 rfl) (.int .i64 z.use) (.int .i64 z.scr.row) (.int .i64 z.scr.col) (.slice A18 z.scr.rows.length c18) (.slice F18 z.files.length f18) (.slice K18 z.keys.length k18)))
                  have hQ2 := (HG.out.get 3 rfl).cell
                  have HF := Lib.hid (HG.out.only [0, 1, 2])
                  refine hK.out _ _ hQ2 (fun hHeld => ?_)
                  clear hK K HF19 gV zV hQ2 HG
                  (try simp only [Act.put, List.setIfInBounds_toArray, List.set_cons_zero, List.set_cons_succ])
                  generalize ((((((w19.setCell ⟨V, 0, none⟩ (.int .i64 z.use)).setCell ⟨V, 1, none⟩ (.int .i64 z.scr.row)).setCell ⟨V, 2, none⟩ (.int .i64 z.scr.col)).setCell ⟨V, 3, none⟩ (.slice A18 z.scr.rows.length c18)).setCell ⟨V, 4, none⟩ (.slice F18 z.files.length f18)).setCell ⟨V, 5, none⟩ (.slice K18 z.keys.length k18)) = w20 at *
                  ((refine AnyT.takeAny 10 26 ?_ rfl (by kernel_rfl) (by kernel_rfl) (by kernel_rfl) rfl rfl (fun _ _ _ _ h => h) rfl ?_ (by assumption) ?_); rotate_left; (intro w; go_simp; (try (with_reducible rfl))); simp only [Act.put, List.setIfInBounds_toArray, List.set_cons_zero, List.set_cons_succ])
                  ((refine AnyT.takeAny 11 27 ?_ rfl (by kernel_rfl) (by kernel_rfl) (by kernel_rfl) rfl rfl (fun _ _ _ _ h => h) rfl ?_ (by assumption) ?_); rotate_left; (intro w; go_simp; (try (with_reducible rfl))); simp only [Act.put, List.setIfInBounds_toArray, List.set_cons_zero, List.set_cons_succ])
                  refine AnyT.done (by kernel_rfl) ?_ _
                  clear hHeld
                  have fV := (HF.out.get 0 rfl).cell
                  go_wp2_with fail
                  refine (iClose (nm := ⟨#[76, 79, 71]⟩) HCL.out _ _ _ w20 (HF.out.get 1 rfl) (HF.out.le 1 rfl) HZS.out).mono ?_
                  rintro e22 w22 ⟨v22, rfl, hx22, hb22⟩
                  obtain ⟨A22, c22, F22, f22, K22, k22, rfl⟩ := hx22.form
                  have R23 := ((HF.out.below hb22).only [2]).box 32 (devCs wz A22 c22 F22 f22 K22 k22)
                  have HR23 := Lib.hid R23
                  clear R23 HF hb22 hx22 fV
                  go_upto_region 31 with fail
                  change Code.wp _ _ _ _ (w22.alloc (.cells (devCs wz A22 c22 F22 f22 K22 k22) 32))
                  generalize w22.alloc (.cells (devCs wz A22 c22 F22 f22 K22 k22) 32) = w23 at *
                  generalize w22.heap.size = C at *
                  go_wp2_with fail
                  refine (drawWriteTo_any 0 w.heap.size B m d w23 (HR23.out.get 1 rfl) (HR23.out.le 1 rfl) HN.out.2).mono ?_
                  rintro e24 w24 ⟨v24, a, tx, rfl, hx24, has, htx, hb24⟩
                  obtain ⟨A24, c24, F24, f24, K24, k24, rfl⟩ := hx24.form
                  have HAS := Lib.hid has
                  have R25 := (((HR23.out.below hb24).add w23.heap.size w24.heap.size _ (loc_devR _ _ _ a) (Nat.le_refl _) hx24).only [0, 1]).box 32 (devCs a A24 c24 F24 f24 K24 k24)
                  have HR25 := Lib.hid R25
                  clear R25 HR23 hb24 hx24 has
                  go_upto_region 32 with fail
                  change Code.wp _ _ _ _ (w24.alloc (.cells (devCs a A24 c24 F24 f24 K24 k24) 32))
                  generalize w24.alloc (.cells (devCs a A24 c24 F24 f24 K24 k24) 32) = w25 at *
                  generalize w24.heap.size = G at *
                  have fG := (HR25.out.get 0 rfl).cell
                  go_wp2_with fail
                  refine (implWriteTo_any a tx _ _ _ w25 (HR25.out.get 1 rfl) (HR25.out.le 1 rfl) HAS.out (by omega)).mono ?_
                  rintro e26 w26 ⟨v26, rfl, hx26, hb26⟩
                  have hx27 := hx26.reads
                  have HOK := Lib.hid (writeP_ok (d := a) (t := tx)); have HLW := Lib.hid (writeP_low a tx).small
                  clear hx26
                  generalize writeP a tx = TT at *
                  obtain ⟨d26, code⟩ := TT
                  dsimp only at hx27 HOK HLW
                  obtain ⟨A26, c26, F26, f26, K26, k26, rfl⟩ := hx27.form
                  have R27 := (((HR25.out.below hb26).add w25.heap.size w26.heap.size _ (loc_devR _ _ _ d26) (Nat.le_refl _) hx27).only [0, 3]).box 32 (devCs d26 A26 c26 F26 f26 K26 k26)
                  have HR27 := Lib.hid R27
                  clear R27 HR25 hb26 hx27 fG
                  dsimp only
                  go_upto_region 33 with fail
                  change Code.wp _ _ _ _ (w26.alloc (.cells (devCs d26 A26 c26 F26 f26 K26 k26) 32))
                  generalize w26.alloc (.cells (devCs d26 A26 c26 F26 f26 K26 k26) 32) = w27 at *
                  generalize w26.heap.size = I at *
                  have fC := (HR27.out.get 2 rfl).cell; have fI := (HR27.out.get 0 rfl).cell
                  have hw1 : ((wz.files.length : Int) == 0) = true := by rw [HWF.out]; rfl
                  have hw2 : (wz.use == 0) = true := by rw [HWU.out]; rfl
                  have ht0 : (0 : Int) < (t.size : Int) := by have := HTS.out; omega
                  by_cases hc : code = 0
                  · have HDB := Lib.hid (HOK.out hc)
                    subst hc
                    go_wp2_with fail
                    refine (specDevicesOk_any d26 _ _ _ w27 (HR27.out.get 1 rfl) (HR27.out.le 1 rfl) HLW.out).mono ?_
                    rintro e28 w28 ⟨rfl, hb28⟩
                    rw [HDB.out]
                    have HB28 := Lib.hid (HR27.out.below hb28).1
                    clear HR27 hb28
                    go_wp2_with fail
                    go_ret
                    exact ⟨rfl, HB28.out⟩
                  · have hc' : (code != 0) = true := by simp [hc]
                    have HB28 := Lib.hid HR27.out.1
                    clear HR27
                    go_wp2_with fail
                    go_ret
                    exact ⟨rfl, HB28.out⟩
              · go_simp
                have HF17 := Lib.hid (HF16.out.box 32 #[.int .i64 0, .int .i64 0, .int .i64 0, .slice none 0 0, .slice none 0 0, .slice none 0 0])
                have s17 : w16.heap.size + 1 ≤ (w16.alloc (.cells #[.int .i64 0, .int .i64 0, .int .i64 0, .slice none 0 0, .slice none 0 0, .slice none 0 0] 32)).heap.size := by simp
                refine hK.out _ _ (HF17.out.get 1 rfl).cell (fun hHeld => ?_)
                clear hK K HF16
                (try simp only [Act.put, List.setIfInBounds_toArray, List.set_cons_zero, List.set_cons_succ])
                generalize w16.alloc (.cells #[.int .i64 0, .int .i64 0, .int .i64 0, .slice none 0 0, .slice none 0 0, .slice none 0 0] 32) = w17 at *
                generalize w16.heap.size = V at *
                ((refine AnyT.one (i := 2) (by kernel_rfl) rfl (fun K hK => ?_)))
                go_simp
                refine (b10At_any 0 w.heap.size B m d 0 3 w17 (HF17.out.get 3 rfl) (by omega) (by omega)).mono ?_
                rintro e18 w18 ⟨r, rfl, hr0, hr3, hb18⟩
                obtain ⟨z, t, wz, hrd, ht1, ht5, hzs, hcl, hwf, hwu⟩ := HTY.out r hr0 (by have := hr3 (by omega); omega)
                have HRD := Lib.hid hrd; have HTS := Lib.hid ht1; have HZS := Lib.hid hzs; have HCL := Lib.hid hcl; have HWF := Lib.hid hwf; have HWU := Lib.hid hwu
                clear hrd ht1 hzs hcl hwf hwu hr3
                have s18 := hb18.size
                go_simp
                have HF18 := Lib.hid (HF17.out.below hb18)
                refine hK.out _ _ (HF18.out.get 1 rfl).cell (fun hHeld => ?_)
                clear hK K HF17 hb18
                (try simp only [Act.put, List.setIfInBounds_toArray, List.set_cons_zero, List.set_cons_succ])
                ((refine AnyT.one (i := 3) (by kernel_rfl) rfl (fun K hK => ?_)))
                go_simp
                refine (iRead HRD.out _ _ _ w18 (hTB.out.below HF18.out.1) (HF18.out.get 2 rfl) (HF18.out.le 2 rfl) HBS.out).mono ?_
                rintro e19 w19 ⟨v18, rfl, hx18, hb19⟩
                obtain ⟨A18, c18, F18, f18, K18, k18, rfl⟩ := hx18.form
                have s19 := hb19.size
                go_simp
                have HF19 := Lib.hid ((HF18.out.below hb19).add w18.heap.size w19.heap.size _ (loc_devR _ _ _ z) (Nat.le_refl _) hx18)
                refine hK.out _ _ (HF19.out.get 2 rfl).cell (fun hHeld => ?_)
                clear hK K HF18 hb19 hx18
                (try simp only [Act.put, List.setIfInBounds_toArray, List.set_cons_zero, List.set_cons_succ])
                ((refine AnyT.takeAny 4 124 ?_ rfl (by kernel_rfl) (by kernel_rfl) (by kernel_rfl) rfl rfl (fun _ _ _ _ h => h) rfl ?_ (by assumption) ?_); rotate_left; (intro w; go_simp; (try (with_reducible rfl))); simp only [Act.put, List.setIfInBounds_toArray, List.set_cons_zero, List.set_cons_succ])
                ((refine AnyT.takeAny 5 129 ?_ rfl (by kernel_rfl) (by kernel_rfl) (by kernel_rfl) rfl rfl (fun _ _ _ _ h => h) rfl ?_ (by assumption) ?_); rotate_left; (intro w; go_simp; (try (with_reducible rfl))); simp only [Act.put, List.setIfInBounds_toArray, List.set_cons_zero, List.set_cons_succ])
                ((refine AnyT.takeAny 6 130 ?_ rfl (by kernel_rfl) (by kernel_rfl) (by kernel_rfl) rfl rfl (fun _ _ _ _ h => h) rfl ?_ (by assumption) ?_); rotate_left; (intro w; go_simp; (try (with_reducible rfl))); simp only [Act.put, List.setIfInBounds_toArray, List.set_cons_zero, List.set_cons_succ])
                ((refine AnyT.takeAny 7 131 ?_ rfl (by kernel_rfl) (by kernel_rfl) (by kernel_rfl) rfl rfl (fun _ _ _ _ h => h) rfl ?_ (by assumption) ?_); rotate_left; (intro w; go_simp; (try (with_reducible rfl))); simp only [Act.put, List.setIfInBounds_toArray, List.set_cons_zero, List.set_cons_succ])
                have gV := (HF19.out.get 1 rfl).cell; have zV := (HF19.out.get 1 rfl).frozen
                ((refine AnyT.one (i := 9) (by kernel_rfl) rfl (fun K hK => ?_)))
                go_simp
                have HG := Lib.hid (((HF19.out.only [0, 4, 2]).set6 V (.int .i64 z.use) (.int .i64 z.scr.row) (.int .i64 z.scr.col) (.slice A18 z.scr.rows.length c18) (.slice F18 z.files.length f18) (.slice K18 z.keys.length k18) (by
                    intro f hf
                    simp only [List.filterMap_cons, List.filterMap_nil, List.getElem?_cons_zero, List.getElem?_cons_succ, List.mem_cons, List.not_mem_nil, or_false] at hf
                    rcases hf with rfl | rfl | rfl
                    all_goals (simp only; omega)) (by omega)).add V (V + 1) _ (loc_blk _ _ _) (by simp [World.setCell]; omega) (Blk.six (HF19.out.get 1 rfl) (.int .i64 z.use) (.int .i64 z.scr.row) (.int .i64 z.scr.col) (.slice A18 z.scr.rows.length c18) (.slice F18 z.files.length f18) (.slice K18 z.keys.length k18)))
                have hQ2 := (HG.out.get 3 rfl).cell
                have HF := Lib.hid (HG.out.only [0, 1, 2])
                refine hK.out _ _ hQ2 (fun hHeld => ?_)
                clear hK K HF19 gV zV hQ2 HG
                (try simp only [Act.put, List.setIfInBounds_toArray, List.set_cons_zero, List.set_cons_succ])
                generalize ((((((w19.setCell ⟨V, 0, none⟩ (.int .i64 z.use)).setCell ⟨V, 1, none⟩ (.int .i64 z.scr.row)).setCell ⟨V, 2, none⟩ (.int .i64 z.scr.col)).setCell ⟨V, 3, none⟩ (.slice A18 z.scr.rows.length c18)).setCell ⟨V, 4, none⟩ (.slice F18 z.files.length f18)).setCell ⟨V, 5, none⟩ (.slice K18 z.keys.length k18)) = w20 at *
                ((refine AnyT.takeAny 10 26 ?_ rfl (by kernel_rfl) (by kernel_rfl) (by kernel_rfl) rfl rfl (fun _ _ _ _ h => h) rfl ?_ (by assumption) ?_); rotate_left; (intro w; go_simp; (try (with_reducible rfl))); simp only [Act.put, List.setIfInBounds_toArray, List.set_cons_zero, List.set_cons_succ])
                ((refine AnyT.takeAny 11 27 ?_ rfl (by kernel_rfl) (by kernel_rfl) (by kernel_rfl) rfl rfl (fun _ _ _ _ h => h) rfl ?_ (by assumption) ?_); rotate_left; (intro w; go_simp; (try (with_reducible rfl))); simp only [Act.put, List.setIfInBounds_toArray, List.set_cons_zero, List.set_cons_succ])
                refine AnyT.done (by kernel_rfl) ?_ _
                clear hHeld
                have fV := (HF.out.get 0 rfl).cell
                go_wp2_with fail
                refine (iClose (nm := ⟨#[76, 79, 71]⟩) HCL.out _ _ _ w20 (HF.out.get 1 rfl) (HF.out.le 1 rfl) HZS.out).mono ?_
                rintro e22 w22 ⟨v22, rfl, hx22, hb22⟩
                obtain ⟨A22, c22, F22, f22, K22, k22, rfl⟩ := hx22.form
                have R23 := ((HF.out.below hb22).only [2]).box 32 (devCs wz A22 c22 F22 f22 K22 k22)
                have HR23 := Lib.hid R23
                clear R23 HF hb22 hx22 fV
                go_upto_region 31 with fail
                change Code.wp _ _ _ _ (w22.alloc (.cells (devCs wz A22 c22 F22 f22 K22 k22) 32))
                generalize w22.alloc (.cells (devCs wz A22 c22 F22 f22 K22 k22) 32) = w23 at *
                generalize w22.heap.size = C at *
                go_wp2_with fail
                refine (drawWriteTo_any 0 w.heap.size B m d w23 (HR23.out.get 1 rfl) (HR23.out.le 1 rfl) HN.out.2).mono ?_
                rintro e24 w24 ⟨v24, a, tx, rfl, hx24, has, htx, hb24⟩
                obtain ⟨A24, c24, F24, f24, K24, k24, rfl⟩ := hx24.form
                have HAS := Lib.hid has
                have R25 := (((HR23.out.below hb24).add w23.heap.size w24.heap.size _ (loc_devR _ _ _ a) (Nat.le_refl _) hx24).only [0, 1]).box 32 (devCs a A24 c24 F24 f24 K24 k24)
                have HR25 := Lib.hid R25
                clear R25 HR23 hb24 hx24 has
                go_upto_region 32 with fail
                change Code.wp _ _ _ _ (w24.alloc (.cells (devCs a A24 c24 F24 f24 K24 k24) 32))
                generalize w24.alloc (.cells (devCs a A24 c24 F24 f24 K24 k24) 32) = w25 at *
                generalize w24.heap.size = G at *
                have fG := (HR25.out.get 0 rfl).cell
                go_wp2_with fail
                refine (implWriteTo_any a tx _ _ _ w25 (HR25.out.get 1 rfl) (HR25.out.le 1 rfl) HAS.out (by omega)).mono ?_
                rintro e26 w26 ⟨v26, rfl, hx26, hb26⟩
                have hx27 := hx26.reads
                have HOK := Lib.hid (writeP_ok (d := a) (t := tx)); have HLW := Lib.hid (writeP_low a tx).small
                clear hx26
                generalize writeP a tx = TT at *
                obtain ⟨d26, code⟩ := TT
                dsimp only at hx27 HOK HLW
                obtain ⟨A26, c26, F26, f26, K26, k26, rfl⟩ := hx27.form
                have R27 := (((HR25.out.below hb26).add w25.heap.size w26.heap.size _ (loc_devR _ _ _ d26) (Nat.le_refl _) hx27).only [0, 3]).box 32 (devCs d26 A26 c26 F26 f26 K26 k26)
                have HR27 := Lib.hid R27
                clear R27 HR25 hb26 hx27 fG
                dsimp only
                go_upto_region 33 with fail
                change Code.wp _ _ _ _ (w26.alloc (.cells (devCs d26 A26 c26 F26 f26 K26 k26) 32))
                generalize w26.alloc (.cells (devCs d26 A26 c26 F26 f26 K26 k26) 32) = w27 at *
                generalize w26.heap.size = I at *
                have fC := (HR27.out.get 2 rfl).cell; have fI := (HR27.out.get 0 rfl).cell
                have hw1 : ((wz.files.length : Int) == 0) = true := by rw [HWF.out]; rfl
                have hw2 : (wz.use == 0) = true := by rw [HWU.out]; rfl
                have ht0 : (0 : Int) < (t.size : Int) := by have := HTS.out; omega
                by_cases hc : code = 0
                · have HDB := Lib.hid (HOK.out hc)
                  subst hc
                  go_wp2_with fail
                  refine (specDevicesOk_any d26 _ _ _ w27 (HR27.out.get 1 rfl) (HR27.out.le 1 rfl) HLW.out).mono ?_
                  rintro e28 w28 ⟨rfl, hb28⟩
                  rw [HDB.out]
                  have HB28 := Lib.hid (HR27.out.below hb28).1
                  clear HR27 hb28
                  go_wp2_with fail
                  go_ret
                  exact ⟨rfl, HB28.out⟩
                · have hc' : (code != 0) = true := by simp [hc]
                  have HB28 := Lib.hid HR27.out.1
                  clear HR27
                  go_wp2_with fail
                  go_ret
                  exact ⟨rfl, HB28.out⟩

end Go.Proofs.YtmeholhmadeehaaGreatDoor

/- From the walk of a law to its row: a law that returns true and leaves what was there as it was. -/
namespace Go.Proofs.YtmeholhmadeehaaGreatDoor
open Go.ChangeShapes Go.WideShapes Go.ChangeAt Go.RowKit

theorem own_knob : ownKnob Tryz.prog.godebug = none := by kernel_rfl
theorem laid_out : laidOutB Tryz.prog = true := by kernel_rfl

theorem trodAll_below {H : Type} {enc : TypeId × Value → H} {P : Program} (hl : laidOutB P = true) {W W' : World} (hb : Below W.heap.size W W') :
    ∀ (ts : List TypeId) (vs : List Value) (ds : List (DataW H)) (ps : List MemPlace), (∀ t ∈ ts, P.readableRec t = true ∧ t < P.types.size) → (∀ x ∈ ps, x.block < W.heap.size) →
    DataW.TrodAll enc P W 0 (fun _ => true) true ts vs ds ps → DataW.TrodAll enc P W' 0 (fun b => decide (b < W.heap.size)) true ts vs ds ps
  | [], [], [], _, _, _, h => h
  | t :: ts, v :: vs, d :: ds, ps, hr, hlt, h => by
    obtain ⟨p, q, h1, h2, rfl⟩ := h
    exact ⟨p, q, Below.trod hl (hr t (by simp)).1 (hr t (by simp)).2 h1 hb (fun x hx => hlt x (by simp [hx])),
      trodAll_below hl hb ts vs ds q (fun t ht => hr t (by simp [ht])) (fun x hx => hlt x (by simp [hx])) h2, rfl⟩
  | [], [], _ :: _, _, _, _, h => h.elim
  | [], _ :: _, _, _, _, _, h => h.elim
  | _ :: _, [], _, _, _, _, h => h.elim
  | _ :: _, _ :: _, [], _, _, _, h => h.elim

/-- The row's end of a law. -/
theorem law_post {H : Type} {enc : TypeId × Value → H} {P : Program} {f : Func} {s : ChangeSpec} {W W' : World} {args : Array Value} {ds gs : List (DataW H)} {before : List MemPlace} {tb : TypeId}
    (hvars : s.vars = []) (hW : DataW.Whole enc P f.params.toList s.vars false W args.toList ds gs before)
    (hfn : s.fn H (ds ++ gs) = { results := [.lit (.bool true)], args := ds }) (hl : laidOutB P = true) (hr : ∀ t ∈ f.params.toList, P.readableRec t = true ∧ t < P.types.size)
    (hrt : f.resultTypes = #[tb]) (htb : P.underlying tb = some .bool) (hb : Below W.heap.size W W') :
    s.post enc P f false true false false W args (.bool true) W' := by
  have hW' := hW
  have hlt : ∀ p ∈ before, p.block < W.heap.size := fun p hp => hW.lt p hp
  obtain ⟨p, q, hA, hV, rfl, hfz, hnd⟩ := hW
  rw [hvars] at hV
  obtain ⟨rfl, rfl⟩ := trodVars_none hV
  refine ⟨ds, [], p ++ [], [], p, [], hW', ?_, ?_, ?_, hb.frame _, fun h => by cases h⟩
  · rw [hfn, hrt]
    exact trodAll_cons_mk (shut_bool htb _) trodAll_mk0
  · rw [hfn]
    exact trodAll_below hl hb _ _ _ _ hr (fun x hx => hlt x (by simp [hx])) hA
  · rw [hfn, hvars]; rfl

end Go.Proofs.YtmeholhmadeehaaGreatDoor

/- From the row's reading of an argument to the words of Mem: texts, lists of texts, lists of numbers, structs. -/
namespace Go.Proofs.YtmeholhmadeehaaGreatDoor
open Go.ChangeShapes Go.WideShapes Go.ChangeAt Go.RowKit

theorem block_of_cell {w : World} {a : Addr} {v : Value} (h : w.cell? a = some v) : a.block < w.heap.size ∧ a.spot = none := by
  unfold World.cell? at h
  split at h
  · rename_i c t f heq
    constructor
    · rcases Nat.lt_or_ge a.block w.heap.size with hlt | hge
      · exact hlt
      · rw [Array.getElem?_eq_none hge] at heq; cases heq
    · split at h
      · cases h
      · rename_i hs; simpa using hs
  · cases h

section
variable {H : Type} {enc : TypeId × Value → H} {P : Program} {w : World} {base : Nat} {held : Bool}

theorem open_strR {t e : TypeId} {fuel : Nat} {cs : List Value} {x : DataW H × List MemPlace} (ht : P.underlying t = some (.slice e)) (he : P.underlying e = some .string) (hc : P.cellsOf e = 1)
    (h : DataW.trod enc P w base (fun _ => true) held fuel t cs = some x) :
    ∃ (A : Option Addr) (cap : Nat) (xs : List ByteArray), cs = [.slice A xs.length cap] ∧ StrR w 0 w.heap.size A xs.length xs ∧ xs.length ≤ 9223372036854775807 ∧ ∀ s ∈ xs, s.size ≤ 9223372036854775807 := by
  rcases open_strings ht he hc h with ⟨rfl, _⟩ | ⟨a, len, cap, ss, rfl, _, hl, hm, hz, _, hcell, hws⟩
  · exact ⟨none, 0, [], rfl, ⟨rfl, fun h => by simp at h⟩, by simp, by simp⟩
  · simp only [if_true] at hz
    have hlen : (ss.take len).length = len := by rw [List.length_take]; omega
    refine ⟨some a, cap, ss.take len, by rw [hlen], ⟨rfl, fun hpos => ?_⟩, by rw [hlen]; unfold maxLen at hm; omega, fun s hs => by have := hws s (List.mem_of_mem_take hs); unfold maxLen at this; omega⟩
    rw [hlen] at hpos
    have h0 := block_of_cell (hcell 0 (by omega))
    have ha : a.add 0 = a := by simp [Addr.add]
    rw [ha] at h0
    obtain ⟨ab, ao, asp⟩ := a
    obtain ⟨h1, h2⟩ := h0
    simp only at h1 h2
    subst h2
    refine ⟨ab, ao, rfl, by omega, h1, fun j hj => ?_⟩
    rw [hlen] at hj
    have hj' := hcell j (by omega)
    have hadd : (⟨ab, ao, none⟩ : Addr).add j = ⟨ab, ao + j, none⟩ := by unfold Addr.add; split <;> simp_all
    rw [hadd] at hj'
    rw [hj']
    simp [List.getD_eq_getElem?_getD, hj]

theorem open_intR {t e : TypeId} {fuel : Nat} {cs : List Value} {x : DataW H × List MemPlace} (ht : P.underlying t = some (.slice e)) (he : P.underlying e = some (.int .i64)) (hc : P.cellsOf e = 1)
    (h : DataW.trod enc P w base (fun _ => true) held fuel t cs = some x) :
    ∃ (A : Option Addr) (cap : Nat) (xs : List Int), cs = [.slice A xs.length cap] ∧ IntR w 0 w.heap.size A xs.length xs ∧ xs.length ≤ 9223372036854775807 := by
  rcases open_ints ht he hc h with ⟨rfl, _⟩ | ⟨a, len, cap, ss, rfl, _, hl, hm, hz, _, hcell, hws⟩
  · exact ⟨none, 0, [], rfl, ⟨rfl, fun h => by simp at h⟩, by simp⟩
  · simp only [if_true] at hz
    have hlen : (ss.take len).length = len := by rw [List.length_take]; omega
    refine ⟨some a, cap, ss.take len, by rw [hlen], ⟨rfl, fun hpos => ?_⟩, by rw [hlen]; unfold maxLen at hm; omega⟩
    rw [hlen] at hpos
    have h0 := block_of_cell (hcell 0 (by omega))
    have ha : a.add 0 = a := by simp [Addr.add]
    rw [ha] at h0
    obtain ⟨ab, ao, asp⟩ := a
    obtain ⟨h1, h2⟩ := h0
    simp only at h1 h2
    subst h2
    refine ⟨ab, ao, rfl, by omega, h1, fun j hj => ?_⟩
    rw [hlen] at hj
    have hj' := hcell j (by omega)
    have hadd : (⟨ab, ao, none⟩ : Addr).add j = ⟨ab, ao + j, none⟩ := by unfold Addr.add; split <;> simp_all
    rw [hadd] at hj'
    rw [hj']
    simp [List.getD_eq_getElem?_getD, hj]

theorem open_str {t : TypeId} {fuel : Nat} {cs : List Value} {x : DataW H × List MemPlace} (ht : P.underlying t = some .string) (h : DataW.trod enc P w base (fun _ => true) held fuel t cs = some x) :
    ∃ s : ByteArray, cs = [.string s] ∧ s.size ≤ 9223372036854775807 := by
  obtain ⟨s, h1, _, h2⟩ := DataW.trod_string ht h
  exact ⟨s, h1, by unfold maxLen at h2; exact h2⟩

theorem open_i64 {t : TypeId} {fuel : Nat} {cs : List Value} {x : DataW H × List MemPlace} (ht : P.underlying t = some (.int .i64)) (h : DataW.trod enc P w base (fun _ => true) held fuel t cs = some x) :
    ∃ n : Int, cs = [.int .i64 n] ∧ -9223372036854775808 ≤ n ∧ n ≤ 9223372036854775807 := by
  obtain ⟨n, h1, _, h2⟩ := DataW.trod_int ht h
  refine ⟨n, h1, ?_⟩
  simp [Lit.wf, IntKind.min, IntKind.max, IntKind.signed, IntKind.bits] at h2
  exact ⟨by omega, by omega⟩

/-- A list is its parts. -/
theorem list7 {α : Type} {l : List α} (h : l.length = 7) : ∃ a b c d e f g, l = [a, b, c, d, e, f, g] := by
  match l, h with
  | [a, b, c, d, e, f, g], _ => exact ⟨a, b, c, d, e, f, g, rfl⟩
theorem list3 {α : Type} {l : List α} (h : l.length = 3) : ∃ a b c, l = [a, b, c] := by
  match l, h with
  | [a, b, c], _ => exact ⟨a, b, c, rfl⟩
end

end Go.Proofs.YtmeholhmadeehaaGreatDoor
