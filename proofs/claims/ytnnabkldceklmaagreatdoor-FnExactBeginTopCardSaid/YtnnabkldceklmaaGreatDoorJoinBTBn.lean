/- The program's walker walked. Printed by bto/wal.py. -/
import Derived.Test.YtnnabkldceklmaaGreatDoorJoinBTBk
set_option maxHeartbeats 16000000
set_option maxRecDepth 100000
namespace Go.Proofs.YtnnabkldceklmaaGreatDoor
open Go.RowKit
def outB (low high k : ByteArray) : Bool := ltS k low || (!decide (high.size = 0) && !ltS k high)
theorem any_out (p : TyPage) (low high : ByteArray) : (p.2.1.any fun k => outB low high k) = !keysIn p low high := by
 unfold keysIn
 rw [List.not_all_eq_any_not]
 congr 1
 funext k
 unfold outB
 cases ltS k low <;> cases decide (high.size = 0) <;> cases ltS k high <;> rfl
theorem empty_list (s : ByteArray) : (s.toList == []) = decide (s.size = 0) := by
 rw [ByteArray.toList_eq]
 by_cases h : s.size = 0
 ·rw [decide_eq_true h]
  have : s.data.toList = [] := List.eq_nil_of_length_eq_zero (by simpa using h)
  rw [this]; rfl
 ·rw [decide_eq_false h]
  have : s.data.toList ≠ [] := fun e => h (by have := congrArg List.length e; simpa using this)
  simpa using this
theorem walk1_pays (low high : ByteArray) (a b : Nat) (w : World) (ha : a < w.heap.size) (hb : b < w.heap.size) (hc : w.cell? ⟨a, 0, none⟩ = some (.string low)) (hd : w.cell? ⟨b, 0, none⟩ = some (.string high)) :
  PredAt Tryz.prog 174 #[.pointer (some ⟨a, 0, none⟩), .pointer (some ⟨b, 0, none⟩)] Value.string (outB low high) w := by
 intro W x hw
 unfold FnGives
 have f0 : W.cell? ⟨a, 0, none⟩ = some (.string low) := (hw.cell (p := ⟨a, 0, none⟩) ha).trans hc
 have f1 : W.cell? ⟨b, 0, none⟩ = some (.string high) := (hw.cell (p := ⟨b, 0, none⟩) hb).trans hd
 have hE := empty_list high
 obtain ⟨ANS, hANS⟩ : ∃ r, r = outB low high x := ⟨_, rfl⟩
 rw [← hANS]
 unfold outB ltS at hANS
 cases hL : Op.bytesLess x.toList low.toList <;> rw [hL] at hANS
 ·cases hS : decide (high.size = 0) <;> rw [hS] at hANS hE
  ·cases hH : Op.bytesLess x.toList high.toList <;> rw [hH] at hANS
   ·have HA := hd_ (show ANS = true from hANS)
    clear hANS hc hd hw hS
    go_enter Tryz.func174, Tryz.ntmps174
    go_wp2_with fail
    go_ret
    exact ⟨by rw [HA.out]; first | rfl | simp [hE], 0, rfl⟩
   ·have HA := hd_ (show ANS = false from hANS)
    clear hANS hc hd hw hS
    go_enter Tryz.func174, Tryz.ntmps174
    go_wp2_with fail
    go_ret
    exact ⟨by rw [HA.out]; first | rfl | simp [hE], 0, rfl⟩
  ·have HA := hd_ (show ANS = false from hANS)
   clear hANS hc hd hw hS
   go_enter Tryz.func174, Tryz.ntmps174
   go_wp2_with fail
   go_ret
   exact ⟨by rw [HA.out]; first | rfl | simp [hE], 0, rfl⟩
 ·have HA := hd_ (show ANS = true from hANS)
  clear hANS hc hd hw
  go_enter Tryz.func174, Tryz.ntmps174
  go_wp2_with fail
  go_ret
  exact ⟨by rw [HA.out]; first | rfl | simp [hE], 0, rfl⟩
theorem cfnStr (g : Nat) (lb : Array Value) (p : ByteArray → Bool) (eg : ∀ args w, (callFunc g args).run Tryz.prog w = .ok (.enter g args) w) (A : Option Addr) (c : Nat) (xs : List ByteArray) (lo hi : Nat) (w : World) (h : StrR w lo hi A xs.length xs) (hn : xs.length ≤ 1048576) (hp : PredAt Tryz.prog g lb Value.string p w) :
  Calls Tryz.prog 159 #[.slice A xs.length c, .func (.func g) #[] lb] w fun e w' => e = .returned (.bool (xs.any p)) ∧ Below w.heap.size w w' := by
 by_cases h0 : 0 < xs.length
 ·obtain ⟨b, off, rfl, hb1, hb2, hc⟩ := h.2 h0
  refine (Tryz.slices_ContainsFunc Value.string p g lb eg b off xs.length c xs w hp (Nat.le_refl _) (by omega) (fun j hj => by rw [hc j hj, List.getD_eq_getElem?_getD, List.getElem?_eq_getElem hj]; simp [hj])).mono ?_
  rintro e w' ⟨rfl, q, rfl⟩
  exact ⟨by rw [List.take_length], below_drewN' w q⟩
 ·have hx : xs = [] := List.eq_nil_of_length_eq_zero (by omega)
  subst hx
  refine (Tryz.slices_ContainsFunc_empty (α := ByteArray) A c (.func (.func g) #[] lb) w).mono ?_
  rintro e w' ⟨rfl, rfl⟩
  exact ⟨rfl, Below.refl _ _⟩
theorem WkI.outN {W W' : World} {b gp gs : Nat} {met : List Int} {dep : Option Nat} (h : WkI W b gp gs met dep) (hb : Below W.heap.size W W') : WkI W' b gp gs met dep := h.below hb h.1.lt h.2.lt
theorem walk_any (root : Int) (l : List TySlot) (lo hi gp gb gs b : Nat) (hib : hi ≤ b) (hgs : hi ≤ gs) (hbs : b ≠ gs) (hok : slotsTo l l.length = true) (_ : l.length ≤ 64) (hfit : ∀ s ∈ l, shSlot.fit 1048576 s) : ∀ (n d : Nat) (id : Int) (low high : ByteArray) (met : List Int) (dep : Option Nat) (W : World), d + n = 65 → unmet l met < n → met.length + unmet l met ≤ 64 → (∀ e, dep = some e → e ≤ 65) → (d = 0 ∧ id = root ∨ d ≠ 0 ∧ met.contains root = true) → PgsI W lo hi gp gb root l l.length → WkI W b gp gs met dep →
  Calls Tryz.prog 120 #[.pointer (some ⟨b, 0, none⟩), .int .i64 id, .string low, .string high, .int .i64 (d : Int)] W fun e W' => WnP b gp gs W (walkP l n d id low high (met, dep)) e W' := by
 intro n
 induction n with
 | zero => intro d id low high met dep W hd hu; exact absurd hu (Nat.not_lt_zero _)
 | succ n ih =>
  intro d id low high met dep W hd hu hsum hdep hroot hP hS
  have IH := hd_ ih; have HOKL := hd_ hok; have HFIT := hd_ hfit
  clear ih hfit hok
  obtain ⟨RES, hRES⟩ : ∃ r, r = walkP l (n + 1) d id low high (met, dep) := ⟨_, rfl⟩
  rw [← hRES]
  rw [walkP] at hRES
  dsimp only at hRES
  have HR0 := hd_ hRES
  have HDEP := hd_ hdep
  have HROOT := hd_ hroot
  clear hRES hdep hroot
  have hbW := hS.1.lt
  have hgW := hS.2.lt
  have hbA := ((Below.refl W.heap.size W).alloc (Nat.le_refl _) (.cells #[.string low] 9)).alloc (by simp) (.cells #[.string high] 9)
  have hzA : ((W.alloc (.cells #[.string low] 9)).alloc (.cells #[.string high] 9)).heap.size = W.heap.size + 1 + 1 := by simp
  have q0 := ((Blk.new W 9 #[.string low]).alloc (.cells #[.string high] 9)).cell 0
  have q1 := (Blk.new (W.alloc (.cells #[.string low] 9)) 9 #[.string high]).cell 0
  rw [heap_alloc_size1] at q1
  simp only [List.getElem?_toArray, List.getElem?_cons_zero] at q0 q1
  have HQ0 := hd_ q0; have HQ1 := hd_ q1
  have HPA := hd_ (hP.below hbA (by omega))
  have HSA := hd_ (hS.outN hbA)
  have HBA := hd_ hbA
  clear q0 q1 hP hS hbA
  go_enter Tryz.func120, Tryz.ntmps120
  go_upto_region 1 with fail
  generalize ((W.alloc (.cells #[.string low] 9)).alloc (.cells #[.string high] 9)) = WA at *
  obtain ⟨hgp1, hgb1, hgp, pb, hm, hpg⟩ := HPA.out
  have HPG := hd_ hpg
  have HGP := hd_ hgp
  have f := HSA.out.1.cell
  have fg := hgp.cell
  have hlk := map_look (T := 197) Tryz.underlying197 Tryz.underlying2 hm id true (.pointer none) (Tryz.zeroValue201 _)
  have hsk := map_look (T := 154) Tryz.underlying154 Tryz.underlying2 HSA.out.2 id false (.bool false) (Tryz.zeroValue4 _)
  rw [seenI] at hsk
  clear hpg hgp hm
  rcases pgs_find l pb id with ⟨hsl, hf⟩ | ⟨j, hj, hsl, hidj, hf⟩
  ·rw [hf] at hlk
   have hrn := HR0.out
   rw [hsl] at hrn
   have HRN := hd_ (show RES = none from hrn)
   clear hrn hf hsl HR0
   go_wp2_with fail
   go_ret
   exact ⟨(Out.refl _ _).below HBA.out, by rw [HRN.out]; rfl⟩
  rw [hf] at hlk
  have hrn := HR0.out
  rw [hsl] at hrn
  have HR1 := hd_ hrn
  have HSL := hd_ hsl
  clear hrn hf hsl HR0
  cases hc : met.contains id with
  | true =>
   rw [hc] at hsk
   have hrn := HR1.out
   dsimp only at hrn
   rw [if_pos hc] at hrn
   have HRN := hd_ hrn
   clear hrn hc HR1
   go_wp2_with fail
   go_ret
   exact ⟨(Out.refl _ _).below HBA.out, by rw [HRN.out]; rfl⟩
  | false =>
  rw [hc] at hsk
  have hrn := HR1.out
  dsimp only at hrn
  rw [if_neg (show ¬ (met.contains id = true) by rw [hc]; simp)] at hrn
  have HR2 := hd_ hrn
  clear hrn HR1
  have hul := unmet_less HSL.out hc
  obtain ⟨w4, hup, hm4, ho4, hs4⟩ := map_put (T := 154) Tryz.underlying154 Tryz.underlying2 HSA.out.2 id (.bool true) (fun p hp => by
   obtain ⟨x, hx, rfl⟩ := List.mem_map.1 hp
   rintro rfl
   have := List.contains_iff_mem.2 (List.mem_reverse.1 hx)
   rw [hc] at this; cases this)
  have hdr : (id != root) = decide (d ≠ 0) := by
   rcases HROOT.out with ⟨h1, h2⟩ | ⟨h1, h2⟩
   ·rw [h2, decide_eq_false (by omega)]; simp
   ·rw [decide_eq_true h1, bne_iff_ne]; rintro rfl; rw [hc] at h2; cases h2
  have HRT := hd_ (show (id :: met).contains root = true by
   rcases HROOT.out with ⟨h1, h2⟩ | ⟨h1, h2⟩
   ·rw [h2]; simp
   ·rw [List.contains_cons, h2, Bool.or_true])
  have HS4 := hd_ (show WkI w4 b gp gs (id :: met) dep from ⟨(ho4.block b (by omega) (fun h => hbs (List.mem_singleton.1 h))).trans HSA.out.1, by rw [List.reverse_cons, List.map_append]; exact hm4⟩)
  have HP4 := hd_ (HPA.out.outOf ho4 (by omega) (fun g hg => by have := List.mem_singleton.1 hg; omega))
  have hpg4 := (HPG.out j hj).keep (fun q h1 h2 => ho4.block q (by omega) (fun h => by have := List.mem_singleton.1 h; omega))
  have HQ0 := hd_ ((World.cell?_of_block (ho4.block W.heap.size (by omega) (fun h => by have := List.mem_singleton.1 h; omega))).trans HQ0.out)
  have HQ1 := hd_ ((World.cell?_of_block (ho4.block (W.heap.size + 1) (by omega) (fun h => by have := List.mem_singleton.1 h; omega))).trans HQ1.out)
  have HO4 := hd_ (show Out [b, gs] W w4 from ((Out.refl [b, gs] W).below HBA.out).trans ho4 (by simp))
  have hpok : pageP (l.getD j shSlot.d).2 = true := by
   have := slotsTo_at HOKL.out hj
   unfold slotB at this
   simp only [Bool.and_eq_true] at this
   exact this.1.2
  have hfk := HFIT.out _ (getD_in (d := shSlot.d) hj)
  clear hc hm4 ho4 HROOT HPG
  go_upto_region 5 with fail
  clear hup hlk hsk f fg HGP HSA HPA HBA
  obtain ⟨hpb1, vs, hpb, hpr⟩ := hpg4
  generalize l.getD j shSlot.d = X at *
  obtain ⟨y, p0, p1, p2, p3⟩ := X
  dsimp only at hpok hfk hpr HR2 HSL hidj
  obtain ⟨A1, c1, A2, c2, A3, c3, rfl, _, _, _⟩ := shPage_R.1 hpr
  obtain ⟨_, ⟨hn1, _⟩, ⟨hn2, _⟩, ⟨hn3, _⟩⟩ := (shPage_fit p0 p1 p2 p3).1 ((shSlot_fit y p0 p1 p2 p3).1 hfk).2
  have HKR := hd_ (rowR_of (shPage_f1 hpr))
  have HIR := hd_ (rowR_of (shPage_f3 hpr))
  have HPB := hd_ hpb
  have hpbw : pb j < w4.heap.size := by omega
  have fp := hpb.cell
  have HCF := hd_ (cfnStr 174 #[.pointer (some ⟨W.heap.size, 0, none⟩), .pointer (some ⟨W.heap.size + 1, 0, none⟩)] (outB low high) (enters_of Tryz.func174 (by kernel_rfl) rfl) A1 c1 p1 (gp + 1) hi w4 HKR.out hn1 (walk1_pays low high W.heap.size (W.heap.size + 1) w4 (by omega) (by omega) HQ0.out HQ1.out))
  rw [show (p1.any fun k => outB low high k) = !keysIn (p0, p1, p2, p3) low high from any_out (p0, p1, p2, p3) low high] at HCF
  have HPOK := hd_ hpok
  clear hpr hpb hpok hfk
  have hrn := HR2.out
  cases hki : keysIn (p0, p1, p2, p3) low high with
  | false =>
   rw [hki] at HCF hrn
   have HRN := hd_ (show RES = none from hrn)
   clear hrn HR2 hki
   go_wp2_with (first | fail | (refine HCF.out.mono ?_; rintro e5 w5 ⟨rfl, hb5⟩))
   go_ret
   exact ⟨HO4.out.below hb5, by rw [HRN.out]; rfl⟩
  | true =>
  rw [hki] at HCF hrn
  rw [if_neg (show ¬ ((true : Bool) = false) by simp)] at hrn
  have HR3 := hd_ hrn
  clear hrn hki HR2
  go_wp2_with fail
  refine HCF.out.mono ?_; rintro e5 w5 ⟨rfl, hb5⟩
  have hs5 := hb5.size
  have HS5 := hd_ (HS4.out.outN hb5)
  have HP5 := hd_ (HP4.out.below hb5 (by omega))
  have HPB5 := hd_ (HPB.out.below hb5 hpbw)
  have HKR5 := hd_ (HKR.out.below hb5 (by omega))
  have HIR5 := hd_ (HIR.out.below hb5 (by omega))
  have HQ05 := hd_ ((hb5.cell (p := ⟨W.heap.size, 0, none⟩) (by show W.heap.size < w4.heap.size; omega)).trans HQ0.out)
  have HQ15 := hd_ ((hb5.cell (p := ⟨W.heap.size + 1, 0, none⟩) (by show W.heap.size + 1 < w4.heap.size; omega)).trans HQ1.out)
  have HO5 := hd_ (HO4.out.below hb5)
  have hbw5 := HS5.out.1.lt
  have hgw5 := HS5.out.2.lt
  clear HCF HS4 HP4 HPB HKR HIR HQ0 HQ1 HO4 hb5 fp
  have fp := HPB5.out.cell
  have f := HS5.out.1.cell
  obtain ⟨-, -, hgp5, -⟩ := HP5.out
  have fg := hgp5.cell
  clear hgp5
  have hrn := HR3.out
  clear HR3
  cases p0 with
  | true =>
   have hfill : fillOf (true, p1, p2, p3) = p1.length := rfl
   rw [hfill] at hrn
   by_cases hsm : d ≠ 0 ∧ p1.length < 3
   ·rw [if_pos hsm] at hrn
    have HRN := hd_ hrn
    have i1 : (p1.length : Int) < 3 := by omega
    rw [decide_eq_true hsm.1] at hdr
    clear hrn hsm
    go_wp2_with fail
    go_ret
    exact ⟨HO5.out, by rw [HRN.out]; rfl⟩
   rw [if_neg hsm, if_pos (rfl : (true : Bool) = true)] at hrn
   have HRES := hd_ hrn
   clear hrn
   have hgo : (id != root) = false ∨ ((id != root) = true ∧ ¬ (p1.length : Int) < 3) := by
    rw [hdr]
    by_cases h0 : d = 0
    ·left; rw [decide_eq_false (by omega)]
    ·right; exact ⟨decide_eq_true h0, by omega⟩
   clear hsm hdr
   cases dep with
   | none =>
    have HRN := hd_ (show RES = some (id :: met, some d) from HRES.out)
    have hdj : depJ none = -1 := rfl
    rw [hdj] at f
    clear HRES
    have HST := hd_ (HS5.out.1.set_ 2 (.int .i64 d))
    have HFZ := hd_ (HS5.out.1.frozen 2)
    rcases hgo with hg | ⟨hg, i1⟩
    all_goals
     have z5 := HFZ.out
     go_wp2_with fail
     go_ret
     refine ⟨HO5.out.setCell (p := ⟨b, 2, none⟩) (List.mem_cons_self ..) _, ?_⟩
     rw [HRN.out]
     refine ⟨by first | rfl | simp, HST.out, HS5.out.2.same (Below.heap_setCell w5 ⟨b, 2, none⟩ _ gs (by dsimp only; omega))⟩
   | some e =>
    have hdj : depJ (some e) = (e : Int) := rfl
    rw [hdj] at f
    have he := HDEP.out e rfl
    have i2 : ¬ (e : Int) < 0 := by omega
    by_cases hed : e = d
    ·have hrn := HRES.out
     dsimp only at hrn
     rw [if_pos hed] at hrn
     have HRN := hd_ hrn
     have i3 : ((e : Int) == (d : Int)) = true := by rw [beq_iff_eq]; omega
     have i4 : (e == d) = true := by rw [beq_iff_eq]; exact hed
     have HED := hd_ hed
     clear hrn HRES hed
     rcases hgo with hg | ⟨hg, i1⟩
     all_goals
      go_wp2_with fail
      go_ret
      refine ⟨HO5.out, ?_⟩
      rw [HRN.out]
      exact ⟨by first | rfl | simp [HED.out], HS5.out⟩
    ·have hrn := HRES.out
     dsimp only at hrn
     rw [if_neg hed] at hrn
     have HRN := hd_ hrn
     have i3 : ((e : Int) == (d : Int)) = false := by rw [beq_eq_false_iff_ne]; omega
     have i4 : (e == d) = false := by rw [beq_eq_false_iff_ne]; exact hed
     have HED := hd_ hed
     clear hrn HRES hed
     rcases hgo with hg | ⟨hg, i1⟩
     all_goals
      go_wp2_with fail
      go_ret
      refine ⟨HO5.out, ?_⟩
      rw [HRN.out]
      first | rfl | simp [HED.out]
  | false =>
   have hfill : fillOf (false, p1, p2, p3) = p3.length := rfl
   rw [hfill] at hrn
   by_cases hsm : d ≠ 0 ∧ p3.length < 3
   ·rw [if_pos hsm] at hrn
    have HRN := hd_ hrn
    have i1 : (p3.length : Int) < 3 := by omega
    rw [decide_eq_true hsm.1] at hdr
    clear hrn hsm
    go_wp2_with fail
    go_ret
    exact ⟨HO5.out, by rw [HRN.out]; rfl⟩
   rw [if_neg hsm, if_neg (show ¬ ((false : Bool) = true) by simp)] at hrn
   have HRES := hd_ hrn
   clear hrn
   have hgo : (id != root) = false ∨ ((id != root) = true ∧ ¬ (p3.length : Int) < 3) := by
    rw [hdr]
    by_cases h0 : d = 0
    ·left; rw [decide_eq_false (by omega)]
    ·right; exact ⟨decide_eq_true h0, by omega⟩
   clear hsm hdr
   have hkk : p1.length + 1 = p3.length ∧ p3.length ≤ 6 ∧ 2 ≤ p3.length := by
    have h1 := HPOK.out
    unfold pageP at h1
    simp only [Bool.and_eq_true, decide_eq_true_eq, Bool.false_eq_true, if_false] at h1
    omega
   obtain ⟨hkk, hk6, hk2⟩ := hkk
   rcases hgo with hg | ⟨hg, i1⟩
   all_goals
    go_upto_region 16 with fail
    clear f fg
    go_wp2_with fail
    clear fp
    go_loopw [103] (fun i wr => ∃ (k : Nat) (m : List Int) (q : Option Nat), k ≤ p3.length ∧ i = .int .i64 k ∧ Hid (kidsTo (fun kid lo hi s => walkP l n (d + 1) kid lo hi s) (false, p1, p2, p3) low high k (id :: met, dep) = some (m, q)) ∧ (∀ e, q = some e → e ≤ 65) ∧ Hid (WkI wr b gp gs m q) ∧ Hid (Out [b, gs] w5 wr)) (fun i _ => p3.length - (intOf i).toNat)
    case atStart => exact ⟨0, id :: met, dep, Nat.zero_le _, rfl, hd_ rfl, HDEP.out, HS5, hd_ (Out.refl _ _)⟩
    case round =>
    obtain ⟨k, m, q, hk, rfl, hkt, hq65, hSr, hFr⟩ := hrel
    have hszr := hFr.out.size
    have hPr := HP5.out.outOf hFr.out (by omega) (fun g hg => by simp only [List.mem_cons, List.not_mem_nil, or_false] at hg; rcases hg with rfl | rfl <;> omega)
    have hkp : ∀ x, x < w5.heap.size → x ≠ b → x ≠ gs → wr.heap[x]? = w5.heap[x]? := fun x hx h1 h2 => hFr.out.block x hx (fun h => by simp only [List.mem_cons, List.not_mem_nil, or_false] at h; rcases h with h | h <;> contradiction)
    have fp := (show Blk wr (pb j) _ _ from (hkp (pb j) (by omega) (by omega) (by omega)).trans HPB5.out).cell
    have hKRr := HKR5.out.keep (fun x h1 h2 => hkp x (by omega) (by omega) (by omega))
    have hIRr := HIR5.out.keep (fun x h1 h2 => hkp x (by omega) (by omega) (by omega))
    have g0 := (World.cell?_of_block (hkp W.heap.size (by omega) (by omega) (by omega))).trans HQ05.out
    have g1 := (World.cell?_of_block (hkp (W.heap.size + 1) (by omega) (by omega) (by omega))).trans HQ15.out
    have hmm := kidsTo_met (fun id lo hi st st' h => walkP_met l n (d + 1) id lo hi st st' h) k _ _ hkt.out
    have hun := unmet_mono (l := l) hmm
    have hsm := kidsTo_sum (l := l) (fun id lo hi st st' h => walkP_sum l n (d + 1) id lo hi st st' h) k _ _ hkt.out
    have HRT2 := hd_ (show m.contains root = true from List.contains_iff_mem.2 (hmm root (List.contains_iff_mem.1 HRT.out)))
    dsimp only at hun hsm
    clear hkp hmm
    by_cases hlt : k < p3.length
    ·obtain ⟨ib, ioff, rfl, _, _, hkid⟩ := hIRr.at_ hlt
     have i3 : (k : Int) < (p3.length : Int) := by omega
     have h1p : 0 < p1.length := by omega
     obtain ⟨kb, koff, rfl, hkey⟩ : ∃ kb koff, A1 = some ⟨kb, koff, none⟩ ∧ ∀ j, j < p1.length → wr.cell? ⟨kb, koff + j, none⟩ = some (.string (p1.getD j bD)) := by
      obtain ⟨kb, koff, e, _, _, _⟩ := hKRr.at_ h1p
      refine ⟨kb, koff, e, fun j hj => ?_⟩
      obtain ⟨kb', koff', e', _, _, h⟩ := hKRr.at_ hj
      rw [e] at e'
      injection e' with e'; injection e' with e1 e2 e3; subst e1 e2
      exact h
     have hcomb : (k = 0 ∧ k < p1.length) ∨ (0 < k ∧ k < p1.length) ∨ (0 < k ∧ k = p1.length) := by omega
     rcases hcomb with ⟨hk0, hkl⟩ | ⟨hk0, hkl⟩ | ⟨hk0, hkl⟩
     ·have HK0 := hd_ hk0
      clear hk0
      have hk0 : ¬ 0 < k := by have := HK0.out; omega
      have i0 : ¬ (0 : Int) < (k : Int) := by omega
      have k8 : decide ((0 : Int) < (k : Int)) = false := by rw [decide_eq_false_iff_not]; omega
      have k9 : decide (0 < k) = false := by rw [decide_eq_false_iff_not]; omega
      have i4 : (k : Int) < (p1.length : Int) := by omega
      have hck : wr.cell? ⟨kb, koff + k, none⟩ = some (.string (p1.getD k bD)) := hkey k (by omega)
      have hnx := kidsTo_next hkt.out
      rw [show lowOf (false, p1, p2, p3) low k = low from if_neg (by omega), show highOf (false, p1, p2, p3) high k = (p1.getD k bD) from if_pos (by omega)] at hnx
      have hnx : kidsTo (fun kid lo hi s => walkP l n (d + 1) kid lo hi s) (false, p1, p2, p3) low high (k + 1) (id :: met, dep) = walkP l n (d + 1) (p3.getD k 0) low (p1.getD k bD) (m, q) := hnx
      have HC := hd_ (fun q0 : Nat => IH.out (d + 1) (p3.getD k 0) low (p1.getD k bD) m q (wr.drewN q0) (by omega) (by omega) (by simp only [List.length_cons] at hsm; omega) hq65 (.inr ⟨by omega, HRT2.out⟩) (hPr.below (below_drewN' wr q0) (by omega)) (hSr.out.outN (below_drewN' wr q0)))
      rw [show (((d + 1 : Nat) : Int)) = (d : Int) + 1 by omega] at HC
      have HFR := hFr
      have HSR := hSr
      clear hPr hSr hKRr hIRr hFr hkey
      have HM := hd_ (walkP_dep l n (d + 1) (p3.getD k 0) low (p1.getD k bD) (m, q) (by omega) hq65)
      cases hw : walkP l n (d + 1) (p3.getD k 0) low (p1.getD k bD) (m, q) with
      | none =>
       rw [hw] at HC hnx
       have HRN := hd_ (HRES.out.trans (kidsTo_none hnx _ (by omega)))
       clear hnx hw hkt HM
       generalize p3.getD k 0 = kid at *
       generalize p1.getD k bD = KH at *
       go_upto_region 19 with fail
       go_quiet (fail)
       go_wp2_with fail
       refine (HC.out _).mono ?_; rintro e9 w9 hdn
       obtain ⟨hF9, he9⟩ := hdn
       obtain rfl : e9 = .returned (.bool false) := he9
       have HF9 := hd_ hF9
       clear hF9 HC
       go_wp2_with fail
       go_ret
       exact ⟨((HO5.out.trans HFR.out (fun _ h => h)).below (below_drewN' wr _)).trans HF9.out (fun _ h => h), by rw [HRN.out]; rfl⟩
      | some s2 =>
       obtain ⟨m2, q2⟩ := s2
       rw [hw] at HC hnx
       have HM2 := HM.out _ hw
       have HN2 := hd_ hnx
       clear hnx hw hkt HM
       generalize p3.getD k 0 = kid at *
       generalize p1.getD k bD = KH at *
       go_upto_region 19 with fail
       go_quiet (fail)
       go_wp2_with fail
       refine (HC.out _).mono ?_; rintro e9 w9 hdn
       obtain ⟨hF9, he9, hS9⟩ := hdn
       obtain rfl : e9 = .returned (.bool true) := he9
       have HF9 := hd_ hF9; have HS9 := hd_ hS9
       clear hF9 hS9 HC
       go_wp2_with fail
       go_roundw
       case rel => exact ⟨k + 1, m2, q2, by omega, by go_num, HN2, HM2, HS9, hd_ ((HFR.out.below (below_drewN' wr _)).trans HF9.out (fun _ h => h))⟩
       case measure => simp [intOf]; omega
     ·have HK0 := hd_ hk0
      clear hk0
      have hk0 := HK0.out
      have i0 : (0 : Int) < (k : Int) := by omega
      have k8 : decide ((0 : Int) < (k : Int)) = true := decide_eq_true i0
      have k9 : decide (0 < k) = true := decide_eq_true hk0
      have k1 : IntKind.i64.wrap ((k : Int) - 1) = (k : Int) - 1 := IntWalk.i64_in _ (by omega)
      have k2 : ((k : Int) - 1).toNat = k - 1 := by omega
      have k3 : (0 : Int) ≤ (k : Int) - 1 := by omega
      have k6 : 1 ≤ k := by omega
      have k7 : (1 : Int) ≤ (k : Int) := by omega
      have k4 : (k : Int) - 1 < (p1.length : Int) := by omega
      have hpk : wr.cell? ⟨kb, koff + (k - 1), none⟩ = some (.string (p1.getD (k - 1) bD)) := hkey (k - 1) (by omega)
      have i4 : (k : Int) < (p1.length : Int) := by omega
      have hck : wr.cell? ⟨kb, koff + k, none⟩ = some (.string (p1.getD k bD)) := hkey k (by omega)
      have hnx := kidsTo_next hkt.out
      rw [show lowOf (false, p1, p2, p3) low k = (p1.getD (k - 1) bD) from if_pos (by omega), show highOf (false, p1, p2, p3) high k = (p1.getD k bD) from if_pos (by omega)] at hnx
      have hnx : kidsTo (fun kid lo hi s => walkP l n (d + 1) kid lo hi s) (false, p1, p2, p3) low high (k + 1) (id :: met, dep) = walkP l n (d + 1) (p3.getD k 0) (p1.getD (k - 1) bD) (p1.getD k bD) (m, q) := hnx
      have HC := hd_ (fun q0 : Nat => IH.out (d + 1) (p3.getD k 0) (p1.getD (k - 1) bD) (p1.getD k bD) m q (wr.drewN q0) (by omega) (by omega) (by simp only [List.length_cons] at hsm; omega) hq65 (.inr ⟨by omega, HRT2.out⟩) (hPr.below (below_drewN' wr q0) (by omega)) (hSr.out.outN (below_drewN' wr q0)))
      rw [show (((d + 1 : Nat) : Int)) = (d : Int) + 1 by omega] at HC
      have HFR := hFr
      have HSR := hSr
      clear hPr hSr hKRr hIRr hFr hkey
      have HM := hd_ (walkP_dep l n (d + 1) (p3.getD k 0) (p1.getD (k - 1) bD) (p1.getD k bD) (m, q) (by omega) hq65)
      cases hw : walkP l n (d + 1) (p3.getD k 0) (p1.getD (k - 1) bD) (p1.getD k bD) (m, q) with
      | none =>
       rw [hw] at HC hnx
       have HRN := hd_ (HRES.out.trans (kidsTo_none hnx _ (by omega)))
       clear hnx hw hkt HM
       generalize p3.getD k 0 = kid at *
       generalize p1.getD k bD = KH at *
       generalize p1.getD (k - 1) bD = KL at *
       go_upto_region 19 with fail
       go_quiet (fail)
       go_wp2_with fail
       refine (HC.out _).mono ?_; rintro e9 w9 hdn
       obtain ⟨hF9, he9⟩ := hdn
       obtain rfl : e9 = .returned (.bool false) := he9
       have HF9 := hd_ hF9
       clear hF9 HC
       go_wp2_with fail
       go_ret
       exact ⟨((HO5.out.trans HFR.out (fun _ h => h)).below (below_drewN' wr _)).trans HF9.out (fun _ h => h), by rw [HRN.out]; rfl⟩
      | some s2 =>
       obtain ⟨m2, q2⟩ := s2
       rw [hw] at HC hnx
       have HM2 := HM.out _ hw
       have HN2 := hd_ hnx
       clear hnx hw hkt HM
       generalize p3.getD k 0 = kid at *
       generalize p1.getD k bD = KH at *
       generalize p1.getD (k - 1) bD = KL at *
       go_upto_region 19 with fail
       go_quiet (fail)
       go_wp2_with fail
       refine (HC.out _).mono ?_; rintro e9 w9 hdn
       obtain ⟨hF9, he9, hS9⟩ := hdn
       obtain rfl : e9 = .returned (.bool true) := he9
       have HF9 := hd_ hF9; have HS9 := hd_ hS9
       clear hF9 hS9 HC
       go_wp2_with fail
       go_roundw
       case rel => exact ⟨k + 1, m2, q2, by omega, by go_num, HN2, HM2, HS9, hd_ ((HFR.out.below (below_drewN' wr _)).trans HF9.out (fun _ h => h))⟩
       case measure => simp [intOf]; omega
     ·have HK0 := hd_ hk0
      clear hk0
      have hk0 := HK0.out
      have i0 : (0 : Int) < (k : Int) := by omega
      have k8 : decide ((0 : Int) < (k : Int)) = true := decide_eq_true i0
      have k9 : decide (0 < k) = true := decide_eq_true hk0
      have k1 : IntKind.i64.wrap ((k : Int) - 1) = (k : Int) - 1 := IntWalk.i64_in _ (by omega)
      have k2 : ((k : Int) - 1).toNat = k - 1 := by omega
      have k3 : (0 : Int) ≤ (k : Int) - 1 := by omega
      have k6 : 1 ≤ k := by omega
      have k7 : (1 : Int) ≤ (k : Int) := by omega
      have k4 : (k : Int) - 1 < (p1.length : Int) := by omega
      have hpk : wr.cell? ⟨kb, koff + (k - 1), none⟩ = some (.string (p1.getD (k - 1) bD)) := hkey (k - 1) (by omega)
      have i4 : ¬ (k : Int) < (p1.length : Int) := by omega
      have k5 : decide ((k : Int) < (p1.length : Int)) = false := decide_eq_false i4
      have HKL := hd_ hkl
      clear hkl
      have hnx := kidsTo_next hkt.out
      rw [show lowOf (false, p1, p2, p3) low k = (p1.getD (k - 1) bD) from if_pos (by omega), show highOf (false, p1, p2, p3) high k = high from if_neg (by have := HKL.out; show ¬ k < p1.length; omega)] at hnx
      have hnx : kidsTo (fun kid lo hi s => walkP l n (d + 1) kid lo hi s) (false, p1, p2, p3) low high (k + 1) (id :: met, dep) = walkP l n (d + 1) (p3.getD k 0) (p1.getD (k - 1) bD) high (m, q) := hnx
      have HC := hd_ (fun q0 : Nat => IH.out (d + 1) (p3.getD k 0) (p1.getD (k - 1) bD) high m q (wr.drewN q0) (by omega) (by omega) (by simp only [List.length_cons] at hsm; omega) hq65 (.inr ⟨by omega, HRT2.out⟩) (hPr.below (below_drewN' wr q0) (by omega)) (hSr.out.outN (below_drewN' wr q0)))
      rw [show (((d + 1 : Nat) : Int)) = (d : Int) + 1 by omega] at HC
      have HFR := hFr
      have HSR := hSr
      clear hPr hSr hKRr hIRr hFr hkey
      have HM := hd_ (walkP_dep l n (d + 1) (p3.getD k 0) (p1.getD (k - 1) bD) high (m, q) (by omega) hq65)
      cases hw : walkP l n (d + 1) (p3.getD k 0) (p1.getD (k - 1) bD) high (m, q) with
      | none =>
       rw [hw] at HC hnx
       have HRN := hd_ (HRES.out.trans (kidsTo_none hnx _ (by have := HKL.out; omega)))
       clear hnx hw hkt HM
       generalize p3.getD k 0 = kid at *
       generalize p1.getD (k - 1) bD = KL at *
       go_upto_region 19 with fail
       go_quiet (fail)
       go_wp2_with fail
       refine (HC.out _).mono ?_; rintro e9 w9 hdn
       obtain ⟨hF9, he9⟩ := hdn
       obtain rfl : e9 = .returned (.bool false) := he9
       have HF9 := hd_ hF9
       clear hF9 HC
       go_wp2_with fail
       go_ret
       exact ⟨((HO5.out.trans HFR.out (fun _ h => h)).below (below_drewN' wr _)).trans HF9.out (fun _ h => h), by rw [HRN.out]; rfl⟩
      | some s2 =>
       obtain ⟨m2, q2⟩ := s2
       rw [hw] at HC hnx
       have HM2 := HM.out _ hw
       have HN2 := hd_ hnx
       clear hnx hw hkt HM
       generalize p3.getD k 0 = kid at *
       generalize p1.getD (k - 1) bD = KL at *
       go_upto_region 19 with fail
       go_quiet (fail)
       go_wp2_with fail
       refine (HC.out _).mono ?_; rintro e9 w9 hdn
       obtain ⟨hF9, he9, hS9⟩ := hdn
       obtain rfl : e9 = .returned (.bool true) := he9
       have HF9 := hd_ hF9; have HS9 := hd_ hS9
       clear hF9 hS9 HC
       go_wp2_with fail
       go_roundw
       case rel => exact ⟨k + 1, m2, q2, by omega, by go_num, HN2, HM2, HS9, hd_ ((HFR.out.below (below_drewN' wr _)).trans HF9.out (fun _ h => h))⟩
       case measure => simp [intOf]; omega
    ·obtain rfl : k = p3.length := by omega
     have i3 : ¬ (p3.length : Int) < (p3.length : Int) := by omega
     have HRN := hd_ (show RES = some (m, q) from HRES.out.trans hkt.out)
     clear hPr hKRr hIRr hkt
     go_wp2_with fail
     go_ret
     refine ⟨HO5.out.trans hFr.out (fun _ h => h), ?_⟩
     rw [HRN.out]
     exact ⟨rfl, hSr.out⟩
end Go.Proofs.YtnnabkldceklmaaGreatDoor
