/- The reference's l16Down walked: down a B-tree. -/
import Derived.Test.YtnnabkldceklmaaGreatDoorJoinBTAn
namespace Go.Proofs.YtnnabkldceklmaaGreatDoor
open Go.RowKit
set_option maxHeartbeats 16000000 in
set_option maxRecDepth 100000 in
theorem l16Down_any (root : Int) (A : Option Addr) (c : Nat) (l : List TySlot) (lo hi b : Nat) (hib : hi ≤ b) (hok : slotsTo l l.length = true) (hn : l.length ≤ 64) (hfit : ∀ s ∈ l, shSlot.fit 1048576 s) : ∀ (n d : Nat) (id : Int) (low high : ByteArray) (mv : Value) (met : List Int) (dep : Option Nat) (W : World), d + n = 65 → unmet l met < n → met.length + unmet l met ≤ 64 → (Sh.row 85 shSlot).R W lo hi [.slice A l.length c] l → WkS W b root A c l.length mv met dep →
  Calls Tryz.prog 96 #[.pointer (some ⟨b, 0, none⟩), .int .i64 id, .int .i64 ((d : Int) + 1), .string low, .string high] W fun e W' => DnP b root A c l.length mv W (walkP l n d id low high (met, dep)) e W' := by
 intro n
 induction n with
 | zero => intro d id low high mv met dep W hd hu; exact absurd hu (Nat.not_lt_zero _)
 | succ n ih =>
  intro d id low high mv met dep W hd hu hsum hR hS
  have IH := hd_ ih; have HOKL := hd_ hok; have HFIT := hd_ hfit
  clear ih hfit
  obtain ⟨RES, hRES⟩ : ∃ r, r = walkP l (n + 1) d id low high (met, dep) := ⟨_, rfl⟩
  rw [← hRES]
  rw [walkP] at hRES
  dsimp only at hRES
  obtain ⟨hBk, hO⟩ := hS
  have hbW := hBk.lt
  have hO' := hO
  obtain ⟨⟨AM, cM, hmv⟩, _⟩ := hO'
  rw [List.length_reverse] at hmv
  subst hmv
  have hml : met.length ≤ 64 := by omega
  have hob : ∀ g, (Value.slice AM met.length cM).ownBlock = some g → b + 1 ≤ g ∧ g < W.heap.size := fun g hg => hO.blockGe hg
  have f := hBk.cell
  have HAT := hd_ (l16At_any root A c l id lo hi W hR (by omega) (by omega))
  have f0 := hBk.cell 0; have f1 := hBk.cell 1
  simp only [List.getElem?_toArray, List.getElem?_cons_zero, List.getElem?_cons_succ] at f0 f1
  have HBk := hd_ hBk; have HO := hd_ hO; have HR := hd_ hR; have HOB := hd_ hob
  have HRES := hd_ hRES
  clear hBk hO hR hok f hRES hob
  go_enter Tryz.func96, Tryz.ntmps96
  go_wp2_with fail
  refine HAT.out.mono ?_; rintro e1 W1 ⟨r, rfl, hat, hb1⟩
  have hs1 := hb1.size
  have HB1 := hd_ hb1
  have hBk1 := HBk.out.below hb1 hbW
  have HO1 := hd_ (HO.out.below hb1)
  clear HAT f0 f1 hb1
  have f2 := hBk1.cell 2
  simp only [List.getElem?_toArray, List.getElem?_cons_zero, List.getElem?_cons_succ] at f2
  have HBk1 := hd_ hBk1
  clear hBk1
  rcases hat with ⟨rfl, hnone⟩ | ⟨k, hk, rfl, hsome, hidk⟩
  ·have hrn := HRES.out
   rw [hnone] at hrn
   have hrn : RES = none := hrn
   have HRN := hd_ hrn
   clear hrn hnone HRES
   go_wp2_with fail
   go_ret
   exact ⟨_, (Fr.refl _ _ _).below HB1.out, by rw [HRN.out]; rfl⟩
  have hrn := HRES.out
  rw [hsome] at hrn
  have HRES := hd_ hrn
  clear hrn
  have HSOME := hd_ hsome; clear hsome
  have HAS := hd_ (l00Has_any AM cM met.reverse id (b + 1) W1.heap.size W1 (by rw [List.length_reverse]; exact HO1.out.reads (d := 0)) (by rw [List.length_reverse]; omega))
  rw [List.length_reverse, show met.reverse.contains id = met.contains id by simp] at HAS
  cases hc : met.contains id with
  | true =>
   have hrn := HRES.out
   dsimp only at hrn
   rw [if_pos hc] at hrn
   have HRN := hd_ hrn
   rw [hc] at HAS
   clear hrn hc HRES
   go_wp2_with (first | fail | (refine HAS.out.mono ?_; rintro e2 w2 ⟨rfl, rfl⟩))
   go_ret
   exact ⟨_, (Fr.refl _ _ _).below HB1.out, by rw [HRN.out]; rfl⟩
  | false =>
   have hrn := HRES.out
   dsimp only at hrn
   rw [if_neg (by rw [hc]; simp)] at hrn
   have HRES := hd_ hrn
   have hul := unmet_less HSOME.out hc
   have hd63 : (d : Int) + 1 ≤ 64 := by omega
   have hd63n : ¬ (64 : Int) < (d : Int) + 1 := by omega
   rw [hc] at HAS
   clear hrn hc
   have HP := hd_ (show (l.getD k (0, shPage.d)).2 = (l.getD k shSlot.d).2 from rfl)
   have hslot := slotsTo_at HOKL.out hk
   have hpok : pageP (l.getD k (0, shPage.d)).2 = true := by
    unfold slotB at hslot
    simp only [Bool.and_eq_true] at hslot
    exact hslot.1.2
   have hfk := HFIT.out _ (getD_in (d := shSlot.d) hk)
   have hbW1 : b < W1.heap.size := by omega
   have hml2 : met.reverse.length ≤ 1000000000 := by rw [List.length_reverse]; omega
   have HAPP := fun (ops : Array Oper) (rest : List Oper) (o : Oper) (a : Go.Act) (Q : Exit → Go.Act → World → Prop) (hgd : o.guard = none) (ho : o.op = .call { callee := .builtin .append, args := #[.tmp 41, .tmp 43], argTypes := #[29, 29] }) (hs : a.eval (.tmp 41) = .slice AM met.length cM) (hx : a.eval (.tmp 43) = .slice (some ⟨W1.heap.size, 0, none⟩) 1 1) => wpList_app1O (P := Tryz.prog) (ops := ops) (rest := rest) (o := o) (a := a) (Q := Q) (enc := encI) hgd (.tmp 41) (.tmp 43) 29 2 ho Tryz.underlying29 rfl (by omega) (fun _ => rfl) infoI8 W1 (b + 1) _ met.reverse id hs HO1.out hx hml2 (by omega)
   rw [List.length_reverse] at HAPP
   have HAPP := hd_ HAPP
   go_upto_region 5 with (first
    | fail
    | (refine HAS.out.mono ?_; rintro e2 w2 ⟨rfl, rfl⟩)
    | (at_builtin; refine HAPP.out _ _ _ _ _ rfl rfl rfl rfl ?_; intro g3 cap3 w3 hO3 hout3 hor3; have hB3 := HBk1.out.out_ hout3 (fun h => by have := (HOB.out b (Option.mem_toList.1 h)).1; omega); have f3 := hB3.cell 2; have z3 := hB3.frozen 2))
   clear f3 z3 HAS HAPP
   have hsz4 : (w3.setCell ⟨b, 2, none⟩ (.slice (some ⟨g3, 0, none⟩) (met.length + 1) cap3)).heap.size = w3.heap.size := by simp [World.setCell]
   have hS4 : WkS (w3.setCell ⟨b, 2, none⟩ (.slice (some ⟨g3, 0, none⟩) (met.length + 1) cap3)) b root A c l.length (.slice (some ⟨g3, 0, none⟩) (met.length + 1) cap3) (id :: met) dep := by
    refine ⟨hB3.set_ 2 _, ?_⟩
    rw [List.reverse_cons]
    refine hO3.same fun g hg => ?_
    have hge := hO3.blockGe hg
    exact Below.heap_setCell w3 ⟨b, 2, none⟩ _ g (by dsimp only; omega)
   have hF4 : Fr b (Value.slice AM met.length cM).ownBlock W (some g3) (w3.setCell ⟨b, 2, none⟩ (.slice (some ⟨g3, 0, none⟩) (met.length + 1) cap3)) := by
    refine ((Fr.refl _ _ _).below HB1.out).trans ⟨(hout3.more fun q hq => List.mem_cons_of_mem _ hq).setCell (p := ⟨b, 2, none⟩) (List.mem_cons_self ..) _, ?_⟩
    rcases hor3 with e | e
    ·exact .inl e.symm
    ·exact .inr fun g hg => by injection hg with hg; omega
   have hbe4 := hF4.toBelow hbW (fun g hg => by have := (HOB.out g hg).1; omega)
   have hR4 := (Sh.row 85 shSlot).R_below HR.out hbe4 hib
   have hbw4 : b < (w3.setCell ⟨b, 2, none⟩ (.slice (some ⟨g3, 0, none⟩) (met.length + 1) cap3)).heap.size := hS4.1.lt
   clear hB3 hO3 hout3 hor3 hsz4 hbe4 HBk1 HO1
   generalize (w3.setCell ⟨b, 2, none⟩ (.slice (some ⟨g3, 0, none⟩) (met.length + 1) cap3)) = w4 at *
   obtain ⟨-, b', off', rfl, hb1', hb2', A2, c2, A3, c3, A4, c4, e0, e1, e2, e3, e4, hX⟩ := shSlot_at hR4 hk
   have hdd : ((0, shPage.d) : TySlot) = shSlot.d := rfl
   rw [hdd] at HSOME hpok HRES hidk
   clear HP hdd hslot
   generalize l.getD k shSlot.d = X at *
   obtain ⟨y, p0, p1, p2, p3⟩ := X
   dsimp only at e0 e1 e2 e3 e4 hpok HRES hidk HSOME hfk hX
   have HONE := hd_ (show ∀ u ∈ (#[.bool p0, .slice A2 p1.length c2, .slice A3 p2.length c3, .slice A4 p3.length c4] : Array Value).toList, u.oneCell' = true from by
    intro u hu; simp only [List.mem_cons, List.not_mem_nil, or_false] at hu; rcases hu with rfl | rfl | rfl | rfl <;> rfl)
   have f0 := hS4.1.cell 0; have f1 := hS4.1.cell 1
   simp only [List.getElem?_toArray, List.getElem?_cons_zero, List.getElem?_cons_succ] at f0 f1
   have HN := hd_ (Blk.new w4 83 zz11)
   have HX := hd_ hX; have HS4 := hd_ hS4; have HF4 := hd_ hF4; have HR4 := hd_ hR4
   have i1 : (k : Int) < (l.length : Int) := by omega
   clear hX hS4 hF4 hR4
   go_upto_region 6 with (first | fail | (refine wpList_storeAll rfl 83 (.tmp 12) (.tmp 55) rfl w4.heap.size #[.bool p0, .slice A2 p1.length c2, .slice A3 p2.length c3, .slice A4 p3.length c4] rfl rfl HN.out (by kernel_rfl) rfl HONE.out ?_; intro w5 hb5 ho5 hz5))
   have hbW4 := HS4.out.1.lt
   have hg3 := HS4.out.2.blockGe (g := g3) rfl
   have hBE5 : Below w4.heap.size w4 w5 := ((Below.refl w4.heap.size w4).alloc (Nat.le_refl _) _).trans (ho5.below1 (Nat.le_refl _) (by rw [heap_alloc_size1]; omega))
   have hs5 : w4.heap.size < w5.heap.size := by rw [hz5, heap_alloc_size1]; omega
   have HB5 := hd_ hb5
   have HS5 := hd_ (show WkS w5 b root (some ⟨b', off', none⟩) c l.length (.slice (some ⟨g3, 0, none⟩) (met.length + 1) cap3) (id :: met) dep from ⟨HS4.out.1.below hBE5 hbW4, HS4.out.2.below hBE5⟩)
   have HF5 := hd_ (HF4.out.below hBE5)
   have HR5 := hd_ ((Sh.row 85 shSlot).R_below HR4.out hBE5 (by omega))
   have hpg := shSlot_f1 HX.out
   have HKR := hd_ ((rowR_of (shPage_f1 hpg)).below hBE5 (by omega))
   have HIR := hd_ ((rowR_of (shPage_f3 hpg)).below hBE5 (by omega))
   obtain ⟨_, _, ⟨hn1, ht1⟩, ⟨_, _⟩, ⟨hn3, _⟩⟩ := hfk
   dsimp only at hn1 ht1 hn3
   have hkeys : keysAll p1 = true := by
    unfold pageP at hpok; rw [Bool.and_eq_true] at hpok; exact hpok.1
   obtain ⟨KI, hKI⟩ : ∃ x, x = keysIn (p0, p1, p2, p3) low high := ⟨_, rfl⟩
   have hki := keysIn_ends (p := (p0, p1, p2, p3)) (low := low) (high := high) hkeys
   rw [← hKI] at hki
   dsimp only at hki
   have HKI := hd_ hki
   have hrn := HRES.out
   rw [← hKI] at hrn
   have HRES := hd_ hrn
   have HHE := hd_ (show (high.toList == []) = decide (high.size = 0) from by
    rw [ByteArray.toList_eq, Bool.eq_iff_iff]; simp [← ByteArray.size_data])
   clear hpg hkeys hki hKI hrn HS4 HF4 HR4 HX HN HONE f0 f1 e0 e1 e2 e3 e4 hb5 ho5 hz5 hBE5
   have g0 := HB5.out.cell 0; have g1 := HB5.out.cell 1; have g3' := HB5.out.cell 3
   simp only [List.getElem?_toArray, List.getElem?_cons_zero, List.getElem?_cons_succ] at g0 g1 g3'
   go_upto_region 7 with fail
   go_cut [82] (fun bb wr => bb = .bool (!KI) ∧ w5 = wr)
   case first =>
    by_cases h0 : p1.length = 0
    ·have HK := hd_ (show KI = true by rw [HKI.out, decide_eq_true h0]; rfl)
     have i0 : ¬ (0 : Int) < (p1.length : Int) := by omega
     clear h0
     go_wp2_with fail
     go_meet
     case rel => exact ⟨by rw [HK.out]; rfl, rfl⟩
    ·obtain ⟨kb, koff, rfl, _, _, hc0⟩ := HKR.out.at_ (show 0 < p1.length by omega)
     have hcl : w5.cell? ⟨kb, koff + (p1.length - 1), none⟩ = some (.string (p1.getD (p1.length - 1) bD)) := by
      obtain ⟨kb', koff', e, _, _, h⟩ := HKR.out.at_ (show p1.length - 1 < p1.length by omega)
      injection e with e; injection e with e1 e2 e3; subst e1 e2
      exact h
     rw [Nat.add_zero] at hc0
     have i0 : (0 : Int) < (p1.length : Int) := by omega
     have k1 : IntKind.i64.wrap ((p1.length : Int) - 1) = (p1.length : Int) - 1 := IntWalk.i64_in _ (by omega)
     have k2 : ((p1.length : Int) - 1).toNat = p1.length - 1 := by omega
     have k3 : (0 : Int) ≤ (p1.length : Int) - 1 := by omega
     have k6 : 1 ≤ p1.length := by omega
     have k7 : (1 : Int) ≤ (p1.length : Int) := by omega
     have k4 : (p1.length : Int) - 1 < (p1.length : Int) := by omega
     have hk := HKI.out
     rw [decide_eq_false h0, Bool.false_or] at hk
     unfold ltS at hk
     have hhe := HHE.out
     have hc0 : w5.cell? ⟨kb, koff, none⟩ = some (.string (p1.getD 0 bD)) := hc0
     generalize p1.getD 0 bD = X0 at *
     generalize p1.getD (p1.length - 1) bD = XL at *
     cases hl0 : Op.bytesLess X0.toList low.toList with
     | true =>
      rw [hl0] at hk
      have HK := hd_ (show KI = false from hk)
      clear hk hhe
      go_wp2_with fail
      go_meet
      case rel => exact ⟨by rw [HK.out]; rfl, rfl⟩
     | false =>
      rw [hl0, Bool.not_false, Bool.true_and] at hk
      cases hhz : (high.toList == []) with
      | true =>
       rw [hhz] at hhe
       have HK := hd_ (show KI = true by rw [hk, ← hhe]; rfl)
       have hhn : (high.toList != []) = false := by simp [bne, hhz]
       clear hk hhe
       go_wp2_with fail
       go_meet
       case rel => exact ⟨by rw [HK.out]; rfl, rfl⟩
      | false =>
       rw [hhz] at hhe
       rw [← hhe, Bool.false_or] at hk
       have hhn : (high.toList != []) = true := by simp [bne, hhz]
       cases hl1 : Op.bytesLess XL.toList high.toList with
       | true =>
        rw [hl1] at hk
        have HK := hd_ hk
        clear hk hhe
        go_wp2_with fail
        go_meet
        case rel => exact ⟨by rw [HK.out]; rfl, rfl⟩
       | false =>
        rw [hl1] at hk
        have HK := hd_ hk
        clear hk hhe
        go_wp2_with fail
        go_meet
        case rel => exact ⟨by rw [HK.out]; rfl, rfl⟩
   case rest =>
    obtain ⟨rfl, rfl⟩ := hcut
    cases KI with
    | false =>
     have hrn := HRES.out
     rw [if_pos rfl] at hrn
     have HRN := hd_ hrn
     clear hrn
     go_wp2_with fail
     go_ret
     exact ⟨_, HF5.out, by rw [HRN.out]; rfl⟩
    | true =>
     have hrn := HRES.out
     rw [if_neg (by simp)] at hrn
     have HRES := hd_ hrn
     clear hrn HKI HHE
     have hB5 := HS5.out.1
     have s3 := hB5.cell 3; have z3 := hB5.frozen 3
     simp only [List.getElem?_toArray, List.getElem?_cons_zero, List.getElem?_cons_succ] at s3
     have hdn := hd63
     have hsS := hg3
     cases p0 with
     | true =>
      have hrn := HRES.out
      have hfo : fillOf (true, p1, p2, p3) = p1.length := rfl
      rw [hfo] at hrn
      (try dsimp only at hrn)
      have HSTO := hd_ (fun (dp : Option Nat) (v : Int) (hv : v = depI dp) => show WkS (w5.setCell ⟨b, 3, none⟩ (.int .i64 v)) b root (some ⟨b', off', none⟩) c l.length (.slice (some ⟨g3, 0, none⟩) (met.length + 1) cap3) (id :: met) dp ∧ Fr b (Value.slice AM met.length cM).ownBlock W (some g3) (w5.setCell ⟨b, 3, none⟩ (.int .i64 v)) from by
       subst hv
       refine ⟨⟨HS5.out.1.set_ 3 _, HS5.out.2.same fun g hg => ?_⟩, HF5.out.trans ⟨(Out.refl _ _).setCell (p := ⟨b, 3, none⟩) (List.mem_cons_self ..) _, .inl rfl⟩⟩
       have hge := HS5.out.2.blockGe hg
       exact Below.heap_setCell w5 ⟨b, 3, none⟩ _ g (by dsimp only; omega))
      cases dep with
      | none =>
       replace s3 : w5.cell? ⟨b, 3, none⟩ = some (.int .i64 0) := s3
       by_cases hd0 : d = 0
       ·have q1 : ((d : Int) + 1 == 1) = true := by rw [beq_iff_eq]; omega
        have HRN := hd_ (show RES = some (id :: met, some d) by rw [hrn, if_neg (fun h => h.1 hd0)]; rfl)
        clear hrn
        obtain ⟨hws, hfr⟩ := HSTO.out (some d) 1 (by show (1 : Int) = (d : Int) + 1; omega)
        have HWS := hd_ hws; have HFR := hd_ hfr
        clear hws hfr HSTO
        have g0' : (w5.setCell ⟨b, 3, none⟩ (.int .i64 1)).cell? ⟨w4.heap.size, 1, none⟩ = some (.slice A2 p1.length c2) := (HB5.out.far (by dsimp only; omega) _).cell 1
        go_wp2_with fail
        go_ret
        exact ⟨_, HFR.out, by rw [HRN.out]; exact ⟨rfl, _, rfl, HWS.out⟩⟩
       ·have q1 : ((d : Int) + 1 == 1) = false := by rw [beq_eq_false_iff_ne]; omega
        obtain ⟨hws, hfr⟩ := HSTO.out (some d) ((d : Int) + 1) rfl
        have HWS := hd_ hws; have HFR := hd_ hfr
        clear hws hfr HSTO
        have g0' : (w5.setCell ⟨b, 3, none⟩ (.int .i64 ((d : Int) + 1))).cell? ⟨w4.heap.size, 1, none⟩ = some (.slice A2 p1.length c2) := (HB5.out.far (by dsimp only; omega) _).cell 1
        by_cases hf3 : p1.length < 3
        ·have q2 : ¬ (3 : Int) ≤ (p1.length : Int) := by omega
         have HRN := hd_ (show RES = none by rw [hrn, if_pos ⟨hd0, hf3⟩])
         clear hrn
         go_wp2_with fail
         go_ret
         exact ⟨_, HFR.out, by rw [HRN.out]; rfl⟩
        ·have q2 : (3 : Int) ≤ (p1.length : Int) := by omega
         have HRN := hd_ (show RES = some (id :: met, some d) by rw [hrn, if_neg (fun h => hf3 h.2)]; rfl)
         clear hrn
         go_wp2_with fail
         go_ret
         exact ⟨_, HFR.out, by rw [HRN.out]; exact ⟨rfl, _, rfl, HWS.out⟩⟩
      | some e =>
       replace s3 : w5.cell? ⟨b, 3, none⟩ = some (.int .i64 ((e : Int) + 1)) := s3
       have q0 : ((e : Int) + 1 == 0) = false := by rw [beq_eq_false_iff_ne]; omega
       clear HSTO
       by_cases hed : e = d
       ·subst hed
        have q3 : ((e : Int) + 1 == (e : Int) + 1) = true := by simp
        by_cases hd0 : e = 0
        ·have q1 : ((e : Int) + 1 == 1) = true := by rw [beq_iff_eq]; omega
         have HRN := hd_ (show RES = some (id :: met, some e) by rw [hrn, if_neg (fun h => h.1 hd0)]; simp)
         clear hrn
         go_wp2_with fail
         go_ret
         exact ⟨_, HF5.out, by rw [HRN.out]; exact ⟨rfl, _, rfl, HS5.out⟩⟩
        ·have q1 : ((e : Int) + 1 == 1) = false := by rw [beq_eq_false_iff_ne]; omega
         by_cases hf3 : p1.length < 3
         ·have q2 : ¬ (3 : Int) ≤ (p1.length : Int) := by omega
          have HRN := hd_ (show RES = none by rw [hrn, if_pos ⟨hd0, hf3⟩])
          clear hrn
          go_wp2_with fail
          go_ret
          exact ⟨_, HF5.out, by rw [HRN.out]; rfl⟩
         ·have q2 : (3 : Int) ≤ (p1.length : Int) := by omega
          have HRN := hd_ (show RES = some (id :: met, some e) by rw [hrn, if_neg (fun h => hf3 h.2)]; simp)
          clear hrn
          go_wp2_with fail
          go_ret
          exact ⟨_, HF5.out, by rw [HRN.out]; exact ⟨rfl, _, rfl, HS5.out⟩⟩
       ·have q3 : ((e : Int) + 1 == (d : Int) + 1) = false := by rw [beq_eq_false_iff_ne]; omega
        have HRN := hd_ (show RES = none by
         rw [hrn]
         split
         ·rfl
         ·simp [hed])
        clear hrn
        generalize (e : Int) + 1 = v at s3 q0 q3
        generalize (d : Int) + 1 = F at *
        have q4 : decide (v = F) = false := by rw [decide_eq_false_iff_not]; exact beq_eq_false_iff_ne.1 q3
        go_wp2_with fail
        go_ret
        exact ⟨_, HF5.out, by rw [HRN.out]; rfl⟩
     | false =>
      have hrn := HRES.out
      have hfo : fillOf (false, p1, p2, p3) = p3.length := rfl
      rw [hfo] at hrn
      (try dsimp only at hrn)
      have hlens : 2 ≤ p3.length ∧ p3.length ≤ 6 ∧ p1.length + 1 = p3.length := by
       unfold pageP at hpok
       simp only [Bool.and_eq_true, Bool.false_eq_true, if_false, decide_eq_true_eq] at hpok
       exact ⟨hpok.2.1.1.1.1, hpok.2.1.1.1.2, hpok.2.1.1.2⟩
      obtain ⟨hl2, hl6, hlk⟩ := hlens
      by_cases hlow : d ≠ 0 ∧ p3.length < 3
      ·have HRN := hd_ (show RES = none by rw [hrn, if_pos hlow])
       have i2 : (1 : Int) < (d : Int) + 1 := by omega
       have i2' : 0 < d := by omega
       have i3 : (p3.length : Int) < 3 := by omega
       clear hrn hlow
       go_wp2_with fail
       go_ret
       exact ⟨_, HF5.out, by rw [HRN.out]; rfl⟩
      ·rw [if_neg hlow, if_neg (by simp)] at hrn
       have HRES2 := hd_ hrn
       clear hrn HRES
       go_upto_region 13 with fail
       go_cut [117] (fun bb wr => bb = .bool false ∧ w5 = wr)
       case first =>
        by_cases hd0 : d = 0
        ·have i2 : ¬ (1 : Int) < (d : Int) + 1 := by omega
         have i2' : ¬ 0 < d := by omega
         have HD0 := hd_ hd0
         clear hlow hd0
         go_wp2_with fail
         go_meet
         case rel => exact ⟨rfl, rfl⟩
        ·have i2 : (1 : Int) < (d : Int) + 1 := by omega
         have i2' : 0 < d := by omega
         have i3 : ¬ (p3.length : Int) < 3 := fun h => hlow ⟨hd0, by omega⟩
         clear hlow hd0
         go_wp2_with fail
         go_meet
         case rel => exact ⟨rfl, rfl⟩
       case rest =>
        obtain ⟨rfl, rfl⟩ := hcut
        clear hlow z3 s3
        go_wp2_with fail
        go_loopw [14] (fun i wr => ∃ (k : Nat) (m : List Int) (q : Option Nat) (mvk : Value), k ≤ p3.length ∧ i = .int .i64 k ∧ Hid (kidsTo (fun kid lo hi s => walkP l n (d + 1) kid lo hi s) (false, p1, p2, p3) low high k (id :: met, dep) = some (m, q)) ∧ WkS wr b root (some ⟨b', off', none⟩) c l.length mvk m q ∧ Fr b (some g3) w5 mvk.ownBlock wr) (fun i _ => p3.length - (intOf i).toNat)
        case atStart => exact ⟨0, id :: met, dep, _, Nat.zero_le _, rfl, hd_ rfl, HS5.out, Fr.refl _ _ _⟩
        case round =>
        obtain ⟨k, m, q, mvk, hk, rfl, hkt, hSr, hFr⟩ := hrel
        have hbw5 : b < w5.heap.size := HS5.out.1.lt
        have hBer := hFr.toBelow hbw5 (fun g hg => by injection hg with hg; omega)
        have hPB : Blk wr w4.heap.size _ _ := (hFr.keep hs5 (by omega) (fun e => by injection e with e; omega)).trans HB5.out
        have r1 := hPB.cell 1; have r3 := hPB.cell 3
        simp only [List.getElem?_toArray, List.getElem?_cons_zero, List.getElem?_cons_succ] at r1 r3
        have hRr := (Sh.row 85 shSlot).R_below HR5.out hBer hib
        have hKRr := HKR.out.below hBer hib
        have hIRr := HIR.out.below hBer hib
        have hun := unmet_mono (l := l) (kidsTo_met (fun id lo hi st st' h => walkP_met l n (d + 1) id lo hi st st' h) k _ _ hkt.out)
        have hsm := kidsTo_sum (l := l) (fun id lo hi st st' h => walkP_sum l n (d + 1) id lo hi st st' h) k _ _ hkt.out
        dsimp only at hun hsm
        clear hPB
        by_cases hlt : k < p3.length
        ·obtain ⟨ib, ioff, rfl, _, _, hkid⟩ := hIRr.at_ hlt
         have i3 : (k : Int) < (p3.length : Int) := by omega
         obtain ⟨kb, koff, rfl, hkey⟩ : ∃ kb koff, A2 = some ⟨kb, koff, none⟩ ∧ ∀ j, j < p1.length → wr.cell? ⟨kb, koff + j, none⟩ = some (.string (p1.getD j bD)) := by
          obtain ⟨kb, koff, e, _, _, _⟩ := hKRr.at_ (show 0 < p1.length by omega)
          refine ⟨kb, koff, e, fun j hj => ?_⟩
          obtain ⟨kb', koff', e', _, _, h⟩ := hKRr.at_ hj
          rw [e] at e'
          injection e' with e'; injection e' with e1 e2 e3; subst e1 e2
          exact h
         have hcomb : (k = 0 ∧ k < p1.length) ∨ (0 < k ∧ k < p1.length) ∨ (0 < k ∧ k = p1.length) := by omega
         rcases hcomb with ⟨hk0, hkl⟩ | ⟨hk0, hkl⟩ | ⟨hk0, hkl⟩
         ·have HK0 := hd_ hk0
          clear hk0
          have hk0 : ¬ 0 < k := by have := HK0.out; omega
          have i0 : ¬ (0 : Int) < (k : Int) := by omega
          have i4 : (k : Int) < (p1.length : Int) := by omega
          have hck : wr.cell? ⟨kb, koff + k, none⟩ = some (.string (p1.getD k bD)) := hkey k (by omega)
          have hnx := kidsTo_next hkt.out
          rw [show lowOf (false, p1, p2, p3) low k = low from if_neg (by omega), show highOf (false, p1, p2, p3) high k = p1.getD k bD from if_pos (by omega)] at hnx
          have hnx : kidsTo (fun kid lo hi s => walkP l n (d + 1) kid lo hi s) (false, p1, p2, p3) low high (k + 1) (id :: met, dep) = walkP l n (d + 1) (p3.getD k 0) (low) (p1.getD k bD) (m, q) := hnx
          have HC := hd_ (IH.out (d + 1) (p3.getD k 0) (low) (p1.getD k bD) mvk m q wr (by omega) (by omega) (by simp only [List.length_cons] at hsm; omega) hRr hSr)
          rw [show (((d + 1 : Nat) : Int) + 1) = (d : Int) + 1 + 1 by omega] at HC
          have HFR := hd_ hFr
          clear hRr hSr hKRr hIRr hFr hkey
          cases hw : walkP l n (d + 1) (p3.getD k 0) (low) (p1.getD k bD) (m, q) with
          | none =>
           rw [hw] at HC hnx
           have HRN := hd_ (HRES2.out.trans (kidsTo_none hnx _ (by omega)))
           clear hnx hw hkt
           generalize p3.getD k 0 = kid at *
           generalize p1.getD k bD = KH at *
           go_wp2_with fail
           refine HC.out.mono ?_; rintro e9 w9 hdn
           obtain ⟨o9, hF9, he9⟩ := hdn
           obtain rfl : e9 = .returned (.bool false) := he9
           have HF9 := hd_ hF9
           clear hF9 HC
           go_wp2_with fail
           go_ret
           exact ⟨_, (HF5.out.trans HFR.out).trans HF9.out, by rw [HRN.out]; rfl⟩
          | some s2 =>
           obtain ⟨m2, q2⟩ := s2
           rw [hw] at HC hnx
           have HN2 := hd_ hnx
           clear hnx hw hkt
           generalize p3.getD k 0 = kid at *
           generalize p1.getD k bD = KH at *
           go_wp2_with fail
           refine HC.out.mono ?_; rintro e9 w9 hdn
           obtain ⟨o9, hF9, he9, mv9, ho9, hS9⟩ := hdn
           obtain rfl : e9 = .returned (.bool true) := he9
           subst ho9
           have HF9 := hd_ hF9; have HS9 := hd_ hS9
           clear hF9 hS9 HC
           go_wp2_with fail
           go_roundw
           case rel => exact ⟨k + 1, m2, q2, mv9, by omega, by go_num, hd_ HN2.out, HS9.out, HFR.out.trans HF9.out⟩
           case measure => simp [intOf]; omega
         ·clear hBer
          have hcp : wr.cell? ⟨kb, koff + (k - 1), none⟩ = some (.string (p1.getD (k - 1) bD)) := hkey (k - 1) (by omega)
          have k1 : IntKind.i64.wrap ((k : Int) - 1) = (k : Int) - 1 := IntWalk.i64_in _ (by omega)
          have k2 : ((k : Int) - 1).toNat = k - 1 := by omega
          have k3 : (0 : Int) ≤ (k : Int) - 1 := by omega
          have k6 : 1 ≤ k := by omega
          have k7 : (1 : Int) ≤ (k : Int) := by omega
          have k4 : (k : Int) - 1 < (p1.length : Int) := by omega
          have i0 : (0 : Int) < (k : Int) := by omega
          have i4 : (k : Int) < (p1.length : Int) := by omega
          have hck : wr.cell? ⟨kb, koff + k, none⟩ = some (.string (p1.getD k bD)) := hkey k (by omega)
          have hnx := kidsTo_next hkt.out
          rw [show lowOf (false, p1, p2, p3) low k = p1.getD (k - 1) bD from if_pos (by omega), show highOf (false, p1, p2, p3) high k = p1.getD k bD from if_pos (by omega)] at hnx
          have hnx : kidsTo (fun kid lo hi s => walkP l n (d + 1) kid lo hi s) (false, p1, p2, p3) low high (k + 1) (id :: met, dep) = walkP l n (d + 1) (p3.getD k 0) (p1.getD (k - 1) bD) (p1.getD k bD) (m, q) := hnx
          have HC := hd_ (IH.out (d + 1) (p3.getD k 0) (p1.getD (k - 1) bD) (p1.getD k bD) mvk m q wr (by omega) (by omega) (by simp only [List.length_cons] at hsm; omega) hRr hSr)
          rw [show (((d + 1 : Nat) : Int) + 1) = (d : Int) + 1 + 1 by omega] at HC
          have HFR := hd_ hFr
          clear hRr hSr hKRr hIRr hFr hkey
          cases hw : walkP l n (d + 1) (p3.getD k 0) (p1.getD (k - 1) bD) (p1.getD k bD) (m, q) with
          | none =>
           rw [hw] at HC hnx
           have HRN := hd_ (HRES2.out.trans (kidsTo_none hnx _ (by omega)))
           clear hnx hw hkt
           generalize p3.getD k 0 = kid at *
           generalize p1.getD k bD = KH at *
           generalize p1.getD (k - 1) bD = KL at *
           go_wp2_with fail
           refine HC.out.mono ?_; rintro e9 w9 hdn
           obtain ⟨o9, hF9, he9⟩ := hdn
           obtain rfl : e9 = .returned (.bool false) := he9
           have HF9 := hd_ hF9
           clear hF9 HC
           go_wp2_with fail
           go_ret
           exact ⟨_, (HF5.out.trans HFR.out).trans HF9.out, by rw [HRN.out]; rfl⟩
          | some s2 =>
           obtain ⟨m2, q2⟩ := s2
           rw [hw] at HC hnx
           have HN2 := hd_ hnx
           clear hnx hw hkt
           generalize p3.getD k 0 = kid at *
           generalize p1.getD k bD = KH at *
           generalize p1.getD (k - 1) bD = KL at *
           go_wp2_with fail
           refine HC.out.mono ?_; rintro e9 w9 hdn
           obtain ⟨o9, hF9, he9, mv9, ho9, hS9⟩ := hdn
           obtain rfl : e9 = .returned (.bool true) := he9
           subst ho9
           have HF9 := hd_ hF9; have HS9 := hd_ hS9
           clear hF9 hS9 HC
           go_wp2_with fail
           go_roundw
           case rel => exact ⟨k + 1, m2, q2, mv9, by omega, by go_num, hd_ HN2.out, HS9.out, HFR.out.trans HF9.out⟩
           case measure => simp [intOf]; omega
         ·clear hBer
          have HKLq := hd_ hkl
          have hkn : ¬ k < p1.length := by omega
          have hki : ¬ (k : Int) < (p1.length : Int) := by omega
          have hkp : k - 1 < p1.length := by omega
          have hkpi : (k : Int) - 1 < (p1.length : Int) := by omega
          clear hkl
          have hcp : wr.cell? ⟨kb, koff + (k - 1), none⟩ = some (.string (p1.getD (k - 1) bD)) := hkey (k - 1) hkp
          have k1 : IntKind.i64.wrap ((k : Int) - 1) = (k : Int) - 1 := IntWalk.i64_in _ (by omega)
          have k2 : ((k : Int) - 1).toNat = k - 1 := by omega
          have k3 : (0 : Int) ≤ (k : Int) - 1 := by omega
          have k6 : 1 ≤ k := by omega
          have k7 : (1 : Int) ≤ (k : Int) := by omega
          have k4 := hkpi
          have i0 : (0 : Int) < (k : Int) := by omega
          have i4 := hki
          have hnx := kidsTo_next hkt.out
          rw [show lowOf (false, p1, p2, p3) low k = p1.getD (k - 1) bD from if_pos (by omega), show highOf (false, p1, p2, p3) high k = high from if_neg hkn] at hnx
          have hnx : kidsTo (fun kid lo hi s => walkP l n (d + 1) kid lo hi s) (false, p1, p2, p3) low high (k + 1) (id :: met, dep) = walkP l n (d + 1) (p3.getD k 0) (p1.getD (k - 1) bD) (high) (m, q) := hnx
          have HC := hd_ (IH.out (d + 1) (p3.getD k 0) (p1.getD (k - 1) bD) (high) mvk m q wr (by omega) (by omega) (by simp only [List.length_cons] at hsm; omega) hRr hSr)
          rw [show (((d + 1 : Nat) : Int) + 1) = (d : Int) + 1 + 1 by omega] at HC
          have HFR := hd_ hFr
          clear hRr hSr hKRr hIRr hFr hkey
          cases hw : walkP l n (d + 1) (p3.getD k 0) (p1.getD (k - 1) bD) (high) (m, q) with
          | none =>
           rw [hw] at HC hnx
           have HRN := hd_ (HRES2.out.trans (kidsTo_none hnx _ (by have := HKLq.out; omega)))
           clear hnx hw hkt
           generalize p3.getD k 0 = kid at *
           generalize p1.getD (k - 1) bD = KL at *
           go_wp2_with fail
           refine HC.out.mono ?_; rintro e9 w9 hdn
           obtain ⟨o9, hF9, he9⟩ := hdn
           obtain rfl : e9 = .returned (.bool false) := he9
           have HF9 := hd_ hF9
           clear hF9 HC
           go_wp2_with fail
           go_ret
           exact ⟨_, (HF5.out.trans HFR.out).trans HF9.out, by rw [HRN.out]; rfl⟩
          | some s2 =>
           obtain ⟨m2, q2⟩ := s2
           rw [hw] at HC hnx
           have HN2 := hd_ hnx
           clear hnx hw hkt
           generalize p3.getD k 0 = kid at *
           generalize p1.getD (k - 1) bD = KL at *
           go_wp2_with fail
           refine HC.out.mono ?_; rintro e9 w9 hdn
           obtain ⟨o9, hF9, he9, mv9, ho9, hS9⟩ := hdn
           obtain rfl : e9 = .returned (.bool true) := he9
           subst ho9
           have HF9 := hd_ hF9; have HS9 := hd_ hS9
           clear hF9 hS9 HC
           go_wp2_with fail
           go_roundw
           case rel => exact ⟨k + 1, m2, q2, mv9, by have := HKLq.out; omega, by go_num, hd_ HN2.out, HS9.out, HFR.out.trans HF9.out⟩
           case measure => simp [intOf]; omega
        ·obtain rfl : k = p3.length := by omega
         have i3 : ¬ ((p3.length : Nat) : Int) < (p3.length : Int) := by omega
         have HRN := hd_ (HRES2.out.trans hkt.out)
         have HSR := hd_ hSr; have HFR := hd_ hFr
         clear hSr hFr hRr hKRr hIRr hkt
         go_wp2_with fail
         go_ret
         exact ⟨_, HF5.out.trans HFR.out, by rw [HRN.out]; exact ⟨rfl, _, rfl, HSR.out⟩⟩
end Go.Proofs.YtnnabkldceklmaaGreatDoor
