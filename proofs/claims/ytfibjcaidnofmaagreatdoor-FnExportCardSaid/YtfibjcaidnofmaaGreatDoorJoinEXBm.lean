/- The reference's ImportTree walked. -/
import Derived.Test.YtfibjcaidnofmaaGreatDoorJoinEXBj
import Derived.Test.YtfibjcaidnofmaaGreatDoorJoinEXBl
import Derived.Test.YtfibjcaidnofmaaGreatDoorJoinEXBg
import Derived.Test.YtfibjcaidnofmaaGreatDoorJoinEXBa
import Derived.Test.YtfibjcaidnofmaaGreatDoorJoinEXBf
import Derived.Test.YtfibjcaidnofmaaGreatDoorJoinEXAw
import Derived.Deep.AppendLies
namespace Go.Proofs.YtfibjcaidnofmaaGreatDoor
open Go.RowKit

/-- The address of a row of the call's own. -/
theorem own_addr {w : World} {lo hi : Nat} {A : Option Addr} {n c : Nat} {ts : List TyNode} (h : Own shTree w lo hi [.slice A n c] ts) : n = ts.length ∧ n ≤ c ∧ ((A = none ∧ n = 0 ∧ c = 0) ∨ ∃ b off, A = some ⟨b, off, none⟩) := by
  obtain ⟨F, ⟨A', c', cs, Fs, e, ho, _⟩, _⟩ := h
  injection e with e _
  injection e with e1 e2 e3
  subst e1 e3
  rcases ho.2 with ⟨e4, e5⟩ | ⟨g, cap, cur, e4, _, _, hn, _⟩
  · injection e4 with e4 e6 e7
    exact ⟨e2, by omega, .inl ⟨e4, by omega, e7⟩⟩
  · injection e4 with e4 e6 e7
    exact ⟨e2, by omega, .inr ⟨g, 0, e4⟩⟩
theorem own_row {w : World} {lo hi : Nat} {A : Option Addr} {c : Nat} {ts : List TyNode} (h : Own shTree w lo hi [.slice A ts.length c] ts) : RowG shNode w lo hi A ts := rowG_of_shape (t := 32) (c := c) h.reads
theorem importP_nil {l : List UInt8} (h : ¬ 60000 < l.length) (hl : (linesP l).1 = []) : importP l = (14, []) := by
  unfold importP
  rw [if_neg h, hl]
theorem importP_cons {l : List UInt8} (h : ¬ 60000 < l.length) {a : List UInt8} {L : List (List UInt8)} (hl : (linesP l).1 = a :: L) :
    (120 < manyP a → importP l = (4, [])) ∧ (¬ 120 < manyP a → (decide ((linesP l).2 = []) = false ∨ manyP a < 0 ∨ manyP a ≠ L.length) → importP l = (14, [])) ∧
    (¬ 120 < manyP a → decide ((linesP l).2 = []) = true → ¬ manyP a < 0 → manyP a = L.length → (readAll L = none → importP l = (14, [])) ∧ (∀ ns, readAll L = some ns → (insN ns).2 = true → importP l = (5, [])) ∧ (∀ ns, readAll L = some ns → (insN ns).2 = false → importP l = (0, (insN ns).1))) := by
  unfold importP
  rw [if_neg h, hl]
  refine ⟨fun h1 => if_pos h1, fun h1 h2 => ?_, fun h1 h2 h3 h4 => ?_⟩
  · show (if 120 < manyP a then _ else _) = _
    rw [if_neg h1, if_pos]
    rcases h2 with h2 | h2
    · exact .inl (of_decide_eq_false h2)
    · exact .inr h2
  · have e : ∀ X : Int × List Nod, (if 120 < manyP a then (4, []) else if (linesP l).2 ≠ [] ∨ manyP a < 0 ∨ manyP a ≠ L.length then (14, []) else X) = X := fun X => by
      rw [if_neg h1, if_neg]
      rintro (h5 | h5 | h5)
      · exact h5 (of_decide_eq_true h2)
      · exact h3 h5
      · exact h5 h4
    refine ⟨fun hr => (e _).trans (by rw [hr]), fun ns hr hi => (e _).trans (by rw [hr]; exact if_pos hi), fun ns hr hi => (e _).trans (by rw [hr]; exact if_neg (by rw [hi]; exact Bool.false_ne_true))⟩

end Go.Proofs.YtfibjcaidnofmaaGreatDoor

/- The library's stable sort at nodes walked: stable, SortStableFunc (printed by wip/gen_srt.py). -/
namespace Go.Proofs.YtfibjcaidnofmaaGreatDoor
open Go.RowKit
open Go.Sort hiding Below

variable {T : World → Prop}

theorem insertion_i (hC : CmpN T) (w0 w : World) (g c a b : Nat) (A B : Int) (sz : Nat) (d : Array ElN) (hA : A = (a : Int)) (hB : B = (b : Int)) (hz : sz = d.size) (h : LotN T w0 w g c d) (hab : a ≤ b) (hb : b ≤ d.size) :
    Calls Tryz.prog 154 #[.slice (some ⟨g, 0, none⟩) sz c, .int .i64 A, .int .i64 B, cmpV] w fun e w' => e = .returned (.tuple #[]) ∧ w.heap.size ≤ w'.heap.size ∧ ∃ d1, LotN T w0 w' g c d1 ∧ PermIn a b d d1 ∧ SortedIn ltQ a b d1 := by
  subst hA hB hz
  exact insertion_any hC w0 w g c a b d h hab hb

set_option maxHeartbeats 8000000 in
set_option maxRecDepth 100000 in
theorem stable_any (hC : CmpN T) (w0 w : World) (g c : Nat) (d : Array ElN) (h : LotN T w0 w g c d) :
    Calls Tryz.prog 105 #[.slice (some ⟨g, 0, none⟩) d.size c, .int .i64 d.size, cmpV] w (SymOk T w0 g c 0 d.size d w) := by
  have HL := Lib.hid h
  have HC := Lib.hid hC
  have hN := h.few
  obtain ⟨n, hn⟩ : ∃ n, n = d.size := ⟨_, rfl⟩
  have HNN := Lib.hid hn
  rw [← hn] at hN ⊢
  clear h hC hn
  go_enter Tryz.func105, Tryz.ntmps105
  go_wp2_with fail
  go_loopw [7, 8] (fun x y wr => ∃ (a b : Nat) (e : Array ElN), x = .int .i64 a ∧ y = .int .i64 b ∧ Hid (b = a + 20) ∧ a ≤ n ∧ LotN T w0 wr g c e ∧ PermIn 0 n d e ∧ First ltQ 20 a e ∧ w.heap.size ≤ wr.heap.size) (fun x _ _ => n - (intOf x).toNat)
  case atStart => exact ⟨0, 20, d, rfl, rfl, rfl, Nat.zero_le _, HL.out, permIn_refl _ _ _, First.start (by omega), Nat.le_refl _⟩
  case round =>
    obtain ⟨a, b, e, rfl, rfl, HB, han, hLe, hP, hF, hsz⟩ := hrel
    have hes : e.size = n := hP.1.trans HNN.out.symm
    have HLe := Lib.hid hLe; have HP := Lib.hid hP; have HF := Lib.hid hF; have HES := Lib.hid hes
    have hab : a ≤ b := by have := HB.out; omega
    have hbb : b ≤ 140 := by have := HB.out; omega
    clear hLe hP hF hes
    by_cases hlt : b ≤ n
    · have i1 : (b : Int) ≤ (n : Int) := by omega
      go_wp2_with fail
      refine (insertion_i HC.out w0 _ g c a b _ _ _ e rfl rfl HES.out.symm HLe.out hab (by have := HES.out; omega)).mono ?_
      rintro e1 w1 ⟨rfl, hsz1, d1, hL1, hP1, hS1⟩
      have HL1 := Lib.hid hL1
      have HP1 := Lib.hid (permIn_trans _ _ _ _ _ HP.out (permIn_more hP1 (Nat.zero_le _) hlt (by have := HES.out; omega)))
      have HF1 := Lib.hid (show First ltQ 20 b d1 by have h0 := HB.out; rw [h0] at hP1 hS1 ⊢; exact HF.out.step (by omega) hP1 hS1)
      have HB1 := Lib.hid (show b + 20 = b + 20 from rfl)
      clear hL1 hP1 hS1
      go_wp2_with fail
      go_roundw
      case rel => exact ⟨b, b + 20, d1, rfl, by go_num, rfl, hlt, HL1.out, HP1.out, HF1.out, by omega⟩
      case measure => simp [intOf]; have := HB.out; omega
    · have i1 : ¬ (b : Int) ≤ (n : Int) := by omega
      go_wp2_with fail
      refine (insertion_i HC.out w0 _ g c a n _ _ _ e rfl rfl HES.out.symm HLe.out han (by have := HES.out; omega)).mono ?_
      rintro e1 w1 ⟨rfl, hsz1, d1, hL1, hP1, hS1⟩
      have HL1 := Lib.hid hL1
      have HP1 := Lib.hid (permIn_trans _ _ _ _ _ HP.out (permIn_more hP1 (Nat.zero_le _) (Nat.le_refl _) (by have := HES.out; omega)))
      have HB1 := Lib.hid (HF.out.done han (by have := HB.out; omega) hP1 hS1)
      have hsz1' : w.heap.size ≤ w1.heap.size := by omega
      clear hL1 hP1 hS1
      go_wp2_with fail
      go_loopw [6, 7, 8, 9] (fun x _ _ _ wr => ∃ (s : Nat) (e : Array ElN), x = .int .i64 s ∧ 0 < s ∧ s ≤ 240 ∧ LotN T w0 wr g c e ∧ PermIn 0 n d e ∧ Blocks ltQ s n e ∧ w.heap.size ≤ wr.heap.size) (fun x _ _ _ _ => n - (intOf x).toNat)
      case atStart => exact ⟨20, d1, rfl, by omega, by omega, HL1.out, HP1.out, HB1.out, hsz1'⟩
      case round =>
        obtain ⟨s, e2, rfl, hs0, hs1, hL2, hP2, hB2, hsz2⟩ := hrel
        have hes2 : e2.size = n := hP2.1.trans HNN.out.symm
        have HL2 := Lib.hid hL2; have HP2 := Lib.hid hP2; have HB2 := Lib.hid hB2; have HES2 := Lib.hid hes2
        clear hL2 hP2 hB2 hes2
        by_cases hsn : s < n
        · have i2 : (s : Int) < (n : Int) := by omega
          go_wp2_with fail
          go_loopw [7, 8] (fun x y wr => ∃ (a b : Nat) (f : Array ElN), x = .int .i64 a ∧ y = .int .i64 b ∧ Hid (b = a + 2 * s) ∧ a ≤ n ∧ LotN T w0 wr g c f ∧ PermIn 0 n d f ∧ Half ltQ s n a f ∧ w.heap.size ≤ wr.heap.size) (fun x _ _ => n - (intOf x).toNat)
          case atStart => exact ⟨0, 2 * s, e2, rfl, congrArg (Value.int .i64) (by omega), by show 2 * s = 0 + 2 * s; omega, Nat.zero_le _, HL2.out, HP2.out, HB2.out |> fun hb => Half.start hb hs0, hsz2⟩
          case round =>
            obtain ⟨a2, b2, f, rfl, rfl, HBB, han2, hL3, hP3, hH3, hsz3⟩ := hrel
            have hes3 : f.size = n := hP3.1.trans HNN.out.symm
            have HL3 := Lib.hid hL3; have HP3 := Lib.hid hP3; have HH3 := Lib.hid hH3; have HES3 := Lib.hid hes3
            have hb3 : b2 ≤ 600 := by have := HBB.out; omega
            have hab3 : a2 + s < b2 := by have := HBB.out; omega
            obtain ⟨m2, hm2⟩ : ∃ m2, m2 = a2 + s := ⟨_, rfl⟩
            have hmz : (a2 : Int) + (s : Int) = (m2 : Int) := by omega
            have HM2 := Lib.hid hm2
            have hm3 : a2 < m2 := by omega
            have hm4 : m2 < b2 := by omega
            clear hL3 hP3 hH3 hes3 hm2
            by_cases hlt3 : b2 ≤ n
            · have i3 : (b2 : Int) ≤ (n : Int) := by omega
              have HTWO := Lib.hid (HH3.out.two (by have := HBB.out; omega))
              go_wp2_with fail
              refine (sym_any HC.out w0 g c (b2 - a2) a2 m2 b2 _ _ _ _ f _ rfl rfl rfl HES3.out.symm (Nat.le_refl _) HL3.out hm3 hm4 (by have := HES3.out; omega) (by rw [HM2.out]; exact HTWO.out.1) (by rw [HM2.out, HBB.out]; exact HTWO.out.2)).mono ?_
              rintro e4 w4 ⟨rfl, hsz4, d4, hL4, hP4, hS4⟩
              have HL4 := Lib.hid hL4
              have HP4 := Lib.hid (permIn_trans _ _ _ _ _ HP3.out (permIn_more hP4 (Nat.zero_le _) hlt3 (by have := HES3.out; omega)))
              have HH4 := Lib.hid (show Half ltQ s n b2 d4 by have h0 := HBB.out; rw [h0] at hP4 hS4 hlt3 ⊢; exact HH3.out.step hs0 hlt3 hP4 hS4)
              clear hL4 hP4 hS4
              go_wp2_with fail
              go_roundw
              case rel => exact ⟨b2, b2 + 2 * s, d4, rfl, congrArg (Value.int .i64) (by omega), rfl, hlt3, HL4.out, HP4.out, HH4.out, by omega⟩
              case measure => simp [intOf]; have := HBB.out; omega
            · have i3 : ¬ (b2 : Int) ≤ (n : Int) := by omega
              by_cases hmn : m2 < n
              · have i4 : (m2 : Int) < (n : Int) := by omega
                have HTL := Lib.hid (HH3.out.tail (by have := HM2.out; omega) (by have := HBB.out; omega))
                go_wp2_with fail
                refine (sym_any HC.out w0 g c (n - a2) a2 m2 n _ _ _ _ f _ rfl rfl rfl HES3.out.symm (Nat.le_refl _) HL3.out hm3 hmn (by have := HES3.out; omega) (by rw [HM2.out]; exact HTL.out.1) (by rw [HM2.out]; exact HTL.out.2)).mono ?_
                rintro e4 w4 ⟨rfl, hsz4, d4, hL4, hP4, hS4⟩
                have HL4 := Lib.hid hL4
                have HP4 := Lib.hid (permIn_trans _ _ _ _ _ HP3.out (permIn_more hP4 (Nat.zero_le _) (Nat.le_refl _) (by have := HES3.out; omega)))
                have HB4 := Lib.hid (HH3.out.done (by have := HBB.out; omega) (.inr ⟨hP4, hS4⟩))
                clear hL4 hP4 hS4
                go_wp2_with fail
                go_roundw
                case rel => exact ⟨s * 2, d4, congrArg (Value.int .i64) (by omega), by omega, by omega, HL4.out, HP4.out, HB4.out, by omega⟩
                case measure => simp [intOf]; omega
              · have i4 : ¬ (m2 : Int) < (n : Int) := by omega
                have HB4 := Lib.hid (HH3.out.done (e := f) (by have := HBB.out; omega) (.inl ⟨by have := HM2.out; omega, rfl⟩))
                go_wp2_with fail
                go_roundw
                case rel => exact ⟨s * 2, f, congrArg (Value.int .i64) (by omega), by omega, by omega, HL3.out, HP3.out, HB4.out, by omega⟩
                case measure => simp [intOf]; omega
        · have i2 : ¬ (s : Int) < (n : Int) := by omega
          have HO := Lib.hid (show SymOk T w0 g c 0 n d w (.returned (.tuple #[])) wr from ⟨rfl, hsz2, e2, HL2.out, HP2.out, HB2.out.all (by omega)⟩)
          go_wp2_with fail
          go_end0
          exact HO.out

set_option maxHeartbeats 4000000 in
set_option maxRecDepth 100000 in
theorem sortStable_any (hC : CmpN T) (w0 w : World) (g c : Nat) (d : Array ElN) (h : LotN T w0 w g c d) :
    Calls Tryz.prog 45 #[.slice (some ⟨g, 0, none⟩) d.size c, cmpV] w (SymOk T w0 g c 0 d.size d w) := by
  have HS := Lib.hid (stable_any hC w0 w g c d h)
  clear h hC
  go_enter Tryz.func45, Tryz.ntmps45
  go_wp2_with fail
  refine HS.out.mono ?_
  rintro e1 w1 hx
  have HX := Lib.hid hx
  obtain ⟨rfl, _⟩ := hx
  go_wp2_with fail
  go_end0
  exact HX.out

end Go.Proofs.YtfibjcaidnofmaaGreatDoor

/- The program's ImportTree: what its walk leans on. -/
namespace Go.Proofs.YtfibjcaidnofmaaGreatDoor
open Go.RowKit

section
variable {α : Type} {s : Sh α} {t : TypeId}
/-- append(out, y) in a round. -/
theorem wpListIn_grow {F : Fence} {nn : Nat} {P : Program} {ops : Array Oper} {rest : List Oper} {o : Oper} {a : Go.Act} {Q : Exit → Go.Act → World → Prop} (hgd : o.guard = none) (p x : Operand) (ty : TypeId)
    (ho : o.op = .call { callee := .builtin .append, args := #[p, x], argTypes := #[ty, ty] }) (ht : P.underlying ty = some (.slice t))
    {z : Value} {by_ : Nat} (hzz : z.cells.size = s.k) (hk : 0 < s.k) (hby : by_ ≤ 4096) (hinfo : (P.info? t).map (fun i => (i.zero, i.size, i.bytes)) = some (some z, s.k, by_))
    (w : World) (base m m' hi : Nat) (A : Option Addr) (n c : Nat) (xs : List α) (us : List Value) (y : α) (hs : a.eval p = .slice A n c) (h1 : Own (Sh.row t s) w base m [.slice A n c] xs) (h2 : Own s w m' hi us y) (hm : m ≤ m') (hb : base ≤ m') (hhi : hi ≤ w.heap.size) (hbase : base ≤ w.heap.size)
    (hx : a.eval x = .slice (some ⟨w.heap.size, 0, none⟩) 1 1) (hlen : n ≤ 1000000000)
    (h : ∀ A' c' w', Own (Sh.row t s) w' base w'.heap.size [.slice A' (n + 1) c'] (xs ++ [y]) → Below base w w' → w.heap.size < w'.heap.size → KeepsOthers w w' → wpListIn F nn P ops Q rest (a.put o.dst (.slice A' (n + 1) c')) w') : wpListIn F nn P ops Q (o :: rest) a (w.alloc (.cells us.toArray t)) := by
  obtain ⟨i0, hi0, hz0, hz1, hz2⟩ := info_parts hinfo
  have hba := (Below.refl w.heap.size w).alloc (Nat.le_refl _) (.cells us.toArray t)
  have h2b := h2.below hba hhi
  obtain ⟨F1, ⟨A', c', cs, Fs, e, ho1, eF, hel⟩, hN, hr⟩ := h1
  have hlt1 : ∀ b ∈ F1, b < w.heap.size := fun b hb' => (Sh.row t s).O_lt ⟨A', c', cs, Fs, e, ho1, eF, hel⟩ b hb'
  injection e with e _
  injection e with e1 e2 e3
  subst e1 e2 e3
  have h1b : Own (Sh.row t s) (w.alloc (.cells us.toArray t)) base m [.slice A xs.length c] xs := by
    refine ⟨F1, (Sh.row t s).O_keep ⟨A, c, cs, Fs, rfl, ho1, eF, hel⟩ (fun b hb' => hba.block b (hlt1 b hb')), hN, hr⟩
  have ho2 : (w.alloc (.cells us.toArray t)).ownsRow 0 t s.k (.slice A xs.length c) xs.length cs := ho1.alloc _
  have ho3 : (w.alloc (.cells us.toArray t)).ownsRow base t s.k (.slice A xs.length c) xs.length cs := ownsRow_base ho2 fun g hg => (hr g (by rw [eF, hg]; simp)).1
  have hul : us.length = s.k := h2.len
  obtain ⟨g, cap, w', hrun, q1, q2, q3, q4⟩ := run_append_lies (P := P) (w.alloc (.cells us.toArray t)) ty o.type base t i0 _ s.k by_ ht hi0 hz0 hz1 hz2 hzz hk (.slice A xs.length c) xs.length cs ho3 ⟨w.heap.size, 0, none⟩ 1 1 us (by omega)
    (World.news_of_block (Blk.new w t us.toArray)) (fun u hu => s.R_one h2.reads u hu) (by omega) (by unfold maxLen; omega) (Nat.le_trans (Nat.mul_le_mul_left _ hby) (by omega)) (by simp; omega) _ rfl
  have hcells : ∀ j, (Value.slice A xs.length c).ownBlock = some j → ∀ ob : Obj, w.heap[j]? = some ob → ob.isCells = true := fun j hj ob hob => by
    rcases ho1.2 with ⟨e4, _⟩ | ⟨g', cap', cur', e4, _, hg', _⟩
    · rw [e4] at hj; cases hj
    · rw [e4] at hj
      injection hj with hj
      subst hj
      rw [hob] at hg'
      injection hg' with hg'
      rw [hg']; rfl
  refine wpListIn_plain hgd fun K hK => ?_
  unfold Oper.wpIn
  refine ⟨?_, ?_⟩
  · simp [Oper.about, ho, resolve, Target.leads, Sem.run_pure]
  · rw [Oper.semAt_plain F _ _ (by rw [ho]; intro c hc; cases hc)]
    simp [execOp, ho, resolve, invoke, builtin, hs, hx, hrun, Result.andThen]
    have hsz : w.heap.size < w'.heap.size := by have := q2.size; rw [heap_alloc_size1] at this; omega
    refine hK _ _ (h _ _ w' (Own.grow h1b h2b hm hb (by simp; omega) ho2 q1 q2 q3 q4) (((Below.refl base w).alloc hbase _).grown q2 (by simp; omega) fun k hk => (hr k (by rw [eF, hk]; simp)).1) hsz ⟨Nat.le_of_lt hsz, fun k ob hob hcl => ?_⟩)
    have hkl := (Array.getElem?_eq_some_iff.1 hob).1
    rw [q2.block k (by rw [heap_alloc_size1]; omega) (fun e => by rw [hcells k e.symm ob hob] at hcl; cases hcl), hba.block k hkl]
    exact hob
end

/-- Leaving a function that holds a range over a function: ahead of the loop. -/
theorem postM_ret0 {n : Nat} {P : Program} {fn : Func} {R : Ending → World → Prop} {a : Go.Act} {w : World} {v : Value} (hr : (results fn a.tmps).run P w = .ok v w) (hd : a.defers = []) (hR : R (.returned v) w) : bodyPostM Fence.wide n P fn R .ret a w := by
  show LeavesInM Fence.wide n P fn a.tmps R a.defers .returning w
  rw [hd]
  exact ⟨v, hr, hR⟩
/-- .. behind it. -/
theorem postM_ret1 {n D : Nat} {P : Program} {fn : Func} {R : Ending → World → Prop} {a : Go.Act} {w : World} {v : Value} (hK : w.heap[D]? = some (.deferred (some []))) (hr : (results fn a.tmps).run P (w.putObj D (.deferred none)) = .ok v (w.putObj D (.deferred none)))
    (hd : a.defers = [{ target := .collected D, args := #[] }]) (hR : R (.returned v) (w.putObj D (.deferred none))) : bodyPostM Fence.wide n P fn R .ret a w := by
  show LeavesInM Fence.wide n P fn a.tmps R a.defers .returning w
  rw [hd]
  exact ⟨by simp, .inl ⟨D, _, rfl, run_takeDeferred hK, ⟨v, hr, hR⟩⟩⟩

theorem cut_cases (l : List UInt8) : (∃ a z, l = a ++ 10 :: z ∧ (∀ c ∈ a, c ≠ 10) ∧ Lib.cut l [10] = (a, z, true)) ∨ ((∀ c ∈ l, c ≠ 10) ∧ Lib.cut l [10] = (l, [], false)) := by
  rcases idx_cases l with ⟨a, z, e, h, _⟩ | ⟨h, _⟩
  · exact .inl ⟨a, z, e, h, by rw [e]; exact cut_app a z 10 h⟩
  · refine .inr ⟨h, ?_⟩
    unfold Lib.cut
    rw [index_none l 10 h]
    rfl
def trimN (l : List UInt8) : List UInt8 := Lib.trimSuffix l [10]
theorem trimN_end (a : List UInt8) : trimN (a ++ [10]) = a := by
  unfold trimN Lib.trimSuffix Lib.hasSuffix
  rw [if_pos (List.isSuffixOf_iff_suffix.2 ⟨a, rfl⟩), List.length_append, Nat.add_sub_cancel, List.take_append_of_le_length (Nat.le_refl _), List.take_length]
theorem trim_chunks {z : List UInt8} (h : (linesP z).2 = []) : (chunksP z).map trimN = (linesP z).1 := by
  unfold chunksP
  rw [if_pos h, List.append_nil, List.map_map]
  conv => rhs; rw [← List.map_id (linesP z).1]
  exact List.map_congr_left fun a _ => trimN_end a
theorem chunks_len {z : List UInt8} (h : (linesP z).2 = []) : (chunksP z).length = (linesP z).1.length := by
  unfold chunksP
  rw [if_pos h, List.append_nil, List.length_map]

set_option maxHeartbeats 1000000 in
theorem lines_any (s : ByteArray) (w : World) : Calls Tryz.prog 43 #[.string s] w fun e w' => e = .returned (.func (.func 102) #[] #[.pointer (some ⟨w.heap.size, 0, none⟩)]) ∧ w' = w.alloc (.cells #[.string s] 9) := by
  go_enter Tryz.func43, Tryz.ntmps43
  go_wp2_with fail
  go_ret
  exact ⟨rfl, rfl⟩

end Go.Proofs.YtfibjcaidnofmaaGreatDoor

/- A row of nodes of one's own, sorted. -/
namespace Go.Proofs.YtfibjcaidnofmaaGreatDoor
open Go.RowKit
open Go.Sort hiding Below

set_option maxHeartbeats 4000000 in
set_option maxRecDepth 100000 in
theorem ins0_any (A : Option Addr) (c : Nat) (w : World) :
    Calls Tryz.prog 154 #[.slice A 0 c, .int .i64 0, .int .i64 0, cmpV] w fun e w' => e = .returned (.tuple #[]) ∧ Below w.heap.size w w' := by
  go_enter Tryz.func154, Tryz.ntmps154
  go_wp2_with fail
  go_loopw [8, 9] (fun x _ wr => x = .int .i64 1 ∧ Below w.heap.size w wr) (fun _ _ _ => 0)
  case atStart => exact ⟨rfl, Below.refl _ _⟩
  case round =>
    obtain ⟨rfl, hb⟩ := hrel
    go_wp2_with fail
    go_end0
    exact ⟨rfl, hb⟩

set_option maxHeartbeats 4000000 in
set_option maxRecDepth 100000 in
theorem stable0_any (A : Option Addr) (c : Nat) (w : World) :
    Calls Tryz.prog 105 #[.slice A 0 c, .int .i64 0, cmpV] w fun e w' => e = .returned (.tuple #[]) ∧ Below w.heap.size w w' := by
  go_enter Tryz.func105, Tryz.ntmps105
  go_wp2_with fail
  go_loopw [7, 8] (fun x y wr => x = .int .i64 0 ∧ y = .int .i64 20 ∧ Below w.heap.size w wr) (fun _ _ _ => 0)
  case atStart => exact ⟨rfl, rfl, Below.refl _ _⟩
  case round =>
    obtain ⟨rfl, rfl, hb⟩ := hrel
    go_wp2_with fail
    refine (ins0_any A c _).mono ?_
    rintro e1 w1 ⟨rfl, hb1⟩
    have HB := Lib.hid (hb.trans (hb1.mono hb.size))
    clear hb hb1
    go_wp2_with fail
    go_loopw [6, 7, 8, 9] (fun x _ _ _ wr => x = .int .i64 20 ∧ Below w.heap.size w wr) (fun _ _ _ _ _ => 0)
    case atStart => exact ⟨rfl, HB.out⟩
    case round =>
      obtain ⟨rfl, hb⟩ := hrel
      go_wp2_with fail
      go_end0
      exact ⟨rfl, hb⟩

set_option maxHeartbeats 4000000 in
set_option maxRecDepth 100000 in
theorem sort0_any (A : Option Addr) (c : Nat) (w : World) :
    Calls Tryz.prog 45 #[.slice A 0 c, cmpV] w fun e w' => e = .returned (.tuple #[]) ∧ Below w.heap.size w w' := by
  go_enter Tryz.func45, Tryz.ntmps45
  go_wp2_with fail
  refine (stable0_any A c _).mono ?_
  rintro e1 w1 ⟨rfl, hb1⟩
  go_wp2_with fail
  go_end0
  exact ⟨rfl, hb1⟩

theorem permIn_all {d d1 : Array ElN} (h : PermIn 0 d.size d d1) : d1.toList.Perm d.toList := by
  have h3 := h.2.2
  rw [Array.extract_size] at h3
  have : d1.extract 0 d.size = d1 := by rw [← h.1, Array.extract_size]
  rwa [this] at h3

theorem sort_own (A : Option Addr) (c lo : Nat) (ns : List Nod) (w W : World) (hE : TabsIn w) (hb : Below w.heap.size w W) (hlo : w.heap.size ≤ lo) (hsm : ∀ x ∈ ns, SmN (tyOf x)) (hl : ns.length ≤ 120)
    (hO : Own (Sh.row 32 shNode) W lo W.heap.size [.slice A ns.length c] (ns.map tyOf)) (hloW : lo ≤ W.heap.size) :
    Calls Tryz.prog 45 #[.slice A ns.length c, cmpV] W fun e w' => e = .returned (.tuple #[]) ∧ W.heap.size ≤ w'.heap.size ∧ Below lo W w' ∧
      ∃ P : List Nod, P.Perm ns ∧ (P.Pairwise fun a b => befP (keyN b) (keyN a) = false) ∧ Own (Sh.row 32 shNode) w' lo w'.heap.size [.slice A ns.length c] (P.map tyOf) := by
  rcases Nat.eq_zero_or_pos ns.length with h0 | h0
  · obtain rfl : ns = [] := List.length_eq_zero_iff.1 h0
    refine (sort0_any A c W).mono ?_
    rintro e w' ⟨rfl, hbw⟩
    exact ⟨rfl, hbw.size, hbw.mono hloW, [], List.Perm.refl _, List.Pairwise.nil, (hO.below hbw (Nat.le_refl _)).more (Nat.le_refl _) hbw.size⟩
  · obtain ⟨F, hO', hN, hr⟩ := hO
    obtain ⟨g, d, rfl, hlot, hds, hcm, hval, rfl⟩ := Lot.start hO' hN h0
    have hg := hr g (List.mem_cons_self ..)
    have hgl : lo ≤ g := hg.1
    have hLN : LotN TabsIn W W g c d := by
      refine ⟨hlot, fun k hk => ?_, by omega, fun w' ho => ?_⟩
      · have h1 : (d[k]!).2.2 ∈ ns.map tyOf := by rw [← hval]; exact List.mem_map_of_mem (get_in hk)
        obtain ⟨x, hx, e⟩ := List.mem_map.1 h1
        rw [← e]; exact hsm x hx
      · exact hE.below (hb.trans (ho.below1 (by omega) hb.size))
    have HS := sortStable_any cmpN_holds W W g c d hLN
    rw [hds] at HS
    refine HS.mono ?_
    rintro e w' ⟨rfl, hsz, d1, hL1, hp, hs⟩
    have hpa : d1.toList.Perm d.toList := permIn_all (by rw [hds]; exact hp)
    have hd1 : d1.size = ns.length := by rw [hp.1, hds]
    obtain ⟨F1, hF1, hN1, hP1⟩ := hL1.lot.done hpa hN hcm
    refine ⟨rfl, hsz, hL1.lot.out.below1 hgl hloW, (d1.toList.map (·.2.2)).map nodOf, ?_, ?_, ?_⟩
    · have h1 : ns = (d.toList.map (·.2.2)).map nodOf := by rw [hval, map_nodOf]
      rw [h1]
      exact (hpa.map _).map _
    · rw [List.pairwise_map, List.pairwise_map, List.pairwise_iff_getElem]
      intro i j hi hj hij
      have h1 := hs i j (Nat.zero_le _) hij (by rw [← hd1]; simpa using hj)
      rw [getElem!_pos d1 i (by simpa using hi), getElem!_pos d1 j (by simpa using hj)] at h1
      exact h1
    · rw [hd1] at hF1
      have h2 : ((d1.toList.map (·.2.2)).map nodOf).map tyOf = d1.toList.map (·.2.2) := by rw [List.map_map]; exact List.map_id _
      rw [h2]
      refine ⟨F1, hF1, hN1, fun b hb' => ?_⟩
      have := hr b (hP1.subset hb')
      exact ⟨this.1, by omega⟩

end Go.Proofs.YtfibjcaidnofmaaGreatDoor
