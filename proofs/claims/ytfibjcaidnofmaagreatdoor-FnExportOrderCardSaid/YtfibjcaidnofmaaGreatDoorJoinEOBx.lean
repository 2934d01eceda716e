/- FnExportOrder returns true for all drawn inputs: the walk of the law. Printed by wip/gen_exolaw.py. -/
import Derived.Test.YtfibjcaidnofmaaGreatDoorJoinEOBm
import Derived.Test.YtfibjcaidnofmaaGreatDoorJoinEOBd
import Derived.Test.YtfibjcaidnofmaaGreatDoorJoinEOBf
import Derived.Test.YtfibjcaidnofmaaGreatDoorJoinEOBu
import Derived.Test.YtfibjcaidnofmaaGreatDoorJoinEOAz
import Derived.Test.YtfibjcaidnofmaaGreatDoorJoinEOBn
import Derived.Deep.AppendLies
import Derived.Test.YtfibjcaidnofmaaGreatDoorJoinEOBt
import Derived.Test.YtfibjcaidnofmaaGreatDoorJoinEOBe
import Derived.Test.YtfibjcaidnofmaaGreatDoorJoinEOBo
import Derived.Test.YtfibjcaidnofmaaGreatDoorJoinEOAh
namespace Go.Proofs.YtfibjcaidnofmaaGreatDoor
open Go.RowKit
open Go.Sort hiding Below

variable {T : World → Prop}

theorem insertion_i (hC : CmpN T) (w0 w : World) (g c a b : Nat) (A B : Int) (sz : Nat) (d : Array ElN) (hA : A = (a : Int)) (hB : B = (b : Int)) (hz : sz = d.size) (h : LotN T w0 w g c d) (hab : a ≤ b) (hb : b ≤ d.size) :
    Calls Tryz.prog 154 #[.slice (some ⟨g, 0, none⟩) sz c, .int .i64 A, .int .i64 B, cmpV] w fun e w' => e = .returned (.tuple #[]) ∧ w.heap.size ≤ w'.heap.size ∧ ∃ d1, LotN T w0 w' g c d1 ∧ PermIn a b d d1 ∧ SortedIn ltQ a b d1 := by
  subst hA hB hz
  exact insertion_any hC w0 w g c a b d h hab hb

set_option maxHeartbeats 8000000 in
set_option maxRecDepth 100000 in
theorem stable_any (hC : CmpN T) (w0 w : World) (g c : Nat) (d : Array ElN) (h : LotN T w0 w g c d) :
    Calls Tryz.prog 105 #[.slice (some ⟨g, 0, none⟩) d.size c, .int .i64 d.size, cmpV] w (SymOk T w0 g c 0 d.size d w) := by
  have HL := Lib.hid h
  have HC := Lib.hid hC
  have hN := h.few
  obtain ⟨n, hn⟩ : ∃ n, n = d.size := ⟨_, rfl⟩
  have HNN := Lib.hid hn
  rw [← hn] at hN ⊢
  clear h hC hn
  go_enter Tryz.func105, Tryz.ntmps105
  go_wp2_with fail
  go_loopw [7, 8] (fun x y wr => ∃ (a b : Nat) (e : Array ElN), x = .int .i64 a ∧ y = .int .i64 b ∧ Hid (b = a + 20) ∧ a ≤ n ∧ LotN T w0 wr g c e ∧ PermIn 0 n d e ∧ First ltQ 20 a e ∧ w.heap.size ≤ wr.heap.size) (fun x _ _ => n - (intOf x).toNat)
  case atStart => exact ⟨0, 20, d, rfl, rfl, rfl, Nat.zero_le _, HL.out, permIn_refl _ _ _, First.start (by omega), Nat.le_refl _⟩
  case round =>
    obtain ⟨a, b, e, rfl, rfl, HB, han, hLe, hP, hF, hsz⟩ := hrel
    have hes : e.size = n := hP.1.trans HNN.out.symm
    have HLe := Lib.hid hLe; have HP := Lib.hid hP; have HF := Lib.hid hF; have HES := Lib.hid hes
    have hab : a ≤ b := by have := HB.out; omega
    have hbb : b ≤ 140 := by have := HB.out; omega
    clear hLe hP hF hes
    by_cases hlt : b ≤ n
    · have i1 : (b : Int) ≤ (n : Int) := by omega
      go_wp2_with fail
      refine (insertion_i HC.out w0 _ g c a b _ _ _ e rfl rfl HES.out.symm HLe.out hab (by have := HES.out; omega)).mono ?_
      rintro e1 w1 ⟨rfl, hsz1, d1, hL1, hP1, hS1⟩
      have HL1 := Lib.hid hL1
      have HP1 := Lib.hid (permIn_trans _ _ _ _ _ HP.out (permIn_more hP1 (Nat.zero_le _) hlt (by have := HES.out; omega)))
      have HF1 := Lib.hid (show First ltQ 20 b d1 by have h0 := HB.out; rw [h0] at hP1 hS1 ⊢; exact HF.out.step (by omega) hP1 hS1)
      have HB1 := Lib.hid (show b + 20 = b + 20 from rfl)
      clear hL1 hP1 hS1
      go_wp2_with fail
      go_roundw
      case rel => exact ⟨b, b + 20, d1, rfl, by go_num, rfl, hlt, HL1.out, HP1.out, HF1.out, by omega⟩
      case measure => simp [intOf]; have := HB.out; omega
    · have i1 : ¬ (b : Int) ≤ (n : Int) := by omega
      go_wp2_with fail
      refine (insertion_i HC.out w0 _ g c a n _ _ _ e rfl rfl HES.out.symm HLe.out han (by have := HES.out; omega)).mono ?_
      rintro e1 w1 ⟨rfl, hsz1, d1, hL1, hP1, hS1⟩
      have HL1 := Lib.hid hL1
      have HP1 := Lib.hid (permIn_trans _ _ _ _ _ HP.out (permIn_more hP1 (Nat.zero_le _) (Nat.le_refl _) (by have := HES.out; omega)))
      have HB1 := Lib.hid (HF.out.done han (by have := HB.out; omega) hP1 hS1)
      have hsz1' : w.heap.size ≤ w1.heap.size := by omega
      clear hL1 hP1 hS1
      go_wp2_with fail
      go_loopw [6, 7, 8, 9] (fun x _ _ _ wr => ∃ (s : Nat) (e : Array ElN), x = .int .i64 s ∧ 0 < s ∧ s ≤ 240 ∧ LotN T w0 wr g c e ∧ PermIn 0 n d e ∧ Blocks ltQ s n e ∧ w.heap.size ≤ wr.heap.size) (fun x _ _ _ _ => n - (intOf x).toNat)
      case atStart => exact ⟨20, d1, rfl, by omega, by omega, HL1.out, HP1.out, HB1.out, hsz1'⟩
      case round =>
        obtain ⟨s, e2, rfl, hs0, hs1, hL2, hP2, hB2, hsz2⟩ := hrel
        have hes2 : e2.size = n := hP2.1.trans HNN.out.symm
        have HL2 := Lib.hid hL2; have HP2 := Lib.hid hP2; have HB2 := Lib.hid hB2; have HES2 := Lib.hid hes2
        clear hL2 hP2 hB2 hes2
        by_cases hsn : s < n
        · have i2 : (s : Int) < (n : Int) := by omega
          go_wp2_with fail
          go_loopw [7, 8] (fun x y wr => ∃ (a b : Nat) (f : Array ElN), x = .int .i64 a ∧ y = .int .i64 b ∧ Hid (b = a + 2 * s) ∧ a ≤ n ∧ LotN T w0 wr g c f ∧ PermIn 0 n d f ∧ Half ltQ s n a f ∧ w.heap.size ≤ wr.heap.size) (fun x _ _ => n - (intOf x).toNat)
          case atStart => exact ⟨0, 2 * s, e2, rfl, congrArg (Value.int .i64) (by omega), by show 2 * s = 0 + 2 * s; omega, Nat.zero_le _, HL2.out, HP2.out, HB2.out |> fun hb => Half.start hb hs0, hsz2⟩
          case round =>
            obtain ⟨a2, b2, f, rfl, rfl, HBB, han2, hL3, hP3, hH3, hsz3⟩ := hrel
            have hes3 : f.size = n := hP3.1.trans HNN.out.symm
            have HL3 := Lib.hid hL3; have HP3 := Lib.hid hP3; have HH3 := Lib.hid hH3; have HES3 := Lib.hid hes3
            have hb3 : b2 ≤ 600 := by have := HBB.out; omega
            have hab3 : a2 + s < b2 := by have := HBB.out; omega
            obtain ⟨m2, hm2⟩ : ∃ m2, m2 = a2 + s := ⟨_, rfl⟩
            have hmz : (a2 : Int) + (s : Int) = (m2 : Int) := by omega
            have HM2 := Lib.hid hm2
            have hm3 : a2 < m2 := by omega
            have hm4 : m2 < b2 := by omega
            clear hL3 hP3 hH3 hes3 hm2
            by_cases hlt3 : b2 ≤ n
            · have i3 : (b2 : Int) ≤ (n : Int) := by omega
              have HTWO := Lib.hid (HH3.out.two (by have := HBB.out; omega))
              go_wp2_with fail
              refine (sym_any HC.out w0 g c (b2 - a2) a2 m2 b2 _ _ _ _ f _ rfl rfl rfl HES3.out.symm (Nat.le_refl _) HL3.out hm3 hm4 (by have := HES3.out; omega) (by rw [HM2.out]; exact HTWO.out.1) (by rw [HM2.out, HBB.out]; exact HTWO.out.2)).mono ?_
              rintro e4 w4 ⟨rfl, hsz4, d4, hL4, hP4, hS4⟩
              have HL4 := Lib.hid hL4
              have HP4 := Lib.hid (permIn_trans _ _ _ _ _ HP3.out (permIn_more hP4 (Nat.zero_le _) hlt3 (by have := HES3.out; omega)))
              have HH4 := Lib.hid (show Half ltQ s n b2 d4 by have h0 := HBB.out; rw [h0] at hP4 hS4 hlt3 ⊢; exact HH3.out.step hs0 hlt3 hP4 hS4)
              clear hL4 hP4 hS4
              go_wp2_with fail
              go_roundw
              case rel => exact ⟨b2, b2 + 2 * s, d4, rfl, congrArg (Value.int .i64) (by omega), rfl, hlt3, HL4.out, HP4.out, HH4.out, by omega⟩
              case measure => simp [intOf]; have := HBB.out; omega
            · have i3 : ¬ (b2 : Int) ≤ (n : Int) := by omega
              by_cases hmn : m2 < n
              · have i4 : (m2 : Int) < (n : Int) := by omega
                have HTL := Lib.hid (HH3.out.tail (by have := HM2.out; omega) (by have := HBB.out; omega))
                go_wp2_with fail
                refine (sym_any HC.out w0 g c (n - a2) a2 m2 n _ _ _ _ f _ rfl rfl rfl HES3.out.symm (Nat.le_refl _) HL3.out hm3 hmn (by have := HES3.out; omega) (by rw [HM2.out]; exact HTL.out.1) (by rw [HM2.out]; exact HTL.out.2)).mono ?_
                rintro e4 w4 ⟨rfl, hsz4, d4, hL4, hP4, hS4⟩
                have HL4 := Lib.hid hL4
                have HP4 := Lib.hid (permIn_trans _ _ _ _ _ HP3.out (permIn_more hP4 (Nat.zero_le _) (Nat.le_refl _) (by have := HES3.out; omega)))
                have HB4 := Lib.hid (HH3.out.done (by have := HBB.out; omega) (.inr ⟨hP4, hS4⟩))
                clear hL4 hP4 hS4
                go_wp2_with fail
                go_roundw
                case rel => exact ⟨s * 2, d4, congrArg (Value.int .i64) (by omega), by omega, by omega, HL4.out, HP4.out, HB4.out, by omega⟩
                case measure => simp [intOf]; omega
              · have i4 : ¬ (m2 : Int) < (n : Int) := by omega
                have HB4 := Lib.hid (HH3.out.done (e := f) (by have := HBB.out; omega) (.inl ⟨by have := HM2.out; omega, rfl⟩))
                go_wp2_with fail
                go_roundw
                case rel => exact ⟨s * 2, f, congrArg (Value.int .i64) (by omega), by omega, by omega, HL3.out, HP3.out, HB4.out, by omega⟩
                case measure => simp [intOf]; omega
        · have i2 : ¬ (s : Int) < (n : Int) := by omega
          have HO := Lib.hid (show SymOk T w0 g c 0 n d w (.returned (.tuple #[])) wr from ⟨rfl, hsz2, e2, HL2.out, HP2.out, HB2.out.all (by omega)⟩)
          go_wp2_with fail
          go_end0
          exact HO.out

set_option maxHeartbeats 4000000 in
set_option maxRecDepth 100000 in
theorem sortStable_any (hC : CmpN T) (w0 w : World) (g c : Nat) (d : Array ElN) (h : LotN T w0 w g c d) :
    Calls Tryz.prog 45 #[.slice (some ⟨g, 0, none⟩) d.size c, cmpV] w (SymOk T w0 g c 0 d.size d w) := by
  have HS := Lib.hid (stable_any hC w0 w g c d h)
  clear h hC
  go_enter Tryz.func45, Tryz.ntmps45
  go_wp2_with fail
  refine HS.out.mono ?_
  rintro e1 w1 hx
  have HX := Lib.hid hx
  obtain ⟨rfl, _⟩ := hx
  go_wp2_with fail
  go_end0
  exact HX.out

end Go.Proofs.YtfibjcaidnofmaaGreatDoor

/- The program's ImportTree: what its walk leans on. -/
namespace Go.Proofs.YtfibjcaidnofmaaGreatDoor
open Go.RowKit

section
variable {α : Type} {s : Sh α} {t : TypeId}
/-- append(out, y) in a round. -/
theorem wpListIn_grow {F : Fence} {nn : Nat} {P : Program} {ops : Array Oper} {rest : List Oper} {o : Oper} {a : Go.Act} {Q : Exit → Go.Act → World → Prop} (hgd : o.guard = none) (p x : Operand) (ty : TypeId)
    (ho : o.op = .call { callee := .builtin .append, args := #[p, x], argTypes := #[ty, ty] }) (ht : P.underlying ty = some (.slice t))
    {z : Value} {by_ : Nat} (hzz : z.cells.size = s.k) (hk : 0 < s.k) (hby : by_ ≤ 4096) (hinfo : (P.info? t).map (fun i => (i.zero, i.size, i.bytes)) = some (some z, s.k, by_))
    (w : World) (base m m' hi : Nat) (A : Option Addr) (n c : Nat) (xs : List α) (us : List Value) (y : α) (hs : a.eval p = .slice A n c) (h1 : Own (Sh.row t s) w base m [.slice A n c] xs) (h2 : Own s w m' hi us y) (hm : m ≤ m') (hb : base ≤ m') (hhi : hi ≤ w.heap.size) (hbase : base ≤ w.heap.size)
    (hx : a.eval x = .slice (some ⟨w.heap.size, 0, none⟩) 1 1) (hlen : n ≤ 1000000000)
    (h : ∀ A' c' w', Own (Sh.row t s) w' base w'.heap.size [.slice A' (n + 1) c'] (xs ++ [y]) → Below base w w' → w.heap.size < w'.heap.size → KeepsOthers w w' → wpListIn F nn P ops Q rest (a.put o.dst (.slice A' (n + 1) c')) w') : wpListIn F nn P ops Q (o :: rest) a (w.alloc (.cells us.toArray t)) := by
  obtain ⟨i0, hi0, hz0, hz1, hz2⟩ := info_parts hinfo
  have hba := (Below.refl w.heap.size w).alloc (Nat.le_refl _) (.cells us.toArray t)
  have h2b := h2.below hba hhi
  obtain ⟨F1, ⟨A', c', cs, Fs, e, ho1, eF, hel⟩, hN, hr⟩ := h1
  have hlt1 : ∀ b ∈ F1, b < w.heap.size := fun b hb' => (Sh.row t s).O_lt ⟨A', c', cs, Fs, e, ho1, eF, hel⟩ b hb'
  injection e with e _
  injection e with e1 e2 e3
  subst e1 e2 e3
  have h1b : Own (Sh.row t s) (w.alloc (.cells us.toArray t)) base m [.slice A xs.length c] xs := by
    refine ⟨F1, (Sh.row t s).O_keep ⟨A, c, cs, Fs, rfl, ho1, eF, hel⟩ (fun b hb' => hba.block b (hlt1 b hb')), hN, hr⟩
  have ho2 : (w.alloc (.cells us.toArray t)).ownsRow 0 t s.k (.slice A xs.length c) xs.length cs := ho1.alloc _
  have ho3 : (w.alloc (.cells us.toArray t)).ownsRow base t s.k (.slice A xs.length c) xs.length cs := ownsRow_base ho2 fun g hg => (hr g (by rw [eF, hg]; simp)).1
  have hul : us.length = s.k := h2.len
  obtain ⟨g, cap, w', hrun, q1, q2, q3, q4⟩ := run_append_lies (P := P) (w.alloc (.cells us.toArray t)) ty o.type base t i0 _ s.k by_ ht hi0 hz0 hz1 hz2 hzz hk (.slice A xs.length c) xs.length cs ho3 ⟨w.heap.size, 0, none⟩ 1 1 us (by omega)
    (World.news_of_block (Blk.new w t us.toArray)) (fun u hu => s.R_one h2.reads u hu) (by omega) (by unfold maxLen; omega) (Nat.le_trans (Nat.mul_le_mul_left _ hby) (by omega)) (by simp; omega) _ rfl
  have hcells : ∀ j, (Value.slice A xs.length c).ownBlock = some j → ∀ ob : Obj, w.heap[j]? = some ob → ob.isCells = true := fun j hj ob hob => by
    rcases ho1.2 with ⟨e4, _⟩ | ⟨g', cap', cur', e4, _, hg', _⟩
    · rw [e4] at hj; cases hj
    · rw [e4] at hj
      injection hj with hj
      subst hj
      rw [hob] at hg'
      injection hg' with hg'
      rw [hg']; rfl
  refine wpListIn_plain hgd fun K hK => ?_
  unfold Oper.wpIn
  refine ⟨?_, ?_⟩
  · simp [Oper.about, ho, resolve, Target.leads, Sem.run_pure]
  · rw [Oper.semAt_plain F _ _ (by rw [ho]; intro c hc; cases hc)]
    simp [execOp, ho, resolve, invoke, builtin, hs, hx, hrun, Result.andThen]
    have hsz : w.heap.size < w'.heap.size := by have := q2.size; rw [heap_alloc_size1] at this; omega
    refine hK _ _ (h _ _ w' (Own.grow h1b h2b hm hb (by simp; omega) ho2 q1 q2 q3 q4) (((Below.refl base w).alloc hbase _).grown q2 (by simp; omega) fun k hk => (hr k (by rw [eF, hk]; simp)).1) hsz ⟨Nat.le_of_lt hsz, fun k ob hob hcl => ?_⟩)
    have hkl := (Array.getElem?_eq_some_iff.1 hob).1
    rw [q2.block k (by rw [heap_alloc_size1]; omega) (fun e => by rw [hcells k e.symm ob hob] at hcl; cases hcl), hba.block k hkl]
    exact hob
end

/-- Leaving a function that holds a range over a function: ahead of the loop. -/
theorem postM_ret0 {n : Nat} {P : Program} {fn : Func} {R : Ending → World → Prop} {a : Go.Act} {w : World} {v : Value} (hr : (results fn a.tmps).run P w = .ok v w) (hd : a.defers = []) (hR : R (.returned v) w) : bodyPostM Fence.wide n P fn R .ret a w := by
  show LeavesInM Fence.wide n P fn a.tmps R a.defers .returning w
  rw [hd]
  exact ⟨v, hr, hR⟩
/-- .. behind it. -/
theorem postM_ret1 {n D : Nat} {P : Program} {fn : Func} {R : Ending → World → Prop} {a : Go.Act} {w : World} {v : Value} (hK : w.heap[D]? = some (.deferred (some []))) (hr : (results fn a.tmps).run P (w.putObj D (.deferred none)) = .ok v (w.putObj D (.deferred none)))
    (hd : a.defers = [{ target := .collected D, args := #[] }]) (hR : R (.returned v) (w.putObj D (.deferred none))) : bodyPostM Fence.wide n P fn R .ret a w := by
  show LeavesInM Fence.wide n P fn a.tmps R a.defers .returning w
  rw [hd]
  exact ⟨by simp, .inl ⟨D, _, rfl, run_takeDeferred hK, ⟨v, hr, hR⟩⟩⟩

theorem cut_cases (l : List UInt8) : (∃ a z, l = a ++ 10 :: z ∧ (∀ c ∈ a, c ≠ 10) ∧ Lib.cut l [10] = (a, z, true)) ∨ ((∀ c ∈ l, c ≠ 10) ∧ Lib.cut l [10] = (l, [], false)) := by
  rcases idx_cases l with ⟨a, z, e, h, _⟩ | ⟨h, _⟩
  · exact .inl ⟨a, z, e, h, by rw [e]; exact cut_app a z 10 h⟩
  · refine .inr ⟨h, ?_⟩
    unfold Lib.cut
    rw [index_none l 10 h]
    rfl
def trimN (l : List UInt8) : List UInt8 := Lib.trimSuffix l [10]
theorem trimN_end (a : List UInt8) : trimN (a ++ [10]) = a := by
  unfold trimN Lib.trimSuffix Lib.hasSuffix
  rw [if_pos (List.isSuffixOf_iff_suffix.2 ⟨a, rfl⟩), List.length_append, Nat.add_sub_cancel, List.take_append_of_le_length (Nat.le_refl _), List.take_length]
theorem trim_chunks {z : List UInt8} (h : (linesP z).2 = []) : (chunksP z).map trimN = (linesP z).1 := by
  unfold chunksP
  rw [if_pos h, List.append_nil, List.map_map]
  conv => rhs; rw [← List.map_id (linesP z).1]
  exact List.map_congr_left fun a _ => trimN_end a
theorem chunks_len {z : List UInt8} (h : (linesP z).2 = []) : (chunksP z).length = (linesP z).1.length := by
  unfold chunksP
  rw [if_pos h, List.append_nil, List.length_map]

set_option maxHeartbeats 1000000 in
theorem lines_any (s : ByteArray) (w : World) : Calls Tryz.prog 43 #[.string s] w fun e w' => e = .returned (.func (.func 102) #[] #[.pointer (some ⟨w.heap.size, 0, none⟩)]) ∧ w' = w.alloc (.cells #[.string s] 9) := by
  go_enter Tryz.func43, Tryz.ntmps43
  go_wp2_with fail
  go_ret
  exact ⟨rfl, rfl⟩

end Go.Proofs.YtfibjcaidnofmaaGreatDoor

/- A row of nodes of one's own, sorted. -/
namespace Go.Proofs.YtfibjcaidnofmaaGreatDoor
open Go.RowKit
open Go.Sort hiding Below

set_option maxHeartbeats 4000000 in
set_option maxRecDepth 100000 in
theorem ins0_any (A : Option Addr) (c : Nat) (w : World) :
    Calls Tryz.prog 154 #[.slice A 0 c, .int .i64 0, .int .i64 0, cmpV] w fun e w' => e = .returned (.tuple #[]) ∧ Below w.heap.size w w' := by
  go_enter Tryz.func154, Tryz.ntmps154
  go_wp2_with fail
  go_loopw [8, 9] (fun x _ wr => x = .int .i64 1 ∧ Below w.heap.size w wr) (fun _ _ _ => 0)
  case atStart => exact ⟨rfl, Below.refl _ _⟩
  case round =>
    obtain ⟨rfl, hb⟩ := hrel
    go_wp2_with fail
    go_end0
    exact ⟨rfl, hb⟩

set_option maxHeartbeats 4000000 in
set_option maxRecDepth 100000 in
theorem stable0_any (A : Option Addr) (c : Nat) (w : World) :
    Calls Tryz.prog 105 #[.slice A 0 c, .int .i64 0, cmpV] w fun e w' => e = .returned (.tuple #[]) ∧ Below w.heap.size w w' := by
  go_enter Tryz.func105, Tryz.ntmps105
  go_wp2_with fail
  go_loopw [7, 8] (fun x y wr => x = .int .i64 0 ∧ y = .int .i64 20 ∧ Below w.heap.size w wr) (fun _ _ _ => 0)
  case atStart => exact ⟨rfl, rfl, Below.refl _ _⟩
  case round =>
    obtain ⟨rfl, rfl, hb⟩ := hrel
    go_wp2_with fail
    refine (ins0_any A c _).mono ?_
    rintro e1 w1 ⟨rfl, hb1⟩
    have HB := Lib.hid (hb.trans (hb1.mono hb.size))
    clear hb hb1
    go_wp2_with fail
    go_loopw [6, 7, 8, 9] (fun x _ _ _ wr => x = .int .i64 20 ∧ Below w.heap.size w wr) (fun _ _ _ _ _ => 0)
    case atStart => exact ⟨rfl, HB.out⟩
    case round =>
      obtain ⟨rfl, hb⟩ := hrel
      go_wp2_with fail
      go_end0
      exact ⟨rfl, hb⟩

set_option maxHeartbeats 4000000 in
set_option maxRecDepth 100000 in
theorem sort0_any (A : Option Addr) (c : Nat) (w : World) :
    Calls Tryz.prog 45 #[.slice A 0 c, cmpV] w fun e w' => e = .returned (.tuple #[]) ∧ Below w.heap.size w w' := by
  go_enter Tryz.func45, Tryz.ntmps45
  go_wp2_with fail
  refine (stable0_any A c _).mono ?_
  rintro e1 w1 ⟨rfl, hb1⟩
  go_wp2_with fail
  go_end0
  exact ⟨rfl, hb1⟩

theorem permIn_all {d d1 : Array ElN} (h : PermIn 0 d.size d d1) : d1.toList.Perm d.toList := by
  have h3 := h.2.2
  rw [Array.extract_size] at h3
  have : d1.extract 0 d.size = d1 := by rw [← h.1, Array.extract_size]
  rwa [this] at h3

theorem sort_own (A : Option Addr) (c lo : Nat) (ns : List Nod) (w W : World) (hE : TabsIn w) (hb : Below w.heap.size w W) (hlo : w.heap.size ≤ lo) (hsm : ∀ x ∈ ns, SmN (tyOf x)) (hl : ns.length ≤ 120)
    (hO : Own (Sh.row 32 shNode) W lo W.heap.size [.slice A ns.length c] (ns.map tyOf)) (hloW : lo ≤ W.heap.size) :
    Calls Tryz.prog 45 #[.slice A ns.length c, cmpV] W fun e w' => e = .returned (.tuple #[]) ∧ W.heap.size ≤ w'.heap.size ∧ Below lo W w' ∧
      ∃ P : List Nod, P.Perm ns ∧ (P.Pairwise fun a b => befP (keyN b) (keyN a) = false) ∧ Own (Sh.row 32 shNode) w' lo w'.heap.size [.slice A ns.length c] (P.map tyOf) := by
  rcases Nat.eq_zero_or_pos ns.length with h0 | h0
  · obtain rfl : ns = [] := List.length_eq_zero_iff.1 h0
    refine (sort0_any A c W).mono ?_
    rintro e w' ⟨rfl, hbw⟩
    exact ⟨rfl, hbw.size, hbw.mono hloW, [], List.Perm.refl _, List.Pairwise.nil, (hO.below hbw (Nat.le_refl _)).more (Nat.le_refl _) hbw.size⟩
  · obtain ⟨F, hO', hN, hr⟩ := hO
    obtain ⟨g, d, rfl, hlot, hds, hcm, hval, rfl⟩ := Lot.start hO' hN h0
    have hg := hr g (List.mem_cons_self ..)
    have hgl : lo ≤ g := hg.1
    have hLN : LotN TabsIn W W g c d := by
      refine ⟨hlot, fun k hk => ?_, by omega, fun w' ho => ?_⟩
      · have h1 : (d[k]!).2.2 ∈ ns.map tyOf := by rw [← hval]; exact List.mem_map_of_mem (get_in hk)
        obtain ⟨x, hx, e⟩ := List.mem_map.1 h1
        rw [← e]; exact hsm x hx
      · exact hE.below (hb.trans (ho.below1 (by omega) hb.size))
    have HS := sortStable_any cmpN_holds W W g c d hLN
    rw [hds] at HS
    refine HS.mono ?_
    rintro e w' ⟨rfl, hsz, d1, hL1, hp, hs⟩
    have hpa : d1.toList.Perm d.toList := permIn_all (by rw [hds]; exact hp)
    have hd1 : d1.size = ns.length := by rw [hp.1, hds]
    obtain ⟨F1, hF1, hN1, hP1⟩ := hL1.lot.done hpa hN hcm
    refine ⟨rfl, hsz, hL1.lot.out.below1 hgl hloW, (d1.toList.map (·.2.2)).map nodOf, ?_, ?_, ?_⟩
    · have h1 : ns = (d.toList.map (·.2.2)).map nodOf := by rw [hval, map_nodOf]
      rw [h1]
      exact (hpa.map _).map _
    · rw [List.pairwise_map, List.pairwise_map, List.pairwise_iff_getElem]
      intro i j hi hj hij
      have h1 := hs i j (Nat.zero_le _) hij (by rw [← hd1]; simpa using hj)
      rw [getElem!_pos d1 i (by simpa using hi), getElem!_pos d1 j (by simpa using hj)] at h1
      exact h1
    · rw [hd1] at hF1
      have h2 : ((d1.toList.map (·.2.2)).map nodOf).map tyOf = d1.toList.map (·.2.2) := by rw [List.map_map]; exact List.map_id _
      rw [h2]
      refine ⟨F1, hF1, hN1, fun b hb' => ?_⟩
      have := hr b (hP1.subset hb')
      exact ⟨this.1, by omega⟩

end Go.Proofs.YtfibjcaidnofmaaGreatDoor

namespace Go.Proofs.YtfibjcaidnofmaaGreatDoor
open Go.RowKit
attribute [local go_sem] Oper.semAt_some

theorem importP_not {l : List UInt8} (h : ¬ 60000 < l.length) (hl : ∀ c ∈ l, c ≠ 10) : importP l = (14, []) := importP_nil h (by rw [linesP_none l hl])
/-- What the program's ImportTree owes. -/
def ImpO (w w' : World) (imp : Int × List Nod) (e : Ending) : Prop :=
  ∃ A c, e = .returned (.tuple #[.agg #[.slice A imp.2.length c], .int .i64 imp.1]) ∧ Own shTree w' w.heap.size w'.heap.size [.slice A imp.2.length c] (imp.2.map tyOf)
theorem impO_none {w w' : World} {imp : Int × List Nod} {k : Int} (h : imp = (k, [])) : ImpO w w' imp (.returned (.tuple #[.agg #[.slice none 0 0], .int .i64 k])) := by
  subst h
  exact ⟨none, 0, rfl, Own.nil_row _ _ _⟩

/-- The cells of the two results. -/
def Cells2 (w W : World) (u v : Value) : Prop := Blk W w.heap.size 26 #[u] ∧ Blk W (w.heap.size + 1) 2 #[v] ∧ Below w.heap.size w W
theorem Cells2.below {w W W' : World} {u v : Value} (h : Cells2 w W u v) (hb : Below W.heap.size W W') : Cells2 w W' u v :=
  ⟨h.1.below hb h.1.lt, h.2.1.below hb h.2.1.lt, h.2.2.trans (hb.mono h.2.2.size)⟩
theorem Cells2.set {w W : World} {u v : Value} (h : Cells2 w W u v) (x y : Value) : Cells2 w ((W.setCell ⟨w.heap.size, 0, none⟩ x).setCell ⟨w.heap.size + 1, 0, none⟩ y) x y :=
  ⟨(h.1.set_ 0 x).far (by simp) y, (h.2.1.far (by simp) x).set_ 0 y, (h.2.2.setCell (Nat.le_refl _) _).setCell (by simp) _⟩
theorem Cells2.facts {w W : World} {u v : Value} (h : Cells2 w W u v) (x : Value) : (∀ i, W.cell? ⟨w.heap.size, i, none⟩ = (#[u] : Array Value)[i]?) ∧ W.frozen? ⟨w.heap.size, 0, none⟩ = false ∧
    (∀ i, (W.setCell ⟨w.heap.size, 0, none⟩ x).cell? ⟨w.heap.size + 1, i, none⟩ = (#[v] : Array Value)[i]?) ∧ (W.setCell ⟨w.heap.size, 0, none⟩ x).frozen? ⟨w.heap.size + 1, 0, none⟩ = false := by
  have hB1' := h.2.1.far (p := ⟨w.heap.size, 0, none⟩) (by simp) x
  exact ⟨h.1.cell, h.1.frozen 0, hB1'.cell, hB1'.frozen 0⟩
theorem below_putObj {B : Nat} {a W : World} (h : Below B a W) {l : Nat} (hl : B ≤ l) (o : Obj) : Below B a (W.putObj l o) :=
  ⟨h.os, h.tape, h.output, by have := h.size; simpa using this, fun k hk => (World.putObj_heap_other (by omega)).trans (h.block k hk)⟩
theorem Cells2.putObj {w W : World} {u v : Value} (h : Cells2 w W u v) {l : Nat} (hl : w.heap.size + 1 < l) (o : Obj) : Cells2 w (W.putObj l o) u v :=
  ⟨(World.putObj_heap_other (by omega)).trans h.1, (World.putObj_heap_other (by omega)).trans h.2.1, below_putObj h.2.2 (by omega) o⟩
theorem Cells2.far {w W : World} {u v : Value} (h : Cells2 w W u v) {p : Addr} (hp : w.heap.size + 1 < p.block) (x : Value) : Cells2 w (W.setCell p x) u v :=
  ⟨h.1.far (by omega) x, h.2.1.far (by omega) x, h.2.2.setCell (by omega) _⟩
theorem keeps_below {W W' : World} (h : Below W.heap.size W W') : KeepsOthers W W' := ⟨h.size, fun k _ hk _ => (h.block k (Array.getElem?_eq_some_iff.1 hk).1).trans hk⟩
theorem Blk.put_ {w : World} {g l : Nat} {t : TypeId} {cs : Array Value} (h : Blk w g t cs) (hl : g ≠ l) (o : Obj) : Blk (w.putObj l o) g t cs := (World.putObj_heap_other hl).trans h
theorem Own.put_ {α : Type} {s : Sh α} {w : World} {lo hi l : Nat} {vs : List Value} {x : α} (h : Own s w lo hi vs x) (hl : l < lo) (o : Obj) : Own s (w.putObj l o) lo hi vs x := h.keep fun b h1 _ => World.putObj_heap_other (by omega)

/-- What the loop keeps: the nodes read so far, in the tree's row. -/
def ImIv (w : World) (B8 S5 : Nat) (pre : List ByteArray) (W : World) : Prop :=
  Cells2 w W (.slice none 0 0) (.int .i64 0) ∧ S5 ≤ W.heap.size ∧ ∃ ns A c, readAll (pre.map fun x => trimN x.data.toList) = some ns ∧ ns.length = pre.length ∧ Blk W B8 26 #[.slice A ns.length c] ∧ Own (Sh.row 32 shNode) W (S5 + 2) W.heap.size [.slice A ns.length c] (ns.map tyOf)
def ImIx (w : World) (IMP : Int × List Nod) (c : Code) (_ : List ByteArray) (W : World) : Prop := c = .ret ∧ IMP = (14, []) ∧ Cells2 w W (.slice none 0 0) (.int .i64 14)
theorem ImIv.alloc {w : World} {B8 S5 : Nat} {pre : List ByteArray} {W : World} (h : ImIv w B8 S5 pre W) (o : Obj) : ImIv w B8 S5 pre (W.alloc o) := by
  obtain ⟨h1, h2, ns, A, c, h3, h4, h5, h6⟩ := h
  have hb := (Below.refl W.heap.size W).alloc (Nat.le_refl _) o
  exact ⟨h1.below hb, by simp; omega, ns, A, c, h3, h4, h5.alloc o, (h6.below hb (Nat.le_refl _)).more (Nat.le_refl _) hb.size⟩
theorem ImIv.put {w : World} {B8 S5 : Nat} {pre : List ByteArray} {W : World} (h : ImIv w B8 S5 pre W) (hB : B8 < S5) (hw : w.heap.size < S5) (o : Obj) : ImIv w B8 S5 pre (W.putObj (S5 + 1) o) := by
  obtain ⟨h1, h2, ns, A, c, h3, h4, h5, h6⟩ := h
  have hz : (W.putObj (S5 + 1) o).heap.size = W.heap.size := by simp
  exact ⟨h1.putObj (by omega) o, by omega, ns, A, c, h3, h4, h5.put_ (by omega) o, by rw [hz]; exact h6.put_ (by omega) o⟩
theorem ImIv.set {w : World} {B8 S5 Bx : Nat} {pre : List ByteArray} {W : World} (h : ImIv w B8 S5 pre W) (hB : Bx ≠ B8) (hw : w.heap.size + 1 < Bx) (hx : Bx < S5) (v : Value) : ImIv w B8 S5 pre (W.setCell ⟨Bx, 0, none⟩ v) := by
  obtain ⟨h1, h2, ns, A, c, h3, h4, h5, h6⟩ := h
  have hz : (W.setCell ⟨Bx, 0, none⟩ v).heap.size = W.heap.size := by simp
  exact ⟨h1.far (by simpa using hw) v, by omega, ns, A, c, h3, h4, h5.far (by simpa using hB.symm) v, by rw [hz]; exact h6.setCell (by simp; omega) v⟩
theorem ImIv.drew {w : World} {B8 S5 : Nat} {pre : List ByteArray} {W : World} (h : ImIv w B8 S5 pre W) (k : Nat) : ImIv w B8 S5 pre (W.drewN k) := by
  obtain ⟨h1, h2, ns, A, c, h3, h4, h5, h6⟩ := h
  exact ⟨h1.below (below_drewN' W k), h2, ns, A, c, h3, h4, h5.drewN k, h6.below (below_drewN' W k) (Nat.le_refl _)⟩

theorem chunk_len {l a : List UInt8} (h : a ∈ chunksP l) : a.length ≤ l.length + 1 := by
  have h2 := linesP_len l
  unfold chunksP at h
  rcases List.mem_append.1 h with h | h
  · obtain ⟨b, hb, rfl⟩ := List.mem_map.1 h
    have := h2.1 b hb
    rw [List.length_append]; simp; omega
  · split at h
    · cases h
    · rw [List.mem_singleton.1 h]
      have := h2.2; omega
theorem trimN_len (a : List UInt8) : (trimN a).length ≤ a.length := by
  unfold trimN Lib.trimSuffix
  split
  · rw [List.length_take]; exact Nat.min_le_right _ _
  · exact Nat.le_refl _
theorem nodO_low {w : World} {b b' : Nat} {v : Value} {x : Nod} (h : NodO w b v x) (hb : b' ≤ b) : NodO w b' v x := by
  obtain ⟨A, c, e, h1, h2⟩ := h
  exact ⟨A, c, e, h1, h2.1, h2.2.imp id fun ⟨g, cap, cur, e1, e2, r⟩ => ⟨g, cap, cur, e1, Nat.le_trans hb e2, r⟩⟩
theorem nodO_own {w : World} {base : Nat} {v : Value} {x : Nod} (h : NodO w base v x) (hb : base ≤ w.heap.size) : ∃ A c, v = .agg #[.string x.name, .slice A x.subs.length c, .string x.value] ∧ Own shNode w base w.heap.size [.string x.name, .slice A x.subs.length c, .string x.value] (tyOf x) := by
  obtain ⟨A, c, e, h⟩ := h
  obtain ⟨A', c', e2, h2⟩ := Own_of_ownR h (Nat.le_refl _)
  injection e2 with e3 e4 e5
  subst e3 e5
  exact ⟨A, c, e, Own.prod (Own.one w base base _) (Own.prod h2 (Own.one w w.heap.size w.heap.size _) (Nat.le_refl _) hb (Nat.le_refl _)) (Nat.le_refl _) (Nat.le_refl _) hb⟩

theorem heap_set2 {w W : World} {D : Nat} {o : Obj} (h : W.heap[D]? = some o) (h0 : w.heap.size ≠ D) (h1 : w.heap.size + 1 ≠ D) (x y : Value) : ((W.setCell ⟨w.heap.size, 0, none⟩ x).setCell ⟨w.heap.size + 1, 0, none⟩ y).heap[D]? = some o :=
  (Below.heap_setCell _ ⟨w.heap.size + 1, 0, none⟩ _ _ (fun e => h1 e.symm)).trans ((Below.heap_setCell _ ⟨w.heap.size, 0, none⟩ _ _ (fun e => h0 e.symm)).trans h)

theorem results2 (tmps : Array Value) (w W : World) (u v : Value) (h : Blk W w.heap.size 26 #[u] ∧ Blk W (w.heap.size + 1) 2 #[v])
    (h2 : tmps.getD 2 undef = .pointer (some ⟨w.heap.size, 0, none⟩)) (h3 : tmps.getD 3 undef = .pointer (some ⟨w.heap.size + 1, 0, none⟩)) :
    (results Tryz.f14 tmps).run Tryz.prog W = .ok (.tuple #[.agg #[u], v]) W := by
  have h2' : tmps[2]?.getD undef = .pointer (some ⟨w.heap.size, 0, none⟩) := by simpa using h2
  have h3' : tmps[3]?.getD undef = .pointer (some ⟨w.heap.size + 1, 0, none⟩) := by simpa using h3
  have c3 := h.2.cell 0
  have hv : (loadVar 2 ⟨w.heap.size + 1, 0, none⟩).run Tryz.prog W = .ok v W := by simp [loadVar, isAgg, c3]
  simp [results, h2', h3', asAddr, run_loadVar_row W w.heap.size 26 26 #[u] (0, 0) _ h.1 Tryz.underlying26 rfl (by kernel_rfl), hv]

theorem importP_big {l : List UInt8} (h : 60000 < l.length) : importP l = (4, []) := by unfold importP; rw [if_pos h]
theorem cutR_any (s : ByteArray) (hs : s.size ≤ 1048576) (W : World) (hm : ∃ m', W.cell? ⟨0, 0, none⟩ = some (.int .i64 m')) :
    Calls Tryz.prog 39 #[.string s, .string ⟨#[10]⟩] W fun e w' => (∃ F R b, e = .returned (.tuple #[.string F, .string R, .bool b]) ∧ F.size ≤ 1048576 ∧ R.size ≤ 1048576 ∧
      ((b = true ∧ s.data.toList = F.data.toList ++ 10 :: R.data.toList ∧ ∀ c ∈ F.data.toList, c ≠ 10) ∨ (b = false ∧ ∀ c ∈ s.data.toList, c ≠ 10))) ∧ Below W.heap.size W w' := by
  obtain ⟨m0, hm0⟩ := hm
  have hlen : s.data.toList.length = s.size := by simp
  refine (Tryz.strings_Cut s ⟨#[10]⟩ m0 W (by omega) hm0).mono ?_
  rintro e w' ⟨he, k, rfl⟩
  have he' : e = .returned (.tuple #[.string ⟨(Lib.cut s.data.toList [10]).1.toArray⟩, .string ⟨(Lib.cut s.data.toList [10]).2.1.toArray⟩, .bool (Lib.cut s.data.toList [10]).2.2]) := he
  refine ⟨?_, below_drewN' W k⟩
  rcases cut_cases s.data.toList with ⟨a, z, el, ha, hc⟩ | ⟨hn, hc⟩
  · rw [hc] at he'
    have := congrArg List.length el
    rw [hlen, List.length_append, List.length_cons] at this
    exact ⟨_, _, _, he', by show a.length ≤ _; omega, by show z.length ≤ _; omega, .inl ⟨rfl, el, ha⟩⟩
  · rw [hc] at he'
    exact ⟨_, _, _, he', by show s.data.toList.length ≤ _; omega, by show 0 ≤ _; omega, .inr ⟨rfl, hn⟩⟩

set_option maxHeartbeats 16000000 in
set_option maxRecDepth 100000 in
theorem implImportTree_any (s : ByteArray) (hs : s.size ≤ 1048576) (w : World) (hE : EnvR w) :
    Calls Tryz.prog 14 #[.string s] w fun e w' => ImpO w w' (importP s.data.toList) e ∧ Below w.heap.size w w' := by
  obtain ⟨IMP, hIMP⟩ : ∃ IMP, IMP = importP s.data.toList := ⟨_, rfl⟩
  rw [← hIMP]
  have HI := Lib.hid hIMP
  have hlen : s.data.toList.length = s.size := by simp
  obtain ⟨mm, hm⟩ := hE.1.2
  have hb0 := ((Below.refl w.heap.size w).alloc (Nat.le_refl _) (.cells #[.slice none 0 0] 26)).alloc (by simp) (.cells #[.int .i64 0] 2)
  have C0 : Cells2 w ((w.alloc (.cells #[.slice none 0 0] 26)).alloc (.cells #[.int .i64 0] 2)) (.slice none 0 0) (.int .i64 0) := ⟨(Blk.new w 26 #[.slice none 0 0]).alloc (.cells #[.int .i64 0] 2), by
    have := Blk.new (w.alloc (.cells #[.slice none 0 0] 26)) 2 #[.int .i64 0]
    simpa using this, hb0⟩
  have C0 := Lib.hid C0
  have hz0 : ((w.alloc (.cells #[.slice none 0 0] 26)).alloc (.cells #[.int .i64 0] 2)).heap.size = w.heap.size + 2 := by simp
  have HE := Lib.hid hE
  have hmg : ∀ W, Below w.heap.size w W → ∃ m', W.cell? ⟨0, 0, none⟩ = some (.int .i64 m') := fun W hb => (hE.below hb).1.2
  have HMG := Lib.hid hmg
  clear hIMP hE hb0 hm hmg
  refine (callsIn_wide (n := 5)).1 (callsIn_of_wp_marks Tryz.func14 rfl trivial ?_)
  refine wpIn_wide.2 ?_
  obtain ⟨Q, hQ⟩ : ∃ Q, Q = bodyPostM Fence.wide 5 Tryz.prog Tryz.f14 (fun e w' => ImpO w w' IMP e ∧ Below w.heap.size w w') := ⟨_, rfl⟩
  rw [← hQ]
  have HQ0 := Lib.hid (fun (tmps : Array Value) (W : World) (k : Int) (h2 : tmps.getD 2 undef = .pointer (some ⟨w.heap.size, 0, none⟩)) (h3 : tmps.getD 3 undef = .pointer (some ⟨w.heap.size + 1, 0, none⟩)) (hC : Cells2 w W (.slice none 0 0) (.int .i64 k)) (hI : IMP = (k, [])) => show Q .ret { tmps := tmps, defers := [] } W by
    rw [hQ]; exact postM_ret0 (results2 tmps w W _ _ ⟨hC.1, hC.2.1⟩ h2 h3) rfl ⟨impO_none hI, hC.2.2⟩)
  have HQ1 := Lib.hid (fun (tmps : Array Value) (W : World) (D : Nat) (A : Option Addr) (c : Nat) (h2 : tmps.getD 2 undef = .pointer (some ⟨w.heap.size, 0, none⟩)) (h3 : tmps.getD 3 undef = .pointer (some ⟨w.heap.size + 1, 0, none⟩)) (hK : W.heap[D]? = some (.deferred (some []))) (hD : w.heap.size + 1 < D) (hC : Cells2 w W (.slice A IMP.2.length c) (.int .i64 IMP.1))
      (hO : Own shTree (W.putObj D (.deferred none)) w.heap.size (W.putObj D (.deferred none)).heap.size [.slice A IMP.2.length c] (IMP.2.map tyOf)) => show Q .ret { tmps := tmps, defers := [{ target := .collected D, args := #[] }] } W by
    have hC' := hC.putObj hD (.deferred none)
    rw [hQ]; exact postM_ret1 hK (results2 tmps w _ _ _ ⟨hC'.1, hC'.2.1⟩ h2 h3) rfl ⟨⟨A, c, rfl, hO⟩, hC'.2.2⟩)
  have HQ2 := Lib.hid (fun (tmps : Array Value) (W : World) (D : Nat) (k : Int) (h2 : tmps.getD 2 undef = .pointer (some ⟨w.heap.size, 0, none⟩)) (h3 : tmps.getD 3 undef = .pointer (some ⟨w.heap.size + 1, 0, none⟩)) (hK : W.heap[D]? = some (.deferred (some []))) (hD : w.heap.size + 1 < D) (hC : Cells2 w W (.slice none 0 0) (.int .i64 k)) (hI : IMP = (k, [])) =>
    show Q .ret { tmps := tmps, defers := [{ target := .collected D, args := #[] }] } W from HQ1.out tmps W D none 0 h2 h3 hK hD (by rw [hI]; exact hC) (by rw [hI]; exact Own.nil_row _ _ _))
  clear hQ
  simp only [Tryz.ntmps14, List.size_toArray, List.length_cons, List.length_nil, Nat.reduceAdd, Nat.reduceSub, Array.replicate_succ, Array.replicate_zero, List.push_toArray, List.append_toArray, List.nil_append, List.cons_append]
  go_wp2_with fail
  refine (cutR_any s hs _ (HMG.out _ C0.out.2.2)).mono ?_
  rintro e1 w1 ⟨⟨F, R, b, rfl, hF, hR, hcut⟩, hb1⟩
  have C1 := Lib.hid (C0.out.below hb1)
  have hz1 := hb1.size
  have HCUT := Lib.hid hcut
  clear C0 hb1 hcut
  go_wp2_with fail
  refine (announced_any F hF _ (HE.out.below C1.out.2.2)).mono ?_
  rintro e2 w2 ⟨rfl, hb2⟩
  have C2 := Lib.hid (C1.out.below hb2)
  have hz2 := hb2.size
  clear C1 hb2
  obtain ⟨M, hM⟩ : ∃ M, M = manyP F.data.toList := ⟨_, rfl⟩
  rw [← hM]
  have HM := Lib.hid hM
  clear hM
  by_cases hbig : 60000 < s.size
  · have HI4 := Lib.hid (HI.out.trans (importP_big (by rw [hlen]; exact hbig)))
    have i1 : (60000 : Int) < (s.size : Int) := by omega
    clear hlen
    obtain ⟨f0, z0, f1, z1⟩ := C2.out.facts (.slice none 0 0)
    go_wp2_with fail
    exact HQ0.out _ _ _ rfl rfl (C2.out.set _ _) HI4.out
  · have i1 : ¬ (60000 : Int) < (s.size : Int) := by omega
    have H60 := Lib.hid (show ¬ 60000 < s.data.toList.length by rw [hlen]; exact hbig)
    have HLEN := Lib.hid hlen
    clear hlen hbig
    rcases HCUT.out with ⟨rfl, hl, ha⟩ | ⟨rfl, hn⟩
    · have hR60 : R.size < 60000 := by
        have h1 := congrArg List.length hl
        rw [HLEN.out, List.length_append, List.length_cons] at h1
        have h2 : R.data.toList.length = R.size := by simp
        omega
      have HIC := Lib.hid (importP_cons H60.out (a := F.data.toList) (L := (linesP R.data.toList).1) (by rw [hl, linesP_line _ _ ha]))
      rw [← HI.out, show (linesP s.data.toList).2 = (linesP R.data.toList).2 by rw [hl, linesP_line _ _ ha], ← HM.out] at HIC
      clear HCUT hl ha
      by_cases h120 : 120 < M
      · have HI4 := Lib.hid (HIC.out.1 h120)
        obtain ⟨f0, z0, f1, z1⟩ := C2.out.facts (.slice none 0 0)
        go_wp2_with fail
        exact HQ0.out _ _ _ rfl rfl (C2.out.set _ _) HI4.out
      · by_cases hneg : M < 0
        · have HI4 := Lib.hid (HIC.out.2.1 h120 (.inr (.inl hneg)))
          obtain ⟨f0, z0, f1, z1⟩ := C2.out.facts (.slice none 0 0)
          go_wp2_with fail
          exact HQ0.out _ _ _ rfl rfl (C2.out.set _ _) HI4.out
        · obtain ⟨L, hL⟩ : ∃ L, L = (linesP R.data.toList).1 := ⟨_, rfl⟩
          have hcnt : Lib.countByte R.data.toList 10 = L.length := by
            rw [hL, linesP_count]; rfl
          have HL := Lib.hid hL
          have HCT := Lib.hid (Tryz.strings_Count_one R 10 w2)
          rw [hcnt] at HCT
          rw [← hL] at HIC
          clear hL hcnt
          by_cases hML : M = L.length
          · have HSF := Lib.hid (Tryz.strings_HasSuffix R ⟨#[10]⟩ w2 (by omega))
            have hsf : R.data.toList ≠ [] → Lib.hasSuffix R.data.toList (⟨#[10]⟩ : ByteArray).data.toList = decide ((linesP R.data.toList).2 = []) := fun h => linesP_whole _ h
            have HLP := Lib.hid (show ∀ L', (linesP R.data.toList).1 = L' → L = L' from fun L' h => HL.out.trans h)
            have im : ((L.length : Nat) : Int) = M := by omega
            by_cases hbad : R.data.toList ≠ [] ∧ (linesP R.data.toList).2 ≠ []
            · have HI4 := Lib.hid (HIC.out.2.1 h120 (.inl (decide_eq_false hbad.2)))
              have hr0 : R.toList.isEmpty = false := by rw [Lib.toList_data, List.isEmpty_eq_false_iff]; exact hbad.1
              rw [hsf hbad.1, decide_eq_false hbad.2] at HSF
              obtain ⟨f0, z0, f1, z1⟩ := C2.out.facts (.slice none 0 0)
              clear hML hsf hbad
              go_wp2_with fail
              refine HCT.out.mono ?_
              rintro e3 w3 ⟨rfl, rfl⟩
              go_wp2_with fail
              refine HSF.out.mono ?_
              rintro e4 w4 ⟨rfl, rfl⟩
              go_wp2_with fail
              exact HQ0.out _ _ _ rfl rfl (C2.out.set _ _) HI4.out
            · have hwh : (linesP R.data.toList).2 = [] := by
                by_cases h : R.data.toList = []
                · rw [h]; rfl
                · exact Classical.byContradiction fun h2 => hbad ⟨h, h2⟩
              have HIM := Lib.hid (HIC.out.2.2 h120 (decide_eq_true hwh) hneg hML)
              rw [decide_eq_true hwh] at hsf
              have HWH := Lib.hid hwh
              have HSQ := Lib.hid hsf
              clear HIC hML hsf hbad hwh
              go_upto_region 5 with fail
              go_cut [51] from 31 (fun bv wc => bv = .bool false ∧ w2 = wc)
              case first =>
                by_cases h0 : R.data.toList = []
                · have hr0 : R.toList.isEmpty = true := by rw [Lib.toList_data, h0]; rfl
                  go_wp2_with fail
                  refine HCT.out.mono ?_
                  rintro e3 w3 ⟨rfl, rfl⟩
                  go_wp2_with fail
                  go_meet
                  case rel => exact ⟨by rw [decide_eq_false (by omega)], rfl⟩
                · have hr0 : R.toList.isEmpty = false := by rw [Lib.toList_data, List.isEmpty_eq_false_iff]; exact h0
                  rw [HSQ.out h0] at HSF
                  go_wp2_with fail
                  refine HCT.out.mono ?_
                  rintro e3 w3 ⟨rfl, rfl⟩
                  go_wp2_with fail
                  refine HSF.out.mono ?_
                  rintro e4 w4 ⟨rfl, rfl⟩
                  go_wp2_with fail
                  go_meet
                  case rel => exact ⟨by rw [decide_eq_false (by omega)], rfl⟩
              case rest =>
                obtain ⟨rfl, rfl⟩ := hcut
                clear HSQ HSF HCT HL H60
                have C3 := Lib.hid (C2.out.below ((Below.refl w2.heap.size w2).alloc (Nat.le_refl _) (.cells #[.slice none 0 0] 26)))
                have T3 := Lib.hid (Blk.new w2 26 #[.slice none 0 0])
                have hs3 : (w2.alloc (.cells #[.slice none 0 0] 26)).heap.size = w2.heap.size + 1 := by simp
                have hs2 : w.heap.size + 1 < w2.heap.size := C2.out.2.1.lt
                go_wp2_with fail
                refine (lines_any R _).mono ?_
                rintro e5 w5 ⟨rfl, hw5⟩
                have hb5 := (Below.refl (w2.alloc (.cells #[.slice none 0 0] 26)).heap.size (w2.alloc (.cells #[.slice none 0 0] 26))).alloc (Nat.le_refl _) (.cells #[.string R] 9)
                rw [← hw5] at hb5
                have X5 := Boxed.new (w2.alloc (.cells #[.slice none 0 0] 26)) 9 (.string R)
                rw [← hw5, hs3] at X5
                have C5 := Lib.hid (C3.out.below hb5)
                have T5 := Lib.hid (T3.out.below hb5 T3.out.lt)
                have hs5 : w5.heap.size = w2.heap.size + 2 := by rw [hw5]; simp
                rw [hs3]
                have X5 := Lib.hid X5
                clear hb5 hw5 T3 C3 C2 hs3
                go_wp2_with fail
                refine (wpIn_wide (n := 5)).1 ?_
                apply wpIn_range_box (α := ByteArray) (m := 5) (gf := 102) (Bx := w2.heap.size + 1) (t := 9) (v0 := .string R) (encs := fun x => #[.string x]) rfl (enters_of Tryz.func102 (by kernel_rfl) rfl) (fun _ => rfl) X5.out (lines1_box 5 R hR (w2.heap.size + 1)) (ImIv w w2.heap.size w5.heap.size) (ImIx w IMP)
                  (fun _ _ o h => h.alloc o) (fun _ _ o _ h => h.put (by omega) (by omega) o) (fun _ _ _ v h _ => h.set (by omega) (by omega) (by omega) v) (fun _ _ k h => h.drew k) (fun _ _ _ o _ h => ⟨h.1, h.2.1, h.2.2.putObj (by omega) o⟩)
                  (by exact ⟨C5.out, Nat.le_refl _, [], none, 0, rfl, rfl, T5.out, Own.nil_row _ _ _⟩)
                case hassign =>
                  intro l x W K hK
                  gi_wp2
                  exact hK
                case hbody =>
                  rintro l pre x W v hlt ⟨hC, hsz, ns, A, c, hra, hnl, hT, hO⟩ hbx ⟨zc, hzc⟩
                  have hxl : (trimN x.data.toList).length ≤ 1048576 := by
                    have h1 := chunk_len (l := R.data.toList) (a := x.data.toList) (by rw [← hzc]; simp)
                    have h2 := trimN_len x.data.toList
                    have h3 : R.data.toList.length = R.size := by simp
                    omega
                  have hnp : ns.length ≤ 120 := by
                    have h1 := congrArg List.length hzc
                    rw [chunks_len HWH.out, ← HLP.out _ rfl, List.length_append, List.length_map, List.length_cons] at h1
                    omega
                  have hxs : x.size ≤ 9223372036854775807 := by
                    have h1 := chunk_len (l := R.data.toList) (a := x.data.toList) (by rw [← hzc]; simp)
                    have h3 : R.data.toList.length = R.size := by simp
                    have h4 : x.data.toList.length = x.size := by simp
                    omega
                  have HRA := Lib.hid (show readAll ((pre ++ [x]).map fun x => trimN x.data.toList) = (rdlI (trimN x.data.toList)).map fun n => ns ++ [n] by
                    rw [List.map_append, List.map_cons, List.map_nil, readAll_snoc, hra]; rfl)
                  have HNO := Lib.hid (show readAll ((pre ++ [x]).map fun x => trimN x.data.toList) = none → readAll L = none from fun h => by
                    have hLc : L = ((pre ++ [x]).map fun x => trimN x.data.toList) ++ zc.map trimN := by
                      rw [HLP.out _ rfl, ← trim_chunks HWH.out, ← hzc]
                      simp [List.map_append, List.map_map, Function.comp_def]
                    refine readAll_none (k := (pre ++ [x]).length) ?_
                    rw [hLc, List.take_left' (by simp)]
                    exact h)
                  obtain ⟨rd, hrd⟩ : ∃ rd, rd = rdlI (trimN x.data.toList) := ⟨_, rfl⟩
                  have HRL := Lib.hid (show Calls Tryz.prog 10 #[.string ⟨(Lib.trimSuffix x.data.toList [10]).toArray⟩] W fun e w' => (∃ v, e = .returned (.tuple #[v, .bool rd.isSome]) ∧ NodO w' (W.heap.size + 1) v (rd.getD nodD)) ∧ Below W.heap.size W w' by
                    rw [hrd]; exact implReadLine_any ⟨(Lib.trimSuffix x.data.toList [10]).toArray⟩ hxl W (HE.out.below hC.2.2))
                  rw [← hrd] at HRA
                  have HTS := Lib.hid (Tryz.strings_TrimSuffix x ⟨#[10]⟩ W hxs)
                  have HC := Lib.hid hC; have HT := Lib.hid hT; have HO := Lib.hid hO; have HBX := Lib.hid hbx
                  have HS5 := Lib.hid hs5
                  have hlw : w.heap.size + 1 < W.heap.size := hC.2.1.lt
                  clear hC hT hO hbx hzc hra hs5 hrd
                  gi_wp2
                  refine ⟨trivial, CallsIn.inRound l (callsIn_wide.2 (HTS.out.mono ?_))⟩
                  rintro e6 w6 ⟨rfl, rfl⟩
                  gi_wp2
                  refine ⟨trivial, CallsIn.inRound l (callsIn_wide.2 (HRL.out.mono ?_))⟩
                  rintro e7 w7 ⟨⟨v7, rfl, hno⟩, hb7⟩
                  obtain ⟨A7, c7, rfl, ho7⟩ := nodO_own (nodO_low hno (Nat.le_add_right _ _)) hb7.size
                  have HO7 := Lib.hid ho7
                  have hC7 := HC.out.below hb7
                  have HC7 := Lib.hid hC7
                  have HB7 := Lib.hid hb7
                  have hs7 := hb7.size
                  clear hno ho7 hb7
                  cases rd with
                  | none =>
                    have hCA := hC7.below ((Below.refl w7.heap.size w7).alloc (Nat.le_refl _) (.cells #[.string nodD.name, .slice A7 nodD.subs.length c7, .string nodD.value] 32))
                    have HCA := Lib.hid hCA
                    obtain ⟨f0, z0, f1, z1⟩ := hCA.facts (.slice none 0 0)
                    clear hC7 hCA
                    gi_wp2
                    refine ⟨(keeps_below HB7.out).trans (((KeepsOthers.alloc _ _).trans (KeepsOthers.setCell _ _ _)).trans (KeepsOthers.setCell _ _ _)), rfl, HIM.out.1 (HNO.out (by rw [HRA.out]; rfl)), HCA.out.set _ _⟩
                  | some n =>
                    have hA := (Below.refl w7.heap.size w7).alloc (Nat.le_refl _) (.cells #[.string n.name, .slice A7 n.subs.length c7, .string n.value] 32)
                    have HCA := Lib.hid (hC7.below hA)
                    have hTA := (HT.out.below HB7.out HT.out.lt).alloc (.cells #[.string n.name, .slice A7 n.subs.length c7, .string n.value] 32)
                    have HTA := Lib.hid hTA
                    have HOA := Lib.hid ((HO.out.below HB7.out (Nat.le_refl _)).below hA hs7)
                    have HNA := Lib.hid (HO7.out.below hA (Nat.le_refl _))
                    have HBA := Lib.hid (HB7.out.trans (hA.mono hs7))
                    have hsA : (w7.alloc (.cells #[.string n.name, .slice A7 n.subs.length c7, .string n.value] 32)).heap.size = w7.heap.size + 1 := by simp
                    have fT := hTA.cell
                    have HNL := Lib.hid hnl
                    clear hC7 hA hTA hnl
                    gi_wp2_with (gi_at_builtin; refine wpListIn_grow (s := shNode) rfl (.tmp 67) (.tmp 69) 24 rfl Tryz.underlying24 rfl (by decide) (by decide) infoNode (w7.alloc (.cells #[.string n.name, .slice A7 n.subs.length c7, .string n.value] 32)) (w5.heap.size + 2) w6.heap.size w6.heap.size w7.heap.size A ns.length c (ns.map tyOf) [.string n.name, .slice A7 n.subs.length c7, .string n.value] (tyOf n) rfl HOA.out HNA.out (Nat.le_refl _) hlt (by omega) (by omega) (by rw [hsA]; rfl) (by omega) ?_; intro A8 c8 w8 ho8 hb8 hs8 hk8; have hT8 := HTA.out.below hb8 (by have := HS5.out; omega); have fT8 := hT8.cell; have zT8 := hT8.frozen 0)
                    have h5 := HS5.out
                    have hC8 : Cells2 w w8 (.slice none 0 0) (.int .i64 0) := ⟨HCA.out.1.below hb8 (by omega), HCA.out.2.1.below hb8 (by omega), HCA.out.2.2.trans (hb8.mono (by omega))⟩
                    have hX8 : Blk w8 (w2.heap.size + 1) 9 #[v] := (((show Blk w6 (w2.heap.size + 1) 9 #[v] from HBX.out).below HB7.out HBX.out.lt).alloc _).below hb8 (by omega)
                    refine ⟨((((keeps_below HB7.out).trans (KeepsOthers.alloc _ _)).trans hk8).trans (KeepsOthers.setCell _ _ _)), hX8.far (by simp) _, hC8.far (by simp; omega) _, by simp; omega, ns ++ [n], A8, c8, by rw [HRA.out]; rfl, by simp [HNL.out], ?_, ?_⟩
                    · rw [List.length_append]; exact hT8.set_ 0 _
                    · rw [List.length_append, List.map_append]
                      have hz : (w8.setCell ⟨w2.heap.size, 0, none⟩ (.slice A8 (ns.length + 1) c8)).heap.size = w8.heap.size := by simp
                      rw [hz]
                      exact ho8.setCell (by simp; omega) _
                case hdone =>
                  rintro xs W hlt hS ⟨hC, hsz, ns, A, c, hra, hnl, hT, hO⟩ hK
                  have hLx : L = xs.map (fun x => trimN x.data.toList) := by
                    rw [HLP.out _ rfl, ← trim_chunks HWH.out, ← show xs.map (fun x => x.data.toList) = chunksP R.data.toList from hS, List.map_map]; rfl
                  rw [← hLx] at hra
                  have hok := readAll_ok hra
                  have hnl2 : ns.length ≤ 120 := by rw [readAll_len hra]; omega
                  have hsm : ∀ x ∈ ns, SmN (tyOf x) := fun x hx => by
                    have h1 := nodB_facts (hok x hx)
                    exact ⟨by have := h1.2.1; show x.subs.length ≤ _; omega, fun z hz => by have := nodB_facts0 (hok x hx) z hz; omega⟩
                  have HS := Lib.hid (sort_own A c (w5.heap.size + 2) ns w W HE.out.1.1 hC.2.2 (by omega) hsm hnl2 hO hlt)
                  have HSR := Lib.hid (fun (P : List Nod) h1 h2 => import_sort (ns := ns) (P := P) h1 h2 hok hnl2)
                  have HSM := Lib.hid (show ∀ P : List Nod, P.Perm ns → NodsSmall P from fun P hp => ⟨by rw [hp.length_eq]; omega, fun x hx => by
                    have h0 := hok x (hp.subset hx)
                    have h1 := nodB_facts h0
                    exact ⟨by have := h1.1; omega, by have := h1.2.2.2; omega, by have := h1.2.1; omega, fun y hy => by have := h1.2.2.1 y hy; omega⟩⟩)
                  have HI5 := Lib.hid (HIM.out.2.1 ns hra)
                  have HI0 := Lib.hid (HIM.out.2.2 ns hra)
                  have HC := Lib.hid hC; have HT := Lib.hid hT; have HK := Lib.hid hK; have HS5 := Lib.hid hs5
                  have hT2 : w2.heap.size < w5.heap.size := by omega
                  have fT := hT.cell
                  clear hC hT hO hK hs5 hra hok hnl hsm hLx hS
                  go_wp2_with fail
                  refine HS.out.mono ?_
                  rintro e9 w9 ⟨rfl, hs9, hb9, P, hP, hPw, hO9⟩
                  obtain ⟨hq1, hq2⟩ := HSR.out P hP hPw
                  have hPl : P.length = ns.length := hP.length_eq
                  have HP1 := Lib.hid hPl
                  have hC9 : Cells2 w w9 (.slice none 0 0) (.int .i64 0) := ⟨HC.out.1.below hb9 (by omega), HC.out.2.1.below hb9 (by omega), HC.out.2.2.trans (hb9.mono (by omega))⟩
                  have C9 := Lib.hid hC9
                  have T9 := Lib.hid (HT.out.below hb9 (by omega))
                  have K9 := Lib.hid (show w9.heap[w5.heap.size]? = some (.deferred (some [])) from (hb9.block _ (by omega)).trans HK.out)
                  have HTO := Lib.hid (implTreeOk_any P (.agg #[.slice A ns.length c]) (w5.heap.size + 2) w9.heap.size w9 ⟨A, c, by rw [hPl], by
                    have h1 := nodesR_of hO9.reads
                    rw [map_nodOf] at h1
                    rw [hPl]; exact h1⟩ (Nat.le_refl _) (HSM.out P hP) (HE.out.below hC9.2.2).1.1)
                  rw [hq1] at HTO
                  have fT9 := T9.out.cell
                  have HO9 := Lib.hid hO9
                  have HQE := Lib.hid hq2
                  obtain ⟨bad, hbad⟩ : ∃ bad, bad = (insN ns).2 := ⟨_, rfl⟩
                  rw [← hbad] at HI5 HI0 HTO HQE
                  clear hP hPw hO9 hq1 hq2 hPl hC9 hb9 HSR HSM HS HC HT HK hbad fT
                  go_wp2_with fail
                  refine HTO.out.mono ?_
                  rintro e10 w10 ⟨rfl, hb10⟩
                  have hC10 := C9.out.below hb10
                  have C10 := Lib.hid hC10
                  have T10 := T9.out.below hb10 T9.out.lt
                  have hs10 := hb10.size
                  have K10 := Lib.hid (show w10.heap[w5.heap.size]? = some (.deferred (some [])) from (hb10.block _ (by omega)).trans K9.out)
                  have HO10 := Lib.hid ((HO9.out.below hb10 (Nat.le_refl _)).more (Nat.le_refl _) hs10)
                  cases bad with
                  | true =>
                    obtain ⟨f0, z0, f1, z1⟩ := hC10.facts (.slice none 0 0)
                    clear hC10 hb10
                    go_wp2_with fail
                    have hD := HS5.out
                    exact HQ2.out _ _ _ _ rfl rfl (heap_set2 K10.out (by omega) (by omega) _ _) (by omega) (C10.out.set _ _) (HI5.out (by trivial))
                  | false =>
                    obtain ⟨f0, z0, f1, z1⟩ := hC10.facts (.slice A ns.length c)
                    have fT10 := T10.cell
                    clear hC10 hb10
                    go_wp2_with fail
                    have hD := HS5.out
                    have hI0 : IMP = (0, P) := by rw [HI0.out (by trivial), HQE.out (by trivial)]
                    refine HQ1.out _ _ w5.heap.size A c rfl rfl (heap_set2 K10.out (by omega) (by omega) _ _) (by omega) ?_ ?_
                    · rw [hI0]
                      show Cells2 w _ (.slice A P.length c) (.int .i64 0)
                      rw [HP1.out]
                      exact C10.out.set _ _
                    · rw [hI0]
                      show Own shTree _ _ _ [.slice A P.length c] (P.map tyOf)
                      rw [HP1.out]
                      have h1 := (((HO10.out.setCell (p := ⟨w.heap.size, 0, none⟩) (by show w.heap.size < _; omega) (.slice A ns.length c)).setCell (p := ⟨w.heap.size + 1, 0, none⟩) (by show w.heap.size + 1 < _; omega) (.int .i64 0)).put_ (l := w5.heap.size) (by omega) (.deferred none))
                      exact h1.more (by omega) (by simp)
                case hstop =>
                  rintro cc pre W hlt ⟨rfl, hI, hC⟩ hK
                  gi_step
                  gi_step
                  exact HQ2.out _ _ _ _ rfl rfl hK (by omega) hC hI
          · have HI4 := Lib.hid (HIC.out.2.1 h120 (.inr (.inr hML)))
            obtain ⟨f0, z0, f1, z1⟩ := C2.out.facts (.slice none 0 0)
            have im : ¬ ((L.length : Nat) : Int) = M := by omega
            clear hML
            go_wp2_with fail
            refine HCT.out.mono ?_
            rintro e3 w3 ⟨rfl, rfl⟩
            go_wp2_with fail
            exact HQ0.out _ _ _ rfl rfl (C2.out.set _ _) HI4.out
    · have HI4 := Lib.hid (HI.out.trans (importP_not H60.out hn))
      clear HCUT hn
      obtain ⟨f0, z0, f1, z1⟩ := C2.out.facts (.slice none 0 0)
      go_wp2_with fail
      exact HQ0.out _ _ _ rfl rfl (C2.out.set _ _) HI4.out

end Go.Proofs.YtfibjcaidnofmaaGreatDoor


namespace Go.Proofs.YtfibjcaidnofmaaGreatDoor
open Go.RowKit

/-! ### Rows of texts of one's own, read -/
theorem rdS_any {w : World} {t : TypeId} {base base' lo hi lo' hi' : Nat} {v : Value} {xs : List ByteArray} (h : RdRow shS t w base lo hi v xs) (hb : base' ≤ base) : RdRow shS t w base' lo' hi' v xs := by
  obtain ⟨cs, ho, hel⟩ := h
  exact ⟨cs, own_mono ho hb, hel⟩
theorem rd_addr {w : World} {t : TypeId} {base lo hi : Nat} {v : Value} {xs : List ByteArray} (h : RdRow shS t w base lo hi v xs) : ∃ A c, v = .slice A xs.length c ∧ RowG shS w 0 w.heap.size A xs ∧ xs.length ≤ c ∧ ((A = none ∧ c = 0) ∨ ∃ g, A = some ⟨g, 0, none⟩) := by
  obtain ⟨A, c, e, hg, hc⟩ := (rdS_any (base' := base) (lo' := 0) (hi' := w.heap.size) h (Nat.le_refl _)).row (Nat.zero_le _) (Nat.le_refl _)
  refine ⟨A, c, e, hg, hc, ?_⟩
  obtain ⟨cs, ho, _⟩ := h
  rcases ho.2 with ⟨e1, e2⟩ | ⟨g, cap, cur, e1, _⟩
  · rw [e] at e1
    injection e1 with e1 e2 e3
    exact .inl ⟨e1, e3⟩
  · rw [e] at e1
    injection e1 with e1 e2 e3
    exact .inr ⟨g, e1⟩
def lineB (x : Nod) : ByteArray := mkB (lineT x)
theorem lineB_data (x : Nod) : (lineB x).data.toList = lineT x := rfl
theorem lineB_size (x : Nod) : (lineB x).size = (lineT x).length := by
  show (lineT x).toArray.size = _
  simp
theorem takeN_next (ns : List Nod) {k : Nat} (hk : k < ns.length) : ns.take (k + 1) = ns.take k ++ [ns.getD k nodD] := by
  rw [List.take_succ_eq_append_getElem hk, List.getD_eq_getElem?_getD, List.getElem?_eq_getElem hk]; rfl
theorem head_at {TX : ByteArray} {H : List UInt8} {R : List UInt8} (h : TX.data.toList = H ++ 10 :: R) (hH : ∀ c ∈ H, c ≠ 10) {j : Nat} (hj : j < TX.size) : (j < H.length → ((TX[j].toNat : Int) == 10) = false) ∧ (j = H.length → ((TX[j].toNat : Int) == 10) = true) := by
  have h1 := get_list TX j hj
  rw [h] at h1
  refine ⟨fun hl => byte_not_ten ?_, fun hl => byte_ten ?_⟩
  · rw [List.getElem?_append_left hl, List.getElem?_eq_getElem hl] at h1
    injection h1 with h1
    rw [← h1]; exact hH _ (List.getElem_mem hl)
  · subst hl
    rw [List.getElem?_append_right (Nat.le_refl _)] at h1
    simp at h1
    exact h1.symm
theorem head_cut {TX : ByteArray} {H : List UInt8} {R : List UInt8} (h : TX.data.toList = H ++ 10 :: R) : (TX.extract 0 H.length ++ (⟨#[10]⟩ : ByteArray)).data.toList = H ++ [10] := by
  rw [ByteArray.data_append, Array.toList_append, ByteArray.data_extract, Array.toList_extract, List.extract_eq_take_drop, h, List.drop_zero, Nat.sub_zero, List.take_append_of_le_length (Nat.le_refl _), List.take_length]
theorem body_next (ms : List Nod) {i : Nat} (hi : i < ms.length) : bodyT (ms.take (i + 1)) = bodyT (ms.take i) ++ (lineT (ms.getD i nodD) ++ [10]) := by
  rw [takeN_next ms hi]
  unfold bodyT
  simp
theorem text_next {T : ByteArray} {H : List UInt8} {ms : List Nod} {i : Nat} (h : T.data.toList = H ++ 10 :: bodyT (ms.take i)) (hi : i < ms.length) : (T ++ lineB (ms.getD i nodD) ++ (⟨#[10]⟩ : ByteArray)).data.toList = H ++ 10 :: bodyT (ms.take (i + 1)) := by
  rw [ByteArray.data_append, ByteArray.data_append, Array.toList_append, Array.toList_append, lineB_data, h, body_next ms hi]
  simp
theorem ins_perm {ms ns : List Nod} {k q : Nat} (hp : ms.Perm (ns.take k)) (hk : k < ns.length) : (ms.take q ++ [ns.getD k nodD] ++ ms.drop q).Perm (ns.take (k + 1)) := by
  rw [takeN_next ns hk]
  have h1 : (ms.take q ++ [ns.getD k nodD] ++ ms.drop q).Perm (ms.take q ++ ms.drop q ++ [ns.getD k nodD]) := by
    rw [List.append_assoc, List.append_assoc]
    exact List.Perm.append_left _ List.perm_append_comm
  rw [List.take_append_drop] at h1
  exact h1.trans (hp.append_right _)

set_option maxHeartbeats 32000000 in
set_option maxRecDepth 100000 in
theorem law_ExportOrder (A B : Option Addr) (n c m d : Nat) (w : World) (hA : BytesR w 0 w.heap.size A n) (hB : BytesR w 0 w.heap.size B m) (hE : EnvR w) :
    Calls Tryz.prog 3 #[.slice A n c, .slice B m d] w fun e w' => e = .returned (.bool true) ∧ Below w.heap.size w w' := by
  have HL := Lib.hid (b10Long_any A B n c m d w)
  by_cases hbig : 1048576 < n ∨ 1048576 < m
  · have hd : (decide (1048576 < n) || decide (1048576 < m)) = true := by
      rcases hbig with h | h <;> simp [h]
    rw [hd] at HL
    go_enter Tryz.func3, Tryz.ntmps3
    go_wp2_with fail
    refine HL.out.mono ?_
    rintro e1 w1 ⟨rfl, hb1⟩
    have HB1 := Lib.hid hb1
    clear hb1
    go_wp2_with fail
    go_ret
    exact ⟨rfl, HB1.out⟩
  have hn : n ≤ 1048576 := by omega
  have hm : m ≤ 1048576 := by omega
  have hd : (decide (1048576 < n) || decide (1048576 < m)) = false := by simp; omega
  rw [hd] at HL
  have HA := Lib.hid hA; have HBY := Lib.hid hB; have HE := Lib.hid hE
  clear hA hB hE hbig hd
  go_enter Tryz.func3, Tryz.ntmps3
  go_wp2_with fail
  refine HL.out.mono ?_
  rintro e1 w1 ⟨rfl, hb1⟩
  have HB1 := Lib.hid hb1
  have s1 := hb1.size
  have HD := Lib.hid (drawExportTree_any 0 w.heap.size A n c w1 (HA.out.keep fun b _ h2 => hb1.block b h2) s1 hn)
  clear hb1 HL
  go_wp2_with fail
  refine HD.out.mono ?_
  rintro e2 w2 ⟨A5, c5, ts, rfl, ho2, hsm2, hb2⟩
  have s2 := hb2.size
  have hba := (Below.refl w2.heap.size w2).alloc (Nat.le_refl _) (.cells #[.slice A5 ts.length c5] 26)
  have hz3 : (w2.alloc (.cells #[.slice A5 ts.length c5] 26)).heap.size = w2.heap.size + 1 := by simp
  have HT3 := Lib.hid (Blk.new w2 26 #[.slice A5 ts.length c5])
  have HO3 := Lib.hid (ho2.below hba (Nat.le_refl _))
  have HSM := Lib.hid hsm2
  have HB3 := Lib.hid (HB1.out.trans ((hb2.trans (hba.mono s2)).mono s1))
  clear ho2 hsm2 hb2 hba HD HB1
  go_upto_region 4 with fail
  change Code.wp _ _ _ _ (w2.alloc (.cells #[.slice A5 ts.length c5] 26))
  generalize w2.alloc (.cells #[.slice A5 ts.length c5] 26) = w3 at *
  generalize w2.heap.size = g5 at *
  have HTO := Lib.hid (specTreeOk_any (ts.map nodOf) _ _ _ w3 (treR_own HO3.out.reads) (by omega) (HSM.out.nods (by omega)))
  have f5 := HT3.out.cell
  cases hT : treB (ts.map nodOf) with
  | false =>
    rw [hT] at HTO
    clear hT
    go_wp2_with fail
    refine HTO.out.mono ?_
    rintro e4 w4 ⟨rfl, hb4⟩
    have HB4 := Lib.hid (HB3.out.trans (hb4.mono HB3.out.size))
    clear hb4
    go_wp2_with fail
    go_ret
    exact ⟨rfl, HB4.out⟩
  | true =>
    rw [hT] at HTO
    have HTB := Lib.hid hT
    clear hT
    go_wp2_with fail
    refine HTO.out.mono ?_
    rintro e4 w4 ⟨rfl, hb4⟩
    have HB4 := Lib.hid (HB3.out.trans (hb4.mono HB3.out.size))
    have s4 := hb4.size
    have HT4 := Lib.hid (HT3.out.below hb4 HT3.out.lt)
    have HO4 := Lib.hid (HO3.out.below hb4 (by omega))
    clear hb4 f5 HT3 HO3 HB3 HTO
    have f5 := HT4.out.cell
    obtain ⟨NS, hNS⟩ : ∃ NS, NS = ts.map nodOf := ⟨_, rfl⟩
    have HNS := Lib.hid hNS
    rw [← hNS] at HTB
    have hNl : NS.length = ts.length := by rw [hNS, List.length_map]
    have HNL := Lib.hid hNl
    have hts : ts.length ≤ 10 := HSM.out.1
    have HTS := Lib.hid hts
    clear hNS hNl
    have HLIT := Lib.hid (lit0_own (t := 9) (k := shS.k) w4 w4.heap.size (Nat.le_refl _))
    have hbL := (Below.refl w4.heap.size w4).alloc (Nat.le_refl _) (.cells #[] 9)
    have HT5 := Lib.hid (HT4.out.alloc (.cells #[] 9))
    have HO5 := Lib.hid (HO4.out.below hbL (by omega))
    have HB5 := Lib.hid (HB4.out.trans (hbL.mono HB4.out.size))
    have s5 := hbL.size
    clear hbL
    go_upto_region 7 with fail
    change Code.wp _ _ _ _ (w4.alloc (.cells #[] 9))
    have HL0 := Lib.hid (show RdRow shS 9 (w4.alloc (.cells #[] 9)) (g5 + 1) 0 0 (.slice (some ⟨w4.heap.size, 0, none⟩) 0 0) [] from rdS_any (lo := 0) (hi := 0) (RdRow.nil_ HLIT.out) (by omega))
    clear HLIT
    generalize w4.alloc (.cells #[] 9) = w5 at *
    generalize w4.heap.size = g6 at *
    clear f5
    go_wp2_with fail
    go_loopw [6, 7, 8, 9, 10, 11, 12] (fun v i _ _ _ _ _ wr => ∃ k : Nat, k ≤ ts.length ∧ i = .int .i64 k ∧ ∃ ms : List Nod, ms.Perm (NS.take k) ∧ RdRow shS 9 wr (g5 + 1) 0 0 v (ms.map lineB) ∧ Below w5.heap.size w5 wr) (fun _ i _ _ _ _ _ _ => ts.length - (intOf i).toNat)
    case atStart => exact ⟨0, Nat.zero_le _, rfl, [], List.Perm.refl _, HL0.out, Below.refl _ _⟩
    case round =>
      obtain ⟨k, hk, rfl, ms, hp, hrd, hb⟩ := hrel
      have HP := Lib.hid hp; have HRD := Lib.hid hrd
      have hmk : ms.length = k := by rw [hp.length_eq, List.length_take]; have := HNL.out; omega
      have hT := HT5.out.below hb HT5.out.lt
      have hO := HO5.out.below hb (by omega)
      have HT6 := Lib.hid hT; have HO6 := Lib.hid hO
      have HB6 := Lib.hid (HB5.out.trans (hb.mono HB5.out.size))
      have HBR := Lib.hid hb
      have s6 := hb.size
      have f5 := hT.cell
      obtain ⟨AL, cL, hv, hgl, hcl, hal⟩ := rd_addr hrd
      rw [List.length_map, hmk] at hv hcl
      subst hv
      have HGL := Lib.hid hgl
      clear hp hrd hb hT hgl
      by_cases hlt : k < ts.length
      · have i1 : (k : Int) < (ts.length : Int) := by omega
        obtain ⟨g, A1, c1, rfl, hg1, hg2, e0, e1, e2, hst, hc1⟩ := node_own_at hO hlt
        have hXM := getD_in (d := shNode.d) hlt
        have HX := Lib.hid (HSM.out.2 _ hXM)
        have HXN := Lib.hid (show NS.getD k nodD = nodOf (ts.getD k shNode.d) from by rw [HNS.out]; exact getD_map_nod ts k hlt)
        have HNB := Lib.hid (treB_nod HTB.out k (by rw [HNL.out]; exact hlt))
        rw [HXN.out] at HNB
        generalize ts.getD k shNode.d = X at *
        obtain ⟨y0, y1, y2⟩ := X
        dsimp only at e0 e1 e2 hst hc1
        have hn1 : y1.length ≤ 5 := HX.out.2.1
        have HST := Lib.hid hst
        obtain ⟨x, hx⟩ : ∃ x, x = nodOf (y0, y1, y2) := ⟨_, rfl⟩
        rw [← hx] at HXN HNB
        have hsm : NodSmall x := by
          have h1 := HX.out
          rw [hx]
          exact ⟨by have := h1.1; show y0.size ≤ _; have h : y0.size ≤ 24 := this; omega, by have := h1.2.2.2; show y2.size ≤ _; have h : y2.size ≤ 65 := this; omega, by show y1.length ≤ _; omega, fun z hz => by have := h1.2.2.1 z hz; omega⟩
        have HNL9 := Lib.hid (show Calls Tryz.prog 9 #[.agg #[.string y0, .slice A1 y1.length c1, .string y2]] wr fun e w' => e = .returned (.string (lineB x)) ∧ Below wr.heap.size wr w' from by
          have h1 := implNodeLine_any x (.agg #[.string y0, .slice A1 y1.length c1, .string y2]) _ _ wr ⟨A1, c1, by rw [hx]; rfl, by rw [hx]; exact hst⟩ (by omega) hsm (HE.out.below HB6.out).1
          unfold nodeLineP at h1
          rw [if_pos HNB.out] at h1
          exact h1)
        have HXX := Lib.hid hx
        clear hst hO hXM hx
        go_wp2_with fail
        refine HNL9.out.mono ?_
        rintro e7 w7 ⟨rfl, hb7⟩
        have s7 := hb7.size
        have hb6w := HB6.out
        have HB7 := Lib.hid (hb6w.trans (hb7.mono hb6w.size))
        have HRL := Lib.hid (show Calls Tryz.prog 10 #[.string (lineB x)] w7 fun e w' => (∃ A9 c9, e = .returned (.tuple #[.agg #[.string y0, .slice A9 y1.length c9, .string y2], .bool true]) ∧ StrR w' w7.heap.size w'.heap.size A9 y1.length y1) ∧ Below w7.heap.size w7 w' from by
          refine (implReadLine_any (lineB x) (by rw [lineB_size]; have := lineT_len x HNB.out; omega) w7 (HE.out.below HB7.out)).mono ?_
          rintro e w' ⟨⟨v, rfl, hno⟩, hb'⟩
          rw [lineB_data, rdlI_line x HNB.out] at hno ⊢
          have hr := hno.reads
          obtain ⟨A9, c9, rfl, hst9⟩ := hr
          rw [show (some x).getD nodD = x from rfl, HXX.out] at hst9 ⊢
          exact ⟨⟨A9, c9, rfl, hst9.more (by omega) (Nat.le_refl _)⟩, hb'⟩)
        have HR7 := Lib.hid hb7
        clear hb7 hb6w HNL9 HB6
        go_wp2_with fail
        refine HRL.out.mono ?_
        rintro e8 w8 ⟨⟨A9, c9, rfl, hst9⟩, hb8⟩
        have s8 := hb8.size
        have hba := (Below.refl w8.heap.size w8).alloc (Nat.le_refl _) (.cells #[.string y0, .slice A9 y1.length c9, .string y2] 32)
        have hz9 : (w8.alloc (.cells #[.string y0, .slice A9 y1.length c9, .string y2] 32)).heap.size = w8.heap.size + 1 := by simp
        have hb9 := HR7.out.trans ((hb8.trans (hba.mono s8)).mono s7)
        have HST9 := Lib.hid (hst9.below hba (Nat.le_refl _))
        have HG9 := Lib.hid (Blk.new w8 32 #[.string y0, .slice A9 y1.length c9, .string y2])
        have HB9 := Lib.hid (HB7.out.trans ((hb8.trans (hba.mono s8)).mono HB7.out.size))
        have HR9 := Lib.hid hb9
        clear hst9 hb8 hba HR7 HB7 HRL
        go_upto_region 12 with fail
        change Code.wp _ _ _ _ (w8.alloc (.cells #[.string y0, .slice A9 y1.length c9, .string y2] 32))
        generalize w8.alloc (.cells #[.string y0, .slice A9 y1.length c9, .string y2] 32) = w9 at *
        generalize w8.heap.size = g9 at *
        have hc9 : ∀ (b i : Nat), b < wr.heap.size → w9.cell? ⟨b, i, none⟩ = wr.cell? ⟨b, i, none⟩ := fun b i hb => HR9.out.cell (p := ⟨b, i, none⟩) hb
        have hS : (∀ i, w9.drew.cell? ⟨g9, i, none⟩ = (#[.string y0, .slice A9 y1.length c9, .string y2] : Array Value)[i]?) ∧ (∀ i, w9.drew.cell? ⟨g5, i, none⟩ = (#[.slice (some ⟨g, 0, none⟩) ts.length c5] : Array Value)[i]?) ∧
            (w9.drew.cell? ⟨g, k * 3, none⟩ = some (.string y0) ∧ w9.drew.cell? ⟨g, k * 3 + 1, none⟩ = some (.slice A1 y1.length c1) ∧ w9.drew.cell? ⟨g, k * 3 + 2, none⟩ = some (.string y2)) :=
          ⟨HG9.out.cell, fun i => (hc9 g5 i (by omega)).trans (f5 i), (hc9 g _ (by omega)).trans e0, (hc9 g _ (by omega)).trans e1, (hc9 g _ (by omega)).trans e2⟩
        have HSS := Lib.hid hS
        have HST := Lib.hid (show StrR w9.drew w1.heap.size g5 A1 y1.length y1 from (show StrR w9 w1.heap.size g5 A1 y1.length y1 from HST.out.below hb9 (show g5 ≤ wr.heap.size by omega)))
        have HST9 := Lib.hid (show StrR w9.drew w7.heap.size g9 A9 y1.length y1 from HST9.out)
        have HB9 := Lib.hid (show Below w.heap.size w w9.drew from HB9.out.trans (below_drewN' w9 1 |>.mono HB9.out.size))
        have HR9 := Lib.hid (show Below wr.heap.size wr w9.drew from hb9.trans (below_drewN' w9 1 |>.mono hb9.size))
        have s9 : g9 + 1 ≤ w9.drew.heap.size := by show g9 + 1 ≤ w9.heap.size; omega
        clear hb9 hc9 f5 e0 e1 e2 HG9 hS
        refine AnyT.region (fun _ => false) (fun W => (∀ i, W.cell? ⟨g9, i, none⟩ = (#[.string y0, .slice A9 y1.length c9, .string y2] : Array Value)[i]?) ∧ (∀ i, W.cell? ⟨g5, i, none⟩ = (#[.slice (some ⟨g, 0, none⟩) ts.length c5] : Array Value)[i]?) ∧
            (W.cell? ⟨g, k * 3, none⟩ = some (.string y0) ∧ W.cell? ⟨g, k * 3 + 1, none⟩ = some (.slice A1 y1.length c1) ∧ W.cell? ⟨g, k * 3 + 2, none⟩ = some (.string y2))) (by kernel_rfl) HSS.out (fun hHeld => ?_)
        clear hz9
        generalize w9.drew = w10 at *
        ((refine AnyT.takeAny 0 47 ?_ rfl (by kernel_rfl) (by kernel_rfl) (by kernel_rfl) rfl rfl (fun _ _ _ _ h => h) rfl ?_ (by assumption) ?_); rotate_left; (intro w; go_simp; (try (with_reducible rfl))); simp only [Act.put, List.setIfInBounds_toArray, List.set_cons_zero, List.set_cons_succ])
        ((refine AnyT.takeAny 1 48 ?_ rfl (by kernel_rfl) (by kernel_rfl) (by kernel_rfl) rfl rfl (fun _ _ _ _ h => h) rfl ?_ (by assumption) ?_); rotate_left; (intro w; go_simp; (try (with_reducible rfl))); simp only [Act.put, List.setIfInBounds_toArray, List.set_cons_zero, List.set_cons_succ])
        ((refine AnyT.takeAny 2 49 ?_ rfl (by kernel_rfl) (by kernel_rfl) (by kernel_rfl) rfl rfl (fun _ _ _ _ h => h) rfl ?_ (by assumption) ?_); rotate_left; (intro w; go_simp; (try (with_reducible rfl))); simp only [Act.put, List.setIfInBounds_toArray, List.set_cons_zero, List.set_cons_succ])
        ((refine AnyT.takeAny 3 50 ?_ rfl (by kernel_rfl) (by kernel_rfl) (by kernel_rfl) rfl rfl (fun _ _ _ _ h => h) rfl ?_ (by assumption) ?_); rotate_left; (intro w; go_simp; (try (with_reducible rfl))); simp only [Act.put, List.setIfInBounds_toArray, List.set_cons_zero, List.set_cons_succ])
        ((refine AnyT.take 4 51 ?_ rfl (by kernel_rfl) (by kernel_rfl) (by kernel_rfl) (by kernel_rfl) rfl (by kernel_rfl) rfl (fun _ _ _ _ h => h) rfl ?_ (by assumption) ?_); rotate_left; (intro w hSw; (try dsimp only at hSw); go_simp; (try (with_reducible rfl))); simp only [Act.put, List.setIfInBounds_toArray, List.set_cons_zero, List.set_cons_succ])
        ((refine AnyT.takeAny 5 52 ?_ rfl (by kernel_rfl) (by kernel_rfl) (by kernel_rfl) rfl rfl (fun _ _ _ _ h => h) rfl ?_ (by assumption) ?_); rotate_left; (intro w; go_simp; (try (with_reducible rfl))); simp only [Act.put, List.setIfInBounds_toArray, List.set_cons_zero, List.set_cons_succ])
        ((refine AnyT.take 6 53 ?_ rfl (by kernel_rfl) (by kernel_rfl) (by kernel_rfl) (by kernel_rfl) rfl (by kernel_rfl) rfl (fun _ _ _ _ h => h) rfl ?_ (by assumption) ?_); rotate_left; (intro w hSw; (try dsimp only at hSw); go_simp; (try (with_reducible rfl))); simp only [Act.put, List.setIfInBounds_toArray, List.set_cons_zero, List.set_cons_succ])
        ((refine AnyT.takeAny 7 54 ?_ rfl (by kernel_rfl) (by kernel_rfl) (by kernel_rfl) rfl rfl (fun _ _ _ _ h => h) rfl ?_ (by assumption) ?_); rotate_left; (intro w; go_simp; (try (with_reducible rfl))); simp only [Act.put, List.setIfInBounds_toArray, List.set_cons_zero, List.set_cons_succ])
        ((refine AnyT.takeAny 8 55 ?_ rfl (by kernel_rfl) (by kernel_rfl) (by kernel_rfl) rfl rfl (fun _ _ _ _ h => h) rfl ?_ (by assumption) ?_); rotate_left; (intro w; go_simp; (try (with_reducible rfl))); simp only [Act.put, List.setIfInBounds_toArray, List.set_cons_zero, List.set_cons_succ])
        ((refine AnyT.takeAny 9 56 ?_ rfl (by kernel_rfl) (by kernel_rfl) (by kernel_rfl) rfl rfl (fun _ _ _ _ h => h) rfl ?_ (by assumption) ?_); rotate_left; (intro w; go_simp; (try (with_reducible rfl))); simp only [Act.put, List.setIfInBounds_toArray, List.set_cons_zero, List.set_cons_succ])
        ((refine AnyT.take 10 57 ?_ rfl (by kernel_rfl) (by kernel_rfl) (by kernel_rfl) (by kernel_rfl) rfl (by kernel_rfl) rfl (fun _ _ _ _ h => h) rfl ?_ (by assumption) ?_); rotate_left; (intro w hSw; (try dsimp only at hSw); go_simp; (try (with_reducible rfl))); simp only [Act.put, List.setIfInBounds_toArray, List.set_cons_zero, List.set_cons_succ])
        refine AnyT.takeAny 11 58 (.bool false) rfl (by kernel_rfl) (by kernel_rfl) (by kernel_rfl) rfl rfl (fun _ _ _ _ h => h) rfl (fun W => by go_simp) (by assumption) ?_
        simp only [Act.put, List.setIfInBounds_toArray, List.set_cons_zero, List.set_cons_succ]
        ((refine AnyT.takeAny 12 59 ?_ rfl (by kernel_rfl) (by kernel_rfl) (by kernel_rfl) rfl rfl (fun _ _ _ _ h => h) rfl ?_ (by assumption) ?_); rotate_left; (intro w; go_simp; (try (with_reducible rfl))); simp only [Act.put, List.setIfInBounds_toArray, List.set_cons_zero, List.set_cons_succ])
        ((refine AnyT.takeAny 13 60 ?_ rfl (by kernel_rfl) (by kernel_rfl) (by kernel_rfl) rfl rfl (fun _ _ _ _ h => h) rfl ?_ (by assumption) ?_); rotate_left; (intro w; go_simp; (try (with_reducible rfl))); simp only [Act.put, List.setIfInBounds_toArray, List.set_cons_zero, List.set_cons_succ])
        ((refine AnyT.takeAny 14 61 ?_ rfl (by kernel_rfl) (by kernel_rfl) (by kernel_rfl) rfl rfl (fun _ _ _ _ h => h) rfl ?_ (by assumption) ?_); rotate_left; (intro w; go_simp; (try (with_reducible rfl))); simp only [Act.put, List.setIfInBounds_toArray, List.set_cons_zero, List.set_cons_succ])
        ((refine AnyT.take 15 62 ?_ rfl (by kernel_rfl) (by kernel_rfl) (by kernel_rfl) (by kernel_rfl) rfl (by kernel_rfl) rfl (fun _ _ _ _ h => h) rfl ?_ (by assumption) ?_); rotate_left; (intro w hSw; (try dsimp only at hSw); go_simp; (try (with_reducible rfl))); simp only [Act.put, List.setIfInBounds_toArray, List.set_cons_zero, List.set_cons_succ])
        ((refine AnyT.takeAny 16 63 ?_ rfl (by kernel_rfl) (by kernel_rfl) (by kernel_rfl) rfl rfl (fun _ _ _ _ h => h) rfl ?_ (by assumption) ?_); rotate_left; (intro w; go_simp; (try (with_reducible rfl))); simp only [Act.put, List.setIfInBounds_toArray, List.set_cons_zero, List.set_cons_succ])
        ((refine AnyT.take 17 64 ?_ rfl (by kernel_rfl) (by kernel_rfl) (by kernel_rfl) (by kernel_rfl) rfl (by kernel_rfl) rfl (fun _ _ _ _ h => h) rfl ?_ (by assumption) ?_); rotate_left; (intro w hSw; (try dsimp only at hSw); go_simp; (try (with_reducible rfl))); simp only [Act.put, List.setIfInBounds_toArray, List.set_cons_zero, List.set_cons_succ])
        ((refine AnyT.takeAny 18 65 ?_ rfl (by kernel_rfl) (by kernel_rfl) (by kernel_rfl) rfl rfl (fun _ _ _ _ h => h) rfl ?_ (by assumption) ?_); rotate_left; (intro w; go_simp; (try (with_reducible rfl))); simp only [Act.put, List.setIfInBounds_toArray, List.set_cons_zero, List.set_cons_succ])
        ((refine AnyT.takeAny 19 66 ?_ rfl (by kernel_rfl) (by kernel_rfl) (by kernel_rfl) rfl rfl (fun _ _ _ _ h => h) rfl ?_ (by assumption) ?_); rotate_left; (intro w; go_simp; (try (with_reducible rfl))); simp only [Act.put, List.setIfInBounds_toArray, List.set_cons_zero, List.set_cons_succ])
        ((refine AnyT.takeAny 20 67 ?_ rfl (by kernel_rfl) (by kernel_rfl) (by kernel_rfl) rfl rfl (fun _ _ _ _ h => h) rfl ?_ (by assumption) ?_); rotate_left; (intro w; go_simp; (try (with_reducible rfl))); simp only [Act.put, List.setIfInBounds_toArray, List.set_cons_zero, List.set_cons_succ])
        ((refine AnyT.take 21 68 ?_ rfl (by kernel_rfl) (by kernel_rfl) (by kernel_rfl) (by kernel_rfl) rfl (by kernel_rfl) rfl (fun _ _ _ _ h => h) rfl ?_ (by assumption) ?_); rotate_left; (intro w hSw; (try dsimp only at hSw); go_simp; (try (with_reducible rfl))); simp only [Act.put, List.setIfInBounds_toArray, List.set_cons_zero, List.set_cons_succ])
        refine AnyT.takeAny 22 69 (.bool false) rfl (by kernel_rfl) (by kernel_rfl) (by kernel_rfl) rfl rfl (fun _ _ _ _ h => h) rfl (fun W => by go_simp) (by assumption) ?_
        simp only [Act.put, List.setIfInBounds_toArray, List.set_cons_zero, List.set_cons_succ]
        ((refine AnyT.takeAny 23 70 ?_ rfl (by kernel_rfl) (by kernel_rfl) (by kernel_rfl) rfl rfl (fun _ _ _ _ h => h) rfl ?_ (by assumption) ?_); rotate_left; (intro w; go_simp; (try (with_reducible rfl))); simp only [Act.put, List.setIfInBounds_toArray, List.set_cons_zero, List.set_cons_succ])
        ((refine AnyT.takeAny 24 71 ?_ rfl (by kernel_rfl) (by kernel_rfl) (by kernel_rfl) rfl rfl (fun _ _ _ _ h => h) rfl ?_ (by assumption) ?_); rotate_left; (intro w; go_simp; (try (with_reducible rfl))); simp only [Act.put, List.setIfInBounds_toArray, List.set_cons_zero, List.set_cons_succ])
        ((refine AnyT.takeAny 25 72 ?_ rfl (by kernel_rfl) (by kernel_rfl) (by kernel_rfl) rfl rfl (fun _ _ _ _ h => h) rfl ?_ (by assumption) ?_); rotate_left; (intro w; go_simp; (try (with_reducible rfl))); simp only [Act.put, List.setIfInBounds_toArray, List.set_cons_zero, List.set_cons_succ])
        ((refine AnyT.take 26 73 ?_ rfl (by kernel_rfl) (by kernel_rfl) (by kernel_rfl) (by kernel_rfl) rfl (by kernel_rfl) rfl (fun _ _ _ _ h => h) rfl ?_ (by assumption) ?_); rotate_left; (intro w hSw; (try dsimp only at hSw); go_simp; (try (with_reducible rfl))); simp only [Act.put, List.setIfInBounds_toArray, List.set_cons_zero, List.set_cons_succ])
        ((refine AnyT.takeAny 27 74 ?_ rfl (by kernel_rfl) (by kernel_rfl) (by kernel_rfl) rfl rfl (fun _ _ _ _ h => h) rfl ?_ (by assumption) ?_); rotate_left; (intro w; go_simp; (try (with_reducible rfl))); simp only [Act.put, List.setIfInBounds_toArray, List.set_cons_zero, List.set_cons_succ])
        ((refine AnyT.take 28 75 ?_ rfl (by kernel_rfl) (by kernel_rfl) (by kernel_rfl) (by kernel_rfl) rfl (by kernel_rfl) rfl (fun _ _ _ _ h => h) rfl ?_ (by assumption) ?_); rotate_left; (intro w hSw; (try dsimp only at hSw); go_simp; (try (with_reducible rfl))); simp only [Act.put, List.setIfInBounds_toArray, List.set_cons_zero, List.set_cons_succ])
        ((refine AnyT.takeAny 29 76 ?_ rfl (by kernel_rfl) (by kernel_rfl) (by kernel_rfl) rfl rfl (fun _ _ _ _ h => h) rfl ?_ (by assumption) ?_); rotate_left; (intro w; go_simp; (try (with_reducible rfl))); simp only [Act.put, List.setIfInBounds_toArray, List.set_cons_zero, List.set_cons_succ])
        ((refine AnyT.takeAny 30 77 ?_ rfl (by kernel_rfl) (by kernel_rfl) (by kernel_rfl) rfl rfl (fun _ _ _ _ h => h) rfl ?_ (by assumption) ?_); rotate_left; (intro w; go_simp; (try (with_reducible rfl))); simp only [Act.put, List.setIfInBounds_toArray, List.set_cons_zero, List.set_cons_succ])
        ((refine AnyT.takeAny 31 78 ?_ rfl (by kernel_rfl) (by kernel_rfl) (by kernel_rfl) rfl rfl (fun _ _ _ _ h => h) rfl ?_ (by assumption) ?_); rotate_left; (intro w; go_simp; (try (with_reducible rfl))); simp only [Act.put, List.setIfInBounds_toArray, List.set_cons_zero, List.set_cons_succ])
        ((refine AnyT.take 32 79 ?_ rfl (by kernel_rfl) (by kernel_rfl) (by kernel_rfl) (by kernel_rfl) rfl (by kernel_rfl) rfl (fun _ _ _ _ h => h) rfl ?_ (by assumption) ?_); rotate_left; (intro w hSw; (try dsimp only at hSw); go_simp; (try (with_reducible rfl))); simp only [Act.put, List.setIfInBounds_toArray, List.set_cons_zero, List.set_cons_succ])
        have HSU := Lib.hid (sameSubs_n A9 A1 c9 c1 y1 y1 _ _ _ _ w10 HST9.out HST.out (by omega) (by have := HR9.out.size; omega) (by omega) (by omega))
        rw [sameB_self] at HSU
        ((refine AnyT.one (i := 33) (by kernel_rfl) rfl (fun K hK => ?_)))
        go_simp
        refine HSU.out.mono ?_
        rintro e11 w11 ⟨rfl, hb11⟩
        go_simp
        have hc11 : ∀ (b i : Nat), b < w10.heap.size → w11.cell? ⟨b, i, none⟩ = w10.cell? ⟨b, i, none⟩ := fun b i hb => hb11.cell (p := ⟨b, i, none⟩) hb
        have s10 := HR9.out.size
        have HB11 := Lib.hid (HB9.out.trans (hb11.mono HB9.out.size))
        have HR11 := Lib.hid (HR9.out.trans (hb11.mono s10))
        have s11 := hb11.size
        obtain ⟨q1, q2, q3, q4, q5⟩ := HSS.out
        refine hK.out _ _ ⟨fun i => (hc11 _ i (by omega)).trans (q1 i), fun i => (hc11 _ i (by omega)).trans (q2 i), (hc11 _ _ (by omega)).trans q3, (hc11 _ _ (by omega)).trans q4, (hc11 _ _ (by omega)).trans q5⟩ (fun hHeld => ?_)
        clear hK K hb11 hc11 HSU q1 q2 q3 q4 q5 HB9 HR9 HSS HST HST9
        (try simp only [Act.put, List.setIfInBounds_toArray, List.set_cons_zero, List.set_cons_succ])
        ((refine AnyT.takeAny 34 81 ?_ rfl (by kernel_rfl) (by kernel_rfl) (by kernel_rfl) rfl rfl (fun _ _ _ _ h => h) rfl ?_ (by assumption) ?_); rotate_left; (intro w; go_simp; (try (with_reducible rfl))); simp only [Act.put, List.setIfInBounds_toArray, List.set_cons_zero, List.set_cons_succ])
        ((refine AnyT.takeAny 35 82 ?_ rfl (by kernel_rfl) (by kernel_rfl) (by kernel_rfl) rfl rfl (fun _ _ _ _ h => h) rfl ?_ (by assumption) ?_); rotate_left; (intro w; go_simp; (try (with_reducible rfl))); simp only [Act.put, List.setIfInBounds_toArray, List.set_cons_zero, List.set_cons_succ])
        refine AnyT.done (by kernel_rfl) ?_ _
        clear hHeld
        have HBT := Lib.hid (b10At_any 0 w.heap.size B m d k ((k : Int) + 1) w11 (HBY.out.keep fun b _ h2 => HB11.out.block b h2) (by omega) (by omega))
        go_wp2_with fail
        refine HBT.out.mono ?_
        rintro e12 w12 ⟨r12, rfl, hr0, hr1, hb12⟩
        obtain ⟨q, rfl⟩ := Int.eq_ofNat_of_zero_le hr0
        have hqk : q ≤ k := by have := hr1 (by omega); omega
        have s12 := hb12.size
        have HB12 := Lib.hid (HB11.out.trans (hb12.mono HB11.out.size))
        have HR12 := Lib.hid (HR11.out.trans (hb12.mono (by omega)))
        have hbl := (Below.refl w12.heap.size w12).alloc (Nat.le_refl _) (.cells #[] 9)
        have HGA := Lib.hid (RowG.keep HGL.out fun b _ h2 => (HR12.out.trans (hbl.mono (by omega))).block b h2)
        clear hb12 hbl hr0 hr1 HB11 HR11 HBT
        have hqc : ¬ (cL : Int) < (q : Int) := by omega
        have hq0 : ¬ (q : Int) < 0 := by omega
        obtain ⟨LS, hLS⟩ : ∃ LS, LS = ms.map lineB := ⟨_, rfl⟩
        have hLl : LS.length = k := by rw [hLS, List.length_map, hmk]
        rw [← hLS] at HGA
        have HLS := Lib.hid hLS
        have HLL := Lib.hid hLl
        clear hLS hLl
        go_upto_region 16 with (first
          | fail
          | (at_builtin; refine wpList_app_rdG (s := shS) rfl (.tmp 89) (.tmp 92) 29 rfl Tryz.underlying29 rfl (by decide) (by decide) infoString _ w12.heap.size 0 wr.heap.size _ [] (LS.take q) AL q cL rfl (RdRow.nil_ (lit0_own w12 w12.heap.size (Nat.le_refl _))) rfl (by rw [List.length_take]; have := HLL.out; omega) (HGA.out.take q) (by rw [List.length_take, List.length_nil]; omega) (by omega) (by simp) ?_; intro v13 w13 hr13 hb13))
        have hb13' : Below w12.heap.size w12 w13 := ((Below.refl w12.heap.size w12).alloc (Nat.le_refl _) (.cells #[] 9)).trans hb13
        have s13 := hb13'.size
        rw [List.nil_append] at hr13
        have hba := (Below.refl w13.heap.size w13).alloc (Nat.le_refl _) (.cells #[.string (lineB x)] 9)
        have hz13 : (w13.alloc (.cells #[.string (lineB x)] 9)).heap.size = w13.heap.size + 1 := by simp
        have HR13 := Lib.hid (hr13.below hba (by omega))
        have HN13 := Lib.hid (show ∀ (j : Nat) (u : Value), ([.string (lineB x)] : List Value)[j]? = some u → (w13.alloc (.cells #[.string (lineB x)] 9)).cell? ⟨w13.heap.size, 0 + j, none⟩ = some u from fun j u hj => by rw [Nat.zero_add]; exact ((Blk.new w13 9 #[.string (lineB x)]).cell j).trans (by simpa using hj))
        have HE13 := Lib.hid (show ∀ j, j < [lineB x].length → shS.R (w13.alloc (.cells #[.string (lineB x)] 9)) 0 wr.heap.size (elemAt shS.k [.string (lineB x)] j) ([lineB x].getD j shS.d) from fun j hj => by
          obtain rfl : j = 0 := by simpa using hj
          rfl)
        have HB13 := Lib.hid (hb13'.trans (hba.mono s13))
        have hlen14 : (LS.take q).length + [lineB x].length ≤ 1000000000 := by rw [List.length_take]; simp; omega
        clear hr13 hb13 hb13' hba HGA
        go_upto_region 17 with (first
          | fail
          | (at_builtin; refine wpList_app_rd (s := shS) rfl (.tmp 94) (.tmp 96) 29 rfl Tryz.underlying29 rfl (by decide) (by decide) infoString _ w12.heap.size 0 wr.heap.size _ (LS.take q) [lineB x] w13.heap.size 0 1 [.string (lineB x)] rfl HR13.out rfl rfl HN13.out (by simp [Value.oneCell']) HE13.out hlen14 (by omega) (by rw [hz13]; omega) ?_; intro v14 w14 hr14 hb14))
        have HB14 := Lib.hid (HB13.out.trans hb14)
        have s14 := HB14.out.size
        have HR14 := Lib.hid hr14
        have HGB := Lib.hid (show RowG shS w14 0 wr.heap.size AL LS from by
          rw [HLS.out]
          exact RowG.keep HGL.out fun b _ h2 => (HR12.out.trans (HB14.out.mono (by omega))).block b h2)
        have hlen15 : (LS.take q ++ [lineB x]).length + (LS.drop q).length ≤ 1000000000 := by rw [List.length_append, List.length_take, List.length_drop]; have := HLL.out; simp; omega
        clear hr14 hb14 hz13 HR13 HN13 HE13 HB13
        rcases hal with ⟨rfl, rfl⟩ | ⟨gl, rfl⟩
        · have hk0 : k = 0 := by omega
          have hq00 : q = 0 := by omega
          subst hq00
          have HRD2 := Lib.hid (show True from trivial)
          go_wp2_with (first
            | fail
            | (at_builtin; refine wpList_app_rdG (s := shS) rfl (.tmp 98) (.tmp 101) 29 rfl Tryz.underlying29 rfl (by decide) (by decide) infoString _ w12.heap.size 0 wr.heap.size _ (LS.take 0 ++ [lineB x]) (LS.drop 0) _ _ _ rfl HR14.out rfl (by rw [List.length_drop, HLL.out]; first | done | omega) (by first | exact HRD2.out | exact fun hp => absurd hp (by rw [List.length_drop, HLL.out]; omega)) hlen15 (by omega) s14 ?_; intro v15 w15 hr15 hb15))
          go_roundw
          case rel => exact ⟨k + 1, by omega, by go_num, ms.take 0 ++ [x] ++ ms.drop 0, by rw [← HXN.out]; exact ins_perm HP.out (by rw [HNL.out]; exact hlt), by
            rw [List.map_append, List.map_append, List.map_take, List.map_drop, ← HLS.out]
            exact rdS_any hr15 (by omega), HBR.out.trans ((HR12.out.trans ((HB14.out.trans hb15).mono (by omega))).mono s6)⟩
          case measure => simp [intOf]; omega
        · have HRD2 := Lib.hid (RowG.drop HGB.out q)
          rw [show shS.k = 1 from rfl, Nat.mul_one, Nat.zero_add] at HRD2
          by_cases hqM : q < cL
          · have j1 : (q : Int) < (cL : Int) := by omega
            go_wp2_with (first
              | fail
              | (at_builtin; refine wpList_app_rdG (s := shS) rfl (.tmp 98) (.tmp 101) 29 rfl Tryz.underlying29 rfl (by decide) (by decide) infoString _ w12.heap.size 0 wr.heap.size _ (LS.take q ++ [lineB x]) (LS.drop q) _ _ _ rfl HR14.out rfl (by rw [List.length_drop, HLL.out]; first | done | omega) (by first | exact HRD2.out | exact fun hp => absurd hp (by rw [List.length_drop, HLL.out]; omega)) hlen15 (by omega) s14 ?_; intro v15 w15 hr15 hb15))
            go_roundw
            case rel => exact ⟨k + 1, by omega, by go_num, ms.take q ++ [x] ++ ms.drop q, by rw [← HXN.out]; exact ins_perm HP.out (by rw [HNL.out]; exact hlt), by
              rw [List.map_append, List.map_append, List.map_take, List.map_drop, ← HLS.out]
              exact rdS_any hr15 (by omega), HBR.out.trans ((HR12.out.trans ((HB14.out.trans hb15).mono (by omega))).mono s6)⟩
            case measure => simp [intOf]; omega
          · have hqe : q = cL := by omega
            have hqk2 : q = k := by omega
            have j1 : ¬ (q : Int) < (cL : Int) := by omega
            go_wp2_with (first
              | fail
              | (at_builtin; refine wpList_app_rdG (s := shS) rfl (.tmp 98) (.tmp 101) 29 rfl Tryz.underlying29 rfl (by decide) (by decide) infoString _ w12.heap.size 0 wr.heap.size _ (LS.take q ++ [lineB x]) (LS.drop q) _ _ _ rfl HR14.out rfl (by rw [List.length_drop, HLL.out]; first | done | omega) (by first | exact HRD2.out | exact fun hp => absurd hp (by rw [List.length_drop, HLL.out]; omega)) hlen15 (by omega) s14 ?_; intro v15 w15 hr15 hb15))
            go_roundw
            case rel => exact ⟨k + 1, by omega, by go_num, ms.take q ++ [x] ++ ms.drop q, by rw [← HXN.out]; exact ins_perm HP.out (by rw [HNL.out]; exact hlt), by
              rw [List.map_append, List.map_append, List.map_take, List.map_drop, ← HLS.out]
              exact rdS_any hr15 (by omega), HBR.out.trans ((HR12.out.trans ((HB14.out.trans hb15).mono (by omega))).mono s6)⟩
            case measure => simp [intOf]; omega
      · obtain rfl : k = ts.length := by omega
        have i1 : ¬ ((ts.length : Nat) : Int) < ((ts.length : Nat) : Int) := by omega
        have HPN := Lib.hid (show ms.Perm NS from by have := HP.out; rw [← HNL.out, List.take_length] at this; exact this)
        have HEX := Lib.hid (specExportTree_any NS (.agg #[.slice A5 ts.length c5]) w1.heap.size g5 wr (by rw [HNS.out]; exact treR_own hO.reads) (by omega) (by rw [HNS.out]; exact HSM.out.nods (by omega)))
        have hex : exportP NS = textT NS.length NS := by unfold exportP; rw [HTB.out, if_pos rfl, linesTo_text]
        rw [hex] at HEX
        have HEXC := Lib.hid (show exportC NS = 0 by unfold exportC; rw [HTB.out, if_pos rfl])
        clear hex hO
        go_wp2_with fail
        refine HEX.out.mono ?_
        rintro e7 w7 ⟨rfl, hb7⟩
        have s7 := hb7.size
        have HB7 := Lib.hid (HB6.out.trans (hb7.mono HB6.out.size))
        have HR7 := Lib.hid hb7
        obtain ⟨TX, hTX⟩ : ∃ TX : ByteArray, TX = ⟨(textT NS.length NS).toArray⟩ := ⟨_, rfl⟩
        rw [← hTX]
        have HTX := Lib.hid (show TX.data.toList = headL NS.length ++ 10 :: bodyT NS from by rw [hTX]; rfl)
        have hTXs : TX.size = (headL NS.length).length + 1 + (bodyT NS).length := by
          have h1 := congrArg List.length HTX.out
          rw [List.length_append, List.length_cons] at h1
          have h2 : TX.data.toList.length = TX.size := by simp
          omega
        obtain ⟨H, hH⟩ : ∃ H, H = (headL NS.length).length := ⟨_, rfl⟩
        rw [← hH] at hTXs
        have HH := Lib.hid hH
        have HTXS := Lib.hid hTXs
        have hTXb : TX.size ≤ 1000000 := by
          have h1 := body_len NS (fun x hx => by
            obtain ⟨i, hi, e⟩ := List.getElem_of_mem hx
            have := treB_nod HTB.out i hi
            rw [List.getD_eq_getElem?_getD, List.getElem?_eq_getElem hi] at this
            rw [← e]; exact this)
          have h2 := headT_len NS.length (by rw [HNL.out]; omega)
          have h3 : (headL NS.length).length + 1 = (headT NS.length).length := by unfold headL headT; simp
          have h4 := HNL.out
          omega
        have HTXB := Lib.hid hTXb
        have hHs : H < TX.size := by omega
        clear hTX hb7 HEX f5 hH hTXs hTXb
        go_wp2_with fail
        go_loopw [15] (fun i wx => ∃ j : Nat, j ≤ H ∧ i = .int .i64 j ∧ w7 = wx) (fun i _ => H + 1 - (intOf i).toNat)
        case atStart => exact ⟨0, Nat.zero_le _, rfl, rfl⟩
        case round =>
          obtain ⟨j, hj, rfl, rfl⟩ := hrel
          have hjs : j < TX.size := by omega
          obtain ⟨ha, hb⟩ := head_at HTX.out (headL_no10 _) hjs
          rw [← HH.out] at ha hb
          have i2 : (j : Int) < (TX.size : Int) := by omega
          have hjb : j ≤ 1000000 := by have := HTXB.out; omega
          by_cases hjH : j < H
          · have t10 := ha hjH
            clear ha hb
            go_wp2_with fail
            go_roundw
            case rel => exact ⟨j + 1, by omega, by go_num, by trivial⟩
            case measure => simp [intOf]; omega
          · have hje : j = H := by omega
            have t10 := hb hje
            have HT0 := Lib.hid (head_cut HTX.out)
            rw [← HH.out] at HT0
            subst hje
            clear ha hb hjH
            have hsl : ¬ (TX.size : Int) < (j : Int) := by omega
            have hs0 : ¬ (j : Int) < 0 := by omega
            have hmn : ¬ 9223372036854775807 < min j TX.size + 1 := by have := HTXB.out; omega
            go_wp2_with fail
            clear hsl hs0 hmn
            generalize TX.extract 0 j ++ (⟨#[10]⟩ : ByteArray) = T0 at *
            obtain ⟨HD, hHD⟩ : ∃ HD, HD = headL NS.length := ⟨_, rfl⟩
            rw [← hHD] at HT0
            have HHD := Lib.hid hHD
            have HMB := Lib.hid (show ∀ x ∈ ms, nodB x = true from fun x hx => by
              obtain ⟨i, hi, e⟩ := List.getElem_of_mem (HPN.out.subset hx)
              have := treB_nod HTB.out i hi
              rw [List.getD_eq_getElem?_getD, List.getElem?_eq_getElem hi] at this
              rw [← e]; exact this)
            have HHL := Lib.hid (show HD.length ≤ 20 from by
              have h2 := headT_len NS.length (by rw [HNL.out]; have := HTS.out; omega)
              have h3 : (headL NS.length).length + 1 = (headT NS.length).length := by unfold headL headT; simp
              rw [hHD]; omega)
            clear hHD
            go_loopw [17, 16] (fun i tt wx => ∃ i' : Nat, i' ≤ ts.length ∧ i = .int .i64 i' ∧ ∃ T : ByteArray, tt = .string T ∧ Hid (T.data.toList = HD ++ 10 :: bodyT (ms.take i')) ∧ w7 = wx) (fun i _ _ => ts.length - (intOf i).toNat)
            case atStart => exact ⟨0, Nat.zero_le _, rfl, T0, rfl, by rw [HT0.out]; rfl, rfl⟩
            case round =>
              obtain ⟨i', hi', rfl, T, rfl, HT, rfl⟩ := hrel
              have hTs : T.size ≤ 40000 := by
                have h1 := congrArg List.length HT.out
                rw [List.length_append, List.length_cons] at h1
                have h2 : T.data.toList.length = T.size := by simp
                have h3 := body_len (ms.take i') (fun x hx => HMB.out x (List.mem_of_mem_take hx))
                have h4 := HHL.out
                have h5 : (ms.take i').length ≤ 10 := by rw [List.length_take]; have := HTS.out; omega
                omega
              by_cases hil : i' < ts.length
              · have i3 : (i' : Int) < (ts.length : Int) := by omega
                obtain ⟨b, off, hAL, hb1, hb2, hcell⟩ := HGL.out (show 0 < (ms.map lineB).length by rw [List.length_map, hmk]; omega)
                subst hAL
                obtain ⟨us, hus, hR⟩ := hcell i' (by rw [List.length_map, hmk]; exact hil)
                have hR' : us = [.string (lineB (ms.getD i' nodD))] := by
                  have h1 : (ms.map lineB).getD i' shS.d = lineB (ms.getD i' nodD) := by
                    rw [List.getD_eq_getElem?_getD, List.getD_eq_getElem?_getD, List.getElem?_map, List.getElem?_eq_getElem (by rw [hmk]; exact hil)]; rfl
                  rw [h1] at hR
                  exact hR
                subst hR'
                have f6 : w7.cell? ⟨b, off + i', none⟩ = some (.string (lineB (ms.getD i' nodD))) := by
                  have h1 := hus 0 (by simp)
                  rw [Nat.add_zero, show shS.k = 1 from rfl, Nat.mul_one] at h1
                  exact (HR7.out.cell (p := ⟨b, off + i', none⟩) hb2).trans h1
                have HN := Lib.hid (text_next HT.out (show i' < ms.length by rw [hmk]; exact hil))
                have hLs : (lineB (ms.getD i' nodD)).size ≤ 2000 := by
                  rw [lineB_size]
                  have := lineT_len _ (HMB.out _ (getD_in (d := nodD) (show i' < ms.length by rw [hmk]; exact hil)))
                  omega
                have hLS : (T ++ lineB (ms.getD i' nodD)).size ≤ 50000 := by rw [ByteArray.size_append]; omega
                have m1 : ¬ 9223372036854775807 < T.size + (lineB (ms.getD i' nodD)).size := by omega
                have m2 : ¬ 9223372036854775807 < (T ++ lineB (ms.getD i' nodD)).size + 1 := by omega
                clear hcell hus hR
                generalize ms.getD i' nodD = y at *
                generalize lineB y = L at *
                go_wp2_with fail
                go_roundw
                case rel => exact ⟨i' + 1, by omega, by go_num, _, rfl, HN, by trivial⟩
                case measure => simp [intOf]; omega
              · obtain rfl : i' = ts.length := by omega
                have i3 : ¬ ((ts.length : Nat) : Int) < ((ts.length : Nat) : Int) := by omega
                have hT : T.data.toList = textT NS.length ms := by
                  rw [HT.out, HHD.out, List.take_of_length_le (by omega)]; rfl
                have hIM := implImportTree_any T (by omega) w7 (HE.out.below HB7.out)
                rw [hT, import_text HTB.out HPN.out (by rw [HNL.out]; have := HTS.out; omega)] at hIM
                have HIM := Lib.hid hIM
                have hNT : NS.map tyOf = ts := by rw [HNS.out, List.map_map]; exact List.map_id _
                have HNT := Lib.hid hNT
                clear hIM hT hNT
                go_wp2_with fail
                refine HIM.out.mono ?_
                rintro e9 w9 ⟨⟨A9, c9, rfl, ho9⟩, hb9⟩
                dsimp only at ho9
                rw [HNT.out] at ho9
                have s9 := hb9.size
                have hba := (Below.refl w9.heap.size w9).alloc (Nat.le_refl _) (.cells #[.slice A9 NS.length c9] 26)
                have hz10 : (w9.alloc (.cells #[.slice A9 NS.length c9] 26)).heap.size = w9.heap.size + 1 := by simp
                have hb10 := hb9.trans (hba.mono s9)
                have HO10 := Lib.hid ((ho9.below hba (Nat.le_refl _)).reads)
                have HG10 := Lib.hid (Blk.new w9 26 #[.slice A9 NS.length c9])
                have HB10 := Lib.hid (HB7.out.trans (hb10.mono HB7.out.size))
                have HT10 := Lib.hid ((HT6.out.below HR7.out HT6.out.lt).below hb10 (by have := HT6.out.lt; omega))
                have HOT := Lib.hid (((HO6.out.below HR7.out (by omega)).below hb10 (by omega)).reads)
                clear ho9 hba hb9 hb10 HIM
                go_upto_region 28 with fail
                change Code.wp _ _ _ _ (w9.alloc (.cells #[.slice A9 NS.length c9] 26))
                generalize w9.alloc (.cells #[.slice A9 NS.length c9] 26) = w10 at *
                generalize w9.heap.size = g10 at *
                rw [HNL.out] at HG10 HO10
                have f5 := HT10.out.cell
                have f6 := HG10.out.cell
                have HST := Lib.hid (sameTree_any A9 A5 c9 c5 ts _ _ _ _ w10 (rowG_of_shape HO10.out) (rowG_of_shape HOT.out) (by omega) (by omega) (HSM.out.smT (by omega)))
                trace_state
                go_wp2_with fail
                refine HST.out.mono ?_
                rintro e11 w11 ⟨rfl, hb11⟩
                have HB11 := Lib.hid (HB10.out.trans (hb11.mono HB10.out.size))
                clear hb11 f5 f6
                go_wp2_with fail
                go_ret
                exact ⟨rfl, HB11.out⟩

end Go.Proofs.YtfibjcaidnofmaaGreatDoor

