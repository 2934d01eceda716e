/- l09Used, l09Own of the reference walked: only that they return. -/
import Derived.Test.YtlodlplfmpikjaaGreatOwnT
namespace Go.Proofs.YtlodlplfmpikjaaGreat
open Go.RowKit

set_option maxHeartbeats 4000000 in
set_option maxRecDepth 100000 in
theorem l09Used_f (id : Int) (x0 : Int) (x1 : List TyBind) (x2 : List TyCell) (x3 : List TyLevel) (A1 : Option Addr) (c1 : Nat) (A2 : Option Addr) (c2 : Nat) (A3 : Option Addr) (c3 lo hi : Nat) (w : World) (h : shLocals.R w lo hi [.int .i64 x0, .slice A1 x1.length c1, .slice A2 x2.length c2, .slice A3 x3.length c3] (x0, x1, x2, x3)) (hhi : hi ≤ w.heap.size) (hf : shLocals.fit 1048576 (x0, x1, x2, x3)) :
    Calls Tryz.prog 105 #[.agg #[.int .i64 x0, .slice A1 x1.length c1, .slice A2 x2.length c2, .slice A3 x3.length c3], .int .i64 id] w fun e w' => ∃ b, e = .returned (.bool b) ∧ Below w.heap.size w w' := by
  rw [shLocals_fit] at hf
  obtain ⟨ft0, ft1, ft2, ft3⟩ := hf
  have hn1 := ft1.1; have hn3 := ft3.1
  have HF3 := Lib.hid ft3.2
  have HA1 := Lib.hid (shLocals_f1 h); have HA3 := Lib.hid (shLocals_f3 h)
  clear h ft0 ft1 ft2 ft3
  have HP0 := Lib.hid (show Blk (w.alloc (.cells #[.int .i64 x0, .slice A1 x1.length c1, .slice A2 x2.length c2, .slice A3 x3.length c3] 45)) w.heap.size 45 _ ∧ Below w.heap.size w _ from ⟨Blk.new w _ _, (Below.refl w.heap.size w).alloc (Nat.le_refl _) (.cells #[.int .i64 x0, .slice A1 x1.length c1, .slice A2 x2.length c2, .slice A3 x3.length c3] 45)⟩)
  go_enter Tryz.func105, Tryz.ntmps105
  go_wp2_with fail
  go_loopw [5] (fun i wr => ∃ k : Nat, k ≤ x1.length ∧ i = .int .i64 k ∧ Blk wr w.heap.size 45 #[.int .i64 x0, .slice A1 x1.length c1, .slice A2 x2.length c2, .slice A3 x3.length c3] ∧ Below w.heap.size w wr) (fun i _ => x1.length - (intOf i).toNat)
  case atStart => exact ⟨0, Nat.zero_le _, rfl, HP0.out⟩
  case round =>
    obtain ⟨k, hk, rfl, hP, hb⟩ := hrel
    have f0 := hP.cell
    by_cases hlt : k < x1.length
    · obtain ⟨-, b, off, rfl, hb1, hb2, e100, e101, hX⟩ := shBind_at ((Sh.row 151 shBind).R_below HA1.out hb hhi) hlt
      generalize x1.getD k shBind.d = X at *
      obtain ⟨y0, y1⟩ := X
      dsimp only at e100 e101
      have HP := Lib.hid hP; have HB := Lib.hid hb
      clear hP hb hX
      by_cases hq : y1 = id
      · go_wp2_with fail
        go_ret
        exact ⟨_, rfl, HB.out⟩
      · go_wp2_with fail
        go_roundw
        case rel => exact ⟨k + 1, by omega, by go_num, HP.out, HB.out⟩
        case measure => simp [intOf]; omega
    · have HP := Lib.hid hP; have HB := Lib.hid hb
      clear hP hb
      go_wp2_with fail
      clear f0
      go_loopw [6] (fun i wr => ∃ k : Nat, k ≤ x3.length ∧ i = .int .i64 k ∧ Blk wr w.heap.size 45 #[.int .i64 x0, .slice A1 x1.length c1, .slice A2 x2.length c2, .slice A3 x3.length c3] ∧ Below w.heap.size w wr) (fun i _ => x3.length - (intOf i).toNat)
      case atStart => exact ⟨0, Nat.zero_le _, rfl, HP.out, HB.out⟩
      case round =>
        obtain ⟨k, hk, rfl, hP, hb⟩ := hrel
        have f0 := hP.cell
        by_cases hlt : k < x3.length
        · obtain ⟨-, b, off, rfl, hb1, hb2, A5, c5, e100, hX⟩ := shLevel_at ((Sh.row 108 shLevel).R_below HA3.out hb hhi) hlt
          have hn5 := (HF3.out _ (getD_in (d := shLevel.d) hlt)).1
          have HL := Lib.hid (fun (W : World) (q : Below w.heap.size w W) => (shLevel_at ((Sh.row 108 shLevel).R_below HA3.out q hhi) hlt))
          generalize x3.getD k shLevel.d = y0 at *
          have HP2 := Lib.hid hP; have HB2 := Lib.hid hb
          have HX := Lib.hid hX
          have hbw : b < wr.heap.size := Nat.lt_of_lt_of_le hb2 (Nat.le_trans hhi hb.size)
          have hwi : hi ≤ wr.heap.size := Nat.le_trans hhi hb.size
          have hn5 : y0.length ≤ 1048576 := hn5
          have he := e100
          clear hP hb hX
          go_wp2_with fail
          clear f0 e100
          go_loopw [7] (fun i wi => ∃ m : Nat, m ≤ y0.length ∧ i = .int .i64 m ∧ Blk wi w.heap.size 45 #[.int .i64 x0, .slice A1 x1.length c1, .slice A2 x2.length c2, .slice (some ⟨b, off, none⟩) x3.length c3] ∧ wi.cell? ⟨b, off + k, none⟩ = some (.slice A5 y0.length c5) ∧ (Sh.row 151 shBind).R wi lo hi [.slice A5 y0.length c5] y0 ∧ Below w.heap.size w wi) (fun i _ => y0.length - (intOf i).toNat)
          case atStart => exact ⟨0, Nat.zero_le _, rfl, HP2.out, he, HX.out, HB2.out⟩
          case round =>
            obtain ⟨m, hm, rfl, hP, he, hR, hb⟩ := hrel
            have f0 := hP.cell
            have hi0 : (0 : Int) ≤ (k : Int) := by omega
            have hi1 : (k : Int) < (x3.length : Int) := by omega
            by_cases hlm : m < y0.length
            · have hR' := hR
              obtain ⟨-, b', off', rfl, hb1', hb2', e200, e201, hX'⟩ := shBind_at hR hlm
              generalize y0.getD m shBind.d = X at *
              obtain ⟨z0, z1⟩ := X
              dsimp only at e200 e201
              have HP := Lib.hid hP; have HB := Lib.hid hb; have HRR := Lib.hid hR'; have HE := Lib.hid he
              clear hP hb hX' hR hR'
              by_cases hq : z1 = id
              · go_wp2_with fail
                go_ret
                exact ⟨_, rfl, HB.out⟩
              · go_wp2_with fail
                go_roundw
                case rel => exact ⟨m + 1, by omega, by go_num, HP.out, HE.out, HRR.out, HB.out⟩
                case measure => simp [intOf]; omega
            · have HP := Lib.hid hP; have HB := Lib.hid hb
              clear hP hb hR
              go_wp2_with fail
              go_roundw
              case rel => exact ⟨k + 1, by omega, by go_num, HP.out, HB.out⟩
              case measure => simp [intOf]; omega
        · have HB := Lib.hid hb
          clear hP hb
          go_wp2_with fail
          go_ret
          exact ⟨_, rfl, HB.out⟩

end Go.Proofs.YtlodlplfmpikjaaGreat
