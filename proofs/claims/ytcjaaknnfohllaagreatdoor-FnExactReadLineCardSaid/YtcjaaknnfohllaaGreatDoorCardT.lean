/- What a tied card's list of tables gives: the table that strconv reads; what package bytealg holds. -/
import Derived.Test.YtcjaaknnfohllaaGreatDoorNumW
import Derived.Test.YtcjaaknnfohllaaGreatDoorRow
import Derived.Test.YtcjaaknnfohllaaGreatDoorCards
import Derived.Test.YtcjaaknnfohllaaGreatDoorTie
import Derived.WalkKit
import Derived.ProofKit
import Derived.OpenShut
import Derived.Deep.DeepHandedRow
import Derived.Lay
import Derived.Lib.LaidTab
import Derived.Lib.LaidU8
import Derived.Shelf.Vars
namespace Go.Proofs.YtcjaaknnfohllaaGreatDoor
open Go.ChangeShapes Go.WideShapes Go.ChangeAt Go.RowKit

theorem tabIs_of_reads {P : Program} {W : World} {name : String} {k : IntKind} {zs : List Int} {g : Nat} {t e : TypeId} {n : Nat}
    (hg : P.globalNamed name = some g) (hty : (P.globals[g]?).map (·.type) = some t) (ht : P.underlying t = some (.array n e)) (he : P.underlying e = some (.int k)) (hce : P.cellsOf e = 1) (hct : P.cellsOf t = n)
    (h : Lib.VarReads P W name (Lib.tabData k zs)) : Lib.TabIs P W name k zs := by
  obtain ⟨g', t', cs, fuel, p, hg', ht', hvar, hd⟩ := h
  obtain rfl := Option.some.inj (hg.symm.trans hg')
  obtain rfl := Option.some.inj (hty.symm.trans ht')
  unfold Lib.TabIs
  rw [hvar, ← Lib.cells_of_tab ht he hce hct hd]

theorem pow10_data : (Rows.laid_internal_strconv_uint64pow10 : DataW Unit) = Lib.tabData .u64 Lib.pow10Tab := by kernel_rfl
/-- What a row's list gives. -/
theorem tabsIn_of {L : List (String × DataW Unit)} {W : World} (hp : laidMetH Tryz.prog L W ↔ laidMet Tryz.prog L W) (hm : ("internal/strconv.uint64pow10", Rows.laid_internal_strconv_uint64pow10) ∈ L) (h : laidMetH Tryz.prog L W) : TabsIn W := by
  have h' := hp.1 h
  exact tabIs_of_reads (g := 1) (t := 191) (e := 169) (n := 20) (by kernel_rfl) (by kernel_rfl) Tryz.underlying191 Tryz.underlying169 (by kernel_rfl) (by kernel_rfl)
    (by have := Lib.laidMet.reads h' hm; rw [pow10_data] at this; exact this)

theorem maxLen_of {W : World} (h : W.ShapedOpen Tryz.prog) : ∃ m, W.cell? ⟨0, 0, none⟩ = some (.int .i64 m) :=
  cell_of_shapedOpen_int (t := 3) (zero := #[.int .i64 0]) h (of_decide_eq_true (by kernel_rfl)) (by kernel_rfl) rfl (by kernel_rfl) (by kernel_rfl) Tryz.underlying3
end Go.Proofs.YtcjaaknnfohllaaGreatDoor
