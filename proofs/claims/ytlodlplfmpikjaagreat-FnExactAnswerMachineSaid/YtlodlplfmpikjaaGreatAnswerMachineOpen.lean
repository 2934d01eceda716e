/- The arguments of FnExactAnswerMachine, opened as shapes. Printed by gen_proofo.py. -/
import Derived.Test.YtlodlplfmpikjaaGreatFamShM
import Derived.Test.YtlodlplfmpikjaaGreatOpg
namespace Go.Proofs.YtlodlplfmpikjaaGreat
open Go.ChangeShapes Go.WideShapes Go.ChangeAt Go.RowKit

section
variable {H : Type} {enc : TypeId × Value → H} {w : World} {base : Nat} {held : Bool}
theorem opnRef : Opn enc Tryz.prog w base held 33 shRef :=
  opn_struct (l := [(4, 0), (9, 1), (22, 2)]) Tryz.underlying33 (by kernel_rfl) (by kernel_rfl) (opnF_cons (o := 0) (opn_B Tryz.underlying4 (by kernel_rfl)) (opnF_cons (o := 1) (opn_S Tryz.underlying9 (by kernel_rfl)) (opnF_one 2 (opn_row (te := 9) Tryz.underlying22 (by kernel_rfl) (by decide) (opn_S Tryz.underlying9 (by kernel_rfl)))) rfl) rfl)
theorem opnGiven : Opn enc Tryz.prog w base held 91 shGiven :=
  opn_struct (l := [(4, 0), (9, 1)]) Tryz.underlying91 (by kernel_rfl) (by kernel_rfl) (opnF_cons (o := 0) (opn_B Tryz.underlying4 (by kernel_rfl)) (opnF_one 1 (opn_S Tryz.underlying9 (by kernel_rfl))) rfl)
theorem opnLoop : Opn enc Tryz.prog w base held 94 shLoop :=
  opn_struct (l := [(9, 0), (2, 1), (2, 2), (4, 3), (2, 4), (2, 5)]) Tryz.underlying94 (by kernel_rfl) (by kernel_rfl) (opnF_cons (o := 0) (opn_S Tryz.underlying9 (by kernel_rfl)) (opnF_cons (o := 1) (opn_I Tryz.underlying2 (by kernel_rfl)) (opnF_cons (o := 2) (opn_I Tryz.underlying2 (by kernel_rfl)) (opnF_cons (o := 3) (opn_B Tryz.underlying4 (by kernel_rfl)) (opnF_cons (o := 4) (opn_I Tryz.underlying2 (by kernel_rfl)) (opnF_one 5 (opn_I Tryz.underlying2 (by kernel_rfl))) rfl) rfl) rfl) rfl) rfl)
theorem opnFrame : Opn enc Tryz.prog w base held 97 shFrame :=
  opn_struct (l := [(2, 0), (4, 1), (4, 2), (2, 3), (2, 4), (2, 5), (2, 6), (9, 7), (9, 8)]) Tryz.underlying97 (by kernel_rfl) (by kernel_rfl) (opnF_cons (o := 0) (opn_I Tryz.underlying2 (by kernel_rfl)) (opnF_cons (o := 1) (opn_B Tryz.underlying4 (by kernel_rfl)) (opnF_cons (o := 2) (opn_B Tryz.underlying4 (by kernel_rfl)) (opnF_cons (o := 3) (opn_I Tryz.underlying2 (by kernel_rfl)) (opnF_cons (o := 4) (opn_I Tryz.underlying2 (by kernel_rfl)) (opnF_cons (o := 5) (opn_I Tryz.underlying2 (by kernel_rfl)) (opnF_cons (o := 6) (opn_I Tryz.underlying2 (by kernel_rfl)) (opnF_cons (o := 7) (opn_S Tryz.underlying9 (by kernel_rfl)) (opnF_one 8 (opn_S Tryz.underlying9 (by kernel_rfl))) rfl) rfl) rfl) rfl) rfl) rfl) rfl) rfl)
theorem opnBind : Opn enc Tryz.prog w base held 138 shBind :=
  opn_struct (l := [(9, 0), (2, 1)]) Tryz.underlying138 (by kernel_rfl) (by kernel_rfl) (opnF_cons (o := 0) (opn_S Tryz.underlying9 (by kernel_rfl)) (opnF_one 1 (opn_I Tryz.underlying2 (by kernel_rfl))) rfl)
theorem opnNode : Opn enc Tryz.prog w base held 171 shNode :=
  opn_struct (l := [(9, 0), (22, 1), (9, 2)]) Tryz.underlying171 (by kernel_rfl) (by kernel_rfl) (opnF_cons (o := 0) (opn_S Tryz.underlying9 (by kernel_rfl)) (opnF_cons (o := 1) (opn_row (te := 9) Tryz.underlying22 (by kernel_rfl) (by decide) (opn_S Tryz.underlying9 (by kernel_rfl))) (opnF_one 2 (opn_S Tryz.underlying9 (by kernel_rfl))) rfl) rfl)
theorem opnTree : Opn enc Tryz.prog w base held 142 shTree :=
  opn_struct (l := [(140, 0)]) Tryz.underlying142 (by kernel_rfl) (by kernel_rfl) (opnF_one 0 (opn_row (te := 150) Tryz.underlying140 (by kernel_rfl) (by decide) opnNode))
theorem opnCell : Opn enc Tryz.prog w base held 144 shCell :=
  opn_struct (l := [(2, 0), (142, 1)]) Tryz.underlying144 (by kernel_rfl) (by kernel_rfl) (opnF_cons (o := 0) (opn_I Tryz.underlying2 (by kernel_rfl)) (opnF_one 1 opnTree) rfl)
theorem opnLevel : Opn enc Tryz.prog w base held 147 shLevel :=
  opn_struct (l := [(27, 0)]) Tryz.underlying147 (by kernel_rfl) (by kernel_rfl) (opnF_one 0 (opn_row (te := 151) Tryz.underlying27 (by kernel_rfl) (by decide) opnBind))
theorem opnLocals : Opn enc Tryz.prog w base held 31 shLocals :=
  opn_struct (l := [(2, 0), (27, 1), (28, 2), (29, 3)]) Tryz.underlying31 (by kernel_rfl) (by kernel_rfl) (opnF_cons (o := 0) (opn_I Tryz.underlying2 (by kernel_rfl)) (opnF_cons (o := 1) (opn_row (te := 151) Tryz.underlying27 (by kernel_rfl) (by decide) opnBind) (opnF_cons (o := 2) (opn_row (te := 105) Tryz.underlying28 (by kernel_rfl) (by decide) opnCell) (opnF_one 3 (opn_row (te := 108) Tryz.underlying29 (by kernel_rfl) (by decide) opnLevel)) rfl) rfl) rfl)
theorem opnMachine : Opn enc Tryz.prog w base held 35 shMachine :=
  opn_struct (l := [(2, 0), (2, 1), (22, 2), (23, 3), (24, 4), (25, 5), (26, 6), (31, 7), (4, 11), (4, 12), (33, 13), (2, 16), (2, 17), (2, 18), (2, 19), (9, 20)]) Tryz.underlying35 (by kernel_rfl) (by kernel_rfl) (opnF_cons (o := 0) (opn_I Tryz.underlying2 (by kernel_rfl)) (opnF_cons (o := 1) (opn_I Tryz.underlying2 (by kernel_rfl)) (opnF_cons (o := 2) (opn_row (te := 9) Tryz.underlying22 (by kernel_rfl) (by decide) (opn_S Tryz.underlying9 (by kernel_rfl))) (opnF_cons (o := 3) (opn_row (te := 46) Tryz.underlying23 (by kernel_rfl) (by decide) opnRef) (opnF_cons (o := 4) (opn_row (te := 109) Tryz.underlying24 (by kernel_rfl) (by decide) opnGiven) (opnF_cons (o := 5) (opn_row (te := 111) Tryz.underlying25 (by kernel_rfl) (by decide) opnLoop) (opnF_cons (o := 6) (opn_row (te := 113) Tryz.underlying26 (by kernel_rfl) (by decide) opnFrame) (opnF_cons (o := 7) opnLocals (opnF_cons (o := 11) (opn_B Tryz.underlying4 (by kernel_rfl)) (opnF_cons (o := 12) (opn_B Tryz.underlying4 (by kernel_rfl)) (opnF_cons (o := 13) opnRef (opnF_cons (o := 16) (opn_I Tryz.underlying2 (by kernel_rfl)) (opnF_cons (o := 17) (opn_I Tryz.underlying2 (by kernel_rfl)) (opnF_cons (o := 18) (opn_I Tryz.underlying2 (by kernel_rfl)) (opnF_cons (o := 19) (opn_I Tryz.underlying2 (by kernel_rfl)) (opnF_one 20 (opn_S Tryz.underlying9 (by kernel_rfl))) rfl) rfl) rfl) rfl) rfl) rfl) rfl) rfl) rfl) rfl) rfl) rfl) rfl) rfl) rfl)
end

end Go.Proofs.YtlodlplfmpikjaaGreat
