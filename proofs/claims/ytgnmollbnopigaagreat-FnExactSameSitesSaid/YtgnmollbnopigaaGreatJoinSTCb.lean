/- The arguments of FnExactSameSites, opened as shapes. Printed by gen_proofo.py. -/
import Derived.Test.YtgnmollbnopigaaGreatJoinSTAr
import Derived.Test.YtgnmollbnopigaaGreatJoinSTAe
import Derived.Test.YtgnmollbnopigaaGreatJoinSTCa
namespace Go.Proofs.YtgnmollbnopigaaGreat
open Go.ChangeShapes Go.WideShapes Go.ChangeAt Go.RowKit
section
variable {H : Type} {enc : TypeId × Value → H} {w : World} {base : Nat} {held : Bool}
theorem opnIns : Opn enc Tryz.prog w base held 289 shIns :=
 opn_struct (l := [(2, 0), (2, 1), (2, 2), (9, 3)]) Tryz.underlying289 (by kernel_rfl) (by kernel_rfl) (opnF_cons (o := 0) (opn_I Tryz.underlying2 (by kernel_rfl)) (opnF_cons (o := 1) (opn_I Tryz.underlying2 (by kernel_rfl)) (opnF_cons (o := 2) (opn_I Tryz.underlying2 (by kernel_rfl)) (opnF_one 3 (opn_S Tryz.underlying9 (by kernel_rfl))) rfl) rfl) rfl)
theorem opnEntry : Opn enc Tryz.prog w base held 291 shEntry :=
 opn_struct (l := [(9, 0), (9, 1), (2, 2), (41, 3)]) Tryz.underlying291 (by kernel_rfl) (by kernel_rfl) (opnF_cons (o := 0) (opn_S Tryz.underlying9 (by kernel_rfl)) (opnF_cons (o := 1) (opn_S Tryz.underlying9 (by kernel_rfl)) (opnF_cons (o := 2) (opn_I Tryz.underlying2 (by kernel_rfl)) (opnF_one 3 (opn_row (te := 9) Tryz.underlying41 (by kernel_rfl) (by decide) (opn_S Tryz.underlying9 (by kernel_rfl)))) rfl) rfl) rfl)
theorem opnProgram : Opn enc Tryz.prog w base held 25 shProgram :=
 opn_struct (l := [(22, 0), (23, 1)]) Tryz.underlying25 (by kernel_rfl) (by kernel_rfl) (opnF_cons (o := 0) (opn_row (te := 226) Tryz.underlying22 (by kernel_rfl) (by decide) opnIns) (opnF_one 1 (opn_row (te := 228) Tryz.underlying23 (by kernel_rfl) (by decide) opnEntry)) rfl)
theorem opnTrigger : Opn enc Tryz.prog w base held 197 shTrigger :=
 opn_struct (l := [(2, 0), (9, 1), (41, 2), (4, 3), (4, 4), (9, 5), (9, 6)]) Tryz.underlying197 (by kernel_rfl) (by kernel_rfl) (opnF_cons (o := 0) (opn_I Tryz.underlying2 (by kernel_rfl)) (opnF_cons (o := 1) (opn_S Tryz.underlying9 (by kernel_rfl)) (opnF_cons (o := 2) (opn_row (te := 9) Tryz.underlying41 (by kernel_rfl) (by decide) (opn_S Tryz.underlying9 (by kernel_rfl))) (opnF_cons (o := 3) (opn_B Tryz.underlying4 (by kernel_rfl)) (opnF_cons (o := 4) (opn_B Tryz.underlying4 (by kernel_rfl)) (opnF_cons (o := 5) (opn_S Tryz.underlying9 (by kernel_rfl)) (opnF_one 6 (opn_S Tryz.underlying9 (by kernel_rfl))) rfl) rfl) rfl) rfl) rfl) rfl)
theorem opnNode : Opn enc Tryz.prog w base held 223 shNode :=
 opn_struct (l := [(9, 0), (41, 1), (9, 2)]) Tryz.underlying223 (by kernel_rfl) (by kernel_rfl) (opnF_cons (o := 0) (opn_S Tryz.underlying9 (by kernel_rfl)) (opnF_cons (o := 1) (opn_row (te := 9) Tryz.underlying41 (by kernel_rfl) (by decide) (opn_S Tryz.underlying9 (by kernel_rfl))) (opnF_one 2 (opn_S Tryz.underlying9 (by kernel_rfl))) rfl) rfl)
theorem opnTree : Opn enc Tryz.prog w base held 29 shTree :=
 opn_struct (l := [(27, 0)]) Tryz.underlying29 (by kernel_rfl) (by kernel_rfl) (opnF_one 0 (opn_row (te := 165) Tryz.underlying27 (by kernel_rfl) (by decide) opnNode))
theorem opnLock : Opn enc Tryz.prog w base held 293 shLock :=
 opn_struct (l := [(2, 0), (2, 1), (9, 2), (41, 3)]) Tryz.underlying293 (by kernel_rfl) (by kernel_rfl) (opnF_cons (o := 0) (opn_I Tryz.underlying2 (by kernel_rfl)) (opnF_cons (o := 1) (opn_I Tryz.underlying2 (by kernel_rfl)) (opnF_cons (o := 2) (opn_S Tryz.underlying9 (by kernel_rfl)) (opnF_one 3 (opn_row (te := 9) Tryz.underlying41 (by kernel_rfl) (by decide) (opn_S Tryz.underlying9 (by kernel_rfl)))) rfl) rfl) rfl)
theorem opnAsk : Opn enc Tryz.prog w base held 295 shAsk :=
 opn_struct (l := [(2, 0), (2, 1), (9, 2), (41, 3)]) Tryz.underlying295 (by kernel_rfl) (by kernel_rfl) (opnF_cons (o := 0) (opn_I Tryz.underlying2 (by kernel_rfl)) (opnF_cons (o := 1) (opn_I Tryz.underlying2 (by kernel_rfl)) (opnF_cons (o := 2) (opn_S Tryz.underlying9 (by kernel_rfl)) (opnF_one 3 (opn_row (te := 9) Tryz.underlying41 (by kernel_rfl) (by decide) (opn_S Tryz.underlying9 (by kernel_rfl)))) rfl) rfl) rfl)
theorem opnLocks : Opn enc Tryz.prog w base held 33 shLocks :=
 opn_struct (l := [(30, 0), (31, 1)]) Tryz.underlying33 (by kernel_rfl) (by kernel_rfl) (opnF_cons (o := 0) (opn_row (te := 231) Tryz.underlying30 (by kernel_rfl) (by decide) opnLock) (opnF_one 1 (opn_row (te := 233) Tryz.underlying31 (by kernel_rfl) (by decide) opnAsk)) rfl)
theorem opnRef : Opn enc Tryz.prog w base held 210 shRef :=
 opn_struct (l := [(4, 0), (9, 1), (41, 2)]) Tryz.underlying210 (by kernel_rfl) (by kernel_rfl) (opnF_cons (o := 0) (opn_B Tryz.underlying4 (by kernel_rfl)) (opnF_cons (o := 1) (opn_S Tryz.underlying9 (by kernel_rfl)) (opnF_one 2 (opn_row (te := 9) Tryz.underlying41 (by kernel_rfl) (by decide) (opn_S Tryz.underlying9 (by kernel_rfl)))) rfl) rfl)
theorem opnGiven : Opn enc Tryz.prog w base held 369 shGiven :=
 opn_struct (l := [(4, 0), (9, 1)]) Tryz.underlying369 (by kernel_rfl) (by kernel_rfl) (opnF_cons (o := 0) (opn_B Tryz.underlying4 (by kernel_rfl)) (opnF_one 1 (opn_S Tryz.underlying9 (by kernel_rfl))) rfl)
theorem opnLoop : Opn enc Tryz.prog w base held 371 shLoop :=
 opn_struct (l := [(9, 0), (2, 1), (2, 2), (4, 3), (2, 4), (2, 5)]) Tryz.underlying371 (by kernel_rfl) (by kernel_rfl) (opnF_cons (o := 0) (opn_S Tryz.underlying9 (by kernel_rfl)) (opnF_cons (o := 1) (opn_I Tryz.underlying2 (by kernel_rfl)) (opnF_cons (o := 2) (opn_I Tryz.underlying2 (by kernel_rfl)) (opnF_cons (o := 3) (opn_B Tryz.underlying4 (by kernel_rfl)) (opnF_cons (o := 4) (opn_I Tryz.underlying2 (by kernel_rfl)) (opnF_one 5 (opn_I Tryz.underlying2 (by kernel_rfl))) rfl) rfl) rfl) rfl) rfl)
theorem opnFrame : Opn enc Tryz.prog w base held 373 shFrame :=
 opn_struct (l := [(2, 0), (4, 1), (4, 2), (2, 3), (2, 4), (2, 5), (2, 6), (9, 7), (9, 8)]) Tryz.underlying373 (by kernel_rfl) (by kernel_rfl) (opnF_cons (o := 0) (opn_I Tryz.underlying2 (by kernel_rfl)) (opnF_cons (o := 1) (opn_B Tryz.underlying4 (by kernel_rfl)) (opnF_cons (o := 2) (opn_B Tryz.underlying4 (by kernel_rfl)) (opnF_cons (o := 3) (opn_I Tryz.underlying2 (by kernel_rfl)) (opnF_cons (o := 4) (opn_I Tryz.underlying2 (by kernel_rfl)) (opnF_cons (o := 5) (opn_I Tryz.underlying2 (by kernel_rfl)) (opnF_cons (o := 6) (opn_I Tryz.underlying2 (by kernel_rfl)) (opnF_cons (o := 7) (opn_S Tryz.underlying9 (by kernel_rfl)) (opnF_one 8 (opn_S Tryz.underlying9 (by kernel_rfl))) rfl) rfl) rfl) rfl) rfl) rfl) rfl) rfl)
theorem opnBind : Opn enc Tryz.prog w base held 389 shBind :=
 opn_struct (l := [(9, 0), (2, 1)]) Tryz.underlying389 (by kernel_rfl) (by kernel_rfl) (opnF_cons (o := 0) (opn_S Tryz.underlying9 (by kernel_rfl)) (opnF_one 1 (opn_I Tryz.underlying2 (by kernel_rfl))) rfl)
theorem opnCell : Opn enc Tryz.prog w base held 392 shCell :=
 opn_struct (l := [(2, 0), (29, 1)]) Tryz.underlying392 (by kernel_rfl) (by kernel_rfl) (opnF_cons (o := 0) (opn_I Tryz.underlying2 (by kernel_rfl)) (opnF_one 1 opnTree) rfl)
theorem opnLevel : Opn enc Tryz.prog w base held 395 shLevel :=
 opn_struct (l := [(205, 0)]) Tryz.underlying395 (by kernel_rfl) (by kernel_rfl) (opnF_one 0 (opn_row (te := 359) Tryz.underlying205 (by kernel_rfl) (by decide) opnBind))
theorem opnLocals : Opn enc Tryz.prog w base held 209 shLocals :=
 opn_struct (l := [(2, 0), (205, 1), (206, 2), (207, 3)]) Tryz.underlying209 (by kernel_rfl) (by kernel_rfl) (opnF_cons (o := 0) (opn_I Tryz.underlying2 (by kernel_rfl)) (opnF_cons (o := 1) (opn_row (te := 359) Tryz.underlying205 (by kernel_rfl) (by decide) opnBind) (opnF_cons (o := 2) (opn_row (te := 353) Tryz.underlying206 (by kernel_rfl) (by decide) opnCell) (opnF_one 3 (opn_row (te := 356) Tryz.underlying207 (by kernel_rfl) (by decide) opnLevel)) rfl) rfl) rfl)
theorem opnMachine : Opn enc Tryz.prog w base held 212 shMachine :=
 opn_struct (l := [(2, 0), (2, 1), (41, 2), (201, 3), (202, 4), (203, 5), (204, 6), (209, 7), (4, 11), (4, 12), (210, 13), (2, 16), (2, 17), (2, 18), (2, 19), (9, 20)]) Tryz.underlying212 (by kernel_rfl) (by kernel_rfl) (opnF_cons (o := 0) (opn_I Tryz.underlying2 (by kernel_rfl)) (opnF_cons (o := 1) (opn_I Tryz.underlying2 (by kernel_rfl)) (opnF_cons (o := 2) (opn_row (te := 9) Tryz.underlying41 (by kernel_rfl) (by decide) (opn_S Tryz.underlying9 (by kernel_rfl))) (opnF_cons (o := 3) (opn_row (te := 152) Tryz.underlying201 (by kernel_rfl) (by decide) opnRef) (opnF_cons (o := 4) (opn_row (te := 322) Tryz.underlying202 (by kernel_rfl) (by decide) opnGiven) (opnF_cons (o := 5) (opn_row (te := 325) Tryz.underlying203 (by kernel_rfl) (by decide) opnLoop) (opnF_cons (o := 6) (opn_row (te := 328) Tryz.underlying204 (by kernel_rfl) (by decide) opnFrame) (opnF_cons (o := 7) opnLocals (opnF_cons (o := 11) (opn_B Tryz.underlying4 (by kernel_rfl)) (opnF_cons (o := 12) (opn_B Tryz.underlying4 (by kernel_rfl)) (opnF_cons (o := 13) opnRef (opnF_cons (o := 16) (opn_I Tryz.underlying2 (by kernel_rfl)) (opnF_cons (o := 17) (opn_I Tryz.underlying2 (by kernel_rfl)) (opnF_cons (o := 18) (opn_I Tryz.underlying2 (by kernel_rfl)) (opnF_cons (o := 19) (opn_I Tryz.underlying2 (by kernel_rfl)) (opnF_one 20 (opn_S Tryz.underlying9 (by kernel_rfl))) rfl) rfl) rfl) rfl) rfl) rfl) rfl) rfl) rfl) rfl) rfl) rfl) rfl) rfl) rfl)
theorem opnEvent : Opn enc Tryz.prog w base held 304 shEvent :=
 opn_struct (l := [(2, 0), (9, 1), (41, 2), (9, 3), (2, 4)]) Tryz.underlying304 (by kernel_rfl) (by kernel_rfl) (opnF_cons (o := 0) (opn_I Tryz.underlying2 (by kernel_rfl)) (opnF_cons (o := 1) (opn_S Tryz.underlying9 (by kernel_rfl)) (opnF_cons (o := 2) (opn_row (te := 9) Tryz.underlying41 (by kernel_rfl) (by decide) (opn_S Tryz.underlying9 (by kernel_rfl))) (opnF_cons (o := 3) (opn_S Tryz.underlying9 (by kernel_rfl)) (opnF_one 4 (opn_I Tryz.underlying2 (by kernel_rfl))) rfl) rfl) rfl) rfl)
theorem opnTrans : Opn enc Tryz.prog w base held 214 shTrans :=
 opn_struct (l := [(2, 0), (2, 1), (135, 2)]) Tryz.underlying214 (by kernel_rfl) (by kernel_rfl) (opnF_cons (o := 0) (opn_I Tryz.underlying2 (by kernel_rfl)) (opnF_cons (o := 1) (opn_I Tryz.underlying2 (by kernel_rfl)) (opnF_one 2 (opn_row (te := 247) Tryz.underlying135 (by kernel_rfl) (by decide) opnEvent)) rfl) rfl)
theorem opnJob : Opn enc Tryz.prog w base held 216 shJob :=
 opn_struct (l := [(2, 0), (212, 1), (214, 22), (212, 25), (9, 46), (41, 47), (30, 48), (2, 49), (41, 50), (9, 51)]) Tryz.underlying216 (by kernel_rfl) (by kernel_rfl) (opnF_cons (o := 0) (opn_I Tryz.underlying2 (by kernel_rfl)) (opnF_cons (o := 1) opnMachine (opnF_cons (o := 22) opnTrans (opnF_cons (o := 25) opnMachine (opnF_cons (o := 46) (opn_S Tryz.underlying9 (by kernel_rfl)) (opnF_cons (o := 47) (opn_row (te := 9) Tryz.underlying41 (by kernel_rfl) (by decide) (opn_S Tryz.underlying9 (by kernel_rfl))) (opnF_cons (o := 48) (opn_row (te := 231) Tryz.underlying30 (by kernel_rfl) (by decide) opnLock) (opnF_cons (o := 49) (opn_I Tryz.underlying2 (by kernel_rfl)) (opnF_cons (o := 50) (opn_row (te := 9) Tryz.underlying41 (by kernel_rfl) (by decide) (opn_S Tryz.underlying9 (by kernel_rfl))) (opnF_one 51 (opn_S Tryz.underlying9 (by kernel_rfl))) rfl) rfl) rfl) rfl) rfl) rfl) rfl) rfl) rfl)
theorem opnBatch : Opn enc Tryz.prog w base held 137 shBatch :=
 opn_struct (l := [(2, 0), (135, 1)]) Tryz.underlying137 (by kernel_rfl) (by kernel_rfl) (opnF_cons (o := 0) (opn_I Tryz.underlying2 (by kernel_rfl)) (opnF_one 1 (opn_row (te := 247) Tryz.underlying135 (by kernel_rfl) (by decide) opnEvent)) rfl)
theorem opnWorld : Opn enc Tryz.prog w base held 37 shWorld :=
 opn_struct (l := [(2, 0), (25, 1), (26, 3), (29, 4), (33, 5), (34, 7), (2, 8), (35, 9)]) Tryz.underlying37 (by kernel_rfl) (by kernel_rfl) (opnF_cons (o := 0) (opn_I Tryz.underlying2 (by kernel_rfl)) (opnF_cons (o := 1) opnProgram (opnF_cons (o := 3) (opn_row (te := 229) Tryz.underlying26 (by kernel_rfl) (by decide) opnTrigger) (opnF_cons (o := 4) opnTree (opnF_cons (o := 5) opnLocks (opnF_cons (o := 7) (opn_row (te := 159) Tryz.underlying34 (by kernel_rfl) (by decide) opnJob) (opnF_cons (o := 8) (opn_I Tryz.underlying2 (by kernel_rfl)) (opnF_one 9 (opn_row (te := 167) Tryz.underlying35 (by kernel_rfl) (by decide) opnBatch)) rfl) rfl) rfl) rfl) rfl) rfl) rfl)
theorem opnPage : Opn enc Tryz.prog w base held 299 shPage :=
 opn_struct (l := [(4, 0), (41, 1), (41, 2), (48, 3)]) Tryz.underlying299 (by kernel_rfl) (by kernel_rfl) (opnF_cons (o := 0) (opn_B Tryz.underlying4 (by kernel_rfl)) (opnF_cons (o := 1) (opn_row (te := 9) Tryz.underlying41 (by kernel_rfl) (by decide) (opn_S Tryz.underlying9 (by kernel_rfl))) (opnF_cons (o := 2) (opn_row (te := 9) Tryz.underlying41 (by kernel_rfl) (by decide) (opn_S Tryz.underlying9 (by kernel_rfl))) (opnF_one 3 (opn_row (te := 2) Tryz.underlying48 (by kernel_rfl) (by decide) (opn_I Tryz.underlying2 (by kernel_rfl)))) rfl) rfl) rfl)
theorem opnSlot : Opn enc Tryz.prog w base held 301 shSlot :=
 opn_struct (l := [(2, 0), (299, 1)]) Tryz.underlying301 (by kernel_rfl) (by kernel_rfl) (opnF_cons (o := 0) (opn_I Tryz.underlying2 (by kernel_rfl)) (opnF_one 1 opnPage) rfl)
theorem opnBtree : Opn enc Tryz.prog w base held 40 shBtree :=
 opn_struct (l := [(2, 0), (38, 1)]) Tryz.underlying40 (by kernel_rfl) (by kernel_rfl) (opnF_cons (o := 0) (opn_I Tryz.underlying2 (by kernel_rfl)) (opnF_one 1 (opn_row (te := 239) Tryz.underlying38 (by kernel_rfl) (by decide) opnSlot)) rfl)
theorem opnPut : Opn enc Tryz.prog w base held 343 shPut :=
 opn_struct (l := [(2, 0), (9, 1)]) Tryz.underlying343 (by kernel_rfl) (by kernel_rfl) (opnF_cons (o := 0) (opn_I Tryz.underlying2 (by kernel_rfl)) (opnF_one 1 (opn_S Tryz.underlying9 (by kernel_rfl))) rfl)
theorem opnDisk : Opn enc Tryz.prog w base held 44 shDisk :=
 opn_struct (l := [(2, 0), (41, 1), (42, 2)]) Tryz.underlying44 (by kernel_rfl) (by kernel_rfl) (opnF_cons (o := 0) (opn_I Tryz.underlying2 (by kernel_rfl)) (opnF_cons (o := 1) (opn_row (te := 9) Tryz.underlying41 (by kernel_rfl) (by decide) (opn_S Tryz.underlying9 (by kernel_rfl))) (opnF_one 2 (opn_row (te := 306) Tryz.underlying42 (by kernel_rfl) (by decide) opnPut)) rfl) rfl)
theorem opnSeat : Opn enc Tryz.prog w base held 316 shSeat :=
 opn_struct (l := [(2, 0), (2, 1)]) Tryz.underlying316 (by kernel_rfl) (by kernel_rfl) (opnF_cons (o := 0) (opn_I Tryz.underlying2 (by kernel_rfl)) (opnF_one 1 (opn_I Tryz.underlying2 (by kernel_rfl))) rfl)
theorem opnTop : Opn enc Tryz.prog w base held 47 shTop :=
 opn_struct (l := [(2, 0), (2, 1), (2, 2), (45, 3)]) Tryz.underlying47 (by kernel_rfl) (by kernel_rfl) (opnF_cons (o := 0) (opn_I Tryz.underlying2 (by kernel_rfl)) (opnF_cons (o := 1) (opn_I Tryz.underlying2 (by kernel_rfl)) (opnF_cons (o := 2) (opn_I Tryz.underlying2 (by kernel_rfl)) (opnF_one 3 (opn_row (te := 273) Tryz.underlying45 (by kernel_rfl) (by decide) opnSeat)) rfl) rfl) rfl)
theorem opnCache : Opn enc Tryz.prog w base held 50 shCache :=
 opn_struct (l := [(44, 0), (47, 3), (47, 7), (45, 11), (48, 12)]) Tryz.underlying50 (by kernel_rfl) (by kernel_rfl) (opnF_cons (o := 0) opnDisk (opnF_cons (o := 3) opnTop (opnF_cons (o := 7) opnTop (opnF_cons (o := 11) (opn_row (te := 273) Tryz.underlying45 (by kernel_rfl) (by decide) opnSeat) (opnF_one 12 (opn_row (te := 2) Tryz.underlying48 (by kernel_rfl) (by decide) (opn_I Tryz.underlying2 (by kernel_rfl)))) rfl) rfl) rfl) rfl)
theorem opnJournal : Opn enc Tryz.prog w base held 52 shJournal :=
 opn_struct (l := [(44, 0), (2, 3), (2, 4), (2, 5), (2, 6)]) Tryz.underlying52 (by kernel_rfl) (by kernel_rfl) (opnF_cons (o := 0) opnDisk (opnF_cons (o := 3) (opn_I Tryz.underlying2 (by kernel_rfl)) (opnF_cons (o := 4) (opn_I Tryz.underlying2 (by kernel_rfl)) (opnF_cons (o := 5) (opn_I Tryz.underlying2 (by kernel_rfl)) (opnF_one 6 (opn_I Tryz.underlying2 (by kernel_rfl))) rfl) rfl) rfl) rfl)
theorem opnBase : Opn enc Tryz.prog w base held 54 shBase :=
 opn_struct (l := [(40, 0), (50, 2), (52, 15), (2, 22), (2, 23)]) Tryz.underlying54 (by kernel_rfl) (by kernel_rfl) (opnF_cons (o := 0) opnBtree (opnF_cons (o := 2) opnCache (opnF_cons (o := 15) opnJournal (opnF_cons (o := 22) (opn_I Tryz.underlying2 (by kernel_rfl)) (opnF_one 23 (opn_I Tryz.underlying2 (by kernel_rfl))) rfl) rfl) rfl) rfl)
theorem opnSite : Opn enc Tryz.prog w base held 56 shSite :=
 opn_struct (l := [(37, 0), (54, 10), (29, 34), (2, 35), (35, 36)]) Tryz.underlying56 (by kernel_rfl) (by kernel_rfl) (opnF_cons (o := 0) opnWorld (opnF_cons (o := 10) opnBase (opnF_cons (o := 34) opnTree (opnF_cons (o := 35) (opn_I Tryz.underlying2 (by kernel_rfl)) (opnF_one 36 (opn_row (te := 167) Tryz.underlying35 (by kernel_rfl) (by decide) opnBatch)) rfl) rfl) rfl) rfl)
theorem opnImage : Opn enc Tryz.prog w base held 366 shImage :=
 opn_struct (l := [(9, 0), (41, 1), (4, 2), (9, 3), (4, 4), (9, 5)]) Tryz.underlying366 (by kernel_rfl) (by kernel_rfl) (opnF_cons (o := 0) (opn_S Tryz.underlying9 (by kernel_rfl)) (opnF_cons (o := 1) (opn_row (te := 9) Tryz.underlying41 (by kernel_rfl) (by decide) (opn_S Tryz.underlying9 (by kernel_rfl))) (opnF_cons (o := 2) (opn_B Tryz.underlying4 (by kernel_rfl)) (opnF_cons (o := 3) (opn_S Tryz.underlying9 (by kernel_rfl)) (opnF_cons (o := 4) (opn_B Tryz.underlying4 (by kernel_rfl)) (opnF_one 5 (opn_S Tryz.underlying9 (by kernel_rfl))) rfl) rfl) rfl) rfl) rfl)
theorem opnParcel : Opn enc Tryz.prog w base held 282 shParcel :=
 opn_struct (l := [(2, 0), (280, 1)]) Tryz.underlying282 (by kernel_rfl) (by kernel_rfl) (opnF_cons (o := 0) (opn_I Tryz.underlying2 (by kernel_rfl)) (opnF_one 1 (opn_row (te := 284) Tryz.underlying280 (by kernel_rfl) (by decide) opnImage)) rfl)
theorem opnReplica : Opn enc Tryz.prog w base held 96 shReplica :=
 opn_struct (l := [(29, 0), (2, 1), (94, 2)]) Tryz.underlying96 (by kernel_rfl) (by kernel_rfl) (opnF_cons (o := 0) opnTree (opnF_cons (o := 1) (opn_I Tryz.underlying2 (by kernel_rfl)) (opnF_one 2 (opn_row (te := 187) Tryz.underlying94 (by kernel_rfl) (by decide) opnParcel)) rfl) rfl)
theorem opnSites : Opn enc Tryz.prog w base held 98 shSites :=
 opn_struct (l := [(56, 0), (96, 37), (41, 40), (2, 41)]) Tryz.underlying98 (by kernel_rfl) (by kernel_rfl) (opnF_cons (o := 0) opnSite (opnF_cons (o := 37) opnReplica (opnF_cons (o := 40) (opn_row (te := 9) Tryz.underlying41 (by kernel_rfl) (by decide) (opn_S Tryz.underlying9 (by kernel_rfl))) (opnF_one 41 (opn_I Tryz.underlying2 (by kernel_rfl))) rfl) rfl) rfl)
end
end Go.Proofs.YtgnmollbnopigaaGreat
/- FnExactSameSites returns true for all arguments: the program's SameSites gives what the reference's gives, in memory of its own. No condition. -/
namespace Go.Proofs.YtgnmollbnopigaaGreat
open Go.ChangeShapes Go.WideShapes Go.ChangeAt Go.RowKit
open Go.ChangeMaps (open_string shut_string)
set_option maxRecDepth 100000 in
theorem sameSites_lifted (os : Os) (started : os.Started) (H : Type) (enc : TypeId × Value → H) :
  ReturnsInHanded {} Tryz.checked os 4 .any (Rows.fnExactSameSitesSpec.pre6 enc Tryz.prog Tryz.f4 Rows.fnExactSameSitesRow.domain false) (Rows.fnExactSameSitesSpec.post enc Tryz.prog Tryz.f4 false true false false) := by
 refine returnsInHanded_of_change (C := Tryz.checked) own_knob started (by kernel_rfl) Tryz.func4
  (ChangeSpec.witness6 (enc := enc) (C := Tryz.checked) false ⟨#[], #[.agg zz19, .agg zz19], []⟩ 8 (by kernel_rfl) (by kernel_rfl) (by kernel_rfl) (by kernel_rfl)) ?_
 intro W base args ds gs before hval0 hW hcnd _
 have hval : ∀ (j : Nat) t v, Tryz.f4.params[j]? = some t → args[j]? = some v → Value.okWide Tryz.prog W .any base t v := hval0
 have hW' := hW
 obtain ⟨p, q, hA0, hV, rfl, hfz, hnd⟩ := hW
 have hA : DataW.TrodAll enc Tryz.prog W 0 (fun _ => true) true Tryz.f4.params.toList args.toList ds p := hA0
 rw [Tryz.params4] at hA hval
 obtain ⟨v0, vs0, d0, ds0, p0, q0, hargs0, rfl, rfl, h0, r0⟩ := trodAll_cons hA
 obtain ⟨v1, vs1, d1, ds1, p1, q1, hargs1, rfl, rfl, h1, r1⟩ := trodAll_cons r0
 obtain ⟨rfl, rfl, rfl⟩ := trodAll_nil r1
 obtain rfl : args = #[v0, v1] := by cases args; simp_all
 obtain ⟨rfl, rfl⟩ := trodVars_none hV
 obtain ⟨cs0, rfl, hsz0⟩ := okWide_struct Tryz.underlying98 (hval 0 98 v0 rfl rfl)
 obtain ⟨fuel0, hf0⟩ := h0
 obtain ⟨y0, hy0, hz0⟩ := opnSites.opn hf0
 obtain ⟨l0, rfl⟩ : ∃ l : List Value, cs0 = l.toArray := ⟨cs0.toList, by simp⟩
 obtain ⟨cs1, rfl, hsz1⟩ := okWide_struct Tryz.underlying98 (hval 1 98 v1 rfl rfl)
 obtain ⟨fuel1, hf1⟩ := h1
 obtain ⟨y1, hy1, hz1⟩ := opnSites.opn hf1
 obtain ⟨l1, rfl⟩ : ∃ l : List Value, cs1 = l.toArray := ⟨cs1.toList, by simp⟩
 clear hA0 hval0
 refine (law_SameSites y0 y1 l0 l1 W hy0 hz0 hy1 hz1).mono fun e W' ⟨he, hg⟩ => ?_
 subst he
 exact ⟨_, rfl, law_post (tb := 4) rfl hW' rfl laid_out (fun t ht => by rw [Tryz.params4] at ht; simp at ht; rcases ht with rfl | rfl <;> exact ⟨by kernel_rfl, of_decide_eq_true (by kernel_rfl)⟩) (by kernel_rfl) Tryz.underlying4 hg⟩
end Go.Proofs.YtgnmollbnopigaaGreat
