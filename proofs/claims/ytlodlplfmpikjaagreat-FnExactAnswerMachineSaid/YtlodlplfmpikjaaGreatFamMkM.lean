/- Machine: shapes and the laws' walks (markS, mark). Printed by gen_fam.py. -/
import Derived.Test.YtlodlplfmpikjaaGreatGro
import Derived.Test.YtlodlplfmpikjaaGreatFamShM
import Derived.Test.YtlodlplfmpikjaaGreatFamMk
namespace Go.Proofs.YtlodlplfmpikjaaGreat
open Go.RowKit

theorem shMachine_markO {w : World} (kn : Nat) (x0 : Int) (x1 : Int) (x2 : List ByteArray) (x3 : List TyRef) (x4 : List TyGiven) (x5 : List TyLoop) (x6 : List TyFrame) (x7 : Int) (x8 : List TyBind) (x9 : List TyCell) (x10 : List TyLevel) (x11 : Bool) (x12 : Bool) (x13 : Bool) (x14 : ByteArray) (x15 : List ByteArray) (x16 : Int) (x17 : Int) (x18 : Int) (x19 : Int) (x20 : ByteArray) (A2 : Option Addr) (c2 : Nat) (A3 : Option Addr) (c3 : Nat) (A4 : Option Addr) (c4 : Nat) (A5 : Option Addr) (c5 : Nat) (A6 : Option Addr) (c6 : Nat) (A8 : Option Addr) (c8 : Nat) (A9 : Option Addr) (c9 : Nat) (A10 : Option Addr) (c10 : Nat) (A15 : Option Addr) (c15 : Nat) {F2 F3 F4 F5 F6 F8 F9 F10 F15 : List Nat} (h2 : (Sh.row 9 shS).O w F2 [.slice A2 x2.length c2] ((Sh.row 9 shS).mark (((kn) + 1) + 1) x2)) (h3 : (Sh.row 46 shRef).O w F3 [.slice A3 x3.length c3] ((Sh.row 46 shRef).mark ((((kn) + 1) + 1) + (Sh.row 9 shS).cnt x2) x3)) (h4 : (Sh.row 109 shGiven).O w F4 [.slice A4 x4.length c4] ((Sh.row 109 shGiven).mark (((((kn) + 1) + 1) + (Sh.row 9 shS).cnt x2) + (Sh.row 46 shRef).cnt x3) x4)) (h5 : (Sh.row 111 shLoop).O w F5 [.slice A5 x5.length c5] ((Sh.row 111 shLoop).mark ((((((kn) + 1) + 1) + (Sh.row 9 shS).cnt x2) + (Sh.row 46 shRef).cnt x3) + (Sh.row 109 shGiven).cnt x4) x5)) (h6 : (Sh.row 113 shFrame).O w F6 [.slice A6 x6.length c6] ((Sh.row 113 shFrame).mark (((((((kn) + 1) + 1) + (Sh.row 9 shS).cnt x2) + (Sh.row 46 shRef).cnt x3) + (Sh.row 109 shGiven).cnt x4) + (Sh.row 111 shLoop).cnt x5) x6)) (h8 : (Sh.row 151 shBind).O w F8 [.slice A8 x8.length c8] ((Sh.row 151 shBind).mark (((((((((kn) + 1) + 1) + (Sh.row 9 shS).cnt x2) + (Sh.row 46 shRef).cnt x3) + (Sh.row 109 shGiven).cnt x4) + (Sh.row 111 shLoop).cnt x5) + (Sh.row 113 shFrame).cnt x6) + 1) x8)) (h9 : (Sh.row 105 shCell).O w F9 [.slice A9 x9.length c9] ((Sh.row 105 shCell).mark ((((((((((kn) + 1) + 1) + (Sh.row 9 shS).cnt x2) + (Sh.row 46 shRef).cnt x3) + (Sh.row 109 shGiven).cnt x4) + (Sh.row 111 shLoop).cnt x5) + (Sh.row 113 shFrame).cnt x6) + 1) + (Sh.row 151 shBind).cnt x8) x9)) (h10 : (Sh.row 108 shLevel).O w F10 [.slice A10 x10.length c10] ((Sh.row 108 shLevel).mark (((((((((((kn) + 1) + 1) + (Sh.row 9 shS).cnt x2) + (Sh.row 46 shRef).cnt x3) + (Sh.row 109 shGiven).cnt x4) + (Sh.row 111 shLoop).cnt x5) + (Sh.row 113 shFrame).cnt x6) + 1) + (Sh.row 151 shBind).cnt x8) + (Sh.row 105 shCell).cnt x9) x10)) (h15 : (Sh.row 9 shS).O w F15 [.slice A15 x15.length c15] ((Sh.row 9 shS).mark (((((((((((((kn) + 1) + 1) + (Sh.row 9 shS).cnt x2) + (Sh.row 46 shRef).cnt x3) + (Sh.row 109 shGiven).cnt x4) + (Sh.row 111 shLoop).cnt x5) + (Sh.row 113 shFrame).cnt x6) + (1 + ((Sh.row 151 shBind).cnt x8 + ((Sh.row 105 shCell).cnt x9 + ((Sh.row 108 shLevel).cnt x10))))) + 1) + 1) + 1) + 1) x15)) : shMachine.O w ([] ++ ([] ++ (F2 ++ (F3 ++ (F4 ++ (F5 ++ (F6 ++ (([] ++ (F8 ++ (F9 ++ F10))) ++ ([] ++ ([] ++ (([] ++ ([] ++ F15)) ++ ([] ++ ([] ++ ([] ++ ([] ++ []))))))))))))))) [.int .i64 ((kn : Nat) : Int), .int .i64 (((kn) + 1 : Nat) : Int), .slice A2 x2.length c2, .slice A3 x3.length c3, .slice A4 x4.length c4, .slice A5 x5.length c5, .slice A6 x6.length c6, .int .i64 (((((((((kn) + 1) + 1) + (Sh.row 9 shS).cnt x2) + (Sh.row 46 shRef).cnt x3) + (Sh.row 109 shGiven).cnt x4) + (Sh.row 111 shLoop).cnt x5) + (Sh.row 113 shFrame).cnt x6 : Nat) : Int), .slice A8 x8.length c8, .slice A9 x9.length c9, .slice A10 x10.length c10, .bool (((((((((((kn) + 1) + 1) + (Sh.row 9 shS).cnt x2) + (Sh.row 46 shRef).cnt x3) + (Sh.row 109 shGiven).cnt x4) + (Sh.row 111 shLoop).cnt x5) + (Sh.row 113 shFrame).cnt x6) + (1 + ((Sh.row 151 shBind).cnt x8 + ((Sh.row 105 shCell).cnt x9 + ((Sh.row 108 shLevel).cnt x10)))) : Nat) : Int) % 3 == 0), .bool ((((((((((((kn) + 1) + 1) + (Sh.row 9 shS).cnt x2) + (Sh.row 46 shRef).cnt x3) + (Sh.row 109 shGiven).cnt x4) + (Sh.row 111 shLoop).cnt x5) + (Sh.row 113 shFrame).cnt x6) + (1 + ((Sh.row 151 shBind).cnt x8 + ((Sh.row 105 shCell).cnt x9 + ((Sh.row 108 shLevel).cnt x10))))) + 1 : Nat) : Int) % 3 == 0), .bool (((((((((((((kn) + 1) + 1) + (Sh.row 9 shS).cnt x2) + (Sh.row 46 shRef).cnt x3) + (Sh.row 109 shGiven).cnt x4) + (Sh.row 111 shLoop).cnt x5) + (Sh.row 113 shFrame).cnt x6) + (1 + ((Sh.row 151 shBind).cnt x8 + ((Sh.row 105 shCell).cnt x9 + ((Sh.row 108 shLevel).cnt x10))))) + 1) + 1 : Nat) : Int) % 3 == 0), .string (markT ((((((((((((kn) + 1) + 1) + (Sh.row 9 shS).cnt x2) + (Sh.row 46 shRef).cnt x3) + (Sh.row 109 shGiven).cnt x4) + (Sh.row 111 shLoop).cnt x5) + (Sh.row 113 shFrame).cnt x6) + (1 + ((Sh.row 151 shBind).cnt x8 + ((Sh.row 105 shCell).cnt x9 + ((Sh.row 108 shLevel).cnt x10))))) + 1) + 1) + 1)), .slice A15 x15.length c15, .int .i64 (((((((((((((kn) + 1) + 1) + (Sh.row 9 shS).cnt x2) + (Sh.row 46 shRef).cnt x3) + (Sh.row 109 shGiven).cnt x4) + (Sh.row 111 shLoop).cnt x5) + (Sh.row 113 shFrame).cnt x6) + (1 + ((Sh.row 151 shBind).cnt x8 + ((Sh.row 105 shCell).cnt x9 + ((Sh.row 108 shLevel).cnt x10))))) + 1) + 1) + (1 + (1 + ((Sh.row 9 shS).cnt x15))) : Nat) : Int), .int .i64 ((((((((((((((kn) + 1) + 1) + (Sh.row 9 shS).cnt x2) + (Sh.row 46 shRef).cnt x3) + (Sh.row 109 shGiven).cnt x4) + (Sh.row 111 shLoop).cnt x5) + (Sh.row 113 shFrame).cnt x6) + (1 + ((Sh.row 151 shBind).cnt x8 + ((Sh.row 105 shCell).cnt x9 + ((Sh.row 108 shLevel).cnt x10))))) + 1) + 1) + (1 + (1 + ((Sh.row 9 shS).cnt x15)))) + 1 : Nat) : Int), .int .i64 (((((((((((((((kn) + 1) + 1) + (Sh.row 9 shS).cnt x2) + (Sh.row 46 shRef).cnt x3) + (Sh.row 109 shGiven).cnt x4) + (Sh.row 111 shLoop).cnt x5) + (Sh.row 113 shFrame).cnt x6) + (1 + ((Sh.row 151 shBind).cnt x8 + ((Sh.row 105 shCell).cnt x9 + ((Sh.row 108 shLevel).cnt x10))))) + 1) + 1) + (1 + (1 + ((Sh.row 9 shS).cnt x15)))) + 1) + 1 : Nat) : Int), .int .i64 ((((((((((((((((kn) + 1) + 1) + (Sh.row 9 shS).cnt x2) + (Sh.row 46 shRef).cnt x3) + (Sh.row 109 shGiven).cnt x4) + (Sh.row 111 shLoop).cnt x5) + (Sh.row 113 shFrame).cnt x6) + (1 + ((Sh.row 151 shBind).cnt x8 + ((Sh.row 105 shCell).cnt x9 + ((Sh.row 108 shLevel).cnt x10))))) + 1) + 1) + (1 + (1 + ((Sh.row 9 shS).cnt x15)))) + 1) + 1) + 1 : Nat) : Int), .string (markT ((((((((((((((((kn) + 1) + 1) + (Sh.row 9 shS).cnt x2) + (Sh.row 46 shRef).cnt x3) + (Sh.row 109 shGiven).cnt x4) + (Sh.row 111 shLoop).cnt x5) + (Sh.row 113 shFrame).cnt x6) + (1 + ((Sh.row 151 shBind).cnt x8 + ((Sh.row 105 shCell).cnt x9 + ((Sh.row 108 shLevel).cnt x10))))) + 1) + 1) + (1 + (1 + ((Sh.row 9 shS).cnt x15)))) + 1) + 1) + 1) + 1))] (shMachine.mark kn (x0, x1, x2, x3, x4, x5, x6, (x7, x8, x9, x10), x11, x12, (x13, x14, x15), x16, x17, x18, x19, x20)) := by
  have e2 : ((Sh.row 9 shS).mark (((kn) + 1) + 1) x2).length = x2.length := mkAll_len _ _ _
  have e3 : ((Sh.row 46 shRef).mark ((((kn) + 1) + 1) + (Sh.row 9 shS).cnt x2) x3).length = x3.length := mkAll_len _ _ _
  have e4 : ((Sh.row 109 shGiven).mark (((((kn) + 1) + 1) + (Sh.row 9 shS).cnt x2) + (Sh.row 46 shRef).cnt x3) x4).length = x4.length := mkAll_len _ _ _
  have e5 : ((Sh.row 111 shLoop).mark ((((((kn) + 1) + 1) + (Sh.row 9 shS).cnt x2) + (Sh.row 46 shRef).cnt x3) + (Sh.row 109 shGiven).cnt x4) x5).length = x5.length := mkAll_len _ _ _
  have e6 : ((Sh.row 113 shFrame).mark (((((((kn) + 1) + 1) + (Sh.row 9 shS).cnt x2) + (Sh.row 46 shRef).cnt x3) + (Sh.row 109 shGiven).cnt x4) + (Sh.row 111 shLoop).cnt x5) x6).length = x6.length := mkAll_len _ _ _
  have e8 : ((Sh.row 151 shBind).mark (((((((((kn) + 1) + 1) + (Sh.row 9 shS).cnt x2) + (Sh.row 46 shRef).cnt x3) + (Sh.row 109 shGiven).cnt x4) + (Sh.row 111 shLoop).cnt x5) + (Sh.row 113 shFrame).cnt x6) + 1) x8).length = x8.length := mkAll_len _ _ _
  have e9 : ((Sh.row 105 shCell).mark ((((((((((kn) + 1) + 1) + (Sh.row 9 shS).cnt x2) + (Sh.row 46 shRef).cnt x3) + (Sh.row 109 shGiven).cnt x4) + (Sh.row 111 shLoop).cnt x5) + (Sh.row 113 shFrame).cnt x6) + 1) + (Sh.row 151 shBind).cnt x8) x9).length = x9.length := mkAll_len _ _ _
  have e10 : ((Sh.row 108 shLevel).mark (((((((((((kn) + 1) + 1) + (Sh.row 9 shS).cnt x2) + (Sh.row 46 shRef).cnt x3) + (Sh.row 109 shGiven).cnt x4) + (Sh.row 111 shLoop).cnt x5) + (Sh.row 113 shFrame).cnt x6) + 1) + (Sh.row 151 shBind).cnt x8) + (Sh.row 105 shCell).cnt x9) x10).length = x10.length := mkAll_len _ _ _
  have e15 : ((Sh.row 9 shS).mark (((((((((((((kn) + 1) + 1) + (Sh.row 9 shS).cnt x2) + (Sh.row 46 shRef).cnt x3) + (Sh.row 109 shGiven).cnt x4) + (Sh.row 111 shLoop).cnt x5) + (Sh.row 113 shFrame).cnt x6) + (1 + ((Sh.row 151 shBind).cnt x8 + ((Sh.row 105 shCell).cnt x9 + ((Sh.row 108 shLevel).cnt x10))))) + 1) + 1) + 1) + 1) x15).length = x15.length := mkAll_len _ _ _
  rw [← e2] at h2
  rw [← e3] at h3
  rw [← e4] at h4
  rw [← e5] at h5
  rw [← e6] at h6
  rw [← e8] at h8
  rw [← e9] at h9
  rw [← e10] at h10
  rw [← e15] at h15
  have key : shMachine.O w ([] ++ ([] ++ (F2 ++ (F3 ++ (F4 ++ (F5 ++ (F6 ++ (([] ++ (F8 ++ (F9 ++ F10))) ++ ([] ++ ([] ++ (([] ++ ([] ++ F15)) ++ ([] ++ ([] ++ ([] ++ ([] ++ []))))))))))))))) [.int .i64 ((kn : Nat) : Int), .int .i64 (((kn) + 1 : Nat) : Int), .slice A2 x2.length c2, .slice A3 x3.length c3, .slice A4 x4.length c4, .slice A5 x5.length c5, .slice A6 x6.length c6, .int .i64 (((((((((kn) + 1) + 1) + (Sh.row 9 shS).cnt x2) + (Sh.row 46 shRef).cnt x3) + (Sh.row 109 shGiven).cnt x4) + (Sh.row 111 shLoop).cnt x5) + (Sh.row 113 shFrame).cnt x6 : Nat) : Int), .slice A8 x8.length c8, .slice A9 x9.length c9, .slice A10 x10.length c10, .bool (((((((((((kn) + 1) + 1) + (Sh.row 9 shS).cnt x2) + (Sh.row 46 shRef).cnt x3) + (Sh.row 109 shGiven).cnt x4) + (Sh.row 111 shLoop).cnt x5) + (Sh.row 113 shFrame).cnt x6) + (1 + ((Sh.row 151 shBind).cnt x8 + ((Sh.row 105 shCell).cnt x9 + ((Sh.row 108 shLevel).cnt x10)))) : Nat) : Int) % 3 == 0), .bool ((((((((((((kn) + 1) + 1) + (Sh.row 9 shS).cnt x2) + (Sh.row 46 shRef).cnt x3) + (Sh.row 109 shGiven).cnt x4) + (Sh.row 111 shLoop).cnt x5) + (Sh.row 113 shFrame).cnt x6) + (1 + ((Sh.row 151 shBind).cnt x8 + ((Sh.row 105 shCell).cnt x9 + ((Sh.row 108 shLevel).cnt x10))))) + 1 : Nat) : Int) % 3 == 0), .bool (((((((((((((kn) + 1) + 1) + (Sh.row 9 shS).cnt x2) + (Sh.row 46 shRef).cnt x3) + (Sh.row 109 shGiven).cnt x4) + (Sh.row 111 shLoop).cnt x5) + (Sh.row 113 shFrame).cnt x6) + (1 + ((Sh.row 151 shBind).cnt x8 + ((Sh.row 105 shCell).cnt x9 + ((Sh.row 108 shLevel).cnt x10))))) + 1) + 1 : Nat) : Int) % 3 == 0), .string (markT ((((((((((((kn) + 1) + 1) + (Sh.row 9 shS).cnt x2) + (Sh.row 46 shRef).cnt x3) + (Sh.row 109 shGiven).cnt x4) + (Sh.row 111 shLoop).cnt x5) + (Sh.row 113 shFrame).cnt x6) + (1 + ((Sh.row 151 shBind).cnt x8 + ((Sh.row 105 shCell).cnt x9 + ((Sh.row 108 shLevel).cnt x10))))) + 1) + 1) + 1)), .slice A15 x15.length c15, .int .i64 (((((((((((((kn) + 1) + 1) + (Sh.row 9 shS).cnt x2) + (Sh.row 46 shRef).cnt x3) + (Sh.row 109 shGiven).cnt x4) + (Sh.row 111 shLoop).cnt x5) + (Sh.row 113 shFrame).cnt x6) + (1 + ((Sh.row 151 shBind).cnt x8 + ((Sh.row 105 shCell).cnt x9 + ((Sh.row 108 shLevel).cnt x10))))) + 1) + 1) + (1 + (1 + ((Sh.row 9 shS).cnt x15))) : Nat) : Int), .int .i64 ((((((((((((((kn) + 1) + 1) + (Sh.row 9 shS).cnt x2) + (Sh.row 46 shRef).cnt x3) + (Sh.row 109 shGiven).cnt x4) + (Sh.row 111 shLoop).cnt x5) + (Sh.row 113 shFrame).cnt x6) + (1 + ((Sh.row 151 shBind).cnt x8 + ((Sh.row 105 shCell).cnt x9 + ((Sh.row 108 shLevel).cnt x10))))) + 1) + 1) + (1 + (1 + ((Sh.row 9 shS).cnt x15)))) + 1 : Nat) : Int), .int .i64 (((((((((((((((kn) + 1) + 1) + (Sh.row 9 shS).cnt x2) + (Sh.row 46 shRef).cnt x3) + (Sh.row 109 shGiven).cnt x4) + (Sh.row 111 shLoop).cnt x5) + (Sh.row 113 shFrame).cnt x6) + (1 + ((Sh.row 151 shBind).cnt x8 + ((Sh.row 105 shCell).cnt x9 + ((Sh.row 108 shLevel).cnt x10))))) + 1) + 1) + (1 + (1 + ((Sh.row 9 shS).cnt x15)))) + 1) + 1 : Nat) : Int), .int .i64 ((((((((((((((((kn) + 1) + 1) + (Sh.row 9 shS).cnt x2) + (Sh.row 46 shRef).cnt x3) + (Sh.row 109 shGiven).cnt x4) + (Sh.row 111 shLoop).cnt x5) + (Sh.row 113 shFrame).cnt x6) + (1 + ((Sh.row 151 shBind).cnt x8 + ((Sh.row 105 shCell).cnt x9 + ((Sh.row 108 shLevel).cnt x10))))) + 1) + 1) + (1 + (1 + ((Sh.row 9 shS).cnt x15)))) + 1) + 1) + 1 : Nat) : Int), .string (markT ((((((((((((((((kn) + 1) + 1) + (Sh.row 9 shS).cnt x2) + (Sh.row 46 shRef).cnt x3) + (Sh.row 109 shGiven).cnt x4) + (Sh.row 111 shLoop).cnt x5) + (Sh.row 113 shFrame).cnt x6) + (1 + ((Sh.row 151 shBind).cnt x8 + ((Sh.row 105 shCell).cnt x9 + ((Sh.row 108 shLevel).cnt x10))))) + 1) + 1) + (1 + (1 + ((Sh.row 9 shS).cnt x15)))) + 1) + 1) + 1) + 1))] (((kn : Nat) : Int), (((kn) + 1 : Nat) : Int), ((Sh.row 9 shS).mark (((kn) + 1) + 1) x2), ((Sh.row 46 shRef).mark ((((kn) + 1) + 1) + (Sh.row 9 shS).cnt x2) x3), ((Sh.row 109 shGiven).mark (((((kn) + 1) + 1) + (Sh.row 9 shS).cnt x2) + (Sh.row 46 shRef).cnt x3) x4), ((Sh.row 111 shLoop).mark ((((((kn) + 1) + 1) + (Sh.row 9 shS).cnt x2) + (Sh.row 46 shRef).cnt x3) + (Sh.row 109 shGiven).cnt x4) x5), ((Sh.row 113 shFrame).mark (((((((kn) + 1) + 1) + (Sh.row 9 shS).cnt x2) + (Sh.row 46 shRef).cnt x3) + (Sh.row 109 shGiven).cnt x4) + (Sh.row 111 shLoop).cnt x5) x6), ((((((((((kn) + 1) + 1) + (Sh.row 9 shS).cnt x2) + (Sh.row 46 shRef).cnt x3) + (Sh.row 109 shGiven).cnt x4) + (Sh.row 111 shLoop).cnt x5) + (Sh.row 113 shFrame).cnt x6 : Nat) : Int), ((Sh.row 151 shBind).mark (((((((((kn) + 1) + 1) + (Sh.row 9 shS).cnt x2) + (Sh.row 46 shRef).cnt x3) + (Sh.row 109 shGiven).cnt x4) + (Sh.row 111 shLoop).cnt x5) + (Sh.row 113 shFrame).cnt x6) + 1) x8), ((Sh.row 105 shCell).mark ((((((((((kn) + 1) + 1) + (Sh.row 9 shS).cnt x2) + (Sh.row 46 shRef).cnt x3) + (Sh.row 109 shGiven).cnt x4) + (Sh.row 111 shLoop).cnt x5) + (Sh.row 113 shFrame).cnt x6) + 1) + (Sh.row 151 shBind).cnt x8) x9), ((Sh.row 108 shLevel).mark (((((((((((kn) + 1) + 1) + (Sh.row 9 shS).cnt x2) + (Sh.row 46 shRef).cnt x3) + (Sh.row 109 shGiven).cnt x4) + (Sh.row 111 shLoop).cnt x5) + (Sh.row 113 shFrame).cnt x6) + 1) + (Sh.row 151 shBind).cnt x8) + (Sh.row 105 shCell).cnt x9) x10)), (((((((((((kn) + 1) + 1) + (Sh.row 9 shS).cnt x2) + (Sh.row 46 shRef).cnt x3) + (Sh.row 109 shGiven).cnt x4) + (Sh.row 111 shLoop).cnt x5) + (Sh.row 113 shFrame).cnt x6) + (1 + ((Sh.row 151 shBind).cnt x8 + ((Sh.row 105 shCell).cnt x9 + ((Sh.row 108 shLevel).cnt x10)))) : Nat) : Int) % 3 == 0), ((((((((((((kn) + 1) + 1) + (Sh.row 9 shS).cnt x2) + (Sh.row 46 shRef).cnt x3) + (Sh.row 109 shGiven).cnt x4) + (Sh.row 111 shLoop).cnt x5) + (Sh.row 113 shFrame).cnt x6) + (1 + ((Sh.row 151 shBind).cnt x8 + ((Sh.row 105 shCell).cnt x9 + ((Sh.row 108 shLevel).cnt x10))))) + 1 : Nat) : Int) % 3 == 0), ((((((((((((((kn) + 1) + 1) + (Sh.row 9 shS).cnt x2) + (Sh.row 46 shRef).cnt x3) + (Sh.row 109 shGiven).cnt x4) + (Sh.row 111 shLoop).cnt x5) + (Sh.row 113 shFrame).cnt x6) + (1 + ((Sh.row 151 shBind).cnt x8 + ((Sh.row 105 shCell).cnt x9 + ((Sh.row 108 shLevel).cnt x10))))) + 1) + 1 : Nat) : Int) % 3 == 0), markT ((((((((((((kn) + 1) + 1) + (Sh.row 9 shS).cnt x2) + (Sh.row 46 shRef).cnt x3) + (Sh.row 109 shGiven).cnt x4) + (Sh.row 111 shLoop).cnt x5) + (Sh.row 113 shFrame).cnt x6) + (1 + ((Sh.row 151 shBind).cnt x8 + ((Sh.row 105 shCell).cnt x9 + ((Sh.row 108 shLevel).cnt x10))))) + 1) + 1) + 1), ((Sh.row 9 shS).mark (((((((((((((kn) + 1) + 1) + (Sh.row 9 shS).cnt x2) + (Sh.row 46 shRef).cnt x3) + (Sh.row 109 shGiven).cnt x4) + (Sh.row 111 shLoop).cnt x5) + (Sh.row 113 shFrame).cnt x6) + (1 + ((Sh.row 151 shBind).cnt x8 + ((Sh.row 105 shCell).cnt x9 + ((Sh.row 108 shLevel).cnt x10))))) + 1) + 1) + 1) + 1) x15)), (((((((((((((kn) + 1) + 1) + (Sh.row 9 shS).cnt x2) + (Sh.row 46 shRef).cnt x3) + (Sh.row 109 shGiven).cnt x4) + (Sh.row 111 shLoop).cnt x5) + (Sh.row 113 shFrame).cnt x6) + (1 + ((Sh.row 151 shBind).cnt x8 + ((Sh.row 105 shCell).cnt x9 + ((Sh.row 108 shLevel).cnt x10))))) + 1) + 1) + (1 + (1 + ((Sh.row 9 shS).cnt x15))) : Nat) : Int), ((((((((((((((kn) + 1) + 1) + (Sh.row 9 shS).cnt x2) + (Sh.row 46 shRef).cnt x3) + (Sh.row 109 shGiven).cnt x4) + (Sh.row 111 shLoop).cnt x5) + (Sh.row 113 shFrame).cnt x6) + (1 + ((Sh.row 151 shBind).cnt x8 + ((Sh.row 105 shCell).cnt x9 + ((Sh.row 108 shLevel).cnt x10))))) + 1) + 1) + (1 + (1 + ((Sh.row 9 shS).cnt x15)))) + 1 : Nat) : Int), (((((((((((((((kn) + 1) + 1) + (Sh.row 9 shS).cnt x2) + (Sh.row 46 shRef).cnt x3) + (Sh.row 109 shGiven).cnt x4) + (Sh.row 111 shLoop).cnt x5) + (Sh.row 113 shFrame).cnt x6) + (1 + ((Sh.row 151 shBind).cnt x8 + ((Sh.row 105 shCell).cnt x9 + ((Sh.row 108 shLevel).cnt x10))))) + 1) + 1) + (1 + (1 + ((Sh.row 9 shS).cnt x15)))) + 1) + 1 : Nat) : Int), ((((((((((((((((kn) + 1) + 1) + (Sh.row 9 shS).cnt x2) + (Sh.row 46 shRef).cnt x3) + (Sh.row 109 shGiven).cnt x4) + (Sh.row 111 shLoop).cnt x5) + (Sh.row 113 shFrame).cnt x6) + (1 + ((Sh.row 151 shBind).cnt x8 + ((Sh.row 105 shCell).cnt x9 + ((Sh.row 108 shLevel).cnt x10))))) + 1) + 1) + (1 + (1 + ((Sh.row 9 shS).cnt x15)))) + 1) + 1) + 1 : Nat) : Int), markT ((((((((((((((((kn) + 1) + 1) + (Sh.row 9 shS).cnt x2) + (Sh.row 46 shRef).cnt x3) + (Sh.row 109 shGiven).cnt x4) + (Sh.row 111 shLoop).cnt x5) + (Sh.row 113 shFrame).cnt x6) + (1 + ((Sh.row 151 shBind).cnt x8 + ((Sh.row 105 shCell).cnt x9 + ((Sh.row 108 shLevel).cnt x10))))) + 1) + 1) + (1 + (1 + ((Sh.row 9 shS).cnt x15)))) + 1) + 1) + 1) + 1)) := shMachine_O.2 ⟨A2, c2, F2, A3, c3, F3, A4, c4, F4, A5, c5, F5, A6, c6, F6, A8, c8, F8, A9, c9, F9, A10, c10, F10, A15, c15, F15, by simp only [e2, e3, e4, e5, e6, e8, e9, e10, e15], rfl, h2, h3, h4, h5, h6, h8, h9, h10, h15⟩
  exact key

set_option maxHeartbeats 4000000 in
set_option maxRecDepth 100000 in
theorem markMachine_f (x0 : Int) (x1 : Int) (x2 : List ByteArray) (x3 : List TyRef) (x4 : List TyGiven) (x5 : List TyLoop) (x6 : List TyFrame) (x7 : Int) (x8 : List TyBind) (x9 : List TyCell) (x10 : List TyLevel) (x11 : Bool) (x12 : Bool) (x13 : Bool) (x14 : ByteArray) (x15 : List ByteArray) (x16 : Int) (x17 : Int) (x18 : Int) (x19 : Int) (x20 : ByteArray) (A2 : Option Addr) (c2 : Nat) (A3 : Option Addr) (c3 : Nat) (A4 : Option Addr) (c4 : Nat) (A5 : Option Addr) (c5 : Nat) (A6 : Option Addr) (c6 : Nat) (A8 : Option Addr) (c8 : Nat) (A9 : Option Addr) (c9 : Nat) (A10 : Option Addr) (c10 : Nat) (A15 : Option Addr) (c15 : Nat) (k : Nat) (a : Int) (F : List Nat) (w : World) (h : shMachine.O w F [.int .i64 x0, .int .i64 x1, .slice A2 x2.length c2, .slice A3 x3.length c3, .slice A4 x4.length c4, .slice A5 x5.length c5, .slice A6 x6.length c6, .int .i64 x7, .slice A8 x8.length c8, .slice A9 x9.length c9, .slice A10 x10.length c10, .bool x11, .bool x12, .bool x13, .string x14, .slice A15 x15.length c15, .int .i64 x16, .int .i64 x17, .int .i64 x18, .int .i64 x19, .string x20] (x0, x1, x2, x3, x4, x5, x6, (x7, x8, x9, x10), x11, x12, (x13, x14, x15), x16, x17, x18, x19, x20)) (hF : F.Nodup) (ha : a = (k : Int)) (h1 : 1 ≤ k) (h2 : k + shMachine.cntTop (x0, x1, x2, x3, x4, x5, x6, (x7, x8, x9, x10), x11, x12, (x13, x14, x15), x16, x17, x18, x19, x20) ≤ 4294967000) :
    Calls Tryz.prog 9 #[.agg #[.int .i64 x0, .int .i64 x1, .slice A2 x2.length c2, .slice A3 x3.length c3, .slice A4 x4.length c4, .slice A5 x5.length c5, .slice A6 x6.length c6, .int .i64 x7, .slice A8 x8.length c8, .slice A9 x9.length c9, .slice A10 x10.length c10, .bool x11, .bool x12, .bool x13, .string x14, .slice A15 x15.length c15, .int .i64 x16, .int .i64 x17, .int .i64 x18, .int .i64 x19, .string x20], .int .i64 a] w fun e w' => ∃ r : Int, e = .returned (.int .i64 r) ∧ r = ((k + shMachine.cntTop (x0, x1, x2, x3, x4, x5, x6, (x7, x8, x9, x10), x11, x12, (x13, x14, x15), x16, x17, x18, x19, x20) : Nat) : Int) ∧ shMachine.O w' F [.int .i64 x0, .int .i64 x1, .slice A2 x2.length c2, .slice A3 x3.length c3, .slice A4 x4.length c4, .slice A5 x5.length c5, .slice A6 x6.length c6, .int .i64 x7, .slice A8 x8.length c8, .slice A9 x9.length c9, .slice A10 x10.length c10, .bool x11, .bool x12, .bool x13, .string x14, .slice A15 x15.length c15, .int .i64 x16, .int .i64 x17, .int .i64 x18, .int .i64 x19, .string x20] (shMachine.top k (x0, x1, x2, x3, x4, x5, x6, (x7, x8, x9, x10), x11, x12, (x13, x14, x15), x16, x17, x18, x19, x20)) ∧ Out F w w' := by
  subst ha
  rw [shMachine_top] at h2 ⊢
  obtain ⟨A2', c2', F2, A3', c3', F3, A4', c4', F4, A5', c5', F5, A6', c6', F6, A8', c8', F8, A9', c9', F9, A10', c10', F10, A15', c15', F15, e, eF, q2, q3, q4, q5, q6, q8, q9, q10, q15⟩ := shMachine_O.1 h
  subst F
  simp only [List.cons.injEq, Value.slice.injEq] at e
  simp only [true_and, and_true] at e
  obtain ⟨⟨rfl, rfl⟩, ⟨rfl, rfl⟩, ⟨rfl, rfl⟩, ⟨rfl, rfl⟩, ⟨rfl, rfl⟩, ⟨rfl, rfl⟩, ⟨rfl, rfl⟩, ⟨rfl, rfl⟩, ⟨rfl, rfl⟩⟩ := e
  have ho2 := q2
  have ho3 := q3
  have ho4 := q4
  have ho5 := q5
  have ho6 := q6
  have ho7 : shLocals.O w ([] ++ (F8 ++ (F9 ++ F10))) [.int .i64 x7, .slice A8 x8.length c8, .slice A9 x9.length c9, .slice A10 x10.length c10] (x7, x8, x9, x10) := shLocals_O.2 ⟨A8, c8, F8, A9, c9, F9, A10, c10, F10, rfl, rfl, q8, q9, q10⟩
  have ho13 : shRef.O w ([] ++ ([] ++ F15)) [.bool x13, .string x14, .slice A15 x15.length c15] (x13, x14, x15) := shRef_O.2 ⟨A15, c15, F15, rfl, rfl, q15⟩
  have hS0 := hF
  have hS1 := (List.nodup_append.1 hS0).2.1
  have hS2 := (List.nodup_append.1 hS1).2.1
  have hS3 := (List.nodup_append.1 hS2).2.1
  have hS4 := (List.nodup_append.1 hS3).2.1
  have hS5 := (List.nodup_append.1 hS4).2.1
  have hS6 := (List.nodup_append.1 hS5).2.1
  have hS7 := (List.nodup_append.1 hS6).2.1
  have hS8 := (List.nodup_append.1 hS7).2.1
  have hS9 := (List.nodup_append.1 hS8).2.1
  have hS10 := (List.nodup_append.1 hS9).2.1
  have hS11 := (List.nodup_append.1 hS10).2.1
  have hS12 := (List.nodup_append.1 hS11).2.1
  have hS13 := (List.nodup_append.1 hS12).2.1
  have hS14 := (List.nodup_append.1 hS13).2.1
  have hS15 := (List.nodup_append.1 hS14).2.1
  have HN2 : Hid (F2).Nodup := Lib.hid (List.nodup_append.1 hS2).1
  have HG2 : Hid (w.heap.size ∉ F2) := Lib.hid (fun hh => by have := (Sh.row 9 shS).O_lt ho2 _ hh; omega)
  have HD2_3 : Hid (∀ b ∈ F2, b ∉ F3) := Lib.hid (fun b hb hb' => (List.nodup_append.1 hS2).2.2 b hb b (List.mem_append_left _ hb') rfl)
  have HD2_4 : Hid (∀ b ∈ F2, b ∉ F4) := Lib.hid (fun b hb hb' => (List.nodup_append.1 hS2).2.2 b hb b (List.mem_append_right _ (List.mem_append_left _ hb')) rfl)
  have HD2_5 : Hid (∀ b ∈ F2, b ∉ F5) := Lib.hid (fun b hb hb' => (List.nodup_append.1 hS2).2.2 b hb b (List.mem_append_right _ (List.mem_append_right _ (List.mem_append_left _ hb'))) rfl)
  have HD2_6 : Hid (∀ b ∈ F2, b ∉ F6) := Lib.hid (fun b hb hb' => (List.nodup_append.1 hS2).2.2 b hb b (List.mem_append_right _ (List.mem_append_right _ (List.mem_append_right _ (List.mem_append_left _ hb')))) rfl)
  have HD2_7 : Hid (∀ b ∈ F2, b ∉ ([] ++ (F8 ++ (F9 ++ F10)))) := Lib.hid (fun b hb hb' => (List.nodup_append.1 hS2).2.2 b hb b (List.mem_append_right _ (List.mem_append_right _ (List.mem_append_right _ (List.mem_append_right _ (List.mem_append_left _ hb'))))) rfl)
  have HD2_13 : Hid (∀ b ∈ F2, b ∉ ([] ++ ([] ++ F15))) := Lib.hid (fun b hb hb' => (List.nodup_append.1 hS2).2.2 b hb b (List.mem_append_right _ (List.mem_append_right _ (List.mem_append_right _ (List.mem_append_right _ (List.mem_append_right _ (List.mem_append_right _ (List.mem_append_right _ (List.mem_append_left _ hb')))))))) rfl)
  have HN3 : Hid (F3).Nodup := Lib.hid (List.nodup_append.1 hS3).1
  have HG3 : Hid (w.heap.size ∉ F3) := Lib.hid (fun hh => by have := (Sh.row 46 shRef).O_lt ho3 _ hh; omega)
  have HD3_2 : Hid (∀ b ∈ F3, b ∉ F2) := Lib.hid (fun b hb hb' => (List.nodup_append.1 hS2).2.2 b hb' b (List.mem_append_left _ hb) rfl)
  have HD3_4 : Hid (∀ b ∈ F3, b ∉ F4) := Lib.hid (fun b hb hb' => (List.nodup_append.1 hS3).2.2 b hb b (List.mem_append_left _ hb') rfl)
  have HD3_5 : Hid (∀ b ∈ F3, b ∉ F5) := Lib.hid (fun b hb hb' => (List.nodup_append.1 hS3).2.2 b hb b (List.mem_append_right _ (List.mem_append_left _ hb')) rfl)
  have HD3_6 : Hid (∀ b ∈ F3, b ∉ F6) := Lib.hid (fun b hb hb' => (List.nodup_append.1 hS3).2.2 b hb b (List.mem_append_right _ (List.mem_append_right _ (List.mem_append_left _ hb'))) rfl)
  have HD3_7 : Hid (∀ b ∈ F3, b ∉ ([] ++ (F8 ++ (F9 ++ F10)))) := Lib.hid (fun b hb hb' => (List.nodup_append.1 hS3).2.2 b hb b (List.mem_append_right _ (List.mem_append_right _ (List.mem_append_right _ (List.mem_append_left _ hb')))) rfl)
  have HD3_13 : Hid (∀ b ∈ F3, b ∉ ([] ++ ([] ++ F15))) := Lib.hid (fun b hb hb' => (List.nodup_append.1 hS3).2.2 b hb b (List.mem_append_right _ (List.mem_append_right _ (List.mem_append_right _ (List.mem_append_right _ (List.mem_append_right _ (List.mem_append_right _ (List.mem_append_left _ hb'))))))) rfl)
  have HN4 : Hid (F4).Nodup := Lib.hid (List.nodup_append.1 hS4).1
  have HG4 : Hid (w.heap.size ∉ F4) := Lib.hid (fun hh => by have := (Sh.row 109 shGiven).O_lt ho4 _ hh; omega)
  have HD4_2 : Hid (∀ b ∈ F4, b ∉ F2) := Lib.hid (fun b hb hb' => (List.nodup_append.1 hS2).2.2 b hb' b (List.mem_append_right _ (List.mem_append_left _ hb)) rfl)
  have HD4_3 : Hid (∀ b ∈ F4, b ∉ F3) := Lib.hid (fun b hb hb' => (List.nodup_append.1 hS3).2.2 b hb' b (List.mem_append_left _ hb) rfl)
  have HD4_5 : Hid (∀ b ∈ F4, b ∉ F5) := Lib.hid (fun b hb hb' => (List.nodup_append.1 hS4).2.2 b hb b (List.mem_append_left _ hb') rfl)
  have HD4_6 : Hid (∀ b ∈ F4, b ∉ F6) := Lib.hid (fun b hb hb' => (List.nodup_append.1 hS4).2.2 b hb b (List.mem_append_right _ (List.mem_append_left _ hb')) rfl)
  have HD4_7 : Hid (∀ b ∈ F4, b ∉ ([] ++ (F8 ++ (F9 ++ F10)))) := Lib.hid (fun b hb hb' => (List.nodup_append.1 hS4).2.2 b hb b (List.mem_append_right _ (List.mem_append_right _ (List.mem_append_left _ hb'))) rfl)
  have HD4_13 : Hid (∀ b ∈ F4, b ∉ ([] ++ ([] ++ F15))) := Lib.hid (fun b hb hb' => (List.nodup_append.1 hS4).2.2 b hb b (List.mem_append_right _ (List.mem_append_right _ (List.mem_append_right _ (List.mem_append_right _ (List.mem_append_right _ (List.mem_append_left _ hb')))))) rfl)
  have HN5 : Hid (F5).Nodup := Lib.hid (List.nodup_append.1 hS5).1
  have HG5 : Hid (w.heap.size ∉ F5) := Lib.hid (fun hh => by have := (Sh.row 111 shLoop).O_lt ho5 _ hh; omega)
  have HD5_2 : Hid (∀ b ∈ F5, b ∉ F2) := Lib.hid (fun b hb hb' => (List.nodup_append.1 hS2).2.2 b hb' b (List.mem_append_right _ (List.mem_append_right _ (List.mem_append_left _ hb))) rfl)
  have HD5_3 : Hid (∀ b ∈ F5, b ∉ F3) := Lib.hid (fun b hb hb' => (List.nodup_append.1 hS3).2.2 b hb' b (List.mem_append_right _ (List.mem_append_left _ hb)) rfl)
  have HD5_4 : Hid (∀ b ∈ F5, b ∉ F4) := Lib.hid (fun b hb hb' => (List.nodup_append.1 hS4).2.2 b hb' b (List.mem_append_left _ hb) rfl)
  have HD5_6 : Hid (∀ b ∈ F5, b ∉ F6) := Lib.hid (fun b hb hb' => (List.nodup_append.1 hS5).2.2 b hb b (List.mem_append_left _ hb') rfl)
  have HD5_7 : Hid (∀ b ∈ F5, b ∉ ([] ++ (F8 ++ (F9 ++ F10)))) := Lib.hid (fun b hb hb' => (List.nodup_append.1 hS5).2.2 b hb b (List.mem_append_right _ (List.mem_append_left _ hb')) rfl)
  have HD5_13 : Hid (∀ b ∈ F5, b ∉ ([] ++ ([] ++ F15))) := Lib.hid (fun b hb hb' => (List.nodup_append.1 hS5).2.2 b hb b (List.mem_append_right _ (List.mem_append_right _ (List.mem_append_right _ (List.mem_append_right _ (List.mem_append_left _ hb'))))) rfl)
  have HN6 : Hid (F6).Nodup := Lib.hid (List.nodup_append.1 hS6).1
  have HG6 : Hid (w.heap.size ∉ F6) := Lib.hid (fun hh => by have := (Sh.row 113 shFrame).O_lt ho6 _ hh; omega)
  have HD6_2 : Hid (∀ b ∈ F6, b ∉ F2) := Lib.hid (fun b hb hb' => (List.nodup_append.1 hS2).2.2 b hb' b (List.mem_append_right _ (List.mem_append_right _ (List.mem_append_right _ (List.mem_append_left _ hb)))) rfl)
  have HD6_3 : Hid (∀ b ∈ F6, b ∉ F3) := Lib.hid (fun b hb hb' => (List.nodup_append.1 hS3).2.2 b hb' b (List.mem_append_right _ (List.mem_append_right _ (List.mem_append_left _ hb))) rfl)
  have HD6_4 : Hid (∀ b ∈ F6, b ∉ F4) := Lib.hid (fun b hb hb' => (List.nodup_append.1 hS4).2.2 b hb' b (List.mem_append_right _ (List.mem_append_left _ hb)) rfl)
  have HD6_5 : Hid (∀ b ∈ F6, b ∉ F5) := Lib.hid (fun b hb hb' => (List.nodup_append.1 hS5).2.2 b hb' b (List.mem_append_left _ hb) rfl)
  have HD6_7 : Hid (∀ b ∈ F6, b ∉ ([] ++ (F8 ++ (F9 ++ F10)))) := Lib.hid (fun b hb hb' => (List.nodup_append.1 hS6).2.2 b hb b (List.mem_append_left _ hb') rfl)
  have HD6_13 : Hid (∀ b ∈ F6, b ∉ ([] ++ ([] ++ F15))) := Lib.hid (fun b hb hb' => (List.nodup_append.1 hS6).2.2 b hb b (List.mem_append_right _ (List.mem_append_right _ (List.mem_append_right _ (List.mem_append_left _ hb')))) rfl)
  have HN7 : Hid (([] ++ (F8 ++ (F9 ++ F10)))).Nodup := Lib.hid (List.nodup_append.1 hS7).1
  have HG7 : Hid (w.heap.size ∉ ([] ++ (F8 ++ (F9 ++ F10)))) := Lib.hid (fun hh => by have := (shLocals).O_lt ho7 _ hh; omega)
  have HD7_2 : Hid (∀ b ∈ ([] ++ (F8 ++ (F9 ++ F10))), b ∉ F2) := Lib.hid (fun b hb hb' => (List.nodup_append.1 hS2).2.2 b hb' b (List.mem_append_right _ (List.mem_append_right _ (List.mem_append_right _ (List.mem_append_right _ (List.mem_append_left _ hb))))) rfl)
  have HD7_3 : Hid (∀ b ∈ ([] ++ (F8 ++ (F9 ++ F10))), b ∉ F3) := Lib.hid (fun b hb hb' => (List.nodup_append.1 hS3).2.2 b hb' b (List.mem_append_right _ (List.mem_append_right _ (List.mem_append_right _ (List.mem_append_left _ hb)))) rfl)
  have HD7_4 : Hid (∀ b ∈ ([] ++ (F8 ++ (F9 ++ F10))), b ∉ F4) := Lib.hid (fun b hb hb' => (List.nodup_append.1 hS4).2.2 b hb' b (List.mem_append_right _ (List.mem_append_right _ (List.mem_append_left _ hb))) rfl)
  have HD7_5 : Hid (∀ b ∈ ([] ++ (F8 ++ (F9 ++ F10))), b ∉ F5) := Lib.hid (fun b hb hb' => (List.nodup_append.1 hS5).2.2 b hb' b (List.mem_append_right _ (List.mem_append_left _ hb)) rfl)
  have HD7_6 : Hid (∀ b ∈ ([] ++ (F8 ++ (F9 ++ F10))), b ∉ F6) := Lib.hid (fun b hb hb' => (List.nodup_append.1 hS6).2.2 b hb' b (List.mem_append_left _ hb) rfl)
  have HD7_13 : Hid (∀ b ∈ ([] ++ (F8 ++ (F9 ++ F10))), b ∉ ([] ++ ([] ++ F15))) := Lib.hid (fun b hb hb' => (List.nodup_append.1 hS7).2.2 b hb b (List.mem_append_right _ (List.mem_append_right _ (List.mem_append_left _ hb'))) rfl)
  have HN13 : Hid (([] ++ ([] ++ F15))).Nodup := Lib.hid (List.nodup_append.1 hS10).1
  have HG13 : Hid (w.heap.size ∉ ([] ++ ([] ++ F15))) := Lib.hid (fun hh => by have := (shRef).O_lt ho13 _ hh; omega)
  have HD13_2 : Hid (∀ b ∈ ([] ++ ([] ++ F15)), b ∉ F2) := Lib.hid (fun b hb hb' => (List.nodup_append.1 hS2).2.2 b hb' b (List.mem_append_right _ (List.mem_append_right _ (List.mem_append_right _ (List.mem_append_right _ (List.mem_append_right _ (List.mem_append_right _ (List.mem_append_right _ (List.mem_append_left _ hb)))))))) rfl)
  have HD13_3 : Hid (∀ b ∈ ([] ++ ([] ++ F15)), b ∉ F3) := Lib.hid (fun b hb hb' => (List.nodup_append.1 hS3).2.2 b hb' b (List.mem_append_right _ (List.mem_append_right _ (List.mem_append_right _ (List.mem_append_right _ (List.mem_append_right _ (List.mem_append_right _ (List.mem_append_left _ hb))))))) rfl)
  have HD13_4 : Hid (∀ b ∈ ([] ++ ([] ++ F15)), b ∉ F4) := Lib.hid (fun b hb hb' => (List.nodup_append.1 hS4).2.2 b hb' b (List.mem_append_right _ (List.mem_append_right _ (List.mem_append_right _ (List.mem_append_right _ (List.mem_append_right _ (List.mem_append_left _ hb)))))) rfl)
  have HD13_5 : Hid (∀ b ∈ ([] ++ ([] ++ F15)), b ∉ F5) := Lib.hid (fun b hb hb' => (List.nodup_append.1 hS5).2.2 b hb' b (List.mem_append_right _ (List.mem_append_right _ (List.mem_append_right _ (List.mem_append_right _ (List.mem_append_left _ hb))))) rfl)
  have HD13_6 : Hid (∀ b ∈ ([] ++ ([] ++ F15)), b ∉ F6) := Lib.hid (fun b hb hb' => (List.nodup_append.1 hS6).2.2 b hb' b (List.mem_append_right _ (List.mem_append_right _ (List.mem_append_right _ (List.mem_append_left _ hb)))) rfl)
  have HD13_7 : Hid (∀ b ∈ ([] ++ ([] ++ F15)), b ∉ ([] ++ (F8 ++ (F9 ++ F10)))) := Lib.hid (fun b hb hb' => (List.nodup_append.1 hS7).2.2 b hb' b (List.mem_append_right _ (List.mem_append_right _ (List.mem_append_left _ hb))) rfl)
  clear hS0 hS1 hS2 hS3 hS4 hS5 hS6 hS7 hS8 hS9 hS10 hS11 hS12 hS13 hS14 hS15
  have BL0 := Lib.hid (Blk.new w 48 #[.int .i64 x0, .int .i64 x1, .slice A2 x2.length c2, .slice A3 x3.length c3, .slice A4 x4.length c4, .slice A5 x5.length c5, .slice A6 x6.length c6, .int .i64 x7, .slice A8 x8.length c8, .slice A9 x9.length c9, .slice A10 x10.length c10, .bool x11, .bool x12, .bool x13, .string x14, .slice A15 x15.length c15, .int .i64 x16, .int .i64 x17, .int .i64 x18, .int .i64 x19, .string x20])
  have HOUT0 := Lib.hid (Out.alloc_ (([] ++ ([] ++ (F2 ++ (F3 ++ (F4 ++ (F5 ++ (F6 ++ (([] ++ (F8 ++ (F9 ++ F10))) ++ ([] ++ ([] ++ (([] ++ ([] ++ F15)) ++ ([] ++ ([] ++ ([] ++ ([] ++ [])))))))))))))))) w (.cells #[.int .i64 x0, .int .i64 x1, .slice A2 x2.length c2, .slice A3 x3.length c3, .slice A4 x4.length c4, .slice A5 x5.length c5, .slice A6 x6.length c6, .int .i64 x7, .slice A8 x8.length c8, .slice A9 x9.length c9, .slice A10 x10.length c10, .bool x11, .bool x12, .bool x13, .string x14, .slice A15 x15.length c15, .int .i64 x16, .int .i64 x17, .int .i64 x18, .int .i64 x19, .string x20] 48))
  have HO2 := Lib.hid (O_below ho2 ((Below.refl w.heap.size w).alloc (Nat.le_refl _) (.cells #[.int .i64 x0, .int .i64 x1, .slice A2 x2.length c2, .slice A3 x3.length c3, .slice A4 x4.length c4, .slice A5 x5.length c5, .slice A6 x6.length c6, .int .i64 x7, .slice A8 x8.length c8, .slice A9 x9.length c9, .slice A10 x10.length c10, .bool x11, .bool x12, .bool x13, .string x14, .slice A15 x15.length c15, .int .i64 x16, .int .i64 x17, .int .i64 x18, .int .i64 x19, .string x20] 48)))
  have HO3 := Lib.hid (O_below ho3 ((Below.refl w.heap.size w).alloc (Nat.le_refl _) (.cells #[.int .i64 x0, .int .i64 x1, .slice A2 x2.length c2, .slice A3 x3.length c3, .slice A4 x4.length c4, .slice A5 x5.length c5, .slice A6 x6.length c6, .int .i64 x7, .slice A8 x8.length c8, .slice A9 x9.length c9, .slice A10 x10.length c10, .bool x11, .bool x12, .bool x13, .string x14, .slice A15 x15.length c15, .int .i64 x16, .int .i64 x17, .int .i64 x18, .int .i64 x19, .string x20] 48)))
  have HO4 := Lib.hid (O_below ho4 ((Below.refl w.heap.size w).alloc (Nat.le_refl _) (.cells #[.int .i64 x0, .int .i64 x1, .slice A2 x2.length c2, .slice A3 x3.length c3, .slice A4 x4.length c4, .slice A5 x5.length c5, .slice A6 x6.length c6, .int .i64 x7, .slice A8 x8.length c8, .slice A9 x9.length c9, .slice A10 x10.length c10, .bool x11, .bool x12, .bool x13, .string x14, .slice A15 x15.length c15, .int .i64 x16, .int .i64 x17, .int .i64 x18, .int .i64 x19, .string x20] 48)))
  have HO5 := Lib.hid (O_below ho5 ((Below.refl w.heap.size w).alloc (Nat.le_refl _) (.cells #[.int .i64 x0, .int .i64 x1, .slice A2 x2.length c2, .slice A3 x3.length c3, .slice A4 x4.length c4, .slice A5 x5.length c5, .slice A6 x6.length c6, .int .i64 x7, .slice A8 x8.length c8, .slice A9 x9.length c9, .slice A10 x10.length c10, .bool x11, .bool x12, .bool x13, .string x14, .slice A15 x15.length c15, .int .i64 x16, .int .i64 x17, .int .i64 x18, .int .i64 x19, .string x20] 48)))
  have HO6 := Lib.hid (O_below ho6 ((Below.refl w.heap.size w).alloc (Nat.le_refl _) (.cells #[.int .i64 x0, .int .i64 x1, .slice A2 x2.length c2, .slice A3 x3.length c3, .slice A4 x4.length c4, .slice A5 x5.length c5, .slice A6 x6.length c6, .int .i64 x7, .slice A8 x8.length c8, .slice A9 x9.length c9, .slice A10 x10.length c10, .bool x11, .bool x12, .bool x13, .string x14, .slice A15 x15.length c15, .int .i64 x16, .int .i64 x17, .int .i64 x18, .int .i64 x19, .string x20] 48)))
  have HO7 := Lib.hid (O_below ho7 ((Below.refl w.heap.size w).alloc (Nat.le_refl _) (.cells #[.int .i64 x0, .int .i64 x1, .slice A2 x2.length c2, .slice A3 x3.length c3, .slice A4 x4.length c4, .slice A5 x5.length c5, .slice A6 x6.length c6, .int .i64 x7, .slice A8 x8.length c8, .slice A9 x9.length c9, .slice A10 x10.length c10, .bool x11, .bool x12, .bool x13, .string x14, .slice A15 x15.length c15, .int .i64 x16, .int .i64 x17, .int .i64 x18, .int .i64 x19, .string x20] 48)))
  have HO13 := Lib.hid (O_below ho13 ((Below.refl w.heap.size w).alloc (Nat.le_refl _) (.cells #[.int .i64 x0, .int .i64 x1, .slice A2 x2.length c2, .slice A3 x3.length c3, .slice A4 x4.length c4, .slice A5 x5.length c5, .slice A6 x6.length c6, .int .i64 x7, .slice A8 x8.length c8, .slice A9 x9.length c9, .slice A10 x10.length c10, .bool x11, .bool x12, .bool x13, .string x14, .slice A15 x15.length c15, .int .i64 x16, .int .i64 x17, .int .i64 x18, .int .i64 x19, .string x20] 48)))
  clear h hF q2 q3 q4 q5 q6 q8 q9 q10 q15 ho2 ho3 ho4 ho5 ho6 ho7 ho13
  go_enter Tryz.func9, Tryz.ntmps9
  go_wp2_with fail
  refine (markStringS_f A2 c2 (k) _ x2 (F2) _ HO2.out HN2.out (by omega) (by omega) (by omega)).mono ?_
  rintro e1 w1 ⟨r2, rfl, hr2, hq2, hb1⟩
  obtain ⟨kn2, rfl, HK2⟩ : ∃ kq : Nat, r2 = (kq : Int) ∧ Hid (kq = k + (Sh.row 9 shS).cnt x2) := ⟨_, hr2, rfl⟩
  have BL1 := Lib.hid (BL0.out.out_ hb1 HG2.out)
  have HOUT1 := Lib.hid (HOUT0.out.trans hb1 (fun b hb => (List.mem_append_right _ (List.mem_append_right _ (List.mem_append_left _ hb)))))
  have HO3 := Lib.hid (O_out HO3.out hb1 HD3_2.out)
  have HO4 := Lib.hid (O_out HO4.out hb1 HD4_2.out)
  have HO5 := Lib.hid (O_out HO5.out hb1 HD5_2.out)
  have HO6 := Lib.hid (O_out HO6.out hb1 HD6_2.out)
  have HO7 := Lib.hid (O_out HO7.out hb1 HD7_2.out)
  have HO13 := Lib.hid (O_out HO13.out hb1 HD13_2.out)
  have HO2 := Lib.hid hq2
  have f1 := BL1.out.cell
  have hk2 : 1 ≤ kn2 := by have := HK2.out; omega
  have hm2 : kn2 + (0 + (Sh.row 46 shRef).cnt x3 + (Sh.row 109 shGiven).cnt x4 + (Sh.row 111 shLoop).cnt x5 + (Sh.row 113 shFrame).cnt x6 + (shLocals).cntTop (x7, x8, x9, x10) + (shRef).cntTop (x13, x14, x15)) ≤ 4294967000 := by have := HK2.out; omega
  clear hr2 hq2 hb1 BL0 HOUT0
  go_wp2_with fail
  refine (markRefS_f A3 c3 (kn2) _ x3 (F3) _ HO3.out HN3.out (by omega) (by omega) (by omega)).mono ?_
  rintro e2 w2 ⟨r3, rfl, hr3, hq3, hb2⟩
  obtain ⟨kn3, rfl, HK3⟩ : ∃ kq : Nat, r3 = (kq : Int) ∧ Hid (kq = kn2 + (Sh.row 46 shRef).cnt x3) := ⟨_, hr3, rfl⟩
  have BL2 := Lib.hid (BL1.out.out_ hb2 HG3.out)
  have HOUT2 := Lib.hid (HOUT1.out.trans hb2 (fun b hb => (List.mem_append_right _ (List.mem_append_right _ (List.mem_append_right _ (List.mem_append_left _ hb))))))
  have HO2 := Lib.hid (O_out HO2.out hb2 HD2_3.out)
  have HO4 := Lib.hid (O_out HO4.out hb2 HD4_3.out)
  have HO5 := Lib.hid (O_out HO5.out hb2 HD5_3.out)
  have HO6 := Lib.hid (O_out HO6.out hb2 HD6_3.out)
  have HO7 := Lib.hid (O_out HO7.out hb2 HD7_3.out)
  have HO13 := Lib.hid (O_out HO13.out hb2 HD13_3.out)
  have HO3 := Lib.hid hq3
  have f2 := BL2.out.cell
  have hk3 : 1 ≤ kn3 := by have := HK3.out; omega
  have hm3 : kn3 + (0 + (Sh.row 109 shGiven).cnt x4 + (Sh.row 111 shLoop).cnt x5 + (Sh.row 113 shFrame).cnt x6 + (shLocals).cntTop (x7, x8, x9, x10) + (shRef).cntTop (x13, x14, x15)) ≤ 4294967000 := by have := HK3.out; omega
  clear hr3 hq3 hb2 BL1 HOUT1 f1
  go_wp2_with fail
  refine (markGivenS_f A4 c4 (kn3) _ x4 (F4) _ HO4.out HN4.out (by omega) (by omega) (by omega)).mono ?_
  rintro e3 w3 ⟨r4, rfl, hr4, hq4, hb3⟩
  obtain ⟨kn4, rfl, HK4⟩ : ∃ kq : Nat, r4 = (kq : Int) ∧ Hid (kq = kn3 + (Sh.row 109 shGiven).cnt x4) := ⟨_, hr4, rfl⟩
  have BL3 := Lib.hid (BL2.out.out_ hb3 HG4.out)
  have HOUT3 := Lib.hid (HOUT2.out.trans hb3 (fun b hb => (List.mem_append_right _ (List.mem_append_right _ (List.mem_append_right _ (List.mem_append_right _ (List.mem_append_left _ hb)))))))
  have HO2 := Lib.hid (O_out HO2.out hb3 HD2_4.out)
  have HO3 := Lib.hid (O_out HO3.out hb3 HD3_4.out)
  have HO5 := Lib.hid (O_out HO5.out hb3 HD5_4.out)
  have HO6 := Lib.hid (O_out HO6.out hb3 HD6_4.out)
  have HO7 := Lib.hid (O_out HO7.out hb3 HD7_4.out)
  have HO13 := Lib.hid (O_out HO13.out hb3 HD13_4.out)
  have HO4 := Lib.hid hq4
  have f3 := BL3.out.cell
  have hk4 : 1 ≤ kn4 := by have := HK4.out; omega
  have hm4 : kn4 + (0 + (Sh.row 111 shLoop).cnt x5 + (Sh.row 113 shFrame).cnt x6 + (shLocals).cntTop (x7, x8, x9, x10) + (shRef).cntTop (x13, x14, x15)) ≤ 4294967000 := by have := HK4.out; omega
  clear hr4 hq4 hb3 BL2 HOUT2 f2
  go_wp2_with fail
  refine (markLoopS_f A5 c5 (kn4) _ x5 (F5) _ HO5.out HN5.out (by omega) (by omega) (by omega)).mono ?_
  rintro e4 w4 ⟨r5, rfl, hr5, hq5, hb4⟩
  obtain ⟨kn5, rfl, HK5⟩ : ∃ kq : Nat, r5 = (kq : Int) ∧ Hid (kq = kn4 + (Sh.row 111 shLoop).cnt x5) := ⟨_, hr5, rfl⟩
  have BL4 := Lib.hid (BL3.out.out_ hb4 HG5.out)
  have HOUT4 := Lib.hid (HOUT3.out.trans hb4 (fun b hb => (List.mem_append_right _ (List.mem_append_right _ (List.mem_append_right _ (List.mem_append_right _ (List.mem_append_right _ (List.mem_append_left _ hb))))))))
  have HO2 := Lib.hid (O_out HO2.out hb4 HD2_5.out)
  have HO3 := Lib.hid (O_out HO3.out hb4 HD3_5.out)
  have HO4 := Lib.hid (O_out HO4.out hb4 HD4_5.out)
  have HO6 := Lib.hid (O_out HO6.out hb4 HD6_5.out)
  have HO7 := Lib.hid (O_out HO7.out hb4 HD7_5.out)
  have HO13 := Lib.hid (O_out HO13.out hb4 HD13_5.out)
  have HO5 := Lib.hid hq5
  have f4 := BL4.out.cell
  have hk5 : 1 ≤ kn5 := by have := HK5.out; omega
  have hm5 : kn5 + (0 + (Sh.row 113 shFrame).cnt x6 + (shLocals).cntTop (x7, x8, x9, x10) + (shRef).cntTop (x13, x14, x15)) ≤ 4294967000 := by have := HK5.out; omega
  clear hr5 hq5 hb4 BL3 HOUT3 f3
  go_wp2_with fail
  refine (markFrameS_f A6 c6 (kn5) _ x6 (F6) _ HO6.out HN6.out (by omega) (by omega) (by omega)).mono ?_
  rintro e5 w5 ⟨r6, rfl, hr6, hq6, hb5⟩
  obtain ⟨kn6, rfl, HK6⟩ : ∃ kq : Nat, r6 = (kq : Int) ∧ Hid (kq = kn5 + (Sh.row 113 shFrame).cnt x6) := ⟨_, hr6, rfl⟩
  have BL5 := Lib.hid (BL4.out.out_ hb5 HG6.out)
  have HOUT5 := Lib.hid (HOUT4.out.trans hb5 (fun b hb => (List.mem_append_right _ (List.mem_append_right _ (List.mem_append_right _ (List.mem_append_right _ (List.mem_append_right _ (List.mem_append_right _ (List.mem_append_left _ hb)))))))))
  have HO2 := Lib.hid (O_out HO2.out hb5 HD2_6.out)
  have HO3 := Lib.hid (O_out HO3.out hb5 HD3_6.out)
  have HO4 := Lib.hid (O_out HO4.out hb5 HD4_6.out)
  have HO5 := Lib.hid (O_out HO5.out hb5 HD5_6.out)
  have HO7 := Lib.hid (O_out HO7.out hb5 HD7_6.out)
  have HO13 := Lib.hid (O_out HO13.out hb5 HD13_6.out)
  have HO6 := Lib.hid hq6
  have f5 := BL5.out.cell
  have hk6 : 1 ≤ kn6 := by have := HK6.out; omega
  have hm6 : kn6 + (0 + (shLocals).cntTop (x7, x8, x9, x10) + (shRef).cntTop (x13, x14, x15)) ≤ 4294967000 := by have := HK6.out; omega
  clear hr6 hq6 hb5 BL4 HOUT4 f4
  go_wp2_with fail
  refine (markLocals_f x7 x8 x9 x10 A8 c8 A9 c9 A10 c10 (kn6) _ (([] ++ (F8 ++ (F9 ++ F10)))) _ HO7.out HN7.out (by omega) (by omega) (by omega)).mono ?_
  rintro e6 w6 ⟨r7, rfl, hr7, hq7, hb6⟩
  obtain ⟨kn7, rfl, HK7⟩ : ∃ kq : Nat, r7 = (kq : Int) ∧ Hid (kq = kn6 + (shLocals).cntTop (x7, x8, x9, x10)) := ⟨_, hr7, rfl⟩
  have BL6 := Lib.hid (BL5.out.out_ hb6 HG7.out)
  have HOUT6 := Lib.hid (HOUT5.out.trans hb6 (fun b hb => (List.mem_append_right _ (List.mem_append_right _ (List.mem_append_right _ (List.mem_append_right _ (List.mem_append_right _ (List.mem_append_right _ (List.mem_append_right _ (List.mem_append_left _ hb))))))))))
  have HO2 := Lib.hid (O_out HO2.out hb6 HD2_7.out)
  have HO3 := Lib.hid (O_out HO3.out hb6 HD3_7.out)
  have HO4 := Lib.hid (O_out HO4.out hb6 HD4_7.out)
  have HO5 := Lib.hid (O_out HO5.out hb6 HD5_7.out)
  have HO6 := Lib.hid (O_out HO6.out hb6 HD6_7.out)
  have HO13 := Lib.hid (O_out HO13.out hb6 HD13_7.out)
  have HO7 := Lib.hid hq7
  have f6 := BL6.out.cell
  have hk7 : 1 ≤ kn7 := by have := HK7.out; omega
  have hm7 : kn7 + (0 + (shRef).cntTop (x13, x14, x15)) ≤ 4294967000 := by have := HK7.out; omega
  clear hr7 hq7 hb6 BL5 HOUT5 f5
  go_wp2_with fail
  refine (markRef_f x13 x14 x15 A15 c15 (kn7) _ (([] ++ ([] ++ F15))) _ HO13.out HN13.out (by omega) (by omega) (by omega)).mono ?_
  rintro e7 w7 ⟨r13, rfl, hr13, hq13, hb7⟩
  obtain ⟨kn13, rfl, HK13⟩ : ∃ kq : Nat, r13 = (kq : Int) ∧ Hid (kq = kn7 + (shRef).cntTop (x13, x14, x15)) := ⟨_, hr13, rfl⟩
  have BL7 := Lib.hid (BL6.out.out_ hb7 HG13.out)
  have HOUT7 := Lib.hid (HOUT6.out.trans hb7 (fun b hb => (List.mem_append_right _ (List.mem_append_right _ (List.mem_append_right _ (List.mem_append_right _ (List.mem_append_right _ (List.mem_append_right _ (List.mem_append_right _ (List.mem_append_right _ (List.mem_append_right _ (List.mem_append_right _ (List.mem_append_left _ hb)))))))))))))
  have HO2 := Lib.hid (O_out HO2.out hb7 HD2_13.out)
  have HO3 := Lib.hid (O_out HO3.out hb7 HD3_13.out)
  have HO4 := Lib.hid (O_out HO4.out hb7 HD4_13.out)
  have HO5 := Lib.hid (O_out HO5.out hb7 HD5_13.out)
  have HO6 := Lib.hid (O_out HO6.out hb7 HD6_13.out)
  have HO7 := Lib.hid (O_out HO7.out hb7 HD7_13.out)
  have HO13 := Lib.hid hq13
  have f7 := BL7.out.cell
  have hk13 : 1 ≤ kn13 := by have := HK13.out; omega
  have hm13 : kn13 + (0) ≤ 4294967000 := by have := HK13.out; omega
  clear hr13 hq13 hb7 BL6 HOUT6 f6
  go_wp2_with fail
  go_ret
  have E2 := HK2.out; subst E2
  have E3 := HK3.out; subst E3
  have E4 := HK4.out; subst E4
  have E5 := HK5.out; subst E5
  have E6 := HK6.out; subst E6
  have E7 := HK7.out; subst E7
  have E13 := HK13.out; subst E13
  refine ⟨_, rfl, ?_, ?_, HOUT7.out⟩
  · congr 1; omega
  · exact ⟨[.int .i64 x0], [.int .i64 x1, .slice A2 x2.length c2, .slice A3 x3.length c3, .slice A4 x4.length c4, .slice A5 x5.length c5, .slice A6 x6.length c6, .int .i64 x7, .slice A8 x8.length c8, .slice A9 x9.length c9, .slice A10 x10.length c10, .bool x11, .bool x12, .bool x13, .string x14, .slice A15 x15.length c15, .int .i64 x16, .int .i64 x17, .int .i64 x18, .int .i64 x19, .string x20], [], ([] ++ (F2 ++ (F3 ++ (F4 ++ (F5 ++ (F6 ++ (([] ++ (F8 ++ (F9 ++ F10))) ++ ([] ++ ([] ++ (([] ++ ([] ++ F15)) ++ ([] ++ ([] ++ ([] ++ ([] ++ [])))))))))))))), rfl, rfl, ⟨rfl, rfl⟩, ⟨[.int .i64 x1], [.slice A2 x2.length c2, .slice A3 x3.length c3, .slice A4 x4.length c4, .slice A5 x5.length c5, .slice A6 x6.length c6, .int .i64 x7, .slice A8 x8.length c8, .slice A9 x9.length c9, .slice A10 x10.length c10, .bool x11, .bool x12, .bool x13, .string x14, .slice A15 x15.length c15, .int .i64 x16, .int .i64 x17, .int .i64 x18, .int .i64 x19, .string x20], [], (F2 ++ (F3 ++ (F4 ++ (F5 ++ (F6 ++ (([] ++ (F8 ++ (F9 ++ F10))) ++ ([] ++ ([] ++ (([] ++ ([] ++ F15)) ++ ([] ++ ([] ++ ([] ++ ([] ++ []))))))))))))), rfl, rfl, ⟨rfl, rfl⟩, ⟨[.slice A2 x2.length c2], [.slice A3 x3.length c3, .slice A4 x4.length c4, .slice A5 x5.length c5, .slice A6 x6.length c6, .int .i64 x7, .slice A8 x8.length c8, .slice A9 x9.length c9, .slice A10 x10.length c10, .bool x11, .bool x12, .bool x13, .string x14, .slice A15 x15.length c15, .int .i64 x16, .int .i64 x17, .int .i64 x18, .int .i64 x19, .string x20], F2, (F3 ++ (F4 ++ (F5 ++ (F6 ++ (([] ++ (F8 ++ (F9 ++ F10))) ++ ([] ++ ([] ++ (([] ++ ([] ++ F15)) ++ ([] ++ ([] ++ ([] ++ ([] ++ [])))))))))))), rfl, rfl, HO2.out, ⟨[.slice A3 x3.length c3], [.slice A4 x4.length c4, .slice A5 x5.length c5, .slice A6 x6.length c6, .int .i64 x7, .slice A8 x8.length c8, .slice A9 x9.length c9, .slice A10 x10.length c10, .bool x11, .bool x12, .bool x13, .string x14, .slice A15 x15.length c15, .int .i64 x16, .int .i64 x17, .int .i64 x18, .int .i64 x19, .string x20], F3, (F4 ++ (F5 ++ (F6 ++ (([] ++ (F8 ++ (F9 ++ F10))) ++ ([] ++ ([] ++ (([] ++ ([] ++ F15)) ++ ([] ++ ([] ++ ([] ++ ([] ++ []))))))))))), rfl, rfl, HO3.out, ⟨[.slice A4 x4.length c4], [.slice A5 x5.length c5, .slice A6 x6.length c6, .int .i64 x7, .slice A8 x8.length c8, .slice A9 x9.length c9, .slice A10 x10.length c10, .bool x11, .bool x12, .bool x13, .string x14, .slice A15 x15.length c15, .int .i64 x16, .int .i64 x17, .int .i64 x18, .int .i64 x19, .string x20], F4, (F5 ++ (F6 ++ (([] ++ (F8 ++ (F9 ++ F10))) ++ ([] ++ ([] ++ (([] ++ ([] ++ F15)) ++ ([] ++ ([] ++ ([] ++ ([] ++ [])))))))))), rfl, rfl, HO4.out, ⟨[.slice A5 x5.length c5], [.slice A6 x6.length c6, .int .i64 x7, .slice A8 x8.length c8, .slice A9 x9.length c9, .slice A10 x10.length c10, .bool x11, .bool x12, .bool x13, .string x14, .slice A15 x15.length c15, .int .i64 x16, .int .i64 x17, .int .i64 x18, .int .i64 x19, .string x20], F5, (F6 ++ (([] ++ (F8 ++ (F9 ++ F10))) ++ ([] ++ ([] ++ (([] ++ ([] ++ F15)) ++ ([] ++ ([] ++ ([] ++ ([] ++ []))))))))), rfl, rfl, HO5.out, ⟨[.slice A6 x6.length c6], [.int .i64 x7, .slice A8 x8.length c8, .slice A9 x9.length c9, .slice A10 x10.length c10, .bool x11, .bool x12, .bool x13, .string x14, .slice A15 x15.length c15, .int .i64 x16, .int .i64 x17, .int .i64 x18, .int .i64 x19, .string x20], F6, (([] ++ (F8 ++ (F9 ++ F10))) ++ ([] ++ ([] ++ (([] ++ ([] ++ F15)) ++ ([] ++ ([] ++ ([] ++ ([] ++ [])))))))), rfl, rfl, HO6.out, ⟨[.int .i64 x7, .slice A8 x8.length c8, .slice A9 x9.length c9, .slice A10 x10.length c10], [.bool x11, .bool x12, .bool x13, .string x14, .slice A15 x15.length c15, .int .i64 x16, .int .i64 x17, .int .i64 x18, .int .i64 x19, .string x20], ([] ++ (F8 ++ (F9 ++ F10))), ([] ++ ([] ++ (([] ++ ([] ++ F15)) ++ ([] ++ ([] ++ ([] ++ ([] ++ []))))))), rfl, rfl, HO7.out, ⟨[.bool x11], [.bool x12, .bool x13, .string x14, .slice A15 x15.length c15, .int .i64 x16, .int .i64 x17, .int .i64 x18, .int .i64 x19, .string x20], [], ([] ++ (([] ++ ([] ++ F15)) ++ ([] ++ ([] ++ ([] ++ ([] ++ [])))))), rfl, rfl, ⟨rfl, rfl⟩, ⟨[.bool x12], [.bool x13, .string x14, .slice A15 x15.length c15, .int .i64 x16, .int .i64 x17, .int .i64 x18, .int .i64 x19, .string x20], [], (([] ++ ([] ++ F15)) ++ ([] ++ ([] ++ ([] ++ ([] ++ []))))), rfl, rfl, ⟨rfl, rfl⟩, ⟨[.bool x13, .string x14, .slice A15 x15.length c15], [.int .i64 x16, .int .i64 x17, .int .i64 x18, .int .i64 x19, .string x20], ([] ++ ([] ++ F15)), ([] ++ ([] ++ ([] ++ ([] ++ [])))), rfl, rfl, HO13.out, ⟨[.int .i64 x16], [.int .i64 x17, .int .i64 x18, .int .i64 x19, .string x20], [], ([] ++ ([] ++ ([] ++ []))), rfl, rfl, ⟨rfl, rfl⟩, ⟨[.int .i64 x17], [.int .i64 x18, .int .i64 x19, .string x20], [], ([] ++ ([] ++ [])), rfl, rfl, ⟨rfl, rfl⟩, ⟨[.int .i64 x18], [.int .i64 x19, .string x20], [], ([] ++ []), rfl, rfl, ⟨rfl, rfl⟩, ⟨[.int .i64 x19], [.string x20], [], [], rfl, rfl, ⟨rfl, rfl⟩, ⟨rfl, rfl⟩⟩⟩⟩⟩⟩⟩⟩⟩⟩⟩⟩⟩⟩⟩⟩

end Go.Proofs.YtlodlplfmpikjaaGreat
