/- The evaluator's code of each function of this seat, and that it is the loaded one. Printed by a program (gen.py). -/
import Derived.Test.YtpohmfihpnineaaChecked
import Derived.KernelRfl
import Derived.Test.YtpohmfihpnineaaEvGd
set_option linter.unusedSimpArgs false
set_option linter.unusedVariables false
set_option maxRecDepth 100000
namespace Go.Proofs.Ytpohmfihpnineaa
open Go.Ev
namespace Mf
def f23 : MFun := { nt := 28, np := 1, no := 1, res := [.slot 2], body :=
 (.seq
 (.region false [
 ⟨(some 1), none, .box 0 (.s 0)⟩,
 ⟨(some 2), none, .mv (.c (.bool false))⟩])
 (.seq
 (.seq
 (.region false [
 ⟨(some 4), none, .faddr 0 (.s 1)⟩,
 ⟨(some 5), none, .load none (some 0) (.s 4)⟩,
 ⟨(some 6), none, .len (.s 5)⟩,
 ⟨(some 7), none, .bin .gtr .int (.s 6) (.c (.int .i64 10))⟩,
 ⟨(some 8), none, .mv (.s 7)⟩,
 ⟨(some 9), (some (8, false)), .faddr 1 (.s 1)⟩,
 ⟨(some 10), (some (8, false)), .load none (some 0) (.s 9)⟩,
 ⟨(some 11), (some (8, false)), .len (.s 10)⟩,
 ⟨(some 12), (some (8, false)), .bin .gtr .int (.s 11) (.c (.int .i64 10))⟩,
 ⟨(some 13), none, .pick (.s 8) (.c (.bool true)) (.s 12)⟩])
 (.cond (.s 13)
 (.seq
 (.region false [
 ⟨(some 2), none, .mv (.c (.bool false))⟩])
 .ret)
 .skip))
 (.seq
 (.seq
 (.region false [
 ⟨(some 3), none, .mv (.c (.int .i64 0))⟩])
 (.block 0
 (.loop [1, 3] [0]
 (.seq
 (.seq
 (.region false [
 ⟨(some 14), none, .mv (.s 3)⟩,
 ⟨(some 15), none, .faddr 1 (.s 1)⟩,
 ⟨(some 16), none, .load none (some 0) (.s 15)⟩,
 ⟨(some 17), none, .len (.s 16)⟩,
 ⟨(some 18), none, .bin .lss .int (.s 14) (.s 17)⟩])
 (.cond (.s 18)
 .skip
 (.exit 0)))
 (.seq
 (.block 1
 (.seq
 (.region false [
 ⟨(some 21), none, .faddr 1 (.s 1)⟩,
 ⟨(some 22), none, .load none (some 0) (.s 21)⟩,
 ⟨(some 23), none, .mv (.s 3)⟩,
 ⟨(some 24), none, .iaddrS 1 (.s 22) (.s 23)⟩,
 ⟨(some 25), none, .load none none (.s 24)⟩,
 ⟨(some 26), none, .len (.s 25)⟩,
 ⟨(some 27), none, .bin .gtr .int (.s 26) (.c (.int .i64 60))⟩])
 (.cond (.s 27)
 (.seq
 (.region false [
 ⟨(some 2), none, .mv (.c (.bool false))⟩])
 .ret)
 .skip)))
 (.region false [
 ⟨(some 19), none, .mv (.s 3)⟩,
 ⟨(some 20), none, .bin .add .int (.s 19) (.c (.int .i64 1))⟩,
 ⟨(some 3), none, .mv (.s 20)⟩]))))))
 (.seq
 (.region false [
 ⟨(some 2), none, .mv (.c (.bool true))⟩])
 .ret)))) }
def f8 : MFun := { nt := 22, np := 1, no := 1, res := [.slot 2], body :=
 (.seq
 (.region false [
 ⟨(some 1), none, .box 0 (.s 0)⟩,
 ⟨(some 2), none, .mv (.c (.bool false))⟩])
 (.seq
 (.seq
 (.region false [
 ⟨(some 4), none, .faddr 0 (.s 1)⟩,
 ⟨(some 5), none, .load none (some 0) (.s 4)⟩,
 ⟨(some 6), none, .len (.s 5)⟩,
 ⟨(some 7), none, .bin .gtr .int (.s 6) (.c (.int .i64 8))⟩])
 (.cond (.s 7)
 (.seq
 (.region false [
 ⟨(some 2), none, .mv (.c (.bool false))⟩])
 .ret)
 .skip))
 (.seq
 (.seq
 (.region false [
 ⟨(some 3), none, .mv (.c (.int .i64 0))⟩])
 (.block 0
 (.loop [1, 3] [0]
 (.seq
 (.seq
 (.region false [
 ⟨(some 8), none, .mv (.s 3)⟩,
 ⟨(some 9), none, .faddr 0 (.s 1)⟩,
 ⟨(some 10), none, .load none (some 0) (.s 9)⟩,
 ⟨(some 11), none, .len (.s 10)⟩,
 ⟨(some 12), none, .bin .lss .int (.s 8) (.s 11)⟩])
 (.cond (.s 12)
 .skip
 (.exit 0)))
 (.seq
 (.block 1
 (.seq
 (.region false [
 ⟨(some 15), none, .faddr 0 (.s 1)⟩,
 ⟨(some 16), none, .load none (some 0) (.s 15)⟩,
 ⟨(some 17), none, .mv (.s 3)⟩,
 ⟨(some 18), none, .iaddrS 2 (.s 16) (.s 17)⟩,
 ⟨(some 19), none, .load (some 2) none (.s 18)⟩,
 ⟨(some 20), none, .call (.c (.fn 23 [] [])) [(.s 19)] [] [] [] false⟩,
 ⟨(some 21), none, .un .not (.s 20)⟩])
 (.cond (.s 21)
 (.seq
 (.region false [
 ⟨(some 2), none, .mv (.c (.bool false))⟩])
 .ret)
 .skip)))
 (.region false [
 ⟨(some 13), none, .mv (.s 3)⟩,
 ⟨(some 14), none, .bin .add .int (.s 13) (.c (.int .i64 1))⟩,
 ⟨(some 3), none, .mv (.s 14)⟩]))))))
 (.seq
 (.region false [
 ⟨(some 2), none, .mv (.c (.bool true))⟩])
 .ret)))) }
def f46 : MFun := { nt := 8, np := 1, no := 1, res := [.slot 2], body :=
 (.seq
 (.region false [
 ⟨(some 2), none, .mv (.c .nilsl)⟩])
 (.seq
 (.seq
 (.region false [
 ⟨(some 3), none, .mv (.s 0)⟩,
 ⟨(some 4), none, .bin .eql .sl (.s 3) (.c .nilsl)⟩])
 (.cond (.s 4)
 (.seq
 (.region false [
 ⟨(some 2), none, .mv (.c .nilsl)⟩])
 .ret)
 .skip))
 (.seq
 (.region false [
 ⟨(some 5), none, .lit (some 0) [] 0 6 [.int .u8 0, .int .u8 0, .int .u8 0, .int .u8 0, .int .i64 0, .int .i64 0] []⟩,
 ⟨(some 6), none, .mv (.s 0)⟩,
 ⟨(some 7), none, .append 24 6 0 none (.s 5) (.s 6)⟩,
 ⟨(some 2), none, .mv (.s 7)⟩])
 .ret))) }
def f67 : MFun := { nt := 18, np := 1, no := 0, res := [.slot 2], body :=
 (.seq
 (.region false [
 ⟨(some 2), none, .mv (.c (.int .i64 0))⟩])
 (.seq
 (.region false [
 ⟨(some 3), none, .mv (.c (.int .i64 0))⟩])
 (.seq
 (.seq
 (.region false [
 ⟨(some 6), none, .mv (.s 0)⟩,
 ⟨(some 7), none, .len (.s 6)⟩,
 ⟨(some 8), none, .mv (.c (.int .i64 0))⟩])
 (.block 0
 (.loop [3, 6, 7, 8] []
 (.seq
 (.region false [
 ⟨(some 9), none, .bin .lss .int (.s 8) (.s 7)⟩])
 (.seq
 (.cond (.s 9)
 .skip
 (.exit 0))
 (.seq
 (.block 1
 (.seq
 (.region false [
 ⟨(some 10), none, .iaddrS 1 (.s 6) (.s 8)⟩,
 ⟨(some 11), none, .load none none (.s 10)⟩,
 ⟨(some 5), none, .mv (.s 11)⟩])
 (.seq
 (.region false [
 ⟨(some 12), none, .mv (.s 5)⟩,
 ⟨(some 13), none, .mv (.s 3)⟩,
 ⟨(some 14), none, .bin .neq .int (.s 12) (.s 13)⟩])
 (.cond (.s 14)
 (.seq
 (.region false [
 ⟨(some 15), none, .mv (.s 5)⟩,
 ⟨(some 2), none, .mv (.s 15)⟩])
 .ret)
 .skip))))
 (.region false [
 ⟨(some 16), none, .bin .add .int (.s 8) (.c (.int .i64 1))⟩,
 ⟨(some 8), none, .mv (.s 16)⟩])))))))
 (.seq
 (.region false [
 ⟨(some 17), none, .mv (.s 3)⟩,
 ⟨(some 2), none, .mv (.s 17)⟩])
 .ret)))) }
def f89 : MFun := { nt := 6, np := 1, no := 0, res := [.slot 2], body :=
 (.seq
 (.region false [
 ⟨(some 2), none, .mv (.c (.bool false))⟩])
 (.seq
 (.region false [
 ⟨(some 3), none, .mv (.s 0)⟩,
 ⟨(some 4), none, .mv (.s 0)⟩,
 ⟨(some 5), none, .bin .neq .int (.s 3) (.s 4)⟩,
 ⟨(some 2), none, .mv (.s 5)⟩])
 .ret)) }
def f68 : MFun := { nt := 20, np := 2, no := 0, res := [.slot 4], body :=
 (.seq
 (.region false [
 ⟨(some 4), none, .mv (.c (.int .i64 0))⟩])
 (.seq
 (.region false [
 ⟨(some 7), none, .mv (.s 0)⟩,
 ⟨(some 8), none, .call (.c (.fn 89 [] [])) [(.s 7)] [] [] [] false⟩,
 ⟨(some 5), none, .mv (.s 8)⟩])
 (.seq
 (.region false [
 ⟨(some 9), none, .mv (.s 1)⟩,
 ⟨(some 10), none, .call (.c (.fn 89 [] [])) [(.s 9)] [] [] [] false⟩,
 ⟨(some 6), none, .mv (.s 10)⟩])
 (.seq
 (.seq
 (.region false [
 ⟨(some 11), none, .mv (.s 5)⟩])
 (.cond (.s 11)
 (.seq
 (.seq
 (.region false [
 ⟨(some 12), none, .mv (.s 6)⟩])
 (.cond (.s 12)
 (.seq
 (.region false [
 ⟨(some 4), none, .mv (.c (.int .i64 0))⟩])
 .ret)
 .skip))
 (.seq
 (.region false [
 ⟨(some 4), none, .mv (.c (.int .i64 (-1)))⟩])
 .ret))
 .skip))
 (.seq
 (.seq
 (.region false [
 ⟨(some 13), none, .mv (.s 6)⟩])
 (.cond (.s 13)
 (.seq
 (.region false [
 ⟨(some 4), none, .mv (.c (.int .i64 1))⟩])
 .ret)
 .skip))
 (.seq
 (.seq
 (.region false [
 ⟨(some 14), none, .mv (.s 0)⟩,
 ⟨(some 15), none, .mv (.s 1)⟩,
 ⟨(some 16), none, .bin .lss .int (.s 14) (.s 15)⟩])
 (.cond (.s 16)
 (.seq
 (.region false [
 ⟨(some 4), none, .mv (.c (.int .i64 (-1)))⟩])
 .ret)
 .skip))
 (.seq
 (.seq
 (.region false [
 ⟨(some 17), none, .mv (.s 0)⟩,
 ⟨(some 18), none, .mv (.s 1)⟩,
 ⟨(some 19), none, .bin .gtr .int (.s 17) (.s 18)⟩])
 (.cond (.s 19)
 (.seq
 (.region false [
 ⟨(some 4), none, .mv (.c (.int .i64 1))⟩])
 .ret)
 .skip))
 (.seq
 (.region false [
 ⟨(some 4), none, .mv (.c (.int .i64 0))⟩])
 .ret)))))))) }
def f69 : MFun := { nt := 17, np := 1, no := 1, res := [.slot 2], body :=
 (.seq
 (.region false [
 ⟨(some 1), none, .box 0 (.s 0)⟩,
 ⟨(some 2), none, .mv (.c (.int .u32 0))⟩])
 (.seq
 (.region false [
 ⟨(some 3), none, .mv (.c (.int .u32 0))⟩])
 (.seq
 (.seq
 (.region false [
 ⟨(some 6), none, .load (some 4) (some 0) (.s 1)⟩,
 ⟨(some 7), none, .mv (.c (.int .i64 0))⟩])
 (.block 0
 (.loop [3, 6, 7] []
 (.seq
 (.region false [
 ⟨(some 8), none, .bin .lss .int (.s 7) (.c (.int .i64 4))⟩])
 (.seq
 (.cond (.s 8)
 .skip
 (.exit 0))
 (.seq
 (.block 1
 (.seq
 (.region false [
 ⟨(some 9), none, .index 4 1 false (.s 6) (.s 7)⟩,
 ⟨(some 5), none, .mv (.s 9)⟩])
 (.region false [
 ⟨(some 10), none, .mv (.s 3)⟩,
 ⟨(some 11), none, .bin .shl .int (.s 10) (.c (.int .u64 8))⟩,
 ⟨(some 12), none, .mv (.s 5)⟩,
 ⟨(some 13), none, .conv .u32 (.s 12)⟩,
 ⟨(some 14), none, .bin .or .int (.s 11) (.s 13)⟩,
 ⟨(some 3), none, .mv (.s 14)⟩])))
 (.region false [
 ⟨(some 15), none, .bin .add .int (.s 7) (.c (.int .i64 1))⟩,
 ⟨(some 7), none, .mv (.s 15)⟩])))))))
 (.seq
 (.region false [
 ⟨(some 16), none, .mv (.s 3)⟩,
 ⟨(some 2), none, .mv (.s 16)⟩])
 .ret)))) }
def f103 : MFun := { nt := 6, np := 1, no := 0, res := [.slot 2], body :=
 (.seq
 (.region false [
 ⟨(some 2), none, .mv (.c (.bool false))⟩])
 (.seq
 (.region false [
 ⟨(some 3), none, .mv (.s 0)⟩,
 ⟨(some 4), none, .mv (.s 0)⟩,
 ⟨(some 5), none, .bin .neq .int (.s 3) (.s 4)⟩,
 ⟨(some 2), none, .mv (.s 5)⟩])
 .ret)) }
def f90 : MFun := { nt := 20, np := 2, no := 0, res := [.slot 4], body :=
 (.seq
 (.region false [
 ⟨(some 4), none, .mv (.c (.int .i64 0))⟩])
 (.seq
 (.region false [
 ⟨(some 7), none, .mv (.s 0)⟩,
 ⟨(some 8), none, .call (.c (.fn 103 [] [])) [(.s 7)] [] [] [] false⟩,
 ⟨(some 5), none, .mv (.s 8)⟩])
 (.seq
 (.region false [
 ⟨(some 9), none, .mv (.s 1)⟩,
 ⟨(some 10), none, .call (.c (.fn 103 [] [])) [(.s 9)] [] [] [] false⟩,
 ⟨(some 6), none, .mv (.s 10)⟩])
 (.seq
 (.seq
 (.region false [
 ⟨(some 11), none, .mv (.s 5)⟩])
 (.cond (.s 11)
 (.seq
 (.seq
 (.region false [
 ⟨(some 12), none, .mv (.s 6)⟩])
 (.cond (.s 12)
 (.seq
 (.region false [
 ⟨(some 4), none, .mv (.c (.int .i64 0))⟩])
 .ret)
 .skip))
 (.seq
 (.region false [
 ⟨(some 4), none, .mv (.c (.int .i64 (-1)))⟩])
 .ret))
 .skip))
 (.seq
 (.seq
 (.region false [
 ⟨(some 13), none, .mv (.s 6)⟩])
 (.cond (.s 13)
 (.seq
 (.region false [
 ⟨(some 4), none, .mv (.c (.int .i64 1))⟩])
 .ret)
 .skip))
 (.seq
 (.seq
 (.region false [
 ⟨(some 14), none, .mv (.s 0)⟩,
 ⟨(some 15), none, .mv (.s 1)⟩,
 ⟨(some 16), none, .bin .lss .int (.s 14) (.s 15)⟩])
 (.cond (.s 16)
 (.seq
 (.region false [
 ⟨(some 4), none, .mv (.c (.int .i64 (-1)))⟩])
 .ret)
 .skip))
 (.seq
 (.seq
 (.region false [
 ⟨(some 17), none, .mv (.s 0)⟩,
 ⟨(some 18), none, .mv (.s 1)⟩,
 ⟨(some 19), none, .bin .gtr .int (.s 17) (.s 18)⟩])
 (.cond (.s 19)
 (.seq
 (.region false [
 ⟨(some 4), none, .mv (.c (.int .i64 1))⟩])
 .ret)
 .skip))
 (.seq
 (.region false [
 ⟨(some 4), none, .mv (.c (.int .i64 0))⟩])
 .ret)))))))) }
def f70 : MFun := { nt := 36, np := 2, no := 0, res := [.slot 4], body :=
 (.seq
 (.region false [
 ⟨(some 4), none, .mv (.c (.int .i64 0))⟩])
 (.seq
 (.seq
 (.region false [
 ⟨(some 9), none, .mv (.s 0)⟩,
 ⟨(some 10), none, .len (.s 9)⟩,
 ⟨(some 11), none, .mv (.c (.int .i64 0))⟩])
 (.block 0
 (.loop [0, 1, 9, 10, 11] []
 (.seq
 (.region false [
 ⟨(some 12), none, .bin .lss .int (.s 11) (.s 10)⟩])
 (.seq
 (.cond (.s 12)
 .skip
 (.exit 0))
 (.seq
 (.block 1
 (.seq
 (.region false [
 ⟨(some 13), none, .mv (.s 11)⟩,
 ⟨(some 14), none, .iaddrS 1 (.s 9) (.s 11)⟩,
 ⟨(some 15), none, .load none none (.s 14)⟩,
 ⟨(some 5), none, .mv (.s 13)⟩,
 ⟨(some 6), none, .mv (.s 15)⟩])
 (.seq
 (.seq
 (.region false [
 ⟨(some 16), none, .mv (.s 5)⟩,
 ⟨(some 17), none, .mv (.s 1)⟩,
 ⟨(some 18), none, .len (.s 17)⟩,
 ⟨(some 19), none, .bin .geq .int (.s 16) (.s 18)⟩])
 (.cond (.s 19)
 (.seq
 (.region false [
 ⟨(some 4), none, .mv (.c (.int .i64 1))⟩])
 .ret)
 .skip))
 (.seq
 (.region false [
 ⟨(some 20), none, .mv (.s 1)⟩,
 ⟨(some 21), none, .mv (.s 5)⟩,
 ⟨(some 22), none, .iaddrS 1 (.s 20) (.s 21)⟩,
 ⟨(some 23), none, .load none none (.s 22)⟩,
 ⟨(some 7), none, .mv (.s 23)⟩])
 (.seq
 (.region false [
 ⟨(some 24), none, .mv (.s 6)⟩,
 ⟨(some 25), none, .mv (.s 7)⟩,
 ⟨(some 26), none, .call (.c (.fn 90 [] [])) [(.s 24), (.s 25)] [] [] [] false⟩,
 ⟨(some 8), none, .mv (.s 26)⟩])
 (.seq
 (.region false [
 ⟨(some 27), none, .mv (.s 8)⟩,
 ⟨(some 28), none, .bin .neq .int (.s 27) (.c (.int .i64 0))⟩])
 (.cond (.s 28)
 (.seq
 (.region false [
 ⟨(some 29), none, .mv (.s 8)⟩,
 ⟨(some 4), none, .mv (.s 29)⟩])
 .ret)
 .skip)))))))
 (.region false [
 ⟨(some 30), none, .bin .add .int (.s 11) (.c (.int .i64 1))⟩,
 ⟨(some 11), none, .mv (.s 30)⟩])))))))
 (.seq
 (.seq
 (.region false [
 ⟨(some 31), none, .mv (.s 0)⟩,
 ⟨(some 32), none, .len (.s 31)⟩,
 ⟨(some 33), none, .mv (.s 1)⟩,
 ⟨(some 34), none, .len (.s 33)⟩,
 ⟨(some 35), none, .bin .lss .int (.s 32) (.s 34)⟩])
 (.cond (.s 35)
 (.seq
 (.region false [
 ⟨(some 4), none, .mv (.c (.int .i64 (-1)))⟩])
 .ret)
 .skip))
 (.seq
 (.region false [
 ⟨(some 4), none, .mv (.c (.int .i64 0))⟩])
 .ret)))) }
def f48 : MFun := { nt := 19, np := 2, no := 2, res := [.slot 4], body :=
 (.seq
 (.region false [
 ⟨(some 2), none, .box 0 (.s 0)⟩,
 ⟨(some 3), none, .box 1 (.s 1)⟩,
 ⟨(some 4), none, .mv (.c (.int .i64 0))⟩])
 (.seq
 (.region true [
 ⟨(some 5), none, .faddr 0 (.s 2)⟩,
 ⟨(some 6), none, .load (some 4) (some 0) (.s 5)⟩,
 ⟨(some 7), none, .call (.c (.fn 69 [] [])) [(.s 6)] [] [] [] false⟩,
 ⟨(some 8), none, .faddr 0 (.s 3)⟩,
 ⟨(some 9), none, .load (some 4) (some 1) (.s 8)⟩,
 ⟨(some 10), none, .call (.c (.fn 69 [] [])) [(.s 9)] [] [] [] false⟩,
 ⟨(some 11), none, .call (.c (.fn 68 [] [])) [(.s 7), (.s 10)] [] [] [] false⟩,
 ⟨(some 12), none, .faddr 4 (.s 2)⟩,
 ⟨(some 13), none, .sliceA 2 1 (some 0) (.s 12) none none⟩,
 ⟨(some 14), none, .faddr 4 (.s 3)⟩,
 ⟨(some 15), none, .sliceA 2 1 (some 1) (.s 14) none none⟩,
 ⟨(some 16), none, .call (.c (.fn 70 [] [])) [(.s 13), (.s 15)] [] [0, 1] [] false⟩,
 ⟨(some 17), none, .lit none [] 2 1 [.int .i64 0] [(0, 1, (.s 11)), (1, 1, (.s 16))]⟩,
 ⟨(some 18), none, .call (.c (.fn 67 [] [])) [(.s 17)] [] [] [] false⟩,
 ⟨(some 4), none, .mv (.s 18)⟩])
 .ret)) }
def f27 : MFun := { nt := 9, np := 1, no := 1, res := [.slot 2], body :=
 (.seq
 (.region false [
 ⟨(some 2), none, .mv (.c .nilsl)⟩])
 (.seq
 (.region false [
 ⟨(some 4), none, .mv (.s 0)⟩,
 ⟨(some 5), none, .call (.c (.fn 46 [] [])) [(.s 4)] [] [] [(0, 0)] true⟩,
 ⟨(some 3), none, .mv (.s 5)⟩])
 (.seq
 (.region false [
 ⟨(some 6), none, .mv (.s 3)⟩,
 ⟨(some 7), none, .call (.c (.fn 47 [] [])) [(.s 6), (.c (.fn 48 [] []))] [0] [] [] false⟩])
 (.seq
 (.region false [
 ⟨(some 8), none, .mv (.s 3)⟩,
 ⟨(some 2), none, .mv (.s 8)⟩])
 .ret)))) }
def f11 : MFun := { nt := 77, np := 1, no := 5, res := [.slot 2], body :=
 (.seq
 (.region false [
 ⟨(some 2), none, .mv (.c .nilsl)⟩])
 (.seq
 (.region false [
 ⟨(some 13), none, .mapmk 0⟩,
 ⟨(some 3), none, .mv (.s 13)⟩])
 (.seq
 (.region false [
 ⟨(some 4), none, .vnil 1 6⟩])
 (.seq
 (.seq
 (.region false [
 ⟨(some 14), none, .mv (.s 0)⟩,
 ⟨(some 15), none, .len (.s 14)⟩,
 ⟨(some 16), none, .mv (.c (.int .i64 0))⟩])
 (.block 0
 (.loop [3, 4, 14, 15, 16] [0, 1]
 (.seq
 (.region false [
 ⟨(some 17), none, .bin .lss .int (.s 16) (.s 15)⟩])
 (.seq
 (.cond (.s 17)
 .skip
 (.exit 0))
 (.seq
 (.block 1
 (.seq
 (.region false [
 ⟨(some 18), none, .iaddrS 7 (.s 14) (.s 16)⟩,
 ⟨(some 19), none, .load (some 7) none (.s 18)⟩,
 ⟨(some 6), none, .alloc 2 [.bool false, .int .u8 0, .int .u8 0, .int .u8 0, .int .u8 0, .int .i64 0, .int .i64 0]⟩,
 ⟨none, none, .store 7 2 [] (.s 6) (.s 19)⟩])
 (.seq
 (.seq
 (.region false [
 ⟨(some 21), none, .mv (.s 3)⟩,
 ⟨(some 22), none, .faddr 1 (.s 6)⟩,
 ⟨(some 23), none, .load (some 6) (some 2) (.s 22)⟩,
 ⟨(some 24), none, .maplk 0 [some .u8, some .u8, some .u8, some .u8, some .i64, some .i64] true (.s 21) (.s 23)⟩,
 ⟨(some 20), none, .mv (.s 24)⟩,
 ⟨(some 25), none, .extract (.s 20) 0⟩,
 ⟨(some 26), none, .extract (.s 20) 1⟩,
 ⟨(some 7), none, .mv (.s 25)⟩,
 ⟨(some 8), none, .mv (.s 26)⟩])
 (.seq
 (.region false [
 ⟨(some 27), none, .mv (.s 8)⟩,
 ⟨(some 28), none, .un .not (.s 27)⟩])
 (.cond (.s 28)
 (.region false [
 ⟨(some 29), none, .mv (.s 4)⟩,
 ⟨(some 30), none, .faddr 1 (.s 6)⟩,
 ⟨(some 31), none, .load (some 6) (some 2) (.s 30)⟩,
 ⟨(some 32), none, .lit none [] 1 6 [.int .u8 0, .int .u8 0, .int .u8 0, .int .u8 0, .int .i64 0, .int .i64 0] [(0, 6, (.s 31))]⟩,
 ⟨(some 33), none, .append 24 6 1 none (.s 29) (.s 32)⟩,
 ⟨(some 4), none, .mv (.s 33)⟩])
 .skip)))
 (.seq
 (.region false [
 ⟨(some 34), none, .faddr 0 (.s 6)⟩,
 ⟨(some 35), none, .load none (some 2) (.s 34)⟩])
 (.cond (.s 35)
 (.region true [
 ⟨(some 36), none, .mv (.s 3)⟩,
 ⟨(some 37), none, .faddr 1 (.s 6)⟩,
 ⟨(some 38), none, .load (some 6) (some 2) (.s 37)⟩,
 ⟨(some 39), none, .maplk 0 [some .u8, some .u8, some .u8, some .u8, some .i64, some .i64] false (.s 36) (.s 38)⟩,
 ⟨(some 40), none, .bin .sub .int (.s 39) (.c (.int .i64 1))⟩,
 ⟨(some 41), none, .mapen 0 [some .u8, some .u8, some .u8, some .u8, some .i64, some .i64] (.s 36) (.s 38)⟩,
 ⟨(some 42), none, .extract (.s 41) 1⟩,
 ⟨none, none, .mapst 0 (.s 36) (.s 42) (.s 40)⟩])
 (.region true [
 ⟨(some 43), none, .mv (.s 3)⟩,
 ⟨(some 44), none, .faddr 1 (.s 6)⟩,
 ⟨(some 45), none, .load (some 6) (some 2) (.s 44)⟩,
 ⟨(some 46), none, .maplk 0 [some .u8, some .u8, some .u8, some .u8, some .i64, some .i64] false (.s 43) (.s 45)⟩,
 ⟨(some 47), none, .bin .add .int (.s 46) (.c (.int .i64 1))⟩,
 ⟨(some 48), none, .mapen 0 [some .u8, some .u8, some .u8, some .u8, some .i64, some .i64] (.s 43) (.s 45)⟩,
 ⟨(some 49), none, .extract (.s 48) 1⟩,
 ⟨none, none, .mapst 0 (.s 43) (.s 49) (.s 47)⟩]))))))
 (.region false [
 ⟨(some 50), none, .bin .add .int (.s 16) (.c (.int .i64 1))⟩,
 ⟨(some 16), none, .mv (.s 50)⟩])))))))
 (.seq
 (.region false [
 ⟨(some 9), none, .vnil 3 7⟩])
 (.seq
 (.seq
 (.region false [
 ⟨(some 51), none, .mv (.s 4)⟩,
 ⟨(some 52), none, .call (.c (.fn 27 [] [])) [(.s 51)] [] [1] [] true⟩,
 ⟨(some 53), none, .len (.s 52)⟩,
 ⟨(some 54), none, .mv (.c (.int .i64 0))⟩])
 (.block 2
 (.loop [3, 9, 52, 53, 54] [0, 3]
 (.seq
 (.region false [
 ⟨(some 55), none, .bin .lss .int (.s 54) (.s 53)⟩])
 (.seq
 (.cond (.s 55)
 .skip
 (.exit 2))
 (.seq
 (.block 3
 (.seq
 (.region false [
 ⟨(some 56), none, .iaddrS 6 (.s 52) (.s 54)⟩,
 ⟨(some 57), none, .load (some 6) none (.s 56)⟩,
 ⟨(some 11), none, .alloc 4 [.int .u8 0, .int .u8 0, .int .u8 0, .int .u8 0, .int .i64 0, .int .i64 0]⟩,
 ⟨none, none, .store 6 4 [] (.s 11) (.s 57)⟩])
 (.seq
 (.region false [
 ⟨(some 58), none, .mv (.s 3)⟩,
 ⟨(some 59), none, .load (some 6) (some 4) (.s 11)⟩,
 ⟨(some 60), none, .maplk 0 [some .u8, some .u8, some .u8, some .u8, some .i64, some .i64] false (.s 58) (.s 59)⟩,
 ⟨(some 12), none, .mv (.s 60)⟩])
 (.seq
 (.region false [
 ⟨(some 61), none, .mv (.s 12)⟩,
 ⟨(some 62), none, .mv (.s 12)⟩,
 ⟨(some 63), none, .un .neg (.s 62)⟩,
 ⟨(some 64), none, .minmax true [(.s 61), (.s 63)]⟩,
 ⟨(some 65), none, .mv (.c (.int .i64 0))⟩])
 (.block 4
 (.loop [3, 9, 11, 12, 52, 53, 54, 64, 65] [0, 3, 4]
 (.seq
 (.region false [
 ⟨(some 66), none, .bin .lss .int (.s 65) (.s 64)⟩])
 (.seq
 (.cond (.s 66)
 .skip
 (.exit 4))
 (.seq
 (.block 5
 (.region false [
 ⟨(some 67), none, .mv (.s 9)⟩,
 ⟨(some 68), none, .mv (.s 12)⟩,
 ⟨(some 69), none, .bin .lss .int (.s 68) (.c (.int .i64 0))⟩,
 ⟨(some 70), none, .load (some 6) (some 4) (.s 11)⟩,
 ⟨(some 71), none, .build [.bool false, .int .u8 0, .int .u8 0, .int .u8 0, .int .u8 0, .int .i64 0, .int .i64 0] [(0, 1, (.s 69)), (1, 6, (.s 70))]⟩,
 ⟨(some 72), none, .lit none [] 1 7 [.bool false, .int .u8 0, .int .u8 0, .int .u8 0, .int .u8 0, .int .i64 0, .int .i64 0] [(0, 7, (.s 71))]⟩,
 ⟨(some 73), none, .append 32 7 3 none (.s 67) (.s 72)⟩,
 ⟨(some 9), none, .mv (.s 73)⟩]))
 (.region false [
 ⟨(some 74), none, .bin .add .int (.s 65) (.c (.int .i64 1))⟩,
 ⟨(some 65), none, .mv (.s 74)⟩]))))))))))
 (.region false [
 ⟨(some 75), none, .bin .add .int (.s 54) (.c (.int .i64 1))⟩,
 ⟨(some 54), none, .mv (.s 75)⟩])))))))
 (.seq
 (.region false [
 ⟨(some 76), none, .mv (.s 9)⟩,
 ⟨(some 2), none, .mv (.s 76)⟩])
 .ret))))))) }
def f13 : MFun := { nt := 26, np := 2, no := 0, res := [.slot 4], body :=
 (.seq
 (.region false [
 ⟨(some 4), none, .mv (.c (.bool false))⟩])
 (.seq
 (.seq
 (.region false [
 ⟨(some 6), none, .mv (.s 0)⟩,
 ⟨(some 7), none, .len (.s 6)⟩,
 ⟨(some 8), none, .mv (.s 1)⟩,
 ⟨(some 9), none, .len (.s 8)⟩,
 ⟨(some 10), none, .bin .neq .int (.s 7) (.s 9)⟩])
 (.cond (.s 10)
 (.seq
 (.region false [
 ⟨(some 4), none, .mv (.c (.bool false))⟩])
 .ret)
 .skip))
 (.seq
 (.seq
 (.region false [
 ⟨(some 5), none, .mv (.c (.int .i64 0))⟩])
 (.block 0
 (.loop [0, 1, 5] []
 (.seq
 (.seq
 (.region false [
 ⟨(some 11), none, .mv (.s 5)⟩,
 ⟨(some 12), none, .mv (.s 0)⟩,
 ⟨(some 13), none, .len (.s 12)⟩,
 ⟨(some 14), none, .bin .lss .int (.s 11) (.s 13)⟩])
 (.cond (.s 14)
 .skip
 (.exit 0)))
 (.seq
 (.block 1
 (.seq
 (.region true [
 ⟨(some 17), none, .mv (.s 0)⟩,
 ⟨(some 18), none, .mv (.s 5)⟩,
 ⟨(some 19), none, .iaddrS 7 (.s 17) (.s 18)⟩,
 ⟨(some 20), none, .load (some 7) none (.s 19)⟩,
 ⟨(some 21), none, .mv (.s 1)⟩,
 ⟨(some 22), none, .mv (.s 5)⟩,
 ⟨(some 23), none, .iaddrS 7 (.s 21) (.s 22)⟩,
 ⟨(some 24), none, .load (some 7) none (.s 23)⟩,
 ⟨(some 25), none, .bin .neq (.agg [none, some .u8, some .u8, some .u8, some .u8, some .i64, some .i64]) (.s 20) (.s 24)⟩])
 (.cond (.s 25)
 (.seq
 (.region false [
 ⟨(some 4), none, .mv (.c (.bool false))⟩])
 .ret)
 .skip)))
 (.region false [
 ⟨(some 15), none, .mv (.s 5)⟩,
 ⟨(some 16), none, .bin .add .int (.s 15) (.c (.int .i64 1))⟩,
 ⟨(some 5), none, .mv (.s 16)⟩]))))))
 (.seq
 (.region false [
 ⟨(some 4), none, .mv (.c (.bool true))⟩])
 .ret)))) }
def f71 : MFun := { nt := 15, np := 3, no := 0, res := [.slot 6], body :=
 (.seq
 (.region false [
 ⟨(some 6), none, .mv (.c (.bool false))⟩])
 (.seq
 (.region false [
 ⟨(some 7), none, .mv (.s 0)⟩,
 ⟨(some 8), none, .mv (.s 1)⟩,
 ⟨(some 9), none, .bin .geq .int (.s 7) (.s 8)⟩,
 ⟨(some 10), none, .mv (.s 9)⟩,
 ⟨(some 11), (some (10, true)), .mv (.s 0)⟩,
 ⟨(some 12), (some (10, true)), .mv (.s 2)⟩,
 ⟨(some 13), (some (10, true)), .bin .leq .int (.s 11) (.s 12)⟩,
 ⟨(some 14), none, .pick (.s 10) (.s 13) (.c (.bool false))⟩,
 ⟨(some 6), none, .mv (.s 14)⟩])
 .ret)) }
def f91 : MFun := { nt := 15, np := 3, no := 0, res := [.slot 6], body :=
 (.seq
 (.region false [
 ⟨(some 6), none, .mv (.c (.bool false))⟩])
 (.seq
 (.region false [
 ⟨(some 7), none, .mv (.s 0)⟩,
 ⟨(some 8), none, .mv (.s 1)⟩,
 ⟨(some 9), none, .bin .geq .int (.s 7) (.s 8)⟩,
 ⟨(some 10), none, .mv (.s 9)⟩,
 ⟨(some 11), (some (10, true)), .mv (.s 0)⟩,
 ⟨(some 12), (some (10, true)), .mv (.s 2)⟩,
 ⟨(some 13), (some (10, true)), .bin .leq .int (.s 11) (.s 12)⟩,
 ⟨(some 14), none, .pick (.s 10) (.s 13) (.c (.bool false))⟩,
 ⟨(some 6), none, .mv (.s 14)⟩])
 .ret)) }
def f92 : MFun := { nt := 25, np := 3, no := 0, res := [.slot 6], body :=
 (.seq
 (.region false [
 ⟨(some 6), none, .mv (.c (.bool false))⟩])
 (.seq
 (.seq
 (.region false [
 ⟨(some 9), none, .mv (.s 0)⟩,
 ⟨(some 10), none, .len (.s 9)⟩,
 ⟨(some 11), none, .mv (.s 1)⟩,
 ⟨(some 12), none, .bin .neq .int (.s 10) (.s 11)⟩])
 (.cond (.s 12)
 (.seq
 (.region false [
 ⟨(some 6), none, .mv (.c (.bool false))⟩])
 .ret)
 .skip))
 (.seq
 (.seq
 (.region false [
 ⟨(some 13), none, .mv (.s 0)⟩,
 ⟨(some 14), none, .len (.s 13)⟩,
 ⟨(some 15), none, .mv (.c (.int .i64 0))⟩])
 (.block 0
 (.loop [2, 13, 14, 15] []
 (.seq
 (.region false [
 ⟨(some 16), none, .bin .lss .int (.s 15) (.s 14)⟩])
 (.seq
 (.cond (.s 16)
 .skip
 (.exit 0))
 (.seq
 (.block 1
 (.seq
 (.region false [
 ⟨(some 17), none, .iaddrS 1 (.s 13) (.s 15)⟩,
 ⟨(some 18), none, .load none none (.s 17)⟩,
 ⟨(some 8), none, .mv (.s 18)⟩])
 (.seq
 (.region false [
 ⟨(some 19), none, .mv (.s 8)⟩,
 ⟨(some 20), none, .mv (.s 2)⟩,
 ⟨(some 21), none, .bin .sub .int (.s 20) (.c (.int .i64 1))⟩,
 ⟨(some 22), none, .call (.c (.fn 91 [] [])) [(.s 19), (.c (.int .i64 0)), (.s 21)] [] [] [] false⟩,
 ⟨(some 23), none, .un .not (.s 22)⟩])
 (.cond (.s 23)
 (.seq
 (.region false [
 ⟨(some 6), none, .mv (.c (.bool false))⟩])
 .ret)
 .skip))))
 (.region false [
 ⟨(some 24), none, .bin .add .int (.s 15) (.c (.int .i64 1))⟩,
 ⟨(some 15), none, .mv (.s 24)⟩])))))))
 (.seq
 (.region false [
 ⟨(some 6), none, .mv (.c (.bool true))⟩])
 .ret)))) }
def f72 : MFun := { nt := 57, np := 1, no := 1, res := [.slot 2], body :=
 (.seq
 (.region false [
 ⟨(some 1), none, .box 0 (.s 0)⟩,
 ⟨(some 2), none, .mv (.c (.bool false))⟩])
 (.seq
 (.seq
 (.region false [
 ⟨(some 6), none, .faddr 0 (.s 1)⟩,
 ⟨(some 7), none, .load none (some 0) (.s 6)⟩,
 ⟨(some 8), none, .len (.s 7)⟩,
 ⟨(some 9), none, .call (.c (.fn 91 [] [])) [(.s 8), (.c (.int .i64 1)), (.c (.int .i64 4))] [] [] [] false⟩,
 ⟨(some 10), none, .un .not (.s 9)⟩,
 ⟨(some 11), none, .mv (.s 10)⟩,
 ⟨(some 12), (some (11, false)), .faddr 1 (.s 1)⟩,
 ⟨(some 13), (some (11, false)), .load none (some 0) (.s 12)⟩,
 ⟨(some 14), (some (11, false)), .len (.s 13)⟩,
 ⟨(some 15), (some (11, false)), .faddr 0 (.s 1)⟩,
 ⟨(some 16), (some (11, false)), .load none (some 0) (.s 15)⟩,
 ⟨(some 17), (some (11, false)), .len (.s 16)⟩,
 ⟨(some 18), (some (11, false)), .bin .sub .int (.s 17) (.c (.int .i64 1))⟩,
 ⟨(some 19), (some (11, false)), .bin .neq .int (.s 14) (.s 18)⟩,
 ⟨(some 20), none, .pick (.s 11) (.c (.bool true)) (.s 19)⟩])
 (.cond (.s 20)
 (.seq
 (.region false [
 ⟨(some 2), none, .mv (.c (.bool false))⟩])
 .ret)
 .skip))
 (.seq
 (.seq
 (.region false [
 ⟨(some 21), none, .faddr 0 (.s 1)⟩,
 ⟨(some 22), none, .load none (some 0) (.s 21)⟩,
 ⟨(some 23), none, .len (.s 22)⟩,
 ⟨(some 24), none, .mv (.c (.int .i64 0))⟩])
 (.block 0
 (.loop [1, 22, 23, 24] [0]
 (.seq
 (.region false [
 ⟨(some 25), none, .bin .lss .int (.s 24) (.s 23)⟩])
 (.seq
 (.cond (.s 25)
 .skip
 (.exit 0))
 (.seq
 (.block 1
 (.seq
 (.region false [
 ⟨(some 26), none, .iaddrS 1 (.s 22) (.s 24)⟩,
 ⟨(some 27), none, .load none none (.s 26)⟩,
 ⟨(some 4), none, .mv (.s 27)⟩])
 (.seq
 (.region false [
 ⟨(some 28), none, .mv (.s 4)⟩,
 ⟨(some 29), none, .call (.c (.fn 91 [] [])) [(.s 28), (.c (.int .i64 1)), (.c (.int .i64 40))] [] [] [] false⟩,
 ⟨(some 30), none, .un .not (.s 29)⟩])
 (.cond (.s 30)
 (.seq
 (.region false [
 ⟨(some 2), none, .mv (.c (.bool false))⟩])
 .ret)
 .skip))))
 (.region false [
 ⟨(some 31), none, .bin .add .int (.s 24) (.c (.int .i64 1))⟩,
 ⟨(some 24), none, .mv (.s 31)⟩])))))))
 (.seq
 (.seq
 (.region false [
 ⟨(some 32), none, .faddr 1 (.s 1)⟩,
 ⟨(some 33), none, .load none (some 0) (.s 32)⟩,
 ⟨(some 34), none, .len (.s 33)⟩,
 ⟨(some 35), none, .mv (.c (.int .i64 0))⟩])
 (.block 2
 (.loop [1, 34, 35] [0]
 (.seq
 (.region false [
 ⟨(some 36), none, .bin .lss .int (.s 35) (.s 34)⟩])
 (.seq
 (.cond (.s 36)
 .skip
 (.exit 2))
 (.seq
 (.block 3
 (.seq
 (.region false [
 ⟨(some 37), none, .mv (.s 35)⟩,
 ⟨(some 5), none, .mv (.s 37)⟩])
 (.seq
 (.region true [
 ⟨(some 38), none, .faddr 1 (.s 1)⟩,
 ⟨(some 39), none, .load none (some 0) (.s 38)⟩,
 ⟨(some 40), none, .mv (.s 5)⟩,
 ⟨(some 41), none, .iaddrS 1 (.s 39) (.s 40)⟩,
 ⟨(some 42), none, .load none none (.s 41)⟩,
 ⟨(some 43), none, .faddr 0 (.s 1)⟩,
 ⟨(some 44), none, .load none (some 0) (.s 43)⟩,
 ⟨(some 45), none, .mv (.s 5)⟩,
 ⟨(some 46), none, .iaddrS 1 (.s 44) (.s 45)⟩,
 ⟨(some 47), none, .load none none (.s 46)⟩,
 ⟨(some 48), none, .faddr 0 (.s 1)⟩,
 ⟨(some 49), none, .load none (some 0) (.s 48)⟩,
 ⟨(some 50), none, .mv (.s 5)⟩,
 ⟨(some 51), none, .bin .add .int (.s 50) (.c (.int .i64 1))⟩,
 ⟨(some 52), none, .iaddrS 1 (.s 49) (.s 51)⟩,
 ⟨(some 53), none, .load none none (.s 52)⟩,
 ⟨(some 54), none, .call (.c (.fn 92 [] [])) [(.s 42), (.s 47), (.s 53)] [] [] [] false⟩,
 ⟨(some 55), none, .un .not (.s 54)⟩])
 (.cond (.s 55)
 (.seq
 (.region false [
 ⟨(some 2), none, .mv (.c (.bool false))⟩])
 .ret)
 .skip))))
 (.region false [
 ⟨(some 56), none, .bin .add .int (.s 35) (.c (.int .i64 1))⟩,
 ⟨(some 35), none, .mv (.s 56)⟩])))))))
 (.seq
 (.region false [
 ⟨(some 2), none, .mv (.c (.bool true))⟩])
 .ret))))) }
def f49 : MFun := { nt := 27, np := 1, no := 2, res := [.slot 2], body :=
 (.seq
 (.region false [
 ⟨(some 1), none, .box 0 (.s 0)⟩,
 ⟨(some 2), none, .mv (.c (.bool false))⟩])
 (.seq
 (.seq
 (.region false [
 ⟨(some 5), none, .faddr 0 (.s 1)⟩,
 ⟨(some 6), none, .load none (some 0) (.s 5)⟩,
 ⟨(some 7), none, .len (.s 6)⟩,
 ⟨(some 8), none, .call (.c (.fn 71 [] [])) [(.s 7), (.c (.int .i64 1)), (.c (.int .i64 4))] [] [] [] false⟩,
 ⟨(some 9), none, .un .not (.s 8)⟩,
 ⟨(some 10), none, .mv (.s 9)⟩,
 ⟨(some 11), (some (10, false)), .faddr 1 (.s 1)⟩,
 ⟨(some 12), (some (10, false)), .load none (some 0) (.s 11)⟩,
 ⟨(some 13), (some (10, false)), .call (.c (.fn 71 [] [])) [(.s 12), (.c (.int .i64 1)), (.c (.int .i64 2))] [] [] [] false⟩,
 ⟨(some 14), (some (10, false)), .un .not (.s 13)⟩,
 ⟨(some 15), none, .pick (.s 10) (.c (.bool true)) (.s 14)⟩])
 (.cond (.s 15)
 (.seq
 (.region false [
 ⟨(some 2), none, .mv (.c (.bool false))⟩])
 .ret)
 .skip))
 (.seq
 (.seq
 (.region false [
 ⟨(some 16), none, .faddr 0 (.s 1)⟩,
 ⟨(some 17), none, .load none (some 0) (.s 16)⟩,
 ⟨(some 18), none, .len (.s 17)⟩,
 ⟨(some 19), none, .mv (.c (.int .i64 0))⟩])
 (.block 0
 (.loop [17, 18, 19] []
 (.seq
 (.region false [
 ⟨(some 20), none, .bin .lss .int (.s 19) (.s 18)⟩])
 (.seq
 (.cond (.s 20)
 .skip
 (.exit 0))
 (.seq
 (.block 1
 (.seq
 (.region false [
 ⟨(some 21), none, .iaddrS 2 (.s 17) (.s 19)⟩,
 ⟨(some 22), none, .load (some 2) none (.s 21)⟩,
 ⟨(some 4), none, .alloc 1 [.nilsl, .nilsl]⟩,
 ⟨none, none, .store 2 1 [] (.s 4) (.s 22)⟩])
 (.seq
 (.region false [
 ⟨(some 23), none, .load (some 2) (some 1) (.s 4)⟩,
 ⟨(some 24), none, .call (.c (.fn 72 [] [])) [(.s 23)] [] [] [] false⟩,
 ⟨(some 25), none, .un .not (.s 24)⟩])
 (.cond (.s 25)
 (.seq
 (.region false [
 ⟨(some 2), none, .mv (.c (.bool false))⟩])
 .ret)
 .skip))))
 (.region false [
 ⟨(some 26), none, .bin .add .int (.s 19) (.c (.int .i64 1))⟩,
 ⟨(some 19), none, .mv (.s 26)⟩])))))))
 (.seq
 (.region false [
 ⟨(some 2), none, .mv (.c (.bool true))⟩])
 .ret)))) }
def f78 : MFun := { nt := 28, np := 2, no := 1, res := [.slot 4], body :=
 (.seq
 (.region false [
 ⟨(some 2), none, .box 0 (.s 0)⟩,
 ⟨(some 4), none, .mv (.c (.int .i64 0))⟩])
 (.seq
 (.block 0
 (.seq
 (.region false [
 ⟨(some 6), none, .load (some 2) (some 0) (.s 2)⟩,
 ⟨(some 7), none, .call (.c (.fn 72 [] [])) [(.s 6)] [] [] [] false⟩,
 ⟨(some 8), none, .un .not (.s 7)⟩,
 ⟨(some 9), none, .mv (.s 8)⟩,
 ⟨(some 10), (some (9, false)), .mv (.s 1)⟩,
 ⟨(some 11), (some (9, false)), .faddr 0 (.s 2)⟩,
 ⟨(some 12), (some (9, false)), .load none (some 0) (.s 11)⟩,
 ⟨(some 13), (some (9, false)), .len (.s 12)⟩,
 ⟨(some 14), (some (9, false)), .call (.c (.fn 91 [] [])) [(.s 10), (.c (.int .i64 0)), (.s 13)] [] [] [] false⟩,
 ⟨(some 15), (some (9, false)), .un .not (.s 14)⟩,
 ⟨(some 16), none, .pick (.s 9) (.c (.bool true)) (.s 15)⟩,
 ⟨(some 5), none, .mv (.s 16)⟩])
 (.cond (.s 5)
 (.seq
 (.region false [
 ⟨(some 4), none, .mv (.c (.int .i64 0))⟩])
 .ret)
 (.seq
 (.region false [
 ⟨(some 18), none, .mv (.s 1)⟩,
 ⟨(some 19), none, .faddr 0 (.s 2)⟩,
 ⟨(some 20), none, .load none (some 0) (.s 19)⟩,
 ⟨(some 21), none, .len (.s 20)⟩,
 ⟨(some 22), none, .bin .eql .int (.s 18) (.s 21)⟩,
 ⟨(some 17), none, .mv (.s 22)⟩])
 (.cond (.s 17)
 (.seq
 (.region false [
 ⟨(some 4), none, .mv (.c (.int .i64 1))⟩])
 .ret)
 .skip)))))
 (.seq
 (.region false [
 ⟨(some 23), none, .faddr 0 (.s 2)⟩,
 ⟨(some 24), none, .load none (some 0) (.s 23)⟩,
 ⟨(some 25), none, .mv (.s 1)⟩,
 ⟨(some 26), none, .iaddrS 1 (.s 24) (.s 25)⟩,
 ⟨(some 27), none, .load none none (.s 26)⟩,
 ⟨(some 4), none, .mv (.s 27)⟩])
 .ret))) }
def f61 : MFun := { nt := 45, np := 3, no := 3, res := [.slot 6], body :=
 (.seq
 (.region false [
 ⟨(some 3), none, .box 0 (.s 0)⟩,
 ⟨(some 4), none, .box 1 (.s 1)⟩,
 ⟨(some 5), none, .box 2 (.s 2)⟩,
 ⟨(some 6), none, .mv (.c (.bool false))⟩])
 (.seq
 (.seq
 (.region false [
 ⟨(some 8), none, .load (some 2) (some 0) (.s 3)⟩,
 ⟨(some 9), none, .call (.c (.fn 49 [] [])) [(.s 8)] [] [] [] false⟩,
 ⟨(some 10), none, .un .not (.s 9)⟩])
 (.cond (.s 10)
 (.seq
 (.region false [
 ⟨(some 6), none, .mv (.c (.bool false))⟩])
 .ret)
 .skip))
 (.seq
 (.seq
 (.region false [
 ⟨(some 11), none, .mv (.c (.int .i64 0))⟩])
 (.block 0
 (.loop [3, 4, 5, 11] [0, 1, 2]
 (.seq
 (.region false [
 ⟨(some 12), none, .bin .lss .int (.s 11) (.c (.int .i64 4))⟩])
 (.seq
 (.cond (.s 12)
 .skip
 (.exit 0))
 (.seq
 (.block 1
 (.seq
 (.region false [
 ⟨(some 13), none, .mv (.s 11)⟩,
 ⟨(some 7), none, .mv (.s 13)⟩])
 (.seq
 (.seq
 (.region false [
 ⟨(some 14), none, .mv (.s 7)⟩,
 ⟨(some 15), none, .faddr 0 (.s 3)⟩,
 ⟨(some 16), none, .load none (some 0) (.s 15)⟩,
 ⟨(some 17), none, .len (.s 16)⟩,
 ⟨(some 18), none, .bin .geq .int (.s 14) (.s 17)⟩])
 (.cond (.s 18)
 (.seq
 (.seq
 (.region false [
 ⟨(some 19), none, .mv (.s 7)⟩,
 ⟨(some 20), none, .iaddrA 4 1 (.s 4) (.s 19)⟩,
 ⟨(some 21), none, .load none (some 1) (.s 20)⟩,
 ⟨(some 22), none, .bin .neq .int (.s 21) (.c (.int .u8 0))⟩,
 ⟨(some 23), none, .mv (.s 22)⟩,
 ⟨(some 24), (some (23, false)), .mv (.s 7)⟩,
 ⟨(some 25), (some (23, false)), .iaddrA 4 1 (.s 5) (.s 24)⟩,
 ⟨(some 26), (some (23, false)), .load none (some 2) (.s 25)⟩,
 ⟨(some 27), (some (23, false)), .bin .neq .int (.s 26) (.c (.int .u8 0))⟩,
 ⟨(some 28), none, .pick (.s 23) (.c (.bool true)) (.s 27)⟩])
 (.cond (.s 28)
 (.seq
 (.region false [
 ⟨(some 6), none, .mv (.c (.bool false))⟩])
 .ret)
 .skip))
 (.exit 1))
 .skip))
 (.seq
 (.region true [
 ⟨(some 29), none, .mv (.s 7)⟩,
 ⟨(some 30), none, .iaddrA 4 1 (.s 5) (.s 29)⟩,
 ⟨(some 31), none, .load none (some 2) (.s 30)⟩,
 ⟨(some 32), none, .conv .i64 (.s 31)⟩,
 ⟨(some 33), none, .faddr 0 (.s 3)⟩,
 ⟨(some 34), none, .load none (some 0) (.s 33)⟩,
 ⟨(some 35), none, .mv (.s 7)⟩,
 ⟨(some 36), none, .iaddrS 2 (.s 34) (.s 35)⟩,
 ⟨(some 37), none, .load (some 2) none (.s 36)⟩,
 ⟨(some 38), none, .mv (.s 7)⟩,
 ⟨(some 39), none, .iaddrA 4 1 (.s 4) (.s 38)⟩,
 ⟨(some 40), none, .load none (some 1) (.s 39)⟩,
 ⟨(some 41), none, .conv .i64 (.s 40)⟩,
 ⟨(some 42), none, .call (.c (.fn 78 [] [])) [(.s 37), (.s 41)] [] [] [] false⟩,
 ⟨(some 43), none, .bin .geq .int (.s 32) (.s 42)⟩])
 (.cond (.s 43)
 (.seq
 (.region false [
 ⟨(some 6), none, .mv (.c (.bool false))⟩])
 .ret)
 .skip)))))
 (.region false [
 ⟨(some 44), none, .bin .add .int (.s 11) (.c (.int .i64 1))⟩,
 ⟨(some 11), none, .mv (.s 44)⟩])))))))
 (.seq
 (.region false [
 ⟨(some 6), none, .mv (.c (.bool true))⟩])
 .ret)))) }
def f62 : MFun := { nt := 2, np := 0, no := 1, res := [.cell 0 0 (some 4)], body :=
 (.seq
 (.region false [
 ⟨(some 0), none, .alloc 0 [.int .u8 0, .int .u8 0, .int .u8 0, .int .u8 0]⟩])
 (.seq
 (.region false [
 ⟨(some 1), none, .build [.int .u8 0, .int .u8 0, .int .u8 0, .int .u8 0] []⟩,
 ⟨none, none, .store 4 0 [] (.s 0) (.s 1)⟩])
 .ret)) }
def f43 : MFun := { nt := 25, np := 2, no := 2, res := [.slot 4], body :=
 (.seq
 (.region false [
 ⟨(some 2), none, .box 0 (.s 0)⟩,
 ⟨(some 3), none, .box 1 (.s 1)⟩,
 ⟨(some 4), none, .mv (.c (.bool false))⟩])
 (.seq
 (.seq
 (.region true [
 ⟨(some 7), none, .load (some 2) (some 0) (.s 2)⟩,
 ⟨(some 8), none, .call (.c (.fn 62 [] [])) [] [] [] [] false⟩,
 ⟨(some 9), none, .faddr 0 (.s 3)⟩,
 ⟨(some 10), none, .load (some 4) (some 1) (.s 9)⟩,
 ⟨(some 11), none, .call (.c (.fn 61 [] [])) [(.s 7), (.s 8), (.s 10)] [] [] [] false⟩,
 ⟨(some 12), none, .un .not (.s 11)⟩])
 (.cond (.s 12)
 (.seq
 (.region false [
 ⟨(some 4), none, .mv (.c (.bool false))⟩])
 .ret)
 .skip))
 (.seq
 (.seq
 (.region false [
 ⟨(some 13), none, .faddr 4 (.s 3)⟩,
 ⟨(some 14), none, .faddr 1 (.s 2)⟩,
 ⟨(some 15), none, .load none (some 0) (.s 14)⟩,
 ⟨(some 16), none, .sliceA 2 1 (some 1) (.s 13) (some (.s 15)) none⟩,
 ⟨(some 17), none, .len (.s 16)⟩,
 ⟨(some 18), none, .mv (.c (.int .i64 0))⟩])
 (.block 0
 (.loop [16, 17, 18] [1]
 (.seq
 (.region false [
 ⟨(some 19), none, .bin .lss .int (.s 18) (.s 17)⟩])
 (.seq
 (.cond (.s 19)
 .skip
 (.exit 0))
 (.seq
 (.block 1
 (.seq
 (.region false [
 ⟨(some 20), none, .iaddrS 1 (.s 16) (.s 18)⟩,
 ⟨(some 21), none, .load none (some 1) (.s 20)⟩,
 ⟨(some 6), none, .mv (.s 21)⟩])
 (.seq
 (.region false [
 ⟨(some 22), none, .mv (.s 6)⟩,
 ⟨(some 23), none, .bin .neq .int (.s 22) (.c (.int .i64 0))⟩])
 (.cond (.s 23)
 (.seq
 (.region false [
 ⟨(some 4), none, .mv (.c (.bool false))⟩])
 .ret)
 .skip))))
 (.region false [
 ⟨(some 24), none, .bin .add .int (.s 18) (.c (.int .i64 1))⟩,
 ⟨(some 18), none, .mv (.s 24)⟩])))))))
 (.seq
 (.region false [
 ⟨(some 4), none, .mv (.c (.bool true))⟩])
 .ret)))) }
def f24 : MFun := { nt := 25, np := 2, no := 2, res := [.slot 4, .slot 5], body :=
 (.seq
 (.region false [
 ⟨(some 2), none, .box 0 (.s 0)⟩,
 ⟨(some 4), none, .mv (.c (.int .i64 0))⟩,
 ⟨(some 5), none, .mv (.c (.int .i64 0))⟩])
 (.seq
 (.seq
 (.region false [
 ⟨(some 8), none, .mv (.s 1)⟩,
 ⟨(some 9), none, .len (.s 8)⟩,
 ⟨(some 10), none, .bin .gtr .int (.s 9) (.c (.int .i64 40))⟩])
 (.cond (.s 10)
 (.seq
 (.region false [
 ⟨(some 4), none, .mv (.c (.int .i64 0))⟩,
 ⟨(some 5), none, .mv (.c (.int .i64 6))⟩])
 .ret)
 .skip))
 (.seq
 (.seq
 (.region false [
 ⟨(some 11), none, .mv (.s 1)⟩,
 ⟨(some 12), none, .len (.s 11)⟩,
 ⟨(some 13), none, .mv (.c (.int .i64 0))⟩])
 (.block 0
 (.loop [2, 11, 12, 13] [0]
 (.seq
 (.region false [
 ⟨(some 14), none, .bin .lss .int (.s 13) (.s 12)⟩])
 (.seq
 (.cond (.s 14)
 .skip
 (.exit 0))
 (.seq
 (.block 1
 (.seq
 (.region false [
 ⟨(some 15), none, .mv (.s 13)⟩,
 ⟨(some 16), none, .iaddrS 7 (.s 11) (.s 13)⟩,
 ⟨(some 17), none, .load (some 7) none (.s 16)⟩,
 ⟨(some 7), none, .alloc 1 [.bool false, .int .u8 0, .int .u8 0, .int .u8 0, .int .u8 0, .int .i64 0, .int .i64 0]⟩,
 ⟨(some 6), none, .mv (.s 15)⟩,
 ⟨none, none, .store 7 1 [] (.s 7) (.s 17)⟩])
 (.seq
 (.region false [
 ⟨(some 18), none, .load (some 2) (some 0) (.s 2)⟩,
 ⟨(some 19), none, .faddr 1 (.s 7)⟩,
 ⟨(some 20), none, .load (some 6) (some 1) (.s 19)⟩,
 ⟨(some 21), none, .call (.c (.fn 43 [] [])) [(.s 18), (.s 20)] [] [] [] false⟩,
 ⟨(some 22), none, .un .not (.s 21)⟩])
 (.cond (.s 22)
 (.seq
 (.region false [
 ⟨(some 23), none, .mv (.s 6)⟩,
 ⟨(some 4), none, .mv (.s 23)⟩,
 ⟨(some 5), none, .mv (.c (.int .i64 7))⟩])
 .ret)
 .skip))))
 (.region false [
 ⟨(some 24), none, .bin .add .int (.s 13) (.c (.int .i64 1))⟩,
 ⟨(some 13), none, .mv (.s 24)⟩])))))))
 (.seq
 (.region false [
 ⟨(some 4), none, .mv (.c (.int .i64 0))⟩,
 ⟨(some 5), none, .mv (.c (.int .i64 0))⟩])
 .ret)))) }
def f75 : MFun := { nt := 10, np := 1, no := 0, res := [.slot 2], body :=
 (.seq
 (.region false [
 ⟨(some 2), none, .mv (.c (.int .u64 0))⟩])
 (.seq
 (.seq
 (.region false [
 ⟨(some 3), none, .mv (.s 0)⟩,
 ⟨(some 4), none, .bin .lss .int (.s 3) (.c (.int .i64 0))⟩])
 (.cond (.s 4)
 (.seq
 (.region false [
 ⟨(some 5), none, .mv (.s 0)⟩,
 ⟨(some 6), none, .conv .u64 (.s 5)⟩,
 ⟨(some 7), none, .un .neg (.s 6)⟩,
 ⟨(some 2), none, .mv (.s 7)⟩])
 .ret)
 .skip))
 (.seq
 (.region false [
 ⟨(some 8), none, .mv (.s 0)⟩,
 ⟨(some 9), none, .conv .u64 (.s 8)⟩,
 ⟨(some 2), none, .mv (.s 9)⟩])
 .ret))) }
def f51 : MFun := { nt := 43, np := 3, no := 3, res := [.cell 6 3 (some 2), .slot 7], body :=
 (.seq
 (.region false [
 ⟨(some 4), none, .box 2 (.s 1)⟩,
 ⟨(some 6), none, .alloc 3 [.int .i64 0, .int .i64 0]⟩,
 ⟨(some 7), none, .mv (.c (.bool false))⟩])
 (.seq
 (.region false [
 ⟨(some 12), none, .mv (.s 0)⟩,
 ⟨(some 13), none, .nilchk (.s 12)⟩,
 ⟨(some 14), none, .faddr 4 (.s 13)⟩,
 ⟨(some 15), none, .load (some 2) (some 0) (.s 14)⟩,
 ⟨(some 8), none, .alloc 4 [.int .i64 0, .int .i64 0]⟩,
 ⟨none, none, .store 2 4 [] (.s 8) (.s 15)⟩])
 (.seq
 (.seq
 (.region false [
 ⟨(some 16), none, .faddr 4 (.s 4)⟩,
 ⟨(some 17), none, .load (some 2) (some 2) (.s 16)⟩,
 ⟨(some 18), none, .mv (.c (.int .i64 0))⟩])
 (.block 0
 (.loop [2, 6, 8, 17, 18] [3, 4]
 (.seq
 (.region false [
 ⟨(some 19), none, .bin .lss .int (.s 18) (.c (.int .i64 2))⟩])
 (.seq
 (.cond (.s 19)
 .skip
 (.exit 0))
 (.seq
 (.block 1
 (.seq
 (.region false [
 ⟨(some 20), none, .mv (.s 18)⟩,
 ⟨(some 21), none, .index 2 1 false (.s 17) (.s 18)⟩,
 ⟨(some 9), none, .mv (.s 20)⟩,
 ⟨(some 10), none, .mv (.s 21)⟩])
 (.seq
 (.region false [
 ⟨(some 22), none, .mv (.s 10)⟩,
 ⟨(some 23), none, .call (.c (.fn 75 [] [])) [(.s 22)] [] [] [] false⟩,
 ⟨(some 11), none, .mv (.s 23)⟩])
 (.seq
 (.seq
 (.region false [
 ⟨(some 24), none, .mv (.s 11)⟩,
 ⟨(some 25), none, .bin .gtr .int (.s 24) (.c (.int .u64 2305843009213693952))⟩])
 (.cond (.s 25)
 (.seq
 (.region false [
 ⟨(some 26), none, .load (some 2) (some 4) (.s 8)⟩,
 ⟨none, none, .store 2 3 [] (.s 6) (.s 26)⟩,
 ⟨(some 7), none, .mv (.c (.bool false))⟩])
 .ret)
 .skip))
 (.seq
 (.region false [
 ⟨(some 27), none, .mv (.s 9)⟩,
 ⟨(some 28), none, .iaddrA 2 1 (.s 8) (.s 27)⟩,
 ⟨(some 29), none, .load none (some 4) (.s 28)⟩,
 ⟨(some 30), none, .mv (.s 2)⟩,
 ⟨(some 31), none, .mv (.s 11)⟩,
 ⟨(some 32), none, .conv .i64 (.s 31)⟩,
 ⟨(some 33), none, .bin .mul .int (.s 30) (.s 32)⟩,
 ⟨(some 34), none, .bin .add .int (.s 29) (.s 33)⟩,
 ⟨(some 35), none, .iaddrA 2 1 (.s 8) (.s 27)⟩,
 ⟨none, none, .store 1 4 [] (.s 35) (.s 34)⟩])
 (.seq
 (.region false [
 ⟨(some 36), none, .mv (.s 9)⟩,
 ⟨(some 37), none, .iaddrA 2 1 (.s 8) (.s 36)⟩,
 ⟨(some 38), none, .load none (some 4) (.s 37)⟩,
 ⟨(some 39), none, .bin .gtr .int (.s 38) (.c (.int .i64 2305843009213693952))⟩])
 (.cond (.s 39)
 (.seq
 (.region false [
 ⟨(some 40), none, .load (some 2) (some 4) (.s 8)⟩,
 ⟨none, none, .store 2 3 [] (.s 6) (.s 40)⟩,
 ⟨(some 7), none, .mv (.c (.bool false))⟩])
 .ret)
 .skip)))))))
 (.region false [
 ⟨(some 41), none, .bin .add .int (.s 18) (.c (.int .i64 1))⟩,
 ⟨(some 18), none, .mv (.s 41)⟩])))))))
 (.seq
 (.region false [
 ⟨(some 42), none, .load (some 2) (some 4) (.s 8)⟩,
 ⟨none, none, .store 2 3 [] (.s 6) (.s 42)⟩,
 ⟨(some 7), none, .mv (.c (.bool true))⟩])
 .ret)))) }
def f30 : MFun := { nt := 82, np := 2, no := 2, res := [.slot 4], body :=
 (.seq
 (.region false [
 ⟨(some 3), none, .box 2 (.s 1)⟩,
 ⟨(some 4), none, .mv (.c (.int .i64 0))⟩])
 (.seq
 (.block 0
 (.seq
 (.region false [
 ⟨(some 9), none, .mv (.s 0)⟩,
 ⟨(some 10), none, .bin .eql .ptr (.s 9) (.c .nilptr)⟩,
 ⟨(some 8), none, .mv (.s 10)⟩])
 (.cond (.s 8)
 (.seq
 (.region false [
 ⟨(some 4), none, .mv (.c (.int .i64 1))⟩])
 .ret)
 (.seq
 (.region true [
 ⟨(some 12), none, .mv (.s 0)⟩,
 ⟨(some 13), none, .nilchk (.s 12)⟩,
 ⟨(some 14), none, .faddr 0 (.s 13)⟩,
 ⟨(some 15), none, .load (some 2) (some 0) (.s 14)⟩,
 ⟨(some 16), none, .faddr 1 (.s 3)⟩,
 ⟨(some 17), none, .load (some 6) (some 2) (.s 16)⟩,
 ⟨(some 18), none, .call (.c (.fn 43 [] [])) [(.s 15), (.s 17)] [] [] [] false⟩,
 ⟨(some 19), none, .un .not (.s 18)⟩,
 ⟨(some 11), none, .mv (.s 19)⟩])
 (.cond (.s 11)
 (.seq
 (.region false [
 ⟨(some 4), none, .mv (.c (.int .i64 7))⟩])
 .ret)
 (.seq
 (.region true [
 ⟨(some 21), none, .faddr 0 (.s 3)⟩,
 ⟨(some 22), none, .load none (some 2) (.s 21)⟩,
 ⟨(some 23), none, .mv (.s 22)⟩,
 ⟨(some 24), (some (23, true)), .mv (.s 0)⟩,
 ⟨(some 25), (some (23, true)), .nilchk (.s 24)⟩,
 ⟨(some 26), (some (23, true)), .faddr 2 (.s 25)⟩,
 ⟨(some 27), (some (23, true)), .load none (some 0) (.s 26)⟩,
 ⟨(some 28), (some (23, true)), .faddr 1 (.s 3)⟩,
 ⟨(some 29), (some (23, true)), .load (some 6) (some 2) (.s 28)⟩,
 ⟨(some 30), (some (23, true)), .maplk 1 [some .u8, some .u8, some .u8, some .u8, some .i64, some .i64] false (.s 27) (.s 29)⟩,
 ⟨(some 31), (some (23, true)), .bin .eql .int (.s 30) (.c (.int .i64 0))⟩,
 ⟨(some 32), none, .pick (.s 23) (.s 31) (.c (.bool false))⟩,
 ⟨(some 20), none, .mv (.s 32)⟩])
 (.cond (.s 20)
 (.seq
 (.region false [
 ⟨(some 4), none, .mv (.c (.int .i64 8))⟩])
 .ret)
 .skip)))))))
 (.seq
 (.region false [
 ⟨(some 5), none, .mv (.c (.int .i64 1))⟩])
 (.seq
 (.seq
 (.region false [
 ⟨(some 33), none, .faddr 0 (.s 3)⟩,
 ⟨(some 34), none, .load none (some 2) (.s 33)⟩])
 (.cond (.s 34)
 (.region false [
 ⟨(some 5), none, .mv (.c (.int .i64 (-1)))⟩])
 .skip))
 (.seq
 (.region false [
 ⟨(some 36), none, .mv (.s 0)⟩,
 ⟨(some 37), none, .faddr 1 (.s 3)⟩,
 ⟨(some 38), none, .load (some 6) (some 2) (.s 37)⟩,
 ⟨(some 39), none, .mv (.s 5)⟩,
 ⟨(some 40), none, .call (.c (.fn 51 [] [])) [(.s 36), (.s 38), (.s 39)] [0, 1] [] [] true⟩,
 ⟨(some 35), none, .mv (.s 40)⟩,
 ⟨(some 41), none, .extract (.s 35) 0⟩,
 ⟨(some 42), none, .extract (.s 35) 1⟩,
 ⟨(some 6), none, .alloc 3 [.int .i64 0, .int .i64 0]⟩,
 ⟨none, none, .store 2 3 [] (.s 6) (.s 41)⟩,
 ⟨(some 7), none, .mv (.s 42)⟩])
 (.seq
 (.seq
 (.region false [
 ⟨(some 43), none, .mv (.s 7)⟩,
 ⟨(some 44), none, .un .not (.s 43)⟩])
 (.cond (.s 44)
 (.seq
 (.region false [
 ⟨(some 4), none, .mv (.c (.int .i64 9))⟩])
 .ret)
 .skip))
 (.seq
 (.region false [
 ⟨(some 45), none, .mv (.s 0)⟩,
 ⟨(some 46), none, .load (some 2) (some 3) (.s 6)⟩,
 ⟨(some 47), none, .nilchk (.s 45)⟩,
 ⟨(some 48), none, .faddr 4 (.s 47)⟩,
 ⟨none, none, .store 2 0 [] (.s 48) (.s 46)⟩])
 (.seq
 (.region false [
 ⟨(some 49), none, .mv (.s 0)⟩,
 ⟨(some 50), none, .nilchk (.s 49)⟩,
 ⟨(some 51), none, .faddr 3 (.s 50)⟩,
 ⟨(some 52), none, .load none (some 0) (.s 51)⟩,
 ⟨(some 53), none, .mv (.s 5)⟩,
 ⟨(some 54), none, .bin .add .int (.s 52) (.s 53)⟩,
 ⟨(some 55), none, .nilchk (.s 49)⟩,
 ⟨(some 56), none, .faddr 3 (.s 55)⟩,
 ⟨none, none, .store 1 0 [] (.s 56) (.s 54)⟩])
 (.seq
 (.region true [
 ⟨(some 57), none, .mv (.s 0)⟩,
 ⟨(some 58), none, .nilchk (.s 57)⟩,
 ⟨(some 59), none, .faddr 2 (.s 58)⟩,
 ⟨(some 60), none, .load none (some 0) (.s 59)⟩,
 ⟨(some 61), none, .faddr 1 (.s 3)⟩,
 ⟨(some 62), none, .load (some 6) (some 2) (.s 61)⟩,
 ⟨(some 63), none, .maplk 1 [some .u8, some .u8, some .u8, some .u8, some .i64, some .i64] false (.s 60) (.s 62)⟩,
 ⟨(some 64), none, .mv (.s 5)⟩,
 ⟨(some 65), none, .bin .add .int (.s 63) (.s 64)⟩,
 ⟨(some 66), none, .mapen 1 [some .u8, some .u8, some .u8, some .u8, some .i64, some .i64] (.s 60) (.s 62)⟩,
 ⟨(some 67), none, .extract (.s 66) 1⟩,
 ⟨none, none, .mapst 1 (.s 60) (.s 67) (.s 65)⟩])
 (.seq
 (.seq
 (.region true [
 ⟨(some 68), none, .mv (.s 0)⟩,
 ⟨(some 69), none, .nilchk (.s 68)⟩,
 ⟨(some 70), none, .faddr 2 (.s 69)⟩,
 ⟨(some 71), none, .load none (some 0) (.s 70)⟩,
 ⟨(some 72), none, .faddr 1 (.s 3)⟩,
 ⟨(some 73), none, .load (some 6) (some 2) (.s 72)⟩,
 ⟨(some 74), none, .maplk 1 [some .u8, some .u8, some .u8, some .u8, some .i64, some .i64] false (.s 71) (.s 73)⟩,
 ⟨(some 75), none, .bin .eql .int (.s 74) (.c (.int .i64 0))⟩])
 (.cond (.s 75)
 (.region true [
 ⟨(some 76), none, .mv (.s 0)⟩,
 ⟨(some 77), none, .nilchk (.s 76)⟩,
 ⟨(some 78), none, .faddr 2 (.s 77)⟩,
 ⟨(some 79), none, .load none (some 0) (.s 78)⟩,
 ⟨(some 80), none, .faddr 1 (.s 3)⟩,
 ⟨(some 81), none, .load (some 6) (some 2) (.s 80)⟩,
 ⟨none, none, .mapdl 1 [some .u8, some .u8, some .u8, some .u8, some .i64, some .i64] (.s 79) (.s 81)⟩])
 .skip))
 (.seq
 (.region false [
 ⟨(some 4), none, .mv (.c (.int .i64 0))⟩])
 .ret))))))))))) }
def f37 : MFun := { nt := 47, np := 1, no := 0, res := [.slot 2, .slot 3, .slot 4], body :=
 (.seq
 (.region false [
 ⟨(some 2), none, .mv (.c (.int .u64 0))⟩,
 ⟨(some 3), none, .mv (.c (.int .i64 0))⟩,
 ⟨(some 4), none, .mv (.c (.bool false))⟩])
 (.seq
 (.region false [
 ⟨(some 5), none, .mv (.c (.int .u64 0))⟩])
 (.seq
 (.seq
 (.region false [
 ⟨(some 8), none, .mv (.s 0)⟩,
 ⟨(some 9), none, .mv (.s 0)⟩,
 ⟨(some 10), none, .len (.s 9)⟩,
 ⟨(some 11), none, .minmax false [(.s 10), (.c (.int .i64 10))]⟩,
 ⟨(some 12), none, .sliceS 1 (.s 8) none (some (.s 11))⟩,
 ⟨(some 13), none, .len (.s 12)⟩,
 ⟨(some 14), none, .mv (.c (.int .i64 0))⟩])
 (.block 0
 (.loop [5, 12, 13, 14] []
 (.seq
 (.region false [
 ⟨(some 15), none, .bin .lss .int (.s 14) (.s 13)⟩])
 (.seq
 (.cond (.s 15)
 .skip
 (.exit 0))
 (.seq
 (.block 1
 (.seq
 (.region false [
 ⟨(some 16), none, .mv (.s 14)⟩,
 ⟨(some 17), none, .iaddrS 1 (.s 12) (.s 14)⟩,
 ⟨(some 18), none, .load none none (.s 17)⟩,
 ⟨(some 6), none, .mv (.s 16)⟩,
 ⟨(some 7), none, .mv (.s 18)⟩])
 (.seq
 (.region false [
 ⟨(some 19), none, .mv (.s 5)⟩,
 ⟨(some 20), none, .mv (.s 7)⟩,
 ⟨(some 21), none, .bin .and .int (.s 20) (.c (.int .u8 127))⟩,
 ⟨(some 22), none, .conv .u64 (.s 21)⟩,
 ⟨(some 23), none, .mv (.s 6)⟩,
 ⟨(some 24), none, .bin .mul .int (.c (.int .i64 7)) (.s 23)⟩,
 ⟨(some 25), none, .bin .shl .int (.s 22) (.s 24)⟩,
 ⟨(some 26), none, .bin .or .int (.s 19) (.s 25)⟩,
 ⟨(some 5), none, .mv (.s 26)⟩])
 (.seq
 (.seq
 (.region false [
 ⟨(some 27), none, .mv (.s 7)⟩,
 ⟨(some 28), none, .bin .geq .int (.s 27) (.c (.int .u8 128))⟩])
 (.cond (.s 28)
 (.exit 1)
 .skip))
 (.seq
 (.seq
 (.region false [
 ⟨(some 29), none, .mv (.s 6)⟩,
 ⟨(some 30), none, .bin .eql .int (.s 29) (.c (.int .i64 9))⟩,
 ⟨(some 31), none, .mv (.s 30)⟩,
 ⟨(some 32), (some (31, true)), .mv (.s 7)⟩,
 ⟨(some 33), (some (31, true)), .bin .gtr .int (.s 32) (.c (.int .u8 1))⟩,
 ⟨(some 34), none, .pick (.s 31) (.s 33) (.c (.bool false))⟩,
 ⟨(some 35), none, .mv (.s 34)⟩,
 ⟨(some 36), (some (35, false)), .mv (.s 6)⟩,
 ⟨(some 37), (some (35, false)), .bin .gtr .int (.s 36) (.c (.int .i64 0))⟩,
 ⟨(some 38), (some (35, false)), .mv (.s 37)⟩,
 ⟨(some 39), (some (38, true)), .mv (.s 7)⟩,
 ⟨(some 40), (some (38, true)), .bin .eql .int (.s 39) (.c (.int .u8 0))⟩,
 ⟨(some 41), (some (35, false)), .pick (.s 38) (.s 40) (.c (.bool false))⟩,
 ⟨(some 42), none, .pick (.s 35) (.c (.bool true)) (.s 41)⟩])
 (.cond (.s 42)
 (.seq
 (.region false [
 ⟨(some 2), none, .mv (.c (.int .u64 0))⟩,
 ⟨(some 3), none, .mv (.c (.int .i64 0))⟩,
 ⟨(some 4), none, .mv (.c (.bool false))⟩])
 .ret)
 .skip))
 (.seq
 (.region false [
 ⟨(some 43), none, .mv (.s 5)⟩,
 ⟨(some 44), none, .mv (.s 6)⟩,
 ⟨(some 45), none, .bin .add .int (.s 44) (.c (.int .i64 1))⟩,
 ⟨(some 2), none, .mv (.s 43)⟩,
 ⟨(some 3), none, .mv (.s 45)⟩,
 ⟨(some 4), none, .mv (.c (.bool true))⟩])
 .ret))))))
 (.region false [
 ⟨(some 46), none, .bin .add .int (.s 14) (.c (.int .i64 1))⟩,
 ⟨(some 14), none, .mv (.s 46)⟩])))))))
 (.seq
 (.region false [
 ⟨(some 2), none, .mv (.c (.int .u64 0))⟩,
 ⟨(some 3), none, .mv (.c (.int .i64 0))⟩,
 ⟨(some 4), none, .mv (.c (.bool false))⟩])
 .ret)))) }
def f93 : MFun := { nt := 49, np := 2, no := 0, res := [.slot 4], body :=
 (.seq
 (.region false [
 ⟨(some 4), none, .mv (.c (.int .i64 0))⟩])
 (.seq
 (.region false [
 ⟨(some 9), none, .mv (.s 0)⟩,
 ⟨(some 10), none, .nilchk (.s 9)⟩,
 ⟨(some 11), none, .faddr 0 (.s 10)⟩,
 ⟨(some 12), none, .load none (some 0) (.s 11)⟩,
 ⟨(some 13), none, .call (.c (.fn 37 [] [])) [(.s 12)] [] [] [] false⟩,
 ⟨(some 8), none, .mv (.s 13)⟩,
 ⟨(some 14), none, .extract (.s 8) 0⟩,
 ⟨(some 15), none, .extract (.s 8) 1⟩,
 ⟨(some 16), none, .extract (.s 8) 2⟩,
 ⟨(some 5), none, .mv (.s 14)⟩,
 ⟨(some 6), none, .mv (.s 15)⟩,
 ⟨(some 7), none, .mv (.s 16)⟩])
 (.seq
 (.seq
 (.region false [
 ⟨(some 17), none, .mv (.s 0)⟩,
 ⟨(some 18), none, .mv (.s 0)⟩,
 ⟨(some 19), none, .nilchk (.s 18)⟩,
 ⟨(some 20), none, .faddr 1 (.s 19)⟩,
 ⟨(some 21), none, .load none (some 0) (.s 20)⟩,
 ⟨(some 22), none, .mv (.s 21)⟩,
 ⟨(some 23), (some (22, false)), .mv (.s 7)⟩,
 ⟨(some 24), (some (22, false)), .un .not (.s 23)⟩,
 ⟨(some 25), none, .pick (.s 22) (.c (.bool true)) (.s 24)⟩,
 ⟨(some 26), none, .mv (.s 25)⟩,
 ⟨(some 27), (some (26, false)), .mv (.s 5)⟩,
 ⟨(some 28), (some (26, false)), .mv (.s 1)⟩,
 ⟨(some 29), (some (26, false)), .conv .u64 (.s 28)⟩,
 ⟨(some 30), (some (26, false)), .bin .gtr .int (.s 27) (.s 29)⟩,
 ⟨(some 31), none, .pick (.s 26) (.c (.bool true)) (.s 30)⟩,
 ⟨(some 32), none, .nilchk (.s 17)⟩,
 ⟨(some 33), none, .faddr 1 (.s 32)⟩,
 ⟨none, none, .store 1 0 [] (.s 33) (.s 31)⟩])
 (.seq
 (.region false [
 ⟨(some 34), none, .mv (.s 0)⟩,
 ⟨(some 35), none, .nilchk (.s 34)⟩,
 ⟨(some 36), none, .faddr 1 (.s 35)⟩,
 ⟨(some 37), none, .load none (some 0) (.s 36)⟩])
 (.cond (.s 37)
 (.seq
 (.region false [
 ⟨(some 4), none, .mv (.c (.int .i64 0))⟩])
 .ret)
 .skip)))
 (.seq
 (.region false [
 ⟨(some 38), none, .mv (.s 0)⟩,
 ⟨(some 39), none, .mv (.s 0)⟩,
 ⟨(some 40), none, .nilchk (.s 39)⟩,
 ⟨(some 41), none, .faddr 0 (.s 40)⟩,
 ⟨(some 42), none, .load none (some 0) (.s 41)⟩,
 ⟨(some 43), none, .mv (.s 6)⟩,
 ⟨(some 44), none, .sliceS 1 (.s 42) (some (.s 43)) none⟩,
 ⟨(some 45), none, .nilchk (.s 38)⟩,
 ⟨(some 46), none, .faddr 0 (.s 45)⟩,
 ⟨none, none, .store 1 0 [] (.s 46) (.s 44)⟩])
 (.seq
 (.region false [
 ⟨(some 47), none, .mv (.s 5)⟩,
 ⟨(some 48), none, .conv .i64 (.s 47)⟩,
 ⟨(some 4), none, .mv (.s 48)⟩])
 .ret))))) }
def f104 : MFun := { nt := 19, np := 3, no := 1, res := [.slot 6], body :=
 (.seq
 (.region false [
 ⟨(some 6), none, .mv (.c .nilsl)⟩])
 (.seq
 (.region false [
 ⟨(some 7), none, .vnil 1 1⟩])
 (.seq
 (.seq
 (.region false [
 ⟨(some 8), none, .mv (.s 1)⟩,
 ⟨(some 9), none, .mv (.c (.int .i64 0))⟩])
 (.block 0
 (.loop [0, 2, 7, 8, 9] [1]
 (.seq
 (.region false [
 ⟨(some 10), none, .bin .lss .int (.s 9) (.s 8)⟩])
 (.seq
 (.cond (.s 10)
 .skip
 (.exit 0))
 (.seq
 (.block 1
 (.region false [
 ⟨(some 11), none, .mv (.s 7)⟩,
 ⟨(some 12), none, .mv (.s 0)⟩,
 ⟨(some 13), none, .mv (.s 2)⟩,
 ⟨(some 14), none, .call (.c (.fn 93 [] [])) [(.s 12), (.s 13)] [0] [] [] true⟩,
 ⟨(some 15), none, .lit none [] 1 1 [.int .i64 0] [(0, 1, (.s 14))]⟩,
 ⟨(some 16), none, .append 8 1 1 none (.s 11) (.s 15)⟩,
 ⟨(some 7), none, .mv (.s 16)⟩]))
 (.region false [
 ⟨(some 17), none, .bin .add .int (.s 9) (.c (.int .i64 1))⟩,
 ⟨(some 9), none, .mv (.s 17)⟩])))))))
 (.seq
 (.region false [
 ⟨(some 18), none, .mv (.s 7)⟩,
 ⟨(some 6), none, .mv (.s 18)⟩])
 .ret)))) }
def f94 : MFun := { nt := 31, np := 1, no := 3, res := [.cell 2 1 (some 2)], body :=
 (.seq
 (.region false [
 ⟨(some 2), none, .alloc 1 [.nilsl, .nilsl]⟩])
 (.seq
 (.region false [
 ⟨(some 5), none, .mv (.s 0)⟩,
 ⟨(some 6), none, .mv (.s 0)⟩,
 ⟨(some 7), none, .call (.c (.fn 93 [] [])) [(.s 6), (.c (.int .i64 4))] [0] [] [] true⟩,
 ⟨(some 8), none, .call (.c (.fn 104 [] [])) [(.s 5), (.s 7), (.c (.int .i64 40))] [0] [] [] true⟩,
 ⟨(some 9), none, .build [.nilsl, .nilsl] [(0, 1, (.s 8))]⟩,
 ⟨(some 3), none, .alloc 2 [.nilsl, .nilsl]⟩,
 ⟨none, none, .store 2 2 [] (.s 3) (.s 9)⟩])
 (.seq
 (.seq
 (.region false [
 ⟨(some 10), none, .faddr 0 (.s 3)⟩,
 ⟨(some 11), none, .load none (some 2) (.s 10)⟩,
 ⟨(some 12), none, .len (.s 11)⟩,
 ⟨(some 13), none, .bin .sub .int (.s 12) (.c (.int .i64 1))⟩,
 ⟨(some 14), none, .mv (.c (.int .i64 0))⟩])
 (.block 0
 (.loop [0, 2, 3, 13, 14] [1, 2, 3]
 (.seq
 (.region false [
 ⟨(some 15), none, .bin .lss .int (.s 14) (.s 13)⟩])
 (.seq
 (.cond (.s 15)
 .skip
 (.exit 0))
 (.seq
 (.block 1
 (.seq
 (.region false [
 ⟨(some 16), none, .mv (.s 14)⟩,
 ⟨(some 4), none, .mv (.s 16)⟩])
 (.region true [
 ⟨(some 17), none, .faddr 1 (.s 3)⟩,
 ⟨(some 18), none, .load none (some 2) (.s 17)⟩,
 ⟨(some 19), none, .mv (.s 0)⟩,
 ⟨(some 20), none, .faddr 0 (.s 3)⟩,
 ⟨(some 21), none, .load none (some 2) (.s 20)⟩,
 ⟨(some 22), none, .mv (.s 4)⟩,
 ⟨(some 23), none, .iaddrS 1 (.s 21) (.s 22)⟩,
 ⟨(some 24), none, .load none none (.s 23)⟩,
 ⟨(some 25), none, .call (.c (.fn 104 [] [])) [(.s 19), (.s 24), (.c (.int .i64 40))] [0] [] [] true⟩,
 ⟨(some 26), none, .lit none [] 1 1 [.nilsl] [(0, 1, (.s 25))]⟩,
 ⟨(some 27), none, .append 24 1 3 none (.s 18) (.s 26)⟩,
 ⟨(some 28), none, .faddr 1 (.s 3)⟩,
 ⟨none, none, .store 1 2 [] (.s 28) (.s 27)⟩])))
 (.region false [
 ⟨(some 29), none, .bin .add .int (.s 14) (.c (.int .i64 1))⟩,
 ⟨(some 14), none, .mv (.s 29)⟩])))))))
 (.seq
 (.region false [
 ⟨(some 30), none, .load (some 2) (some 2) (.s 3)⟩,
 ⟨none, none, .store 2 1 [] (.s 2) (.s 30)⟩])
 .ret)))) }
def f73 : MFun := { nt := 43, np := 1, no := 4, res := [.cell 2 0 (some 2), .slot 3], body :=
 (.seq
 (.region false [
 ⟨(some 2), none, .alloc 0 [.nilsl, .int .i64 0]⟩,
 ⟨(some 3), none, .mv (.c (.bool false))⟩])
 (.seq
 (.region false [
 ⟨(some 6), none, .mv (.s 0)⟩,
 ⟨(some 7), none, .build [.nilsl, .bool false] [(0, 1, (.s 6))]⟩,
 ⟨(some 8), none, .box 1 (.s 7)⟩,
 ⟨(some 4), none, .mv (.s 8)⟩])
 (.seq
 (.region false [
 ⟨(some 9), none, .mv (.s 4)⟩,
 ⟨(some 10), none, .call (.c (.fn 93 [] [])) [(.s 9), (.c (.int .i64 2))] [1] [] [] true⟩,
 ⟨(some 11), none, .build [.nilsl, .int .i64 0] [(1, 1, (.s 10))]⟩,
 ⟨(some 5), none, .alloc 2 [.nilsl, .int .i64 0]⟩,
 ⟨none, none, .store 2 2 [] (.s 5) (.s 11)⟩])
 (.seq
 (.seq
 (.region false [
 ⟨(some 12), none, .mv (.s 4)⟩,
 ⟨(some 13), none, .call (.c (.fn 93 [] [])) [(.s 12), (.c (.int .i64 4))] [1] [] [] true⟩,
 ⟨(some 14), none, .mv (.c (.int .i64 0))⟩])
 (.block 0
 (.loop [2, 4, 5, 13, 14] [0, 1, 2, 3]
 (.seq
 (.region false [
 ⟨(some 15), none, .bin .lss .int (.s 14) (.s 13)⟩])
 (.seq
 (.cond (.s 15)
 .skip
 (.exit 0))
 (.seq
 (.block 1
 (.region true [
 ⟨(some 16), none, .faddr 0 (.s 5)⟩,
 ⟨(some 17), none, .load none (some 2) (.s 16)⟩,
 ⟨(some 18), none, .mv (.s 4)⟩,
 ⟨(some 19), none, .call (.c (.fn 94 [] [])) [(.s 18)] [1] [] [] true⟩,
 ⟨(some 20), none, .lit none [] 1 2 [.nilsl, .nilsl] [(0, 2, (.s 19))]⟩,
 ⟨(some 21), none, .append 48 2 3 none (.s 17) (.s 20)⟩,
 ⟨(some 22), none, .faddr 0 (.s 5)⟩,
 ⟨none, none, .store 1 2 [] (.s 22) (.s 21)⟩]))
 (.region false [
 ⟨(some 23), none, .bin .add .int (.s 14) (.c (.int .i64 1))⟩,
 ⟨(some 14), none, .mv (.s 23)⟩])))))))
 (.seq
 (.seq
 (.region false [
 ⟨(some 24), none, .mv (.s 4)⟩,
 ⟨(some 25), none, .nilchk (.s 24)⟩,
 ⟨(some 26), none, .faddr 1 (.s 25)⟩,
 ⟨(some 27), none, .load none (some 1) (.s 26)⟩,
 ⟨(some 28), none, .mv (.s 27)⟩,
 ⟨(some 29), (some (28, false)), .mv (.s 4)⟩,
 ⟨(some 30), (some (28, false)), .nilchk (.s 29)⟩,
 ⟨(some 31), (some (28, false)), .faddr 0 (.s 30)⟩,
 ⟨(some 32), (some (28, false)), .load none (some 1) (.s 31)⟩,
 ⟨(some 33), (some (28, false)), .len (.s 32)⟩,
 ⟨(some 34), (some (28, false)), .bin .gtr .int (.s 33) (.c (.int .i64 0))⟩,
 ⟨(some 35), none, .pick (.s 28) (.c (.bool true)) (.s 34)⟩,
 ⟨(some 36), none, .mv (.s 35)⟩,
 ⟨(some 37), (some (36, false)), .load (some 2) (some 2) (.s 5)⟩,
 ⟨(some 38), (some (36, false)), .call (.c (.fn 49 [] [])) [(.s 37)] [] [3] [] false⟩,
 ⟨(some 39), (some (36, false)), .un .not (.s 38)⟩,
 ⟨(some 40), none, .pick (.s 36) (.c (.bool true)) (.s 39)⟩])
 (.cond (.s 40)
 (.seq
 (.region false [
 ⟨(some 41), none, .build [.nilsl, .int .i64 0] []⟩,
 ⟨none, none, .store 2 0 [] (.s 2) (.s 41)⟩,
 ⟨(some 3), none, .mv (.c (.bool false))⟩])
 .ret)
 .skip))
 (.seq
 (.region false [
 ⟨(some 42), none, .load (some 2) (some 2) (.s 5)⟩,
 ⟨none, none, .store 2 0 [] (.s 2) (.s 42)⟩,
 ⟨(some 3), none, .mv (.c (.bool true))⟩])
 .ret)))))) }
def f53 : MFun := { nt := 8, np := 1, no := 1, res := [.slot 2], body :=
 (.seq
 (.region false [
 ⟨(some 2), none, .mv (.c .nilsl)⟩])
 (.seq
 (.seq
 (.region false [
 ⟨(some 3), none, .mv (.s 0)⟩,
 ⟨(some 4), none, .bin .eql .sl (.s 3) (.c .nilsl)⟩])
 (.cond (.s 4)
 (.seq
 (.region false [
 ⟨(some 2), none, .mv (.c .nilsl)⟩])
 .ret)
 .skip))
 (.seq
 (.region false [
 ⟨(some 5), none, .lit (some 0) [] 0 1 [.int .u8 0] []⟩,
 ⟨(some 6), none, .mv (.s 0)⟩,
 ⟨(some 7), none, .append 1 1 0 none (.s 5) (.s 6)⟩,
 ⟨(some 2), none, .mv (.s 7)⟩])
 .ret))) }
def f53o : MFun := { nt := 8, np := 1, no := 1, res := [.slot 2], body :=
 (.seq
 (.region false [
 ⟨(some 2), none, .mv (.c .nilsl)⟩])
 (.seq
 (.seq
 (.region false [
 ⟨(some 3), none, .mv (.s 0)⟩,
 ⟨(some 4), none, .bin .eql .sl (.s 3) (.c .nilsl)⟩])
 (.cond (.s 4)
 (.seq
 (.region false [
 ⟨(some 2), none, .mv (.c .nilsl)⟩])
 .ret)
 .skip))
 (.seq
 (.region false [
 ⟨(some 5), none, .lit (some 1) [] 0 1 [.int .u8 0] []⟩,
 ⟨(some 6), none, .mv (.s 0)⟩,
 ⟨(some 7), none, .append 1 1 1 (some 0) (.s 5) (.s 6)⟩,
 ⟨(some 2), none, .mv (.s 7)⟩])
 .ret))) }
def f33 : MFun := { nt := 23, np := 2, no := 1, res := [.slot 4], body :=
 (.seq
 (.region false [
 ⟨(some 4), none, .mv (.c .nilsl)⟩])
 (.seq
 (.region false [
 ⟨(some 6), none, .mv (.s 0)⟩,
 ⟨(some 7), none, .call (.c (.fn 53 [] [])) [(.s 6)] [] [] [(0, 0)] true⟩,
 ⟨(some 5), none, .mv (.s 7)⟩])
 (.seq
 (.block 0
 (.loop [1, 5] [0]
 (.seq
 (.seq
 (.region false [
 ⟨(some 8), none, .mv (.s 1)⟩,
 ⟨(some 9), none, .bin .geq .int (.s 8) (.c (.int .u64 128))⟩])
 (.cond (.s 9)
 .skip
 (.exit 0)))
 (.block 1
 (.seq
 (.region false [
 ⟨(some 10), none, .mv (.s 5)⟩,
 ⟨(some 11), none, .mv (.s 1)⟩,
 ⟨(some 12), none, .conv .u8 (.s 11)⟩,
 ⟨(some 13), none, .bin .or .int (.s 12) (.c (.int .u8 128))⟩,
 ⟨(some 14), none, .lit none [] 1 1 [.int .u8 0] [(0, 1, (.s 13))]⟩,
 ⟨(some 15), none, .append 1 1 0 none (.s 10) (.s 14)⟩,
 ⟨(some 5), none, .mv (.s 15)⟩])
 (.region false [
 ⟨(some 16), none, .mv (.s 1)⟩,
 ⟨(some 17), none, .bin .shr .int (.s 16) (.c (.int .u64 7))⟩,
 ⟨(some 1), none, .mv (.s 17)⟩]))))))
 (.seq
 (.region false [
 ⟨(some 18), none, .mv (.s 5)⟩,
 ⟨(some 19), none, .mv (.s 1)⟩,
 ⟨(some 20), none, .conv .u8 (.s 19)⟩,
 ⟨(some 21), none, .lit none [] 1 1 [.int .u8 0] [(0, 1, (.s 20))]⟩,
 ⟨(some 22), none, .append 1 1 0 none (.s 18) (.s 21)⟩,
 ⟨(some 4), none, .mv (.s 22)⟩])
 .ret)))) }
def f95 : MFun := { nt := 23, np := 2, no := 0, res := [], body :=
 (.seq
 (.region false [
 ⟨(some 6), none, .mv (.s 1)⟩,
 ⟨(some 7), none, .len (.s 6)⟩,
 ⟨(some 8), none, .mv (.c (.int .i64 0))⟩])
 (.block 0
 (.loop [0, 6, 7, 8] []
 (.seq
 (.region false [
 ⟨(some 9), none, .bin .lss .int (.s 8) (.s 7)⟩])
 (.seq
 (.cond (.s 9)
 .skip
 (.exit 0))
 (.seq
 (.block 1
 (.seq
 (.region false [
 ⟨(some 10), none, .iaddrS 1 (.s 6) (.s 8)⟩,
 ⟨(some 11), none, .load none none (.s 10)⟩,
 ⟨(some 5), none, .mv (.s 11)⟩])
 (.region false [
 ⟨(some 12), none, .mv (.s 0)⟩,
 ⟨(some 13), none, .mv (.s 0)⟩,
 ⟨(some 14), none, .nilchk (.s 13)⟩,
 ⟨(some 15), none, .faddr 0 (.s 14)⟩,
 ⟨(some 16), none, .load none (some 0) (.s 15)⟩,
 ⟨(some 17), none, .mv (.s 5)⟩,
 ⟨(some 18), none, .conv .u64 (.s 17)⟩,
 ⟨(some 19), none, .call (.c (.fn 33 [] [])) [(.s 16), (.s 18)] [] [] [] true⟩,
 ⟨(some 20), none, .nilchk (.s 12)⟩,
 ⟨(some 21), none, .faddr 0 (.s 20)⟩,
 ⟨none, none, .store 1 0 [] (.s 21) (.s 19)⟩])))
 (.region false [
 ⟨(some 22), none, .bin .add .int (.s 8) (.c (.int .i64 1))⟩,
 ⟨(some 8), none, .mv (.s 22)⟩]))))))) }
def f74 : MFun := { nt := 46, np := 1, no := 3, res := [.slot 2], body :=
 (.seq
 (.region false [
 ⟨(some 1), none, .box 0 (.s 0)⟩,
 ⟨(some 2), none, .mv (.c .nilsl)⟩])
 (.seq
 (.seq
 (.region false [
 ⟨(some 8), none, .load (some 2) (some 0) (.s 1)⟩,
 ⟨(some 9), none, .call (.c (.fn 49 [] [])) [(.s 8)] [] [] [] false⟩,
 ⟨(some 10), none, .un .not (.s 9)⟩])
 (.cond (.s 10)
 (.seq
 (.region false [
 ⟨(some 2), none, .mv (.c .nilsl)⟩])
 .ret)
 .skip))
 (.seq
 (.region false [
 ⟨(some 3), none, .alloc 1 [.nilsl]⟩])
 (.seq
 (.region false [
 ⟨(some 11), none, .faddr 1 (.s 1)⟩,
 ⟨(some 12), none, .load none (some 0) (.s 11)⟩,
 ⟨(some 13), none, .faddr 0 (.s 1)⟩,
 ⟨(some 14), none, .load none (some 0) (.s 13)⟩,
 ⟨(some 15), none, .len (.s 14)⟩,
 ⟨(some 16), none, .lit none [] 2 1 [.int .i64 0] [(0, 1, (.s 12)), (1, 1, (.s 15))]⟩,
 ⟨(some 17), none, .call (.c (.fn 95 [] [])) [(.s 3), (.s 16)] [1] [] [] true⟩])
 (.seq
 (.seq
 (.region false [
 ⟨(some 18), none, .faddr 0 (.s 1)⟩,
 ⟨(some 19), none, .load none (some 0) (.s 18)⟩,
 ⟨(some 20), none, .len (.s 19)⟩,
 ⟨(some 21), none, .mv (.c (.int .i64 0))⟩])
 (.block 0
 (.loop [3, 19, 20, 21] [1]
 (.seq
 (.region false [
 ⟨(some 22), none, .bin .lss .int (.s 21) (.s 20)⟩])
 (.seq
 (.cond (.s 22)
 .skip
 (.exit 0))
 (.seq
 (.block 1
 (.seq
 (.region false [
 ⟨(some 23), none, .iaddrS 2 (.s 19) (.s 21)⟩,
 ⟨(some 24), none, .load (some 2) none (.s 23)⟩,
 ⟨(some 5), none, .alloc 2 [.nilsl, .nilsl]⟩,
 ⟨none, none, .store 2 2 [] (.s 5) (.s 24)⟩])
 (.seq
 (.region false [
 ⟨(some 25), none, .faddr 0 (.s 5)⟩,
 ⟨(some 26), none, .load none (some 2) (.s 25)⟩,
 ⟨(some 27), none, .len (.s 26)⟩,
 ⟨(some 28), none, .lit none [] 1 1 [.int .i64 0] [(0, 1, (.s 27))]⟩,
 ⟨(some 29), none, .call (.c (.fn 95 [] [])) [(.s 3), (.s 28)] [1] [] [] true⟩])
 (.seq
 (.region false [
 ⟨(some 30), none, .faddr 0 (.s 5)⟩,
 ⟨(some 31), none, .load none (some 2) (.s 30)⟩,
 ⟨(some 32), none, .call (.c (.fn 95 [] [])) [(.s 3), (.s 31)] [1] [] [] true⟩])
 (.seq
 (.region false [
 ⟨(some 33), none, .faddr 1 (.s 5)⟩,
 ⟨(some 34), none, .load none (some 2) (.s 33)⟩,
 ⟨(some 35), none, .len (.s 34)⟩,
 ⟨(some 36), none, .mv (.c (.int .i64 0))⟩])
 (.block 2
 (.loop [3, 19, 20, 21, 34, 35, 36] [1]
 (.seq
 (.region false [
 ⟨(some 37), none, .bin .lss .int (.s 36) (.s 35)⟩])
 (.seq
 (.cond (.s 37)
 .skip
 (.exit 2))
 (.seq
 (.block 3
 (.seq
 (.region false [
 ⟨(some 38), none, .iaddrS 1 (.s 34) (.s 36)⟩,
 ⟨(some 39), none, .load none none (.s 38)⟩,
 ⟨(some 7), none, .mv (.s 39)⟩])
 (.region false [
 ⟨(some 40), none, .mv (.s 7)⟩,
 ⟨(some 41), none, .call (.c (.fn 95 [] [])) [(.s 3), (.s 40)] [1] [] [] true⟩])))
 (.region false [
 ⟨(some 42), none, .bin .add .int (.s 36) (.c (.int .i64 1))⟩,
 ⟨(some 36), none, .mv (.s 42)⟩])))))))))))
 (.region false [
 ⟨(some 43), none, .bin .add .int (.s 21) (.c (.int .i64 1))⟩,
 ⟨(some 21), none, .mv (.s 43)⟩])))))))
 (.seq
 (.region false [
 ⟨(some 44), none, .faddr 0 (.s 3)⟩,
 ⟨(some 45), none, .load none (some 1) (.s 44)⟩,
 ⟨(some 2), none, .mv (.s 45)⟩])
 .ret)))))) }
def f50 : MFun := { nt := 16, np := 1, no := 3, res := [.slot 2], body :=
 (.seq
 (.region false [
 ⟨(some 1), none, .box 0 (.s 0)⟩,
 ⟨(some 2), none, .mv (.c .nilptr)⟩])
 (.seq
 (.seq
 (.region false [
 ⟨(some 3), none, .load (some 2) (some 0) (.s 1)⟩,
 ⟨(some 4), none, .call (.c (.fn 49 [] [])) [(.s 3)] [] [] [] false⟩,
 ⟨(some 5), none, .un .not (.s 4)⟩])
 (.cond (.s 5)
 (.seq
 (.region false [
 ⟨(some 2), none, .mv (.c .nilptr)⟩])
 .ret)
 .skip))
 (.seq
 (.region false [
 ⟨(some 7), none, .load (some 2) (some 0) (.s 1)⟩,
 ⟨(some 8), none, .call (.c (.fn 74 [] [])) [(.s 7)] [] [] [] true⟩,
 ⟨(some 9), none, .call (.c (.fn 73 [] [])) [(.s 8)] [] [] [] true⟩,
 ⟨(some 6), none, .mv (.s 9)⟩,
 ⟨(some 10), none, .extract (.s 6) 0⟩,
 ⟨(some 11), none, .extract (.s 6) 1⟩,
 ⟨none, none, .store 2 0 [] (.s 1) (.s 10)⟩])
 (.seq
 (.region false [
 ⟨(some 12), none, .load (some 2) (some 0) (.s 1)⟩,
 ⟨(some 13), none, .mapmk 1⟩,
 ⟨(some 14), none, .build [.nilsl, .int .i64 0, .nilmp, .int .i64 0, .int .i64 0, .int .i64 0] [(0, 2, (.s 12)), (2, 1, (.s 13))]⟩,
 ⟨(some 15), none, .box 2 (.s 14)⟩,
 ⟨(some 2), none, .mv (.s 15)⟩])
 .ret)))) }
def f29 : MFun := { nt := 26, np := 2, no := 4, res := [.slot 4], body :=
 (.seq
 (.region false [
 ⟨(some 2), none, .box 0 (.s 0)⟩,
 ⟨(some 4), none, .mv (.c .nilptr)⟩])
 (.seq
 (.seq
 (.region false [
 ⟨(some 8), none, .load (some 2) (some 0) (.s 2)⟩,
 ⟨(some 9), none, .call (.c (.fn 49 [] [])) [(.s 8)] [] [] [] false⟩,
 ⟨(some 10), none, .un .not (.s 9)⟩])
 (.cond (.s 10)
 (.seq
 (.region false [
 ⟨(some 4), none, .mv (.c .nilptr)⟩])
 .ret)
 .skip))
 (.seq
 (.region false [
 ⟨(some 11), none, .load (some 2) (some 0) (.s 2)⟩,
 ⟨(some 12), none, .call (.c (.fn 50 [] [])) [(.s 11)] [] [] [(2, 1), (1, 2)] true⟩,
 ⟨(some 5), none, .mv (.s 12)⟩])
 (.seq
 (.seq
 (.region false [
 ⟨(some 13), none, .mv (.s 1)⟩,
 ⟨(some 14), none, .len (.s 13)⟩,
 ⟨(some 15), none, .mv (.c (.int .i64 0))⟩])
 (.block 0
 (.loop [5, 13, 14, 15] [1, 2]
 (.seq
 (.region false [
 ⟨(some 16), none, .bin .lss .int (.s 15) (.s 14)⟩])
 (.seq
 (.cond (.s 16)
 .skip
 (.exit 0))
 (.seq
 (.block 1
 (.seq
 (.region false [
 ⟨(some 17), none, .iaddrS 6 (.s 13) (.s 15)⟩,
 ⟨(some 18), none, .load (some 6) none (.s 17)⟩,
 ⟨(some 7), none, .alloc 3 [.int .u8 0, .int .u8 0, .int .u8 0, .int .u8 0, .int .i64 0, .int .i64 0]⟩,
 ⟨none, none, .store 6 3 [] (.s 7) (.s 18)⟩])
 (.seq
 (.region false [
 ⟨(some 19), none, .mv (.s 5)⟩,
 ⟨(some 20), none, .load (some 6) (some 3) (.s 7)⟩,
 ⟨(some 21), none, .build [.bool false, .int .u8 0, .int .u8 0, .int .u8 0, .int .u8 0, .int .i64 0, .int .i64 0] [(1, 6, (.s 20))]⟩,
 ⟨(some 22), none, .call (.c (.fn 30 [] [])) [(.s 19), (.s 21)] [1, 2] [] [] true⟩,
 ⟨(some 23), none, .bin .neq .int (.s 22) (.c (.int .i64 0))⟩])
 (.cond (.s 23)
 (.seq
 (.region false [
 ⟨(some 4), none, .mv (.c .nilptr)⟩])
 .ret)
 .skip))))
 (.region false [
 ⟨(some 24), none, .bin .add .int (.s 15) (.c (.int .i64 1))⟩,
 ⟨(some 15), none, .mv (.s 24)⟩])))))))
 (.seq
 (.region false [
 ⟨(some 25), none, .mv (.s 5)⟩,
 ⟨(some 4), none, .mv (.s 25)⟩])
 .ret))))) }
def f96 : MFun := { nt := 17, np := 2, no := 0, res := [.slot 4, .slot 5], body :=
 (.seq
 (.region false [
 ⟨(some 4), none, .mv (.c (.int .u32 0))⟩,
 ⟨(some 5), none, .mv (.c (.int .u32 0))⟩])
 (.seq
 (.region false [
 ⟨(some 7), none, .mv (.s 0)⟩,
 ⟨(some 8), none, .conv .u64 (.s 7)⟩,
 ⟨(some 9), none, .mv (.s 1)⟩,
 ⟨(some 10), none, .conv .u64 (.s 9)⟩,
 ⟨(some 11), none, .bin .mul .int (.s 8) (.s 10)⟩,
 ⟨(some 6), none, .mv (.s 11)⟩])
 (.seq
 (.region false [
 ⟨(some 12), none, .mv (.s 6)⟩,
 ⟨(some 13), none, .bin .shr .int (.s 12) (.c (.int .u64 32))⟩,
 ⟨(some 14), none, .conv .u32 (.s 13)⟩,
 ⟨(some 15), none, .mv (.s 6)⟩,
 ⟨(some 16), none, .conv .u32 (.s 15)⟩,
 ⟨(some 4), none, .mv (.s 14)⟩,
 ⟨(some 5), none, .mv (.s 16)⟩])
 .ret))) }
def f97 : MFun := { nt := 51, np := 2, no := 0, res := [.slot 4, .slot 5], body :=
 (.seq
 (.region false [
 ⟨(some 4), none, .mv (.c (.int .u64 0))⟩,
 ⟨(some 5), none, .mv (.c (.int .u64 0))⟩])
 (.seq
 (.region false [
 ⟨(some 14), none, .mv (.s 0)⟩,
 ⟨(some 15), none, .bin .and .int (.s 14) (.c (.int .u64 4294967295))⟩,
 ⟨(some 6), none, .mv (.s 15)⟩])
 (.seq
 (.region false [
 ⟨(some 16), none, .mv (.s 0)⟩,
 ⟨(some 17), none, .bin .shr .int (.s 16) (.c (.int .u64 32))⟩,
 ⟨(some 7), none, .mv (.s 17)⟩])
 (.seq
 (.region false [
 ⟨(some 18), none, .mv (.s 1)⟩,
 ⟨(some 19), none, .bin .and .int (.s 18) (.c (.int .u64 4294967295))⟩,
 ⟨(some 8), none, .mv (.s 19)⟩])
 (.seq
 (.region false [
 ⟨(some 20), none, .mv (.s 1)⟩,
 ⟨(some 21), none, .bin .shr .int (.s 20) (.c (.int .u64 32))⟩,
 ⟨(some 9), none, .mv (.s 21)⟩])
 (.seq
 (.region false [
 ⟨(some 22), none, .mv (.s 6)⟩,
 ⟨(some 23), none, .mv (.s 8)⟩,
 ⟨(some 24), none, .bin .mul .int (.s 22) (.s 23)⟩,
 ⟨(some 10), none, .mv (.s 24)⟩])
 (.seq
 (.region false [
 ⟨(some 25), none, .mv (.s 7)⟩,
 ⟨(some 26), none, .mv (.s 8)⟩,
 ⟨(some 27), none, .bin .mul .int (.s 25) (.s 26)⟩,
 ⟨(some 28), none, .mv (.s 10)⟩,
 ⟨(some 29), none, .bin .shr .int (.s 28) (.c (.int .u64 32))⟩,
 ⟨(some 30), none, .bin .add .int (.s 27) (.s 29)⟩,
 ⟨(some 11), none, .mv (.s 30)⟩])
 (.seq
 (.region false [
 ⟨(some 31), none, .mv (.s 11)⟩,
 ⟨(some 32), none, .bin .and .int (.s 31) (.c (.int .u64 4294967295))⟩,
 ⟨(some 12), none, .mv (.s 32)⟩])
 (.seq
 (.region false [
 ⟨(some 33), none, .mv (.s 11)⟩,
 ⟨(some 34), none, .bin .shr .int (.s 33) (.c (.int .u64 32))⟩,
 ⟨(some 13), none, .mv (.s 34)⟩])
 (.seq
 (.region false [
 ⟨(some 35), none, .mv (.s 12)⟩,
 ⟨(some 36), none, .mv (.s 6)⟩,
 ⟨(some 37), none, .mv (.s 9)⟩,
 ⟨(some 38), none, .bin .mul .int (.s 36) (.s 37)⟩,
 ⟨(some 39), none, .bin .add .int (.s 35) (.s 38)⟩,
 ⟨(some 12), none, .mv (.s 39)⟩])
 (.seq
 (.region false [
 ⟨(some 40), none, .mv (.s 7)⟩,
 ⟨(some 41), none, .mv (.s 9)⟩,
 ⟨(some 42), none, .bin .mul .int (.s 40) (.s 41)⟩,
 ⟨(some 43), none, .mv (.s 13)⟩,
 ⟨(some 44), none, .bin .add .int (.s 42) (.s 43)⟩,
 ⟨(some 45), none, .mv (.s 12)⟩,
 ⟨(some 46), none, .bin .shr .int (.s 45) (.c (.int .u64 32))⟩,
 ⟨(some 47), none, .bin .add .int (.s 44) (.s 46)⟩,
 ⟨(some 4), none, .mv (.s 47)⟩])
 (.seq
 (.region false [
 ⟨(some 48), none, .mv (.s 0)⟩,
 ⟨(some 49), none, .mv (.s 1)⟩,
 ⟨(some 50), none, .bin .mul .int (.s 48) (.s 49)⟩,
 ⟨(some 5), none, .mv (.s 50)⟩])
 .ret)))))))))))) }
def f76 : MFun := { nt := 30, np := 2, no := 0, res := [.slot 4, .slot 5], body :=
 (.seq
 (.region false [
 ⟨(some 4), none, .mv (.c (.int .u64 0))⟩,
 ⟨(some 5), none, .mv (.c (.int .u64 0))⟩])
 (.seq
 (.cond (.c (.bool false))
 (.seq
 (.region false [
 ⟨(some 11), none, .mv (.s 0)⟩,
 ⟨(some 12), none, .conv .u32 (.s 11)⟩,
 ⟨(some 13), none, .mv (.s 1)⟩,
 ⟨(some 14), none, .conv .u32 (.s 13)⟩,
 ⟨(some 15), none, .call (.c (.fn 96 [] [])) [(.s 12), (.s 14)] [] [] [] false⟩,
 ⟨(some 10), none, .mv (.s 15)⟩,
 ⟨(some 16), none, .extract (.s 10) 0⟩,
 ⟨(some 17), none, .extract (.s 10) 1⟩,
 ⟨(some 6), none, .mv (.s 16)⟩,
 ⟨(some 7), none, .mv (.s 17)⟩])
 (.seq
 (.region false [
 ⟨(some 18), none, .mv (.s 6)⟩,
 ⟨(some 19), none, .conv .u64 (.s 18)⟩,
 ⟨(some 20), none, .mv (.s 7)⟩,
 ⟨(some 21), none, .conv .u64 (.s 20)⟩,
 ⟨(some 4), none, .mv (.s 19)⟩,
 ⟨(some 5), none, .mv (.s 21)⟩])
 .ret))
 .skip)
 (.seq
 (.region false [
 ⟨(some 23), none, .mv (.s 0)⟩,
 ⟨(some 24), none, .mv (.s 1)⟩,
 ⟨(some 25), none, .call (.c (.fn 97 [] [])) [(.s 23), (.s 24)] [] [] [] false⟩,
 ⟨(some 22), none, .mv (.s 25)⟩,
 ⟨(some 26), none, .extract (.s 22) 0⟩,
 ⟨(some 27), none, .extract (.s 22) 1⟩,
 ⟨(some 8), none, .mv (.s 26)⟩,
 ⟨(some 9), none, .mv (.s 27)⟩])
 (.seq
 (.region false [
 ⟨(some 28), none, .mv (.s 8)⟩,
 ⟨(some 29), none, .mv (.s 9)⟩,
 ⟨(some 4), none, .mv (.s 28)⟩,
 ⟨(some 5), none, .mv (.s 29)⟩])
 .ret)))) }
def f52 : MFun := { nt := 48, np := 2, no := 1, res := [.slot 4], body :=
 (.seq
 (.region false [
 ⟨(some 4), none, .mv (.c .nilsl)⟩])
 (.seq
 (.seq
 (.region false [
 ⟨(some 9), none, .mv (.s 1)⟩,
 ⟨(some 10), none, .bin .lss .int (.s 9) (.c (.int .i64 0))⟩])
 (.cond (.s 10)
 (.region false [
 ⟨(some 11), none, .stop⟩,
 ⟨none, none, .stop⟩])
 .skip))
 (.seq
 (.region false [
 ⟨(some 13), none, .mv (.s 0)⟩,
 ⟨(some 14), none, .len (.s 13)⟩,
 ⟨(some 15), none, .conv .u64 (.s 14)⟩,
 ⟨(some 16), none, .mv (.s 1)⟩,
 ⟨(some 17), none, .conv .u64 (.s 16)⟩,
 ⟨(some 18), none, .call (.c (.fn 76 [] [])) [(.s 15), (.s 17)] [] [] [] false⟩,
 ⟨(some 12), none, .mv (.s 18)⟩,
 ⟨(some 19), none, .extract (.s 12) 0⟩,
 ⟨(some 20), none, .extract (.s 12) 1⟩,
 ⟨(some 5), none, .mv (.s 19)⟩,
 ⟨(some 6), none, .mv (.s 20)⟩])
 (.seq
 (.seq
 (.region false [
 ⟨(some 21), none, .mv (.s 5)⟩,
 ⟨(some 22), none, .bin .gtr .int (.s 21) (.c (.int .u64 0))⟩,
 ⟨(some 23), none, .mv (.s 22)⟩,
 ⟨(some 24), (some (23, false)), .mv (.s 6)⟩,
 ⟨(some 25), (some (23, false)), .bin .gtr .int (.s 24) (.c (.int .u64 9223372036854775807))⟩,
 ⟨(some 26), none, .pick (.s 23) (.c (.bool true)) (.s 25)⟩])
 (.cond (.s 26)
 (.region false [
 ⟨(some 27), none, .stop⟩,
 ⟨none, none, .stop⟩])
 .skip))
 (.seq
 (.region false [
 ⟨(some 28), none, .mv (.s 6)⟩,
 ⟨(some 29), none, .conv .i64 (.s 28)⟩,
 ⟨(some 30), none, .make 0 24 6 [.int .u8 0, .int .u8 0, .int .u8 0, .int .u8 0, .int .i64 0, .int .i64 0] (.s 29) (.s 29)⟩,
 ⟨(some 7), none, .mv (.s 30)⟩])
 (.seq
 (.region false [
 ⟨(some 31), none, .mv (.s 7)⟩,
 ⟨(some 32), none, .mv (.s 0)⟩,
 ⟨(some 33), none, .copy 6 0 none (.s 31) (.s 32)⟩,
 ⟨(some 8), none, .mv (.s 33)⟩])
 (.seq
 (.block 0
 (.loop [7, 8] [0]
 (.seq
 (.seq
 (.region false [
 ⟨(some 34), none, .mv (.s 8)⟩,
 ⟨(some 35), none, .mv (.s 7)⟩,
 ⟨(some 36), none, .len (.s 35)⟩,
 ⟨(some 37), none, .bin .lss .int (.s 34) (.s 36)⟩])
 (.cond (.s 37)
 .skip
 (.exit 0)))
 (.block 1
 (.region true [
 ⟨(some 38), none, .mv (.s 8)⟩,
 ⟨(some 39), none, .mv (.s 7)⟩,
 ⟨(some 40), none, .mv (.s 8)⟩,
 ⟨(some 41), none, .sliceS 6 (.s 39) (some (.s 40)) none⟩,
 ⟨(some 42), none, .mv (.s 7)⟩,
 ⟨(some 43), none, .mv (.s 8)⟩,
 ⟨(some 44), none, .sliceS 6 (.s 42) none (some (.s 43))⟩,
 ⟨(some 45), none, .copy 6 0 (some 0) (.s 41) (.s 44)⟩,
 ⟨(some 46), none, .bin .add .int (.s 38) (.s 45)⟩,
 ⟨(some 8), none, .mv (.s 46)⟩])))))
 (.seq
 (.region false [
 ⟨(some 47), none, .mv (.s 7)⟩,
 ⟨(some 4), none, .mv (.s 47)⟩])
 .ret)))))))) }
def f31 : MFun := { nt := 26, np := 1, no := 3, res := [.slot 2], body :=
 (.seq
 (.region false [
 ⟨(some 2), none, .mv (.c .nilsl)⟩])
 (.seq
 (.seq
 (.region false [
 ⟨(some 6), none, .mv (.s 0)⟩,
 ⟨(some 7), none, .bin .eql .ptr (.s 6) (.c .nilptr)⟩])
 (.cond (.s 7)
 (.seq
 (.region false [
 ⟨(some 2), none, .mv (.c .nilsl)⟩])
 .ret)
 .skip))
 (.seq
 (.region false [
 ⟨(some 3), none, .vnil 2 6⟩])
 (.seq
 (.seq
 (.region false [
 ⟨(some 8), none, .mv (.s 0)⟩,
 ⟨(some 9), none, .nilchk (.s 8)⟩,
 ⟨(some 10), none, .faddr 2 (.s 9)⟩,
 ⟨(some 11), none, .load none (some 0) (.s 10)⟩,
 ⟨(some 12), none, .rng 3 (.s 11)⟩])
 (.block 0
 (.loop [3, 12] [2, 3]
 (.seq
 (.region false [
 ⟨(some 13), none, .nxt (.s 12)⟩,
 ⟨(some 14), none, .extract (.s 13) 0⟩])
 (.seq
 (.cond (.s 14)
 .skip
 (.exit 0))
 (.block 1
 (.seq
 (.region false [
 ⟨(some 15), none, .ent (.s 12)⟩,
 ⟨(some 16), none, .extract (.s 15) 0⟩,
 ⟨(some 17), none, .extract (.s 15) 1⟩,
 ⟨(some 4), none, .alloc 4 [.int .u8 0, .int .u8 0, .int .u8 0, .int .u8 0, .int .i64 0, .int .i64 0]⟩,
 ⟨none, none, .store 6 4 [] (.s 4) (.s 16)⟩,
 ⟨(some 5), none, .mv (.s 17)⟩])
 (.region false [
 ⟨(some 18), none, .mv (.s 3)⟩,
 ⟨(some 19), none, .load (some 6) (some 4) (.s 4)⟩,
 ⟨(some 20), none, .lit none [] 1 6 [.int .u8 0, .int .u8 0, .int .u8 0, .int .u8 0, .int .i64 0, .int .i64 0] [(0, 6, (.s 19))]⟩,
 ⟨(some 21), none, .mv (.s 5)⟩,
 ⟨(some 22), none, .call (.c (.fn 52 [] [])) [(.s 20), (.s 21)] [] [] [] true⟩,
 ⟨(some 23), none, .append 24 6 2 none (.s 18) (.s 22)⟩,
 ⟨(some 3), none, .mv (.s 23)⟩]))))))))
 (.seq
 (.region false [
 ⟨(some 24), none, .mv (.s 3)⟩,
 ⟨(some 25), none, .call (.c (.fn 27 [] [])) [(.s 24)] [] [2] [] true⟩,
 ⟨(some 2), none, .mv (.s 25)⟩])
 .ret))))) }
def f14 : MFun := { nt := 47, np := 3, no := 4, res := [.slot 6, .slot 7, .slot 8], body :=
 (.seq
 (.region false [
 ⟨(some 3), none, .box 0 (.s 0)⟩,
 ⟨(some 6), none, .mv (.c .nilsl)⟩,
 ⟨(some 7), none, .mv (.c (.int .i64 0))⟩,
 ⟨(some 8), none, .mv (.c (.int .i64 0))⟩])
 (.seq
 (.region false [
 ⟨(some 15), none, .load (some 2) (some 0) (.s 3)⟩,
 ⟨(some 16), none, .mv (.s 1)⟩,
 ⟨(some 17), none, .call (.c (.fn 29 [] [])) [(.s 15), (.s 16)] [] [] [(1, 1), (2, 2)] true⟩,
 ⟨(some 9), none, .mv (.s 17)⟩])
 (.seq
 (.seq
 (.region false [
 ⟨(some 18), none, .mv (.s 9)⟩,
 ⟨(some 19), none, .bin .eql .ptr (.s 18) (.c .nilptr)⟩])
 (.cond (.s 19)
 (.seq
 (.region false [
 ⟨(some 6), none, .mv (.c .nilsl)⟩,
 ⟨(some 7), none, .mv (.c (.int .i64 0))⟩,
 ⟨(some 8), none, .mv (.c (.int .i64 1))⟩])
 .ret)
 .skip))
 (.seq
 (.seq
 (.region false [
 ⟨(some 21), none, .load (some 2) (some 0) (.s 3)⟩,
 ⟨(some 22), none, .mv (.s 2)⟩,
 ⟨(some 23), none, .call (.c (.fn 24 [] [])) [(.s 21), (.s 22)] [] [] [] false⟩,
 ⟨(some 20), none, .mv (.s 23)⟩,
 ⟨(some 24), none, .extract (.s 20) 0⟩,
 ⟨(some 25), none, .extract (.s 20) 1⟩,
 ⟨(some 10), none, .mv (.s 24)⟩,
 ⟨(some 11), none, .mv (.s 25)⟩])
 (.seq
 (.region false [
 ⟨(some 26), none, .mv (.s 11)⟩,
 ⟨(some 27), none, .bin .neq .int (.s 26) (.c (.int .i64 0))⟩])
 (.cond (.s 27)
 (.seq
 (.region false [
 ⟨(some 28), none, .mv (.s 10)⟩,
 ⟨(some 29), none, .mv (.s 11)⟩,
 ⟨(some 6), none, .mv (.c .nilsl)⟩,
 ⟨(some 7), none, .mv (.s 28)⟩,
 ⟨(some 8), none, .mv (.s 29)⟩])
 .ret)
 .skip)))
 (.seq
 (.seq
 (.region false [
 ⟨(some 30), none, .mv (.s 2)⟩,
 ⟨(some 31), none, .len (.s 30)⟩,
 ⟨(some 32), none, .mv (.c (.int .i64 0))⟩])
 (.block 0
 (.loop [9, 30, 31, 32] [1, 2]
 (.seq
 (.region false [
 ⟨(some 33), none, .bin .lss .int (.s 32) (.s 31)⟩])
 (.seq
 (.cond (.s 33)
 .skip
 (.exit 0))
 (.seq
 (.block 1
 (.seq
 (.region false [
 ⟨(some 34), none, .mv (.s 32)⟩,
 ⟨(some 35), none, .iaddrS 7 (.s 30) (.s 32)⟩,
 ⟨(some 36), none, .load (some 7) none (.s 35)⟩,
 ⟨(some 13), none, .alloc 3 [.bool false, .int .u8 0, .int .u8 0, .int .u8 0, .int .u8 0, .int .i64 0, .int .i64 0]⟩,
 ⟨(some 12), none, .mv (.s 34)⟩,
 ⟨none, none, .store 7 3 [] (.s 13) (.s 36)⟩])
 (.seq
 (.region false [
 ⟨(some 37), none, .mv (.s 9)⟩,
 ⟨(some 38), none, .load (some 7) (some 3) (.s 13)⟩,
 ⟨(some 39), none, .call (.c (.fn 30 [] [])) [(.s 37), (.s 38)] [1, 2] [] [] true⟩,
 ⟨(some 14), none, .mv (.s 39)⟩])
 (.seq
 (.region false [
 ⟨(some 40), none, .mv (.s 14)⟩,
 ⟨(some 41), none, .bin .neq .int (.s 40) (.c (.int .i64 0))⟩])
 (.cond (.s 41)
 (.seq
 (.region false [
 ⟨(some 42), none, .mv (.s 12)⟩,
 ⟨(some 43), none, .mv (.s 14)⟩,
 ⟨(some 6), none, .mv (.c .nilsl)⟩,
 ⟨(some 7), none, .mv (.s 42)⟩,
 ⟨(some 8), none, .mv (.s 43)⟩])
 .ret)
 .skip)))))
 (.region false [
 ⟨(some 44), none, .bin .add .int (.s 32) (.c (.int .i64 1))⟩,
 ⟨(some 32), none, .mv (.s 44)⟩])))))))
 (.seq
 (.region false [
 ⟨(some 45), none, .mv (.s 9)⟩,
 ⟨(some 46), none, .call (.c (.fn 31 [] [])) [(.s 45)] [1, 2] [] [] true⟩,
 ⟨(some 6), none, .mv (.s 46)⟩,
 ⟨(some 7), none, .mv (.c (.int .i64 0))⟩,
 ⟨(some 8), none, .mv (.c (.int .i64 0))⟩])
 .ret)))))) }
def f54 : MFun := { nt := 10, np := 1, no := 0, res := [.slot 2], body :=
 (.seq
 (.region false [
 ⟨(some 2), none, .mv (.c (.int .u64 0))⟩])
 (.seq
 (.region false [
 ⟨(some 3), none, .mv (.s 0)⟩,
 ⟨(some 4), none, .conv .u64 (.s 3)⟩,
 ⟨(some 5), none, .bin .shl .int (.s 4) (.c (.int .u64 1))⟩,
 ⟨(some 6), none, .mv (.s 0)⟩,
 ⟨(some 7), none, .bin .shr .int (.s 6) (.c (.int .u64 63))⟩,
 ⟨(some 8), none, .conv .u64 (.s 7)⟩,
 ⟨(some 9), none, .bin .xor .int (.s 5) (.s 8)⟩,
 ⟨(some 2), none, .mv (.s 9)⟩])
 .ret)) }
def f34 : MFun := { nt := 20, np := 1, no := 2, res := [.slot 2], body :=
 (.seq
 (.region false [
 ⟨(some 1), none, .box 0 (.s 0)⟩,
 ⟨(some 2), none, .mv (.c .nilsl)⟩])
 (.seq
 (.region false [
 ⟨(some 6), none, .faddr 0 (.s 1)⟩,
 ⟨(some 7), none, .sliceA 4 1 (some 0) (.s 6) none none⟩,
 ⟨(some 8), none, .call (.c (.fn 53 [] [])) [(.s 7)] [0] [] [(1, 1)] true⟩,
 ⟨(some 3), none, .mv (.s 8)⟩])
 (.seq
 (.seq
 (.region false [
 ⟨(some 9), none, .faddr 4 (.s 1)⟩,
 ⟨(some 10), none, .load (some 2) (some 0) (.s 9)⟩,
 ⟨(some 11), none, .mv (.c (.int .i64 0))⟩])
 (.block 0
 (.loop [3, 10, 11] [1]
 (.seq
 (.region false [
 ⟨(some 12), none, .bin .lss .int (.s 11) (.c (.int .i64 2))⟩])
 (.seq
 (.cond (.s 12)
 .skip
 (.exit 0))
 (.seq
 (.block 1
 (.seq
 (.region false [
 ⟨(some 13), none, .index 2 1 false (.s 10) (.s 11)⟩,
 ⟨(some 5), none, .mv (.s 13)⟩])
 (.region false [
 ⟨(some 14), none, .mv (.s 3)⟩,
 ⟨(some 15), none, .mv (.s 5)⟩,
 ⟨(some 16), none, .call (.c (.fn 54 [] [])) [(.s 15)] [] [] [] false⟩,
 ⟨(some 17), none, .call (.c (.fn 33 [] [])) [(.s 14), (.s 16)] [] [1] [] true⟩,
 ⟨(some 3), none, .mv (.s 17)⟩])))
 (.region false [
 ⟨(some 18), none, .bin .add .int (.s 11) (.c (.int .i64 1))⟩,
 ⟨(some 11), none, .mv (.s 18)⟩])))))))
 (.seq
 (.region false [
 ⟨(some 19), none, .mv (.s 3)⟩,
 ⟨(some 2), none, .mv (.s 19)⟩])
 .ret)))) }
def f17 : MFun := { nt := 29, np := 1, no := 2, res := [.slot 2], body :=
 (.seq
 (.region false [
 ⟨(some 2), none, .mv (.c .nilsl)⟩])
 (.seq
 (.region false [
 ⟨(some 7), none, .mv (.s 0)⟩,
 ⟨(some 8), none, .len (.s 7)⟩,
 ⟨(some 9), none, .conv .u64 (.s 8)⟩,
 ⟨(some 10), none, .call (.c (.fn 33 [] [])) [(.c .nilsl), (.s 9)] [] [] [(0, 0)] true⟩,
 ⟨(some 3), none, .mv (.s 10)⟩])
 (.seq
 (.seq
 (.region false [
 ⟨(some 11), none, .mv (.s 0)⟩,
 ⟨(some 12), none, .len (.s 11)⟩,
 ⟨(some 13), none, .mv (.c (.int .i64 0))⟩])
 (.block 0
 (.loop [3, 11, 12, 13] [0]
 (.seq
 (.region false [
 ⟨(some 14), none, .bin .lss .int (.s 13) (.s 12)⟩])
 (.seq
 (.cond (.s 14)
 .skip
 (.exit 0))
 (.seq
 (.block 1
 (.seq
 (.region false [
 ⟨(some 15), none, .iaddrS 7 (.s 11) (.s 13)⟩,
 ⟨(some 16), none, .load (some 7) none (.s 15)⟩,
 ⟨(some 5), none, .alloc 1 [.bool false, .int .u8 0, .int .u8 0, .int .u8 0, .int .u8 0, .int .i64 0, .int .i64 0]⟩,
 ⟨none, none, .store 7 1 [] (.s 5) (.s 16)⟩])
 (.seq
 (.region false [
 ⟨(some 6), none, .mv (.c (.int .u8 0))⟩])
 (.seq
 (.seq
 (.region false [
 ⟨(some 17), none, .faddr 0 (.s 5)⟩,
 ⟨(some 18), none, .load none (some 1) (.s 17)⟩])
 (.cond (.s 18)
 (.region false [
 ⟨(some 6), none, .mv (.c (.int .u8 1))⟩])
 .skip))
 (.region true [
 ⟨(some 19), none, .mv (.s 3)⟩,
 ⟨(some 20), none, .mv (.s 6)⟩,
 ⟨(some 21), none, .lit none [] 1 1 [.int .u8 0] [(0, 1, (.s 20))]⟩,
 ⟨(some 22), none, .append 1 1 0 none (.s 19) (.s 21)⟩,
 ⟨(some 23), none, .faddr 1 (.s 5)⟩,
 ⟨(some 24), none, .load (some 6) (some 1) (.s 23)⟩,
 ⟨(some 25), none, .call (.c (.fn 34 [] [])) [(.s 24)] [] [] [] true⟩,
 ⟨(some 26), none, .append 1 1 0 none (.s 22) (.s 25)⟩,
 ⟨(some 3), none, .mv (.s 26)⟩])))))
 (.region false [
 ⟨(some 27), none, .bin .add .int (.s 13) (.c (.int .i64 1))⟩,
 ⟨(some 13), none, .mv (.s 27)⟩])))))))
 (.seq
 (.region false [
 ⟨(some 28), none, .mv (.s 3)⟩,
 ⟨(some 2), none, .mv (.s 28)⟩])
 .ret)))) }
def f56 : MFun := { nt := 11, np := 1, no := 0, res := [.slot 2], body :=
 (.seq
 (.region false [
 ⟨(some 2), none, .mv (.c (.int .i64 0))⟩])
 (.seq
 (.region false [
 ⟨(some 3), none, .mv (.s 0)⟩,
 ⟨(some 4), none, .bin .shr .int (.s 3) (.c (.int .u64 1))⟩,
 ⟨(some 5), none, .conv .i64 (.s 4)⟩,
 ⟨(some 6), none, .mv (.s 0)⟩,
 ⟨(some 7), none, .bin .and .int (.s 6) (.c (.int .u64 1))⟩,
 ⟨(some 8), none, .conv .i64 (.s 7)⟩,
 ⟨(some 9), none, .un .neg (.s 8)⟩,
 ⟨(some 10), none, .bin .xor .int (.s 5) (.s 9)⟩,
 ⟨(some 2), none, .mv (.s 10)⟩])
 .ret)) }
def f38 : MFun := { nt := 44, np := 1, no := 2, res := [.cell 2 0 (some 6), .slot 3, .slot 4], body :=
 (.seq
 (.region false [
 ⟨(some 2), none, .alloc 0 [.int .u8 0, .int .u8 0, .int .u8 0, .int .u8 0, .int .i64 0, .int .i64 0]⟩,
 ⟨(some 3), none, .mv (.c (.int .i64 0))⟩,
 ⟨(some 4), none, .mv (.c (.bool false))⟩])
 (.seq
 (.region false [
 ⟨(some 5), none, .alloc 1 [.int .u8 0, .int .u8 0, .int .u8 0, .int .u8 0, .int .i64 0, .int .i64 0]⟩])
 (.seq
 (.seq
 (.region false [
 ⟨(some 11), none, .mv (.s 0)⟩,
 ⟨(some 12), none, .len (.s 11)⟩,
 ⟨(some 13), none, .bin .lss .int (.s 12) (.c (.int .i64 4))⟩])
 (.cond (.s 13)
 (.seq
 (.region false [
 ⟨(some 14), none, .load (some 6) (some 1) (.s 5)⟩,
 ⟨none, none, .store 6 0 [] (.s 2) (.s 14)⟩,
 ⟨(some 3), none, .mv (.c (.int .i64 0))⟩,
 ⟨(some 4), none, .mv (.c (.bool false))⟩])
 .ret)
 .skip))
 (.seq
 (.region false [
 ⟨(some 15), none, .faddr 0 (.s 5)⟩,
 ⟨(some 16), none, .sliceA 4 1 (some 1) (.s 15) none none⟩,
 ⟨(some 17), none, .mv (.s 0)⟩,
 ⟨(some 18), none, .copy 1 1 none (.s 16) (.s 17)⟩,
 ⟨(some 6), none, .mv (.s 18)⟩])
 (.seq
 (.seq
 (.region false [
 ⟨(some 19), none, .mv (.c (.int .i64 0))⟩])
 (.block 0
 (.loop [0, 2, 5, 6, 19] [0, 1]
 (.seq
 (.region false [
 ⟨(some 20), none, .bin .lss .int (.s 19) (.c (.int .i64 2))⟩])
 (.seq
 (.cond (.s 20)
 .skip
 (.exit 0))
 (.seq
 (.block 1
 (.seq
 (.region false [
 ⟨(some 21), none, .mv (.s 19)⟩,
 ⟨(some 7), none, .mv (.s 21)⟩])
 (.seq
 (.region false [
 ⟨(some 23), none, .mv (.s 0)⟩,
 ⟨(some 24), none, .mv (.s 6)⟩,
 ⟨(some 25), none, .sliceS 1 (.s 23) (some (.s 24)) none⟩,
 ⟨(some 26), none, .call (.c (.fn 37 [] [])) [(.s 25)] [] [] [] false⟩,
 ⟨(some 22), none, .mv (.s 26)⟩,
 ⟨(some 27), none, .extract (.s 22) 0⟩,
 ⟨(some 28), none, .extract (.s 22) 1⟩,
 ⟨(some 29), none, .extract (.s 22) 2⟩,
 ⟨(some 8), none, .mv (.s 27)⟩,
 ⟨(some 9), none, .mv (.s 28)⟩,
 ⟨(some 10), none, .mv (.s 29)⟩])
 (.seq
 (.seq
 (.region false [
 ⟨(some 30), none, .mv (.s 10)⟩,
 ⟨(some 31), none, .un .not (.s 30)⟩])
 (.cond (.s 31)
 (.seq
 (.region false [
 ⟨(some 32), none, .build [.int .u8 0, .int .u8 0, .int .u8 0, .int .u8 0, .int .i64 0, .int .i64 0] []⟩,
 ⟨none, none, .store 6 0 [] (.s 2) (.s 32)⟩,
 ⟨(some 3), none, .mv (.c (.int .i64 0))⟩,
 ⟨(some 4), none, .mv (.c (.bool false))⟩])
 .ret)
 .skip))
 (.seq
 (.region false [
 ⟨(some 33), none, .mv (.s 7)⟩,
 ⟨(some 34), none, .mv (.s 8)⟩,
 ⟨(some 35), none, .call (.c (.fn 56 [] [])) [(.s 34)] [] [] [] false⟩,
 ⟨(some 36), none, .faddr 4 (.s 5)⟩,
 ⟨(some 37), none, .iaddrA 2 1 (.s 36) (.s 33)⟩,
 ⟨none, none, .store 1 1 [] (.s 37) (.s 35)⟩])
 (.region false [
 ⟨(some 38), none, .mv (.s 6)⟩,
 ⟨(some 39), none, .mv (.s 9)⟩,
 ⟨(some 40), none, .bin .add .int (.s 38) (.s 39)⟩,
 ⟨(some 6), none, .mv (.s 40)⟩]))))))
 (.region false [
 ⟨(some 41), none, .bin .add .int (.s 19) (.c (.int .i64 1))⟩,
 ⟨(some 19), none, .mv (.s 41)⟩])))))))
 (.seq
 (.region false [
 ⟨(some 42), none, .load (some 6) (some 1) (.s 5)⟩,
 ⟨(some 43), none, .mv (.s 6)⟩,
 ⟨none, none, .store 6 0 [] (.s 2) (.s 42)⟩,
 ⟨(some 3), none, .mv (.s 43)⟩,
 ⟨(some 4), none, .mv (.c (.bool true))⟩])
 .ret)))))) }
def f19 : MFun := { nt := 68, np := 1, no := 2, res := [.slot 2, .slot 3], body :=
 (.seq
 (.region false [
 ⟨(some 2), none, .mv (.c .nilsl)⟩,
 ⟨(some 3), none, .mv (.c (.bool false))⟩])
 (.seq
 (.region false [
 ⟨(some 12), none, .mv (.s 0)⟩,
 ⟨(some 13), none, .call (.c (.fn 37 [] [])) [(.s 12)] [] [] [] false⟩,
 ⟨(some 11), none, .mv (.s 13)⟩,
 ⟨(some 14), none, .extract (.s 11) 0⟩,
 ⟨(some 15), none, .extract (.s 11) 1⟩,
 ⟨(some 16), none, .extract (.s 11) 2⟩,
 ⟨(some 4), none, .mv (.s 14)⟩,
 ⟨(some 5), none, .mv (.s 15)⟩,
 ⟨(some 6), none, .mv (.s 16)⟩])
 (.seq
 (.seq
 (.region false [
 ⟨(some 17), none, .mv (.s 0)⟩,
 ⟨(some 18), none, .mv (.s 5)⟩,
 ⟨(some 19), none, .sliceS 1 (.s 17) (some (.s 18)) none⟩,
 ⟨(some 0), none, .mv (.s 19)⟩])
 (.seq
 (.region false [
 ⟨(some 20), none, .mv (.s 6)⟩,
 ⟨(some 21), none, .un .not (.s 20)⟩,
 ⟨(some 22), none, .mv (.s 21)⟩,
 ⟨(some 23), (some (22, false)), .mv (.s 4)⟩,
 ⟨(some 24), (some (22, false)), .mv (.s 0)⟩,
 ⟨(some 25), (some (22, false)), .len (.s 24)⟩,
 ⟨(some 26), (some (22, false)), .conv .u64 (.s 25)⟩,
 ⟨(some 27), (some (22, false)), .bin .gtr .int (.s 23) (.s 26)⟩,
 ⟨(some 28), none, .pick (.s 22) (.c (.bool true)) (.s 27)⟩])
 (.cond (.s 28)
 (.seq
 (.region false [
 ⟨(some 2), none, .mv (.c .nilsl)⟩,
 ⟨(some 3), none, .mv (.c (.bool false))⟩])
 .ret)
 .skip)))
 (.seq
 (.region false [
 ⟨(some 7), none, .vnil 0 7⟩])
 (.seq
 (.seq
 (.region false [
 ⟨(some 29), none, .mv (.s 4)⟩,
 ⟨(some 30), none, .mv (.c (.int .u64 0))⟩])
 (.block 0
 (.loop [0, 7, 29, 30] [0]
 (.seq
 (.region false [
 ⟨(some 31), none, .bin .lss .int (.s 30) (.s 29)⟩])
 (.seq
 (.cond (.s 31)
 .skip
 (.exit 0))
 (.seq
 (.block 1
 (.seq
 (.seq
 (.region false [
 ⟨(some 32), none, .mv (.s 0)⟩,
 ⟨(some 33), none, .len (.s 32)⟩,
 ⟨(some 34), none, .bin .eql .int (.s 33) (.c (.int .i64 0))⟩,
 ⟨(some 35), none, .mv (.s 34)⟩,
 ⟨(some 36), (some (35, false)), .mv (.s 0)⟩,
 ⟨(some 37), (some (35, false)), .iaddrS 1 (.s 36) (.c (.int .i64 0))⟩,
 ⟨(some 38), (some (35, false)), .load none none (.s 37)⟩,
 ⟨(some 39), (some (35, false)), .bin .gtr .int (.s 38) (.c (.int .u8 1))⟩,
 ⟨(some 40), none, .pick (.s 35) (.c (.bool true)) (.s 39)⟩])
 (.cond (.s 40)
 (.seq
 (.region false [
 ⟨(some 2), none, .mv (.c .nilsl)⟩,
 ⟨(some 3), none, .mv (.c (.bool false))⟩])
 .ret)
 .skip))
 (.seq
 (.region false [
 ⟨(some 42), none, .mv (.s 0)⟩,
 ⟨(some 43), none, .sliceS 1 (.s 42) (some (.c (.int .i64 1))) none⟩,
 ⟨(some 44), none, .call (.c (.fn 38 [] [])) [(.s 43)] [] [] [] false⟩,
 ⟨(some 41), none, .mv (.s 44)⟩,
 ⟨(some 45), none, .extract (.s 41) 0⟩,
 ⟨(some 46), none, .extract (.s 41) 1⟩,
 ⟨(some 47), none, .extract (.s 41) 2⟩,
 ⟨(some 8), none, .alloc 1 [.int .u8 0, .int .u8 0, .int .u8 0, .int .u8 0, .int .i64 0, .int .i64 0]⟩,
 ⟨none, none, .store 6 1 [] (.s 8) (.s 45)⟩,
 ⟨(some 9), none, .mv (.s 46)⟩,
 ⟨(some 10), none, .mv (.s 47)⟩])
 (.seq
 (.seq
 (.region false [
 ⟨(some 48), none, .mv (.s 10)⟩,
 ⟨(some 49), none, .un .not (.s 48)⟩])
 (.cond (.s 49)
 (.seq
 (.region false [
 ⟨(some 2), none, .mv (.c .nilsl)⟩,
 ⟨(some 3), none, .mv (.c (.bool false))⟩])
 .ret)
 .skip))
 (.seq
 (.region true [
 ⟨(some 50), none, .mv (.s 7)⟩,
 ⟨(some 51), none, .mv (.s 0)⟩,
 ⟨(some 52), none, .iaddrS 1 (.s 51) (.c (.int .i64 0))⟩,
 ⟨(some 53), none, .load none none (.s 52)⟩,
 ⟨(some 54), none, .bin .eql .int (.s 53) (.c (.int .u8 1))⟩,
 ⟨(some 55), none, .load (some 6) (some 1) (.s 8)⟩,
 ⟨(some 56), none, .build [.bool false, .int .u8 0, .int .u8 0, .int .u8 0, .int .u8 0, .int .i64 0, .int .i64 0] [(0, 1, (.s 54)), (1, 6, (.s 55))]⟩,
 ⟨(some 57), none, .lit none [] 1 7 [.bool false, .int .u8 0, .int .u8 0, .int .u8 0, .int .u8 0, .int .i64 0, .int .i64 0] [(0, 7, (.s 56))]⟩,
 ⟨(some 58), none, .append 32 7 0 none (.s 50) (.s 57)⟩,
 ⟨(some 7), none, .mv (.s 58)⟩])
 (.region false [
 ⟨(some 59), none, .mv (.s 0)⟩,
 ⟨(some 60), none, .mv (.s 9)⟩,
 ⟨(some 61), none, .bin .add .int (.c (.int .i64 1)) (.s 60)⟩,
 ⟨(some 62), none, .sliceS 1 (.s 59) (some (.s 61)) none⟩,
 ⟨(some 0), none, .mv (.s 62)⟩]))))))
 (.region false [
 ⟨(some 63), none, .bin .add .int (.s 30) (.c (.int .u64 1))⟩,
 ⟨(some 30), none, .mv (.s 63)⟩])))))))
 (.seq
 (.seq
 (.region false [
 ⟨(some 64), none, .mv (.s 0)⟩,
 ⟨(some 65), none, .len (.s 64)⟩,
 ⟨(some 66), none, .bin .gtr .int (.s 65) (.c (.int .i64 0))⟩])
 (.cond (.s 66)
 (.seq
 (.region false [
 ⟨(some 2), none, .mv (.c .nilsl)⟩,
 ⟨(some 3), none, .mv (.c (.bool false))⟩])
 .ret)
 .skip))
 (.seq
 (.region false [
 ⟨(some 67), none, .mv (.s 7)⟩,
 ⟨(some 2), none, .mv (.s 67)⟩,
 ⟨(some 3), none, .mv (.c (.bool true))⟩])
 .ret))))))) }
def f9 : MFun := { nt := 136, np := 0, no := 2, res := [.slot 0], body :=
 (.seq
 (.region false [
 ⟨(some 0), none, .mv (.c (.bool false))⟩])
 (.seq
 (.region false [
 ⟨(some 17), none, .lit none [] 1 1 [.int .i64 0] [(0, 1, (.c (.int .i64 4)))]⟩,
 ⟨(some 18), none, .build [.nilsl, .nilsl] [(0, 1, (.s 17))]⟩,
 ⟨(some 19), none, .lit none [] 1 2 [.nilsl, .nilsl] [(0, 2, (.s 18))]⟩,
 ⟨(some 20), none, .build [.nilsl, .int .i64 0] [(0, 1, (.s 19)), (1, 1, (.c (.int .i64 1)))]⟩,
 ⟨(some 1), none, .alloc 0 [.nilsl, .int .i64 0]⟩,
 ⟨none, none, .store 2 0 [] (.s 1) (.s 20)⟩])
 (.seq
 (.region false [
 ⟨(some 21), none, .build [.int .u8 0, .int .u8 0, .int .u8 0, .int .u8 0] [(0, 1, (.c (.int .u8 1)))]⟩,
 ⟨(some 22), none, .build [.int .u8 0, .int .u8 0, .int .u8 0, .int .u8 0, .int .i64 0, .int .i64 0] [(0, 4, (.s 21))]⟩,
 ⟨(some 2), none, .alloc 1 [.int .u8 0, .int .u8 0, .int .u8 0, .int .u8 0, .int .i64 0, .int .i64 0]⟩,
 ⟨none, none, .store 6 1 [] (.s 2) (.s 22)⟩])
 (.seq
 (.region false [
 ⟨(some 23), none, .faddr 4 (.s 2)⟩,
 ⟨(some 24), none, .iaddrA 2 1 (.s 23) (.c (.int .i64 0))⟩,
 ⟨none, none, .store 1 1 [] (.s 24) (.c (.int .i64 (-1)))⟩])
 (.seq
 (.region false [
 ⟨(some 25), none, .load (some 6) (some 1) (.s 2)⟩,
 ⟨(some 26), none, .build [.bool false, .int .u8 0, .int .u8 0, .int .u8 0, .int .u8 0, .int .i64 0, .int .i64 0] [(1, 6, (.s 25))]⟩,
 ⟨(some 27), none, .load (some 6) (some 1) (.s 2)⟩,
 ⟨(some 28), none, .build [.bool false, .int .u8 0, .int .u8 0, .int .u8 0, .int .u8 0, .int .i64 0, .int .i64 0] [(0, 1, (.c (.bool true))), (1, 6, (.s 27))]⟩,
 ⟨(some 29), none, .load (some 6) (some 1) (.s 2)⟩,
 ⟨(some 30), none, .build [.bool false, .int .u8 0, .int .u8 0, .int .u8 0, .int .u8 0, .int .i64 0, .int .i64 0] [(1, 6, (.s 29))]⟩,
 ⟨(some 31), none, .lit none [] 3 7 [.bool false, .int .u8 0, .int .u8 0, .int .u8 0, .int .u8 0, .int .i64 0, .int .i64 0] [(0, 7, (.s 26)), (7, 7, (.s 28)), (14, 7, (.s 30))]⟩,
 ⟨(some 3), none, .mv (.s 31)⟩])
 (.seq
 (.region false [
 ⟨(some 33), none, .load (some 2) (some 0) (.s 1)⟩,
 ⟨(some 34), none, .mv (.s 3)⟩,
 ⟨(some 35), none, .call (.c (.fn 14 [] [])) [(.s 33), (.c .nilsl), (.s 34)] [] [] [] true⟩,
 ⟨(some 32), none, .mv (.s 35)⟩,
 ⟨(some 36), none, .extract (.s 32) 0⟩,
 ⟨(some 37), none, .extract (.s 32) 1⟩,
 ⟨(some 38), none, .extract (.s 32) 2⟩,
 ⟨(some 4), none, .mv (.s 36)⟩,
 ⟨(some 5), none, .mv (.s 37)⟩,
 ⟨(some 6), none, .mv (.s 38)⟩])
 (.seq
 (.region true [
 ⟨(some 40), none, .load (some 2) (some 0) (.s 1)⟩,
 ⟨(some 41), none, .mv (.s 3)⟩,
 ⟨(some 42), none, .sliceS 7 (.s 41) (some (.c (.int .i64 1))) none⟩,
 ⟨(some 43), none, .call (.c (.fn 14 [] [])) [(.s 40), (.c .nilsl), (.s 42)] [] [] [] true⟩,
 ⟨(some 39), none, .mv (.s 43)⟩,
 ⟨(some 44), none, .extract (.s 39) 0⟩,
 ⟨(some 45), none, .extract (.s 39) 1⟩,
 ⟨(some 46), none, .extract (.s 39) 2⟩,
 ⟨(some 7), none, .mv (.s 44)⟩,
 ⟨(some 8), none, .mv (.s 45)⟩,
 ⟨(some 9), none, .mv (.s 46)⟩])
 (.seq
 (.region false [
 ⟨(some 47), none, .mv (.s 3)⟩,
 ⟨(some 48), none, .sliceS 7 (.s 47) none (some (.c (.int .i64 1)))⟩,
 ⟨(some 49), none, .call (.c (.fn 17 [] [])) [(.s 48)] [] [] [] true⟩,
 ⟨(some 10), none, .mv (.s 49)⟩])
 (.seq
 (.region false [
 ⟨(some 51), none, .mv (.s 10)⟩,
 ⟨(some 52), none, .call (.c (.fn 19 [] [])) [(.s 51)] [] [] [] true⟩,
 ⟨(some 50), none, .mv (.s 52)⟩,
 ⟨(some 53), none, .extract (.s 50) 0⟩,
 ⟨(some 54), none, .extract (.s 50) 1⟩,
 ⟨(some 11), none, .mv (.s 53)⟩,
 ⟨(some 12), none, .mv (.s 54)⟩])
 (.seq
 (.region false [
 ⟨(some 56), none, .lit none [] 1 1 [.int .u8 0] [(0, 1, (.c (.int .u8 1)))]⟩,
 ⟨(some 57), none, .call (.c (.fn 19 [] [])) [(.s 56)] [] [] [] true⟩,
 ⟨(some 55), none, .mv (.s 57)⟩,
 ⟨(some 58), none, .extract (.s 55) 0⟩,
 ⟨(some 59), none, .extract (.s 55) 1⟩,
 ⟨(some 13), none, .mv (.s 58)⟩,
 ⟨(some 14), none, .mv (.s 59)⟩])
 (.seq
 (.region false [
 ⟨(some 61), none, .load (some 2) (some 0) (.s 1)⟩,
 ⟨(some 62), none, .load (some 6) (some 1) (.s 2)⟩,
 ⟨(some 63), none, .build [.bool false, .int .u8 0, .int .u8 0, .int .u8 0, .int .u8 0, .int .i64 0, .int .i64 0] [(1, 6, (.s 62))]⟩,
 ⟨(some 64), none, .build [.int .u8 0, .int .u8 0, .int .u8 0, .int .u8 0] [(0, 1, (.c (.int .u8 9)))]⟩,
 ⟨(some 65), none, .build [.int .u8 0, .int .u8 0, .int .u8 0, .int .u8 0, .int .i64 0, .int .i64 0] [(0, 4, (.s 64))]⟩,
 ⟨(some 66), none, .build [.bool false, .int .u8 0, .int .u8 0, .int .u8 0, .int .u8 0, .int .i64 0, .int .i64 0] [(1, 6, (.s 65))]⟩,
 ⟨(some 67), none, .lit none [] 2 7 [.bool false, .int .u8 0, .int .u8 0, .int .u8 0, .int .u8 0, .int .i64 0, .int .i64 0] [(0, 7, (.s 63)), (7, 7, (.s 66))]⟩,
 ⟨(some 68), none, .call (.c (.fn 24 [] [])) [(.s 61), (.s 67)] [] [] [] false⟩,
 ⟨(some 60), none, .mv (.s 68)⟩,
 ⟨(some 69), none, .extract (.s 60) 0⟩,
 ⟨(some 70), none, .extract (.s 60) 1⟩,
 ⟨(some 15), none, .mv (.s 69)⟩,
 ⟨(some 16), none, .mv (.s 70)⟩])
 (.seq
 (.region true [
 ⟨(some 71), none, .mv (.s 4)⟩,
 ⟨(some 72), none, .len (.s 71)⟩,
 ⟨(some 73), none, .bin .eql .int (.s 72) (.c (.int .i64 1))⟩,
 ⟨(some 74), none, .mv (.s 73)⟩,
 ⟨(some 75), (some (74, true)), .mv (.s 4)⟩,
 ⟨(some 76), (some (74, true)), .iaddrS 6 (.s 75) (.c (.int .i64 0))⟩,
 ⟨(some 77), (some (74, true)), .load (some 6) none (.s 76)⟩,
 ⟨(some 78), (some (74, true)), .load (some 6) (some 1) (.s 2)⟩,
 ⟨(some 79), (some (74, true)), .bin .eql (.agg [some .u8, some .u8, some .u8, some .u8, some .i64, some .i64]) (.s 77) (.s 78)⟩,
 ⟨(some 80), none, .pick (.s 74) (.s 79) (.c (.bool false))⟩,
 ⟨(some 81), none, .mv (.s 80)⟩,
 ⟨(some 82), (some (81, true)), .mv (.s 5)⟩,
 ⟨(some 83), (some (81, true)), .bin .eql .int (.s 82) (.c (.int .i64 0))⟩,
 ⟨(some 84), none, .pick (.s 81) (.s 83) (.c (.bool false))⟩,
 ⟨(some 85), none, .mv (.s 84)⟩,
 ⟨(some 86), (some (85, true)), .mv (.s 6)⟩,
 ⟨(some 87), (some (85, true)), .bin .eql .int (.s 86) (.c (.int .i64 0))⟩,
 ⟨(some 88), none, .pick (.s 85) (.s 87) (.c (.bool false))⟩,
 ⟨(some 89), none, .mv (.s 88)⟩,
 ⟨(some 90), (some (89, true)), .mv (.s 8)⟩,
 ⟨(some 91), (some (89, true)), .bin .eql .int (.s 90) (.c (.int .i64 0))⟩,
 ⟨(some 92), none, .pick (.s 89) (.s 91) (.c (.bool false))⟩,
 ⟨(some 93), none, .mv (.s 92)⟩,
 ⟨(some 94), (some (93, true)), .mv (.s 9)⟩,
 ⟨(some 95), (some (93, true)), .bin .eql .int (.s 94) (.c (.int .i64 8))⟩,
 ⟨(some 96), none, .pick (.s 93) (.s 95) (.c (.bool false))⟩,
 ⟨(some 97), none, .mv (.s 96)⟩,
 ⟨(some 98), (some (97, true)), .mv (.s 3)⟩,
 ⟨(some 99), (some (97, true)), .sliceS 7 (.s 98) none (some (.c (.int .i64 2)))⟩,
 ⟨(some 100), (some (97, true)), .call (.c (.fn 11 [] [])) [(.s 99)] [] [] [] true⟩,
 ⟨(some 101), (some (97, true)), .len (.s 100)⟩,
 ⟨(some 102), (some (97, true)), .bin .eql .int (.s 101) (.c (.int .i64 0))⟩,
 ⟨(some 103), none, .pick (.s 97) (.s 102) (.c (.bool false))⟩,
 ⟨(some 104), none, .mv (.s 103)⟩,
 ⟨(some 105), (some (104, true)), .mv (.s 3)⟩,
 ⟨(some 106), (some (104, true)), .call (.c (.fn 11 [] [])) [(.s 105)] [] [] [] true⟩,
 ⟨(some 107), (some (104, true)), .len (.s 106)⟩,
 ⟨(some 108), (some (104, true)), .bin .eql .int (.s 107) (.c (.int .i64 1))⟩,
 ⟨(some 109), none, .pick (.s 104) (.s 108) (.c (.bool false))⟩,
 ⟨(some 110), none, .mv (.s 109)⟩,
 ⟨(some 111), (some (110, true)), .mv (.s 10)⟩,
 ⟨(some 112), (some (110, true)), .b2s none (.s 111)⟩,
 ⟨(some 113), (some (110, true)), .bin .eql .str (.s 112) (.c (.str [1, 0, 1, 0, 0, 0, 1, 0]))⟩,
 ⟨(some 114), none, .pick (.s 110) (.s 113) (.c (.bool false))⟩,
 ⟨(some 115), none, .mv (.s 114)⟩,
 ⟨(some 116), (some (115, true)), .mv (.s 12)⟩,
 ⟨(some 117), none, .pick (.s 115) (.s 116) (.c (.bool false))⟩,
 ⟨(some 118), none, .mv (.s 117)⟩,
 ⟨(some 119), (some (118, true)), .mv (.s 11)⟩,
 ⟨(some 120), (some (118, true)), .mv (.s 3)⟩,
 ⟨(some 121), (some (118, true)), .sliceS 7 (.s 120) none (some (.c (.int .i64 1)))⟩,
 ⟨(some 122), (some (118, true)), .call (.c (.fn 13 [] [])) [(.s 119), (.s 121)] [] [] [] false⟩,
 ⟨(some 123), none, .pick (.s 118) (.s 122) (.c (.bool false))⟩,
 ⟨(some 124), none, .mv (.s 123)⟩,
 ⟨(some 125), (some (124, true)), .mv (.s 14)⟩,
 ⟨(some 126), (some (124, true)), .un .not (.s 125)⟩,
 ⟨(some 127), none, .pick (.s 124) (.s 126) (.c (.bool false))⟩,
 ⟨(some 128), none, .mv (.s 127)⟩,
 ⟨(some 129), (some (128, true)), .mv (.s 15)⟩,
 ⟨(some 130), (some (128, true)), .bin .eql .int (.s 129) (.c (.int .i64 1))⟩,
 ⟨(some 131), none, .pick (.s 128) (.s 130) (.c (.bool false))⟩,
 ⟨(some 132), none, .mv (.s 131)⟩,
 ⟨(some 133), (some (132, true)), .mv (.s 16)⟩,
 ⟨(some 134), (some (132, true)), .bin .eql .int (.s 133) (.c (.int .i64 7))⟩,
 ⟨(some 135), none, .pick (.s 132) (.s 134) (.c (.bool false))⟩,
 ⟨(some 0), none, .mv (.s 135)⟩])
 .ret)))))))))))) }
def f15 : MFun := { nt := 26, np := 2, no := 0, res := [.slot 4], body :=
 (.seq
 (.region false [
 ⟨(some 4), none, .mv (.c (.bool false))⟩])
 (.seq
 (.seq
 (.region false [
 ⟨(some 6), none, .mv (.s 0)⟩,
 ⟨(some 7), none, .len (.s 6)⟩,
 ⟨(some 8), none, .mv (.s 1)⟩,
 ⟨(some 9), none, .len (.s 8)⟩,
 ⟨(some 10), none, .bin .neq .int (.s 7) (.s 9)⟩])
 (.cond (.s 10)
 (.seq
 (.region false [
 ⟨(some 4), none, .mv (.c (.bool false))⟩])
 .ret)
 .skip))
 (.seq
 (.seq
 (.region false [
 ⟨(some 5), none, .mv (.c (.int .i64 0))⟩])
 (.block 0
 (.loop [0, 1, 5] []
 (.seq
 (.seq
 (.region false [
 ⟨(some 11), none, .mv (.s 5)⟩,
 ⟨(some 12), none, .mv (.s 0)⟩,
 ⟨(some 13), none, .len (.s 12)⟩,
 ⟨(some 14), none, .bin .lss .int (.s 11) (.s 13)⟩])
 (.cond (.s 14)
 .skip
 (.exit 0)))
 (.seq
 (.block 1
 (.seq
 (.region true [
 ⟨(some 17), none, .mv (.s 0)⟩,
 ⟨(some 18), none, .mv (.s 5)⟩,
 ⟨(some 19), none, .iaddrS 6 (.s 17) (.s 18)⟩,
 ⟨(some 20), none, .load (some 6) none (.s 19)⟩,
 ⟨(some 21), none, .mv (.s 1)⟩,
 ⟨(some 22), none, .mv (.s 5)⟩,
 ⟨(some 23), none, .iaddrS 6 (.s 21) (.s 22)⟩,
 ⟨(some 24), none, .load (some 6) none (.s 23)⟩,
 ⟨(some 25), none, .bin .neq (.agg [some .u8, some .u8, some .u8, some .u8, some .i64, some .i64]) (.s 20) (.s 24)⟩])
 (.cond (.s 25)
 (.seq
 (.region false [
 ⟨(some 4), none, .mv (.c (.bool false))⟩])
 .ret)
 .skip)))
 (.region false [
 ⟨(some 15), none, .mv (.s 5)⟩,
 ⟨(some 16), none, .bin .add .int (.s 15) (.c (.int .i64 1))⟩,
 ⟨(some 5), none, .mv (.s 16)⟩]))))))
 (.seq
 (.region false [
 ⟨(some 4), none, .mv (.c (.bool true))⟩])
 .ret)))) }
def f32 : MFun := { nt := 12, np := 1, no := 0, res := [.slot 2], body :=
 (.seq
 (.region false [
 ⟨(some 2), none, .mv (.c (.int .u64 0))⟩])
 (.seq
 (.seq
 (.region false [
 ⟨(some 3), none, .mv (.s 0)⟩,
 ⟨(some 4), none, .bin .lss .int (.s 3) (.c (.int .i64 0))⟩])
 (.cond (.s 4)
 (.seq
 (.region false [
 ⟨(some 5), none, .mv (.s 0)⟩,
 ⟨(some 6), none, .bin .add .int (.s 5) (.c (.int .i64 1))⟩,
 ⟨(some 7), none, .un .neg (.s 6)⟩,
 ⟨(some 8), none, .conv .u64 (.s 7)⟩,
 ⟨(some 9), none, .bin .add .int (.s 8) (.c (.int .u64 1))⟩,
 ⟨(some 2), none, .mv (.s 9)⟩])
 .ret)
 .skip))
 (.seq
 (.region false [
 ⟨(some 10), none, .mv (.s 0)⟩,
 ⟨(some 11), none, .conv .u64 (.s 10)⟩,
 ⟨(some 2), none, .mv (.s 11)⟩])
 .ret))) }
def f16 : MFun := { nt := 45, np := 1, no := 2, res := [.cell 2 0 (some 3)], body :=
 (.seq
 (.region false [
 ⟨(some 2), none, .alloc 0 [.int .i64 0, .int .i64 0, .bool false]⟩])
 (.seq
 (.region false [
 ⟨(some 3), none, .alloc 1 [.int .i64 0, .int .i64 0, .bool false]⟩])
 (.seq
 (.seq
 (.region false [
 ⟨(some 4), none, .mv (.c (.int .i64 0))⟩])
 (.block 0
 (.loop [0, 2, 3, 4] [0, 1]
 (.seq
 (.seq
 (.region false [
 ⟨(some 7), none, .mv (.s 4)⟩,
 ⟨(some 8), none, .mv (.s 0)⟩,
 ⟨(some 9), none, .len (.s 8)⟩,
 ⟨(some 10), none, .bin .lss .int (.s 7) (.s 9)⟩])
 (.cond (.s 10)
 .skip
 (.exit 0)))
 (.seq
 (.block 1
 (.seq
 (.region false [
 ⟨(some 5), none, .mv (.c (.int .i64 0))⟩])
 (.block 2
 (.loop [0, 2, 3, 4, 5] [0, 1]
 (.seq
 (.seq
 (.region false [
 ⟨(some 13), none, .mv (.s 5)⟩,
 ⟨(some 14), none, .bin .lss .int (.s 13) (.c (.int .i64 2))⟩])
 (.cond (.s 14)
 .skip
 (.exit 2)))
 (.seq
 (.block 3
 (.seq
 (.region false [
 ⟨(some 17), none, .mv (.s 0)⟩,
 ⟨(some 18), none, .mv (.s 4)⟩,
 ⟨(some 19), none, .mv (.s 5)⟩,
 ⟨(some 20), none, .iaddrS 6 (.s 17) (.s 18)⟩,
 ⟨(some 21), none, .faddr 4 (.s 20)⟩,
 ⟨(some 22), none, .iaddrA 2 1 (.s 21) (.s 19)⟩,
 ⟨(some 23), none, .load none none (.s 22)⟩,
 ⟨(some 24), none, .call (.c (.fn 32 [] [])) [(.s 23)] [] [] [] false⟩,
 ⟨(some 6), none, .mv (.s 24)⟩])
 (.seq
 (.seq
 (.region false [
 ⟨(some 25), none, .mv (.s 6)⟩,
 ⟨(some 26), none, .mv (.s 5)⟩,
 ⟨(some 27), none, .faddr 0 (.s 3)⟩,
 ⟨(some 28), none, .iaddrA 2 1 (.s 27) (.s 26)⟩,
 ⟨(some 29), none, .load none (some 1) (.s 28)⟩,
 ⟨(some 30), none, .bin .sub .int (.c (.int .i64 2305843009213693952)) (.s 29)⟩,
 ⟨(some 31), none, .conv .u64 (.s 30)⟩,
 ⟨(some 32), none, .bin .gtr .int (.s 25) (.s 31)⟩])
 (.cond (.s 32)
 (.seq
 (.region false [
 ⟨(some 33), none, .build [.int .i64 0, .int .i64 0, .bool false] []⟩,
 ⟨none, none, .store 3 0 [] (.s 2) (.s 33)⟩])
 .ret)
 .skip))
 (.region false [
 ⟨(some 34), none, .mv (.s 5)⟩,
 ⟨(some 35), none, .faddr 0 (.s 3)⟩,
 ⟨(some 36), none, .iaddrA 2 1 (.s 35) (.s 34)⟩,
 ⟨(some 37), none, .load none (some 1) (.s 36)⟩,
 ⟨(some 38), none, .mv (.s 6)⟩,
 ⟨(some 39), none, .conv .i64 (.s 38)⟩,
 ⟨(some 40), none, .bin .add .int (.s 37) (.s 39)⟩,
 ⟨(some 41), none, .faddr 0 (.s 3)⟩,
 ⟨(some 42), none, .iaddrA 2 1 (.s 41) (.s 34)⟩,
 ⟨none, none, .store 1 1 [] (.s 42) (.s 40)⟩]))))
 (.region false [
 ⟨(some 15), none, .mv (.s 5)⟩,
 ⟨(some 16), none, .bin .add .int (.s 15) (.c (.int .i64 1))⟩,
 ⟨(some 5), none, .mv (.s 16)⟩])))))))
 (.region false [
 ⟨(some 11), none, .mv (.s 4)⟩,
 ⟨(some 12), none, .bin .add .int (.s 11) (.c (.int .i64 1))⟩,
 ⟨(some 4), none, .mv (.s 12)⟩]))))))
 (.seq
 (.region false [
 ⟨(some 43), none, .faddr 2 (.s 3)⟩,
 ⟨none, none, .store 1 1 [] (.s 43) (.c (.bool true))⟩])
 (.seq
 (.region false [
 ⟨(some 44), none, .load (some 3) (some 1) (.s 3)⟩,
 ⟨none, none, .store 3 0 [] (.s 2) (.s 44)⟩])
 .ret))))) }
def f28 : MFun := { nt := 17, np := 1, no := 1, res := [.slot 2], body :=
 (.seq
 (.region false [
 ⟨(some 1), none, .box 0 (.s 0)⟩,
 ⟨(some 2), none, .mv (.c (.int .u32 0))⟩])
 (.seq
 (.region false [
 ⟨(some 3), none, .mv (.c (.int .u32 0))⟩])
 (.seq
 (.seq
 (.region false [
 ⟨(some 4), none, .mv (.c (.int .i64 0))⟩])
 (.block 0
 (.loop [1, 3, 4] [0]
 (.seq
 (.seq
 (.region false [
 ⟨(some 5), none, .mv (.s 4)⟩,
 ⟨(some 6), none, .bin .lss .int (.s 5) (.c (.int .i64 4))⟩])
 (.cond (.s 6)
 .skip
 (.exit 0)))
 (.seq
 (.block 1
 (.region false [
 ⟨(some 9), none, .mv (.s 3)⟩,
 ⟨(some 10), none, .bin .mul .int (.s 9) (.c (.int .u32 256))⟩,
 ⟨(some 11), none, .mv (.s 4)⟩,
 ⟨(some 12), none, .iaddrA 4 1 (.s 1) (.s 11)⟩,
 ⟨(some 13), none, .load none (some 0) (.s 12)⟩,
 ⟨(some 14), none, .conv .u32 (.s 13)⟩,
 ⟨(some 15), none, .bin .add .int (.s 10) (.s 14)⟩,
 ⟨(some 3), none, .mv (.s 15)⟩]))
 (.region false [
 ⟨(some 7), none, .mv (.s 4)⟩,
 ⟨(some 8), none, .bin .add .int (.s 7) (.c (.int .i64 1))⟩,
 ⟨(some 4), none, .mv (.s 8)⟩]))))))
 (.seq
 (.region false [
 ⟨(some 16), none, .mv (.s 3)⟩,
 ⟨(some 2), none, .mv (.s 16)⟩])
 .ret)))) }
def f12 : MFun := { nt := 40, np := 2, no := 2, res := [.slot 4], body :=
 (.seq
 (.region false [
 ⟨(some 2), none, .box 0 (.s 0)⟩,
 ⟨(some 3), none, .box 1 (.s 1)⟩,
 ⟨(some 4), none, .mv (.c (.bool false))⟩])
 (.seq
 (.seq
 (.region false [
 ⟨(some 6), none, .faddr 0 (.s 2)⟩,
 ⟨(some 7), none, .load (some 4) (some 0) (.s 6)⟩,
 ⟨(some 8), none, .faddr 0 (.s 3)⟩,
 ⟨(some 9), none, .load (some 4) (some 1) (.s 8)⟩,
 ⟨(some 10), none, .bin .neq (.agg [some .u8, some .u8, some .u8, some .u8]) (.s 7) (.s 9)⟩])
 (.cond (.s 10)
 (.seq
 (.region true [
 ⟨(some 11), none, .faddr 0 (.s 2)⟩,
 ⟨(some 12), none, .load (some 4) (some 0) (.s 11)⟩,
 ⟨(some 13), none, .call (.c (.fn 28 [] [])) [(.s 12)] [] [] [] false⟩,
 ⟨(some 14), none, .faddr 0 (.s 3)⟩,
 ⟨(some 15), none, .load (some 4) (some 1) (.s 14)⟩,
 ⟨(some 16), none, .call (.c (.fn 28 [] [])) [(.s 15)] [] [] [] false⟩,
 ⟨(some 17), none, .bin .lss .int (.s 13) (.s 16)⟩,
 ⟨(some 4), none, .mv (.s 17)⟩])
 .ret)
 .skip))
 (.seq
 (.seq
 (.region false [
 ⟨(some 5), none, .mv (.c (.int .i64 0))⟩])
 (.block 0
 (.loop [2, 3, 5] [0, 1]
 (.seq
 (.seq
 (.region false [
 ⟨(some 18), none, .mv (.s 5)⟩,
 ⟨(some 19), none, .bin .lss .int (.s 18) (.c (.int .i64 2))⟩])
 (.cond (.s 19)
 .skip
 (.exit 0)))
 (.seq
 (.block 1
 (.seq
 (.region true [
 ⟨(some 22), none, .mv (.s 5)⟩,
 ⟨(some 23), none, .faddr 4 (.s 2)⟩,
 ⟨(some 24), none, .iaddrA 2 1 (.s 23) (.s 22)⟩,
 ⟨(some 25), none, .load none (some 0) (.s 24)⟩,
 ⟨(some 26), none, .mv (.s 5)⟩,
 ⟨(some 27), none, .faddr 4 (.s 3)⟩,
 ⟨(some 28), none, .iaddrA 2 1 (.s 27) (.s 26)⟩,
 ⟨(some 29), none, .load none (some 1) (.s 28)⟩,
 ⟨(some 30), none, .bin .neq .int (.s 25) (.s 29)⟩])
 (.cond (.s 30)
 (.seq
 (.region true [
 ⟨(some 31), none, .mv (.s 5)⟩,
 ⟨(some 32), none, .faddr 4 (.s 2)⟩,
 ⟨(some 33), none, .iaddrA 2 1 (.s 32) (.s 31)⟩,
 ⟨(some 34), none, .load none (some 0) (.s 33)⟩,
 ⟨(some 35), none, .mv (.s 5)⟩,
 ⟨(some 36), none, .faddr 4 (.s 3)⟩,
 ⟨(some 37), none, .iaddrA 2 1 (.s 36) (.s 35)⟩,
 ⟨(some 38), none, .load none (some 1) (.s 37)⟩,
 ⟨(some 39), none, .bin .lss .int (.s 34) (.s 38)⟩,
 ⟨(some 4), none, .mv (.s 39)⟩])
 .ret)
 .skip)))
 (.region false [
 ⟨(some 20), none, .mv (.s 5)⟩,
 ⟨(some 21), none, .bin .add .int (.s 20) (.c (.int .i64 1))⟩,
 ⟨(some 5), none, .mv (.s 21)⟩]))))))
 (.seq
 (.region false [
 ⟨(some 4), none, .mv (.c (.bool false))⟩])
 .ret)))) }
def f4 : MFun := { nt := 162, np := 1, no := 2, res := [.slot 2], body :=
 (.seq
 (.region false [
 ⟨(some 1), none, .box 0 (.s 0)⟩,
 ⟨(some 2), none, .mv (.c (.bool false))⟩])
 (.seq
 (.seq
 (.region false [
 ⟨(some 13), none, .faddr 0 (.s 1)⟩,
 ⟨(some 14), none, .load (some 2) (some 0) (.s 13)⟩,
 ⟨(some 15), none, .call (.c (.fn 8 [] [])) [(.s 14)] [] [] [] false⟩,
 ⟨(some 16), none, .un .not (.s 15)⟩,
 ⟨(some 17), none, .mv (.s 16)⟩,
 ⟨(some 18), (some (17, false)), .faddr 2 (.s 1)⟩,
 ⟨(some 19), (some (17, false)), .load none (some 0) (.s 18)⟩,
 ⟨(some 20), (some (17, false)), .len (.s 19)⟩,
 ⟨(some 21), (some (17, false)), .bin .gtr .int (.s 20) (.c (.int .i64 45))⟩,
 ⟨(some 22), none, .pick (.s 17) (.c (.bool true)) (.s 21)⟩,
 ⟨(some 23), none, .mv (.s 22)⟩,
 ⟨(some 24), (some (23, false)), .faddr 3 (.s 1)⟩,
 ⟨(some 25), (some (23, false)), .load none (some 0) (.s 24)⟩,
 ⟨(some 26), (some (23, false)), .len (.s 25)⟩,
 ⟨(some 27), (some (23, false)), .bin .gtr .int (.s 26) (.c (.int .i64 45))⟩,
 ⟨(some 28), none, .pick (.s 23) (.c (.bool true)) (.s 27)⟩])
 (.cond (.s 28)
 (.seq
 (.region false [
 ⟨(some 29), none, .call (.c (.fn 9 [] [])) [] [] [] [] false⟩,
 ⟨(some 2), none, .mv (.s 29)⟩])
 .ret)
 .skip))
 (.seq
 (.region false [
 ⟨(some 30), none, .faddr 3 (.s 1)⟩,
 ⟨(some 31), none, .load none (some 0) (.s 30)⟩,
 ⟨(some 32), none, .call (.c (.fn 11 [] [])) [(.s 31)] [] [] [] true⟩,
 ⟨(some 3), none, .mv (.s 32)⟩])
 (.seq
 (.seq
 (.region false [
 ⟨(some 4), none, .mv (.c (.int .i64 1))⟩])
 (.block 0
 (.loop [1, 3, 4] [0]
 (.seq
 (.seq
 (.region false [
 ⟨(some 33), none, .mv (.s 4)⟩,
 ⟨(some 34), none, .mv (.s 3)⟩,
 ⟨(some 35), none, .len (.s 34)⟩,
 ⟨(some 36), none, .bin .lss .int (.s 33) (.s 35)⟩])
 (.cond (.s 36)
 .skip
 (.exit 0)))
 (.seq
 (.block 1
 (.seq
 (.region true [
 ⟨(some 39), none, .mv (.s 3)⟩,
 ⟨(some 40), none, .mv (.s 4)⟩,
 ⟨(some 41), none, .iaddrS 7 (.s 39) (.s 40)⟩,
 ⟨(some 42), none, .faddr 1 (.s 41)⟩,
 ⟨(some 43), none, .load (some 6) none (.s 42)⟩,
 ⟨(some 44), none, .mv (.s 3)⟩,
 ⟨(some 45), none, .mv (.s 4)⟩,
 ⟨(some 46), none, .bin .sub .int (.s 45) (.c (.int .i64 1))⟩,
 ⟨(some 47), none, .iaddrS 7 (.s 44) (.s 46)⟩,
 ⟨(some 48), none, .faddr 1 (.s 47)⟩,
 ⟨(some 49), none, .load (some 6) none (.s 48)⟩,
 ⟨(some 50), none, .call (.c (.fn 12 [] [])) [(.s 43), (.s 49)] [] [] [] false⟩,
 ⟨(some 51), none, .mv (.s 50)⟩,
 ⟨(some 52), (some (51, false)), .mv (.s 3)⟩,
 ⟨(some 53), (some (51, false)), .mv (.s 4)⟩,
 ⟨(some 54), (some (51, false)), .iaddrS 7 (.s 52) (.s 53)⟩,
 ⟨(some 55), (some (51, false)), .faddr 1 (.s 54)⟩,
 ⟨(some 56), (some (51, false)), .load (some 6) none (.s 55)⟩,
 ⟨(some 57), (some (51, false)), .mv (.s 3)⟩,
 ⟨(some 58), (some (51, false)), .mv (.s 4)⟩,
 ⟨(some 59), (some (51, false)), .bin .sub .int (.s 58) (.c (.int .i64 1))⟩,
 ⟨(some 60), (some (51, false)), .iaddrS 7 (.s 57) (.s 59)⟩,
 ⟨(some 61), (some (51, false)), .faddr 1 (.s 60)⟩,
 ⟨(some 62), (some (51, false)), .load (some 6) none (.s 61)⟩,
 ⟨(some 63), (some (51, false)), .bin .eql (.agg [some .u8, some .u8, some .u8, some .u8, some .i64, some .i64]) (.s 56) (.s 62)⟩,
 ⟨(some 64), (some (51, false)), .mv (.s 63)⟩,
 ⟨(some 65), (some (64, true)), .mv (.s 3)⟩,
 ⟨(some 66), (some (64, true)), .mv (.s 4)⟩,
 ⟨(some 67), (some (64, true)), .iaddrS 7 (.s 65) (.s 66)⟩,
 ⟨(some 68), (some (64, true)), .faddr 0 (.s 67)⟩,
 ⟨(some 69), (some (64, true)), .load none none (.s 68)⟩,
 ⟨(some 70), (some (64, true)), .mv (.s 3)⟩,
 ⟨(some 71), (some (64, true)), .mv (.s 4)⟩,
 ⟨(some 72), (some (64, true)), .bin .sub .int (.s 71) (.c (.int .i64 1))⟩,
 ⟨(some 73), (some (64, true)), .iaddrS 7 (.s 70) (.s 72)⟩,
 ⟨(some 74), (some (64, true)), .faddr 0 (.s 73)⟩,
 ⟨(some 75), (some (64, true)), .load none none (.s 74)⟩,
 ⟨(some 76), (some (64, true)), .bin .neq .bool (.s 69) (.s 75)⟩,
 ⟨(some 77), (some (51, false)), .pick (.s 64) (.s 76) (.c (.bool false))⟩,
 ⟨(some 78), none, .pick (.s 51) (.c (.bool true)) (.s 77)⟩])
 (.cond (.s 78)
 (.seq
 (.region false [
 ⟨(some 2), none, .mv (.c (.bool false))⟩])
 .ret)
 .skip)))
 (.region false [
 ⟨(some 37), none, .mv (.s 4)⟩,
 ⟨(some 38), none, .bin .add .int (.s 37) (.c (.int .i64 1))⟩,
 ⟨(some 4), none, .mv (.s 38)⟩]))))))
 (.seq
 (.seq
 (.region false [
 ⟨(some 79), none, .mv (.s 3)⟩,
 ⟨(some 80), none, .len (.s 79)⟩,
 ⟨(some 81), none, .faddr 3 (.s 1)⟩,
 ⟨(some 82), none, .load none (some 0) (.s 81)⟩,
 ⟨(some 83), none, .len (.s 82)⟩,
 ⟨(some 84), none, .bin .gtr .int (.s 80) (.s 83)⟩,
 ⟨(some 85), none, .mv (.s 84)⟩,
 ⟨(some 86), (some (85, false)), .mv (.s 3)⟩,
 ⟨(some 87), (some (85, false)), .call (.c (.fn 11 [] [])) [(.s 86)] [] [] [] true⟩,
 ⟨(some 88), (some (85, false)), .mv (.s 3)⟩,
 ⟨(some 89), (some (85, false)), .call (.c (.fn 13 [] [])) [(.s 87), (.s 88)] [] [] [] false⟩,
 ⟨(some 90), (some (85, false)), .un .not (.s 89)⟩,
 ⟨(some 91), none, .pick (.s 85) (.c (.bool true)) (.s 90)⟩])
 (.cond (.s 91)
 (.seq
 (.region false [
 ⟨(some 2), none, .mv (.c (.bool false))⟩])
 .ret)
 .skip))
 (.seq
 (.region false [
 ⟨(some 93), none, .faddr 0 (.s 1)⟩,
 ⟨(some 94), none, .load (some 2) (some 0) (.s 93)⟩,
 ⟨(some 95), none, .faddr 2 (.s 1)⟩,
 ⟨(some 96), none, .load none (some 0) (.s 95)⟩,
 ⟨(some 97), none, .faddr 3 (.s 1)⟩,
 ⟨(some 98), none, .load none (some 0) (.s 97)⟩,
 ⟨(some 99), none, .call (.c (.fn 14 [] [])) [(.s 94), (.s 96), (.s 98)] [] [] [] true⟩,
 ⟨(some 92), none, .mv (.s 99)⟩,
 ⟨(some 100), none, .extract (.s 92) 0⟩,
 ⟨(some 101), none, .extract (.s 92) 1⟩,
 ⟨(some 102), none, .extract (.s 92) 2⟩,
 ⟨(some 5), none, .mv (.s 100)⟩,
 ⟨(some 6), none, .mv (.s 101)⟩,
 ⟨(some 7), none, .mv (.s 102)⟩])
 (.seq
 (.region false [
 ⟨(some 104), none, .faddr 0 (.s 1)⟩,
 ⟨(some 105), none, .load (some 2) (some 0) (.s 104)⟩,
 ⟨(some 106), none, .faddr 2 (.s 1)⟩,
 ⟨(some 107), none, .load none (some 0) (.s 106)⟩,
 ⟨(some 108), none, .mv (.s 3)⟩,
 ⟨(some 109), none, .call (.c (.fn 14 [] [])) [(.s 105), (.s 107), (.s 108)] [] [] [] true⟩,
 ⟨(some 103), none, .mv (.s 109)⟩,
 ⟨(some 110), none, .extract (.s 103) 0⟩,
 ⟨(some 111), none, .extract (.s 103) 1⟩,
 ⟨(some 112), none, .extract (.s 103) 2⟩,
 ⟨(some 8), none, .mv (.s 110)⟩,
 ⟨(some 9), none, .mv (.s 111)⟩,
 ⟨(some 10), none, .mv (.s 112)⟩])
 (.seq
 (.seq
 (.region false [
 ⟨(some 113), none, .mv (.s 7)⟩,
 ⟨(some 114), none, .bin .neq .int (.s 113) (.c (.int .i64 0))⟩])
 (.cond (.s 114)
 (.seq
 (.region false [
 ⟨(some 115), none, .call (.c (.fn 9 [] [])) [] [] [] [] false⟩,
 ⟨(some 2), none, .mv (.s 115)⟩])
 .ret)
 .skip))
 (.seq
 (.seq
 (.region false [
 ⟨(some 116), none, .mv (.s 10)⟩,
 ⟨(some 117), none, .bin .eql .int (.s 116) (.c (.int .i64 0))⟩])
 (.cond (.s 117)
 (.seq
 (.region false [
 ⟨(some 118), none, .mv (.s 5)⟩,
 ⟨(some 119), none, .mv (.s 8)⟩,
 ⟨(some 120), none, .call (.c (.fn 15 [] [])) [(.s 118), (.s 119)] [] [] [] false⟩,
 ⟨(some 121), none, .mv (.s 120)⟩,
 ⟨(some 122), (some (121, true)), .call (.c (.fn 9 [] [])) [] [] [] [] false⟩,
 ⟨(some 123), none, .pick (.s 121) (.s 122) (.c (.bool false))⟩,
 ⟨(some 2), none, .mv (.s 123)⟩])
 .ret)
 .skip))
 (.seq
 (.region false [
 ⟨(some 124), none, .lit (some 1) [] 0 6 [.int .u8 0, .int .u8 0, .int .u8 0, .int .u8 0, .int .i64 0, .int .i64 0] []⟩,
 ⟨(some 125), none, .faddr 2 (.s 1)⟩,
 ⟨(some 126), none, .load none (some 0) (.s 125)⟩,
 ⟨(some 127), none, .append 24 6 1 none (.s 124) (.s 126)⟩,
 ⟨(some 11), none, .mv (.s 127)⟩])
 (.seq
 (.seq
 (.region false [
 ⟨(some 12), none, .mv (.c (.int .i64 0))⟩])
 (.block 2
 (.loop [1, 10, 11, 12] [0, 1]
 (.seq
 (.seq
 (.region false [
 ⟨(some 128), none, .mv (.s 12)⟩,
 ⟨(some 129), none, .faddr 3 (.s 1)⟩,
 ⟨(some 130), none, .load none (some 0) (.s 129)⟩,
 ⟨(some 131), none, .len (.s 130)⟩,
 ⟨(some 132), none, .bin .lss .int (.s 128) (.s 131)⟩])
 (.cond (.s 132)
 .skip
 (.exit 2)))
 (.seq
 (.block 3
 (.seq
 (.region false [
 ⟨(some 135), none, .faddr 3 (.s 1)⟩,
 ⟨(some 136), none, .load none (some 0) (.s 135)⟩,
 ⟨(some 137), none, .mv (.s 12)⟩,
 ⟨(some 138), none, .iaddrS 7 (.s 136) (.s 137)⟩,
 ⟨(some 139), none, .faddr 0 (.s 138)⟩,
 ⟨(some 140), none, .load none none (.s 139)⟩,
 ⟨(some 141), none, .un .not (.s 140)⟩])
 (.cond (.s 141)
 (.region false [
 ⟨(some 142), none, .mv (.s 11)⟩,
 ⟨(some 143), none, .faddr 3 (.s 1)⟩,
 ⟨(some 144), none, .load none (some 0) (.s 143)⟩,
 ⟨(some 145), none, .mv (.s 12)⟩,
 ⟨(some 146), none, .iaddrS 7 (.s 144) (.s 145)⟩,
 ⟨(some 147), none, .faddr 1 (.s 146)⟩,
 ⟨(some 148), none, .load (some 6) none (.s 147)⟩,
 ⟨(some 149), none, .lit none [] 1 6 [.int .u8 0, .int .u8 0, .int .u8 0, .int .u8 0, .int .i64 0, .int .i64 0] [(0, 6, (.s 148))]⟩,
 ⟨(some 150), none, .append 24 6 1 none (.s 142) (.s 149)⟩,
 ⟨(some 11), none, .mv (.s 150)⟩])
 .skip)))
 (.region false [
 ⟨(some 133), none, .mv (.s 12)⟩,
 ⟨(some 134), none, .bin .add .int (.s 133) (.c (.int .i64 1))⟩,
 ⟨(some 12), none, .mv (.s 134)⟩]))))))
 (.seq
 (.region false [
 ⟨(some 151), none, .mv (.s 10)⟩,
 ⟨(some 152), none, .bin .eql .int (.s 151) (.c (.int .i64 9))⟩,
 ⟨(some 153), none, .mv (.s 152)⟩,
 ⟨(some 154), (some (153, true)), .mv (.s 11)⟩,
 ⟨(some 155), (some (153, true)), .call (.c (.fn 16 [] [])) [(.s 154)] [] [1] [] false⟩,
 ⟨(some 156), (some (153, true)), .field 2 none (.s 155)⟩,
 ⟨(some 157), (some (153, true)), .un .not (.s 156)⟩,
 ⟨(some 158), none, .pick (.s 153) (.s 157) (.c (.bool false))⟩,
 ⟨(some 159), none, .mv (.s 158)⟩,
 ⟨(some 160), (some (159, true)), .call (.c (.fn 9 [] [])) [] [] [] [] false⟩,
 ⟨(some 161), none, .pick (.s 159) (.s 160) (.c (.bool false))⟩,
 ⟨(some 2), none, .mv (.s 161)⟩])
 .ret)))))))))))) }
end Mf
theorem mf23_ok : chkFun Try.prog Mf.f23 Try.f23 = true := by kernel_rfl
theorem mf8_ok : chkFun Try.prog Mf.f8 Try.f8 = true := by kernel_rfl
theorem mf46_ok : chkFun Try.prog Mf.f46 Try.f46 = true := by kernel_rfl
theorem mf67_ok : chkFun Try.prog Mf.f67 Try.f67 = true := by kernel_rfl
theorem mf89_ok : chkFun Try.prog Mf.f89 Try.f89 = true := by kernel_rfl
theorem mf68_ok : chkFun Try.prog Mf.f68 Try.f68 = true := by kernel_rfl
theorem mf69_ok : chkFun Try.prog Mf.f69 Try.f69 = true := by kernel_rfl
theorem mf103_ok : chkFun Try.prog Mf.f103 Try.f103 = true := by kernel_rfl
theorem mf90_ok : chkFun Try.prog Mf.f90 Try.f90 = true := by kernel_rfl
theorem mf70_ok : chkFun Try.prog Mf.f70 Try.f70 = true := by kernel_rfl
theorem mf48_ok : chkFun Try.prog Mf.f48 Try.f48 = true := by kernel_rfl
theorem mf27_ok : chkFun Try.prog Mf.f27 Try.f27 = true := by kernel_rfl
theorem mf11_ok : chkFun Try.prog Mf.f11 Try.f11 = true := by kernel_rfl
theorem mf13_ok : chkFun Try.prog Mf.f13 Try.f13 = true := by kernel_rfl
theorem mf71_ok : chkFun Try.prog Mf.f71 Try.f71 = true := by kernel_rfl
theorem mf91_ok : chkFun Try.prog Mf.f91 Try.f91 = true := by kernel_rfl
theorem mf92_ok : chkFun Try.prog Mf.f92 Try.f92 = true := by kernel_rfl
theorem mf72_ok : chkFun Try.prog Mf.f72 Try.f72 = true := by kernel_rfl
theorem mf49_ok : chkFun Try.prog Mf.f49 Try.f49 = true := by kernel_rfl
theorem mf78_ok : chkFun Try.prog Mf.f78 Try.f78 = true := by kernel_rfl
theorem mf61_ok : chkFun Try.prog Mf.f61 Try.f61 = true := by kernel_rfl
theorem mf62_ok : chkFun Try.prog Mf.f62 Try.f62 = true := by kernel_rfl
theorem mf43_ok : chkFun Try.prog Mf.f43 Try.f43 = true := by kernel_rfl
theorem mf24_ok : chkFun Try.prog Mf.f24 Try.f24 = true := by kernel_rfl
theorem mf75_ok : chkFun Try.prog Mf.f75 Try.f75 = true := by kernel_rfl
theorem mf51_ok : chkFun Try.prog Mf.f51 Try.f51 = true := by kernel_rfl
theorem mf30_ok : chkFun Try.prog Mf.f30 Try.f30 = true := by kernel_rfl
theorem mf37_ok : chkFun Try.prog Mf.f37 Try.f37 = true := by kernel_rfl
theorem mf93_ok : chkFun Try.prog Mf.f93 Try.f93 = true := by kernel_rfl
theorem mf104_ok : chkFun Try.prog Mf.f104 Try.f104 = true := by kernel_rfl
theorem mf94_ok : chkFun Try.prog Mf.f94 Try.f94 = true := by kernel_rfl
theorem mf73_ok : chkFun Try.prog Mf.f73 Try.f73 = true := by kernel_rfl
theorem mf53_ok : chkFun Try.prog Mf.f53 Try.f53 = true := by kernel_rfl
theorem mf33_ok : chkFun Try.prog Mf.f33 Try.f33 = true := by kernel_rfl
theorem mf95_ok : chkFun Try.prog Mf.f95 Try.f95 = true := by kernel_rfl
theorem mf74_ok : chkFun Try.prog Mf.f74 Try.f74 = true := by kernel_rfl
theorem mf50_ok : chkFun Try.prog Mf.f50 Try.f50 = true := by kernel_rfl
theorem mf29_ok : chkFun Try.prog Mf.f29 Try.f29 = true := by kernel_rfl
theorem mf96_ok : chkFun Try.prog Mf.f96 Try.f96 = true := by kernel_rfl
theorem mf97_ok : chkFun Try.prog Mf.f97 Try.f97 = true := by kernel_rfl
theorem mf76_ok : chkFun Try.prog Mf.f76 Try.f76 = true := by kernel_rfl
theorem mf52_ok : chkFun Try.prog Mf.f52 Try.f52 = true := by kernel_rfl
theorem mf31_ok : chkFun Try.prog Mf.f31 Try.f31 = true := by kernel_rfl
theorem mf14_ok : chkFun Try.prog Mf.f14 Try.f14 = true := by kernel_rfl
theorem mf54_ok : chkFun Try.prog Mf.f54 Try.f54 = true := by kernel_rfl
theorem mf34_ok : chkFun Try.prog Mf.f34 Try.f34 = true := by kernel_rfl
theorem mf17_ok : chkFun Try.prog Mf.f17 Try.f17 = true := by kernel_rfl
theorem mf56_ok : chkFun Try.prog Mf.f56 Try.f56 = true := by kernel_rfl
theorem mf38_ok : chkFun Try.prog Mf.f38 Try.f38 = true := by kernel_rfl
theorem mf19_ok : chkFun Try.prog Mf.f19 Try.f19 = true := by kernel_rfl
theorem mf9_ok : chkFun Try.prog Mf.f9 Try.f9 = true := by kernel_rfl
theorem mf15_ok : chkFun Try.prog Mf.f15 Try.f15 = true := by kernel_rfl
theorem mf32_ok : chkFun Try.prog Mf.f32 Try.f32 = true := by kernel_rfl
theorem mf16_ok : chkFun Try.prog Mf.f16 Try.f16 = true := by kernel_rfl
theorem mf28_ok : chkFun Try.prog Mf.f28 Try.f28 = true := by kernel_rfl
theorem mf12_ok : chkFun Try.prog Mf.f12 Try.f12 = true := by kernel_rfl
theorem mf4_ok : chkFun Try.prog Mf.f4 Try.f4 = true := by kernel_rfl
theorem mf53o_ok : chkFun Try.prog Mf.f53o Try.f53 = true := by kernel_rfl
def fnTab : FuncId → Option MFun
 | 23 => some Mf.f23
 | 8 => some Mf.f8
 | 46 => some Mf.f46
 | 67 => some Mf.f67
 | 89 => some Mf.f89
 | 68 => some Mf.f68
 | 69 => some Mf.f69
 | 103 => some Mf.f103
 | 90 => some Mf.f90
 | 70 => some Mf.f70
 | 48 => some Mf.f48
 | 27 => some Mf.f27
 | 11 => some Mf.f11
 | 13 => some Mf.f13
 | 71 => some Mf.f71
 | 91 => some Mf.f91
 | 92 => some Mf.f92
 | 72 => some Mf.f72
 | 49 => some Mf.f49
 | 78 => some Mf.f78
 | 61 => some Mf.f61
 | 62 => some Mf.f62
 | 43 => some Mf.f43
 | 24 => some Mf.f24
 | 75 => some Mf.f75
 | 51 => some Mf.f51
 | 30 => some Mf.f30
 | 37 => some Mf.f37
 | 93 => some Mf.f93
 | 104 => some Mf.f104
 | 94 => some Mf.f94
 | 73 => some Mf.f73
 | 53 => some Mf.f53
 | 33 => some Mf.f33
 | 95 => some Mf.f95
 | 74 => some Mf.f74
 | 50 => some Mf.f50
 | 29 => some Mf.f29
 | 96 => some Mf.f96
 | 97 => some Mf.f97
 | 76 => some Mf.f76
 | 52 => some Mf.f52
 | 14 => some Mf.f14
 | 54 => some Mf.f54
 | 34 => some Mf.f34
 | 17 => some Mf.f17
 | 56 => some Mf.f56
 | 38 => some Mf.f38
 | 19 => some Mf.f19
 | 9 => some Mf.f9
 | 15 => some Mf.f15
 | 32 => some Mf.f32
 | 16 => some Mf.f16
 | 28 => some Mf.f28
 | 12 => some Mf.f12
 | 4 => some Mf.f4
 | _ => none
theorem fnTab_ok : ∀ f mf, fnTab f = some mf → ∃ fn, Try.prog.funcs[f]? = some fn ∧ chkFun Try.prog mf fn = true := by
 intro f mf h
 unfold fnTab at h
 split at h
 · cases h; exact ⟨Try.f23, Try.func23, mf23_ok⟩
 · cases h; exact ⟨Try.f8, Try.func8, mf8_ok⟩
 · cases h; exact ⟨Try.f46, Try.func46, mf46_ok⟩
 · cases h; exact ⟨Try.f67, Try.func67, mf67_ok⟩
 · cases h; exact ⟨Try.f89, Try.func89, mf89_ok⟩
 · cases h; exact ⟨Try.f68, Try.func68, mf68_ok⟩
 · cases h; exact ⟨Try.f69, Try.func69, mf69_ok⟩
 · cases h; exact ⟨Try.f103, Try.func103, mf103_ok⟩
 · cases h; exact ⟨Try.f90, Try.func90, mf90_ok⟩
 · cases h; exact ⟨Try.f70, Try.func70, mf70_ok⟩
 · cases h; exact ⟨Try.f48, Try.func48, mf48_ok⟩
 · cases h; exact ⟨Try.f27, Try.func27, mf27_ok⟩
 · cases h; exact ⟨Try.f11, Try.func11, mf11_ok⟩
 · cases h; exact ⟨Try.f13, Try.func13, mf13_ok⟩
 · cases h; exact ⟨Try.f71, Try.func71, mf71_ok⟩
 · cases h; exact ⟨Try.f91, Try.func91, mf91_ok⟩
 · cases h; exact ⟨Try.f92, Try.func92, mf92_ok⟩
 · cases h; exact ⟨Try.f72, Try.func72, mf72_ok⟩
 · cases h; exact ⟨Try.f49, Try.func49, mf49_ok⟩
 · cases h; exact ⟨Try.f78, Try.func78, mf78_ok⟩
 · cases h; exact ⟨Try.f61, Try.func61, mf61_ok⟩
 · cases h; exact ⟨Try.f62, Try.func62, mf62_ok⟩
 · cases h; exact ⟨Try.f43, Try.func43, mf43_ok⟩
 · cases h; exact ⟨Try.f24, Try.func24, mf24_ok⟩
 · cases h; exact ⟨Try.f75, Try.func75, mf75_ok⟩
 · cases h; exact ⟨Try.f51, Try.func51, mf51_ok⟩
 · cases h; exact ⟨Try.f30, Try.func30, mf30_ok⟩
 · cases h; exact ⟨Try.f37, Try.func37, mf37_ok⟩
 · cases h; exact ⟨Try.f93, Try.func93, mf93_ok⟩
 · cases h; exact ⟨Try.f104, Try.func104, mf104_ok⟩
 · cases h; exact ⟨Try.f94, Try.func94, mf94_ok⟩
 · cases h; exact ⟨Try.f73, Try.func73, mf73_ok⟩
 · cases h; exact ⟨Try.f53, Try.func53, mf53_ok⟩
 · cases h; exact ⟨Try.f33, Try.func33, mf33_ok⟩
 · cases h; exact ⟨Try.f95, Try.func95, mf95_ok⟩
 · cases h; exact ⟨Try.f74, Try.func74, mf74_ok⟩
 · cases h; exact ⟨Try.f50, Try.func50, mf50_ok⟩
 · cases h; exact ⟨Try.f29, Try.func29, mf29_ok⟩
 · cases h; exact ⟨Try.f96, Try.func96, mf96_ok⟩
 · cases h; exact ⟨Try.f97, Try.func97, mf97_ok⟩
 · cases h; exact ⟨Try.f76, Try.func76, mf76_ok⟩
 · cases h; exact ⟨Try.f52, Try.func52, mf52_ok⟩
 · cases h; exact ⟨Try.f14, Try.func14, mf14_ok⟩
 · cases h; exact ⟨Try.f54, Try.func54, mf54_ok⟩
 · cases h; exact ⟨Try.f34, Try.func34, mf34_ok⟩
 · cases h; exact ⟨Try.f17, Try.func17, mf17_ok⟩
 · cases h; exact ⟨Try.f56, Try.func56, mf56_ok⟩
 · cases h; exact ⟨Try.f38, Try.func38, mf38_ok⟩
 · cases h; exact ⟨Try.f19, Try.func19, mf19_ok⟩
 · cases h; exact ⟨Try.f9, Try.func9, mf9_ok⟩
 · cases h; exact ⟨Try.f15, Try.func15, mf15_ok⟩
 · cases h; exact ⟨Try.f32, Try.func32, mf32_ok⟩
 · cases h; exact ⟨Try.f16, Try.func16, mf16_ok⟩
 · cases h; exact ⟨Try.f28, Try.func28, mf28_ok⟩
 · cases h; exact ⟨Try.f12, Try.func12, mf12_ok⟩
 · cases h; exact ⟨Try.f4, Try.func4, mf4_ok⟩
 · cases h
end Go.Proofs.Ytpohmfihpnineaa
