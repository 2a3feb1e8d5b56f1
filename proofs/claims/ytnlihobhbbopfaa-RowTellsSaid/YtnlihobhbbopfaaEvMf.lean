/- The evaluator's code of each function of this seat, and that it is the loaded one. Printed by a program (gen.py). -/
import Derived.Test.YtnlihobhbbopfaaChecked
import Derived.KernelRfl
import Derived.Test.YtnlihobhbbopfaaEvGc
set_option linter.unusedSimpArgs false
set_option linter.unusedVariables false
set_option maxRecDepth 100000
namespace Go.Proofs.Ytnlihobhbbopfaa
open Go.Ev
namespace Mf
/- cmp.Or[int] -/
def f50 : MFun := { nt := 18, np := 1, no := 0, res := [.slot 2], body :=
 (.seq
 (.region false [
 ⟨(some 2), none, .mv (.c (.int .i64 0))⟩])
 (.seq
 (.region false [
 ⟨(some 3), none, .mv (.c (.int .i64 0))⟩])
 (.seq
 (.seq
 (.region false [
 ⟨(some 6), none, .mv (.s 0)⟩,
 ⟨(some 7), none, .len (.s 6)⟩,
 ⟨(some 8), none, .mv (.c (.int .i64 0))⟩])
 (.block 0
 (.loop [3, 6, 7, 8] []
 (.seq
 (.region false [
 ⟨(some 9), none, .bin .lss .int (.s 8) (.s 7)⟩])
 (.seq
 (.cond (.s 9)
 .skip
 (.exit 0))
 (.seq
 (.block 1
 (.seq
 (.region false [
 ⟨(some 10), none, .iaddrS 1 (.s 6) (.s 8)⟩,
 ⟨(some 11), none, .load none none (.s 10)⟩,
 ⟨(some 5), none, .mv (.s 11)⟩])
 (.seq
 (.region false [
 ⟨(some 12), none, .mv (.s 5)⟩,
 ⟨(some 13), none, .mv (.s 3)⟩,
 ⟨(some 14), none, .bin .neq .int (.s 12) (.s 13)⟩])
 (.cond (.s 14)
 (.seq
 (.region false [
 ⟨(some 15), none, .mv (.s 5)⟩,
 ⟨(some 2), none, .mv (.s 15)⟩])
 .ret)
 .skip))))
 (.region false [
 ⟨(some 16), none, .bin .add .int (.s 8) (.c (.int .i64 1))⟩,
 ⟨(some 8), none, .mv (.s 16)⟩])))))))
 (.seq
 (.region false [
 ⟨(some 17), none, .mv (.s 3)⟩,
 ⟨(some 2), none, .mv (.s 17)⟩])
 .ret)))) }
/- cmp.isNaN[uint32] -/
def f61 : MFun := { nt := 6, np := 1, no := 0, res := [.slot 2], body :=
 (.seq
 (.region false [
 ⟨(some 2), none, .mv (.c (.bool false))⟩])
 (.seq
 (.region false [
 ⟨(some 3), none, .mv (.s 0)⟩,
 ⟨(some 4), none, .mv (.s 0)⟩,
 ⟨(some 5), none, .bin .neq .int (.s 3) (.s 4)⟩,
 ⟨(some 2), none, .mv (.s 5)⟩])
 .ret)) }
/- cmp.Compare[uint32] -/
def f51 : MFun := { nt := 20, np := 2, no := 0, res := [.slot 4], body :=
 (.seq
 (.region false [
 ⟨(some 4), none, .mv (.c (.int .i64 0))⟩])
 (.seq
 (.region false [
 ⟨(some 7), none, .mv (.s 0)⟩,
 ⟨(some 8), none, .call (.c (.fn 61 [] [])) [(.s 7)] [] [] [] false⟩,
 ⟨(some 5), none, .mv (.s 8)⟩])
 (.seq
 (.region false [
 ⟨(some 9), none, .mv (.s 1)⟩,
 ⟨(some 10), none, .call (.c (.fn 61 [] [])) [(.s 9)] [] [] [] false⟩,
 ⟨(some 6), none, .mv (.s 10)⟩])
 (.seq
 (.seq
 (.region false [
 ⟨(some 11), none, .mv (.s 5)⟩])
 (.cond (.s 11)
 (.seq
 (.seq
 (.region false [
 ⟨(some 12), none, .mv (.s 6)⟩])
 (.cond (.s 12)
 (.seq
 (.region false [
 ⟨(some 4), none, .mv (.c (.int .i64 0))⟩])
 .ret)
 .skip))
 (.seq
 (.region false [
 ⟨(some 4), none, .mv (.c (.int .i64 (-1)))⟩])
 .ret))
 .skip))
 (.seq
 (.seq
 (.region false [
 ⟨(some 13), none, .mv (.s 6)⟩])
 (.cond (.s 13)
 (.seq
 (.region false [
 ⟨(some 4), none, .mv (.c (.int .i64 1))⟩])
 .ret)
 .skip))
 (.seq
 (.seq
 (.region false [
 ⟨(some 14), none, .mv (.s 0)⟩,
 ⟨(some 15), none, .mv (.s 1)⟩,
 ⟨(some 16), none, .bin .lss .int (.s 14) (.s 15)⟩])
 (.cond (.s 16)
 (.seq
 (.region false [
 ⟨(some 4), none, .mv (.c (.int .i64 (-1)))⟩])
 .ret)
 .skip))
 (.seq
 (.seq
 (.region false [
 ⟨(some 17), none, .mv (.s 0)⟩,
 ⟨(some 18), none, .mv (.s 1)⟩,
 ⟨(some 19), none, .bin .gtr .int (.s 17) (.s 18)⟩])
 (.cond (.s 19)
 (.seq
 (.region false [
 ⟨(some 4), none, .mv (.c (.int .i64 1))⟩])
 .ret)
 .skip))
 (.seq
 (.region false [
 ⟨(some 4), none, .mv (.c (.int .i64 0))⟩])
 .ret)))))))) }
/- cuboid/code.Key -/
def f52 : MFun := { nt := 17, np := 1, no := 1, res := [.slot 2], body :=
 (.seq
 (.region false [
 ⟨(some 1), none, .box 0 (.s 0)⟩,
 ⟨(some 2), none, .mv (.c (.int .u32 0))⟩])
 (.seq
 (.region false [
 ⟨(some 3), none, .mv (.c (.int .u32 0))⟩])
 (.seq
 (.seq
 (.region false [
 ⟨(some 6), none, .load (some 4) (some 0) (.s 1)⟩,
 ⟨(some 7), none, .mv (.c (.int .i64 0))⟩])
 (.block 0
 (.loop [3, 6, 7] []
 (.seq
 (.region false [
 ⟨(some 8), none, .bin .lss .int (.s 7) (.c (.int .i64 4))⟩])
 (.seq
 (.cond (.s 8)
 .skip
 (.exit 0))
 (.seq
 (.block 1
 (.seq
 (.region false [
 ⟨(some 9), none, .index 4 1 false (.s 6) (.s 7)⟩,
 ⟨(some 5), none, .mv (.s 9)⟩])
 (.region false [
 ⟨(some 10), none, .mv (.s 3)⟩,
 ⟨(some 11), none, .bin .shl .int (.s 10) (.c (.int .u64 8))⟩,
 ⟨(some 12), none, .mv (.s 5)⟩,
 ⟨(some 13), none, .conv .u32 (.s 12)⟩,
 ⟨(some 14), none, .bin .or .int (.s 11) (.s 13)⟩,
 ⟨(some 3), none, .mv (.s 14)⟩])))
 (.region false [
 ⟨(some 15), none, .bin .add .int (.s 7) (.c (.int .i64 1))⟩,
 ⟨(some 7), none, .mv (.s 15)⟩])))))))
 (.seq
 (.region false [
 ⟨(some 16), none, .mv (.s 3)⟩,
 ⟨(some 2), none, .mv (.s 16)⟩])
 .ret)))) }
/- cmp.isNaN[int64] -/
def f77 : MFun := { nt := 6, np := 1, no := 0, res := [.slot 2], body :=
 (.seq
 (.region false [
 ⟨(some 2), none, .mv (.c (.bool false))⟩])
 (.seq
 (.region false [
 ⟨(some 3), none, .mv (.s 0)⟩,
 ⟨(some 4), none, .mv (.s 0)⟩,
 ⟨(some 5), none, .bin .neq .int (.s 3) (.s 4)⟩,
 ⟨(some 2), none, .mv (.s 5)⟩])
 .ret)) }
/- cmp.Compare[int64] -/
def f62 : MFun := { nt := 20, np := 2, no := 0, res := [.slot 4], body :=
 (.seq
 (.region false [
 ⟨(some 4), none, .mv (.c (.int .i64 0))⟩])
 (.seq
 (.region false [
 ⟨(some 7), none, .mv (.s 0)⟩,
 ⟨(some 8), none, .call (.c (.fn 77 [] [])) [(.s 7)] [] [] [] false⟩,
 ⟨(some 5), none, .mv (.s 8)⟩])
 (.seq
 (.region false [
 ⟨(some 9), none, .mv (.s 1)⟩,
 ⟨(some 10), none, .call (.c (.fn 77 [] [])) [(.s 9)] [] [] [] false⟩,
 ⟨(some 6), none, .mv (.s 10)⟩])
 (.seq
 (.seq
 (.region false [
 ⟨(some 11), none, .mv (.s 5)⟩])
 (.cond (.s 11)
 (.seq
 (.seq
 (.region false [
 ⟨(some 12), none, .mv (.s 6)⟩])
 (.cond (.s 12)
 (.seq
 (.region false [
 ⟨(some 4), none, .mv (.c (.int .i64 0))⟩])
 .ret)
 .skip))
 (.seq
 (.region false [
 ⟨(some 4), none, .mv (.c (.int .i64 (-1)))⟩])
 .ret))
 .skip))
 (.seq
 (.seq
 (.region false [
 ⟨(some 13), none, .mv (.s 6)⟩])
 (.cond (.s 13)
 (.seq
 (.region false [
 ⟨(some 4), none, .mv (.c (.int .i64 1))⟩])
 .ret)
 .skip))
 (.seq
 (.seq
 (.region false [
 ⟨(some 14), none, .mv (.s 0)⟩,
 ⟨(some 15), none, .mv (.s 1)⟩,
 ⟨(some 16), none, .bin .lss .int (.s 14) (.s 15)⟩])
 (.cond (.s 16)
 (.seq
 (.region false [
 ⟨(some 4), none, .mv (.c (.int .i64 (-1)))⟩])
 .ret)
 .skip))
 (.seq
 (.seq
 (.region false [
 ⟨(some 17), none, .mv (.s 0)⟩,
 ⟨(some 18), none, .mv (.s 1)⟩,
 ⟨(some 19), none, .bin .gtr .int (.s 17) (.s 18)⟩])
 (.cond (.s 19)
 (.seq
 (.region false [
 ⟨(some 4), none, .mv (.c (.int .i64 1))⟩])
 .ret)
 .skip))
 (.seq
 (.region false [
 ⟨(some 4), none, .mv (.c (.int .i64 0))⟩])
 .ret)))))))) }
/- slices.Compare[[]int64,int64] -/
def f53 : MFun := { nt := 36, np := 2, no := 0, res := [.slot 4], body :=
 (.seq
 (.region false [
 ⟨(some 4), none, .mv (.c (.int .i64 0))⟩])
 (.seq
 (.seq
 (.region false [
 ⟨(some 9), none, .mv (.s 0)⟩,
 ⟨(some 10), none, .len (.s 9)⟩,
 ⟨(some 11), none, .mv (.c (.int .i64 0))⟩])
 (.block 0
 (.loop [0, 1, 9, 10, 11] []
 (.seq
 (.region false [
 ⟨(some 12), none, .bin .lss .int (.s 11) (.s 10)⟩])
 (.seq
 (.cond (.s 12)
 .skip
 (.exit 0))
 (.seq
 (.block 1
 (.seq
 (.region false [
 ⟨(some 13), none, .mv (.s 11)⟩,
 ⟨(some 14), none, .iaddrS 1 (.s 9) (.s 11)⟩,
 ⟨(some 15), none, .load none none (.s 14)⟩,
 ⟨(some 5), none, .mv (.s 13)⟩,
 ⟨(some 6), none, .mv (.s 15)⟩])
 (.seq
 (.seq
 (.region false [
 ⟨(some 16), none, .mv (.s 5)⟩,
 ⟨(some 17), none, .mv (.s 1)⟩,
 ⟨(some 18), none, .len (.s 17)⟩,
 ⟨(some 19), none, .bin .geq .int (.s 16) (.s 18)⟩])
 (.cond (.s 19)
 (.seq
 (.region false [
 ⟨(some 4), none, .mv (.c (.int .i64 1))⟩])
 .ret)
 .skip))
 (.seq
 (.region false [
 ⟨(some 20), none, .mv (.s 1)⟩,
 ⟨(some 21), none, .mv (.s 5)⟩,
 ⟨(some 22), none, .iaddrS 1 (.s 20) (.s 21)⟩,
 ⟨(some 23), none, .load none none (.s 22)⟩,
 ⟨(some 7), none, .mv (.s 23)⟩])
 (.seq
 (.region false [
 ⟨(some 24), none, .mv (.s 6)⟩,
 ⟨(some 25), none, .mv (.s 7)⟩,
 ⟨(some 26), none, .call (.c (.fn 62 [] [])) [(.s 24), (.s 25)] [] [] [] false⟩,
 ⟨(some 8), none, .mv (.s 26)⟩])
 (.seq
 (.region false [
 ⟨(some 27), none, .mv (.s 8)⟩,
 ⟨(some 28), none, .bin .neq .int (.s 27) (.c (.int .i64 0))⟩])
 (.cond (.s 28)
 (.seq
 (.region false [
 ⟨(some 29), none, .mv (.s 8)⟩,
 ⟨(some 4), none, .mv (.s 29)⟩])
 .ret)
 .skip)))))))
 (.region false [
 ⟨(some 30), none, .bin .add .int (.s 11) (.c (.int .i64 1))⟩,
 ⟨(some 11), none, .mv (.s 30)⟩])))))))
 (.seq
 (.seq
 (.region false [
 ⟨(some 31), none, .mv (.s 0)⟩,
 ⟨(some 32), none, .len (.s 31)⟩,
 ⟨(some 33), none, .mv (.s 1)⟩,
 ⟨(some 34), none, .len (.s 33)⟩,
 ⟨(some 35), none, .bin .lss .int (.s 32) (.s 34)⟩])
 (.cond (.s 35)
 (.seq
 (.region false [
 ⟨(some 4), none, .mv (.c (.int .i64 (-1)))⟩])
 .ret)
 .skip))
 (.seq
 (.region false [
 ⟨(some 4), none, .mv (.c (.int .i64 0))⟩])
 .ret)))) }
/- cuboid/row.compare -/
def f26 : MFun := { nt := 19, np := 2, no := 2, res := [.slot 4], body :=
 (.seq
 (.region false [
 ⟨(some 2), none, .box 0 (.s 0)⟩,
 ⟨(some 3), none, .box 1 (.s 1)⟩,
 ⟨(some 4), none, .mv (.c (.int .i64 0))⟩])
 (.seq
 (.region true [
 ⟨(some 5), none, .faddr 0 (.s 2)⟩,
 ⟨(some 6), none, .load (some 4) (some 0) (.s 5)⟩,
 ⟨(some 7), none, .call (.c (.fn 52 [] [])) [(.s 6)] [] [] [] false⟩,
 ⟨(some 8), none, .faddr 0 (.s 3)⟩,
 ⟨(some 9), none, .load (some 4) (some 1) (.s 8)⟩,
 ⟨(some 10), none, .call (.c (.fn 52 [] [])) [(.s 9)] [] [] [] false⟩,
 ⟨(some 11), none, .call (.c (.fn 51 [] [])) [(.s 7), (.s 10)] [] [] [] false⟩,
 ⟨(some 12), none, .faddr 4 (.s 2)⟩,
 ⟨(some 13), none, .sliceA 2 1 (some 0) (.s 12) none none⟩,
 ⟨(some 14), none, .faddr 4 (.s 3)⟩,
 ⟨(some 15), none, .sliceA 2 1 (some 1) (.s 14) none none⟩,
 ⟨(some 16), none, .call (.c (.fn 53 [] [])) [(.s 13), (.s 15)] [] [0, 1] [] false⟩,
 ⟨(some 17), none, .lit none [] 2 1 [.int .i64 0] [(0, 1, (.s 11)), (1, 1, (.s 16))]⟩,
 ⟨(some 18), none, .call (.c (.fn 50 [] [])) [(.s 17)] [] [] [] false⟩,
 ⟨(some 4), none, .mv (.s 18)⟩])
 .ret)) }
/- cuboid/row.Less -/
def f9 : MFun := { nt := 9, np := 2, no := 2, res := [.slot 4], body :=
 (.seq
 (.region false [
 ⟨(some 2), none, .box 0 (.s 0)⟩,
 ⟨(some 3), none, .box 1 (.s 1)⟩,
 ⟨(some 4), none, .mv (.c (.bool false))⟩])
 (.seq
 (.region false [
 ⟨(some 5), none, .load (some 6) (some 0) (.s 2)⟩,
 ⟨(some 6), none, .load (some 6) (some 1) (.s 3)⟩,
 ⟨(some 7), none, .call (.c (.fn 26 [] [])) [(.s 5), (.s 6)] [] [] [] false⟩,
 ⟨(some 8), none, .bin .lss .int (.s 7) (.c (.int .i64 0))⟩,
 ⟨(some 4), none, .mv (.s 8)⟩])
 .ret)) }
/- cuboid/calc.Size -/
def f27 : MFun := { nt := 10, np := 1, no := 0, res := [.slot 2], body :=
 (.seq
 (.region false [
 ⟨(some 2), none, .mv (.c (.int .u64 0))⟩])
 (.seq
 (.seq
 (.region false [
 ⟨(some 3), none, .mv (.s 0)⟩,
 ⟨(some 4), none, .bin .lss .int (.s 3) (.c (.int .i64 0))⟩])
 (.cond (.s 4)
 (.seq
 (.region false [
 ⟨(some 5), none, .mv (.s 0)⟩,
 ⟨(some 6), none, .conv .u64 (.s 5)⟩,
 ⟨(some 7), none, .un .neg (.s 6)⟩,
 ⟨(some 2), none, .mv (.s 7)⟩])
 .ret)
 .skip))
 (.seq
 (.region false [
 ⟨(some 8), none, .mv (.s 0)⟩,
 ⟨(some 9), none, .conv .u64 (.s 8)⟩,
 ⟨(some 2), none, .mv (.s 9)⟩])
 .ret))) }
/- cuboid/row.Mass -/
def f11 : MFun := { nt := 35, np := 1, no := 3, res := [.cell 2 0 (some 2), .slot 3], body :=
 (.seq
 (.region false [
 ⟨(some 2), none, .alloc 0 [.int .i64 0, .int .i64 0]⟩,
 ⟨(some 3), none, .mv (.c (.bool false))⟩])
 (.seq
 (.region false [
 ⟨(some 4), none, .alloc 1 [.int .i64 0, .int .i64 0]⟩])
 (.seq
 (.seq
 (.region false [
 ⟨(some 9), none, .mv (.c (.int .i64 0))⟩])
 (.block 0
 (.loop [0, 2, 4, 9] [0, 1]
 (.seq
 (.region false [
 ⟨(some 10), none, .bin .lss .int (.s 9) (.c (.int .i64 2))⟩])
 (.seq
 (.cond (.s 10)
 .skip
 (.exit 0))
 (.seq
 (.block 1
 (.seq
 (.region false [
 ⟨(some 11), none, .mv (.s 9)⟩,
 ⟨(some 5), none, .mv (.s 11)⟩])
 (.seq
 (.region false [
 ⟨(some 6), none, .mv (.c (.int .u64 0))⟩])
 (.seq
 (.seq
 (.region false [
 ⟨(some 12), none, .mv (.s 0)⟩,
 ⟨(some 13), none, .len (.s 12)⟩,
 ⟨(some 14), none, .mv (.c (.int .i64 0))⟩])
 (.block 2
 (.loop [0, 2, 4, 5, 6, 9, 12, 13, 14] [0, 1]
 (.seq
 (.region false [
 ⟨(some 15), none, .bin .lss .int (.s 14) (.s 13)⟩])
 (.seq
 (.cond (.s 15)
 .skip
 (.exit 2))
 (.seq
 (.block 3
 (.seq
 (.region false [
 ⟨(some 16), none, .iaddrS 6 (.s 12) (.s 14)⟩,
 ⟨(some 17), none, .load (some 6) none (.s 16)⟩,
 ⟨(some 8), none, .alloc 2 [.int .u8 0, .int .u8 0, .int .u8 0, .int .u8 0, .int .i64 0, .int .i64 0]⟩,
 ⟨none, none, .store 6 2 [] (.s 8) (.s 17)⟩])
 (.seq
 (.region false [
 ⟨(some 18), none, .mv (.s 6)⟩,
 ⟨(some 19), none, .mv (.s 5)⟩,
 ⟨(some 20), none, .faddr 4 (.s 8)⟩,
 ⟨(some 21), none, .iaddrA 2 1 (.s 20) (.s 19)⟩,
 ⟨(some 22), none, .load none (some 2) (.s 21)⟩,
 ⟨(some 23), none, .call (.c (.fn 27 [] [])) [(.s 22)] [] [] [] false⟩,
 ⟨(some 24), none, .bin .add .int (.s 18) (.s 23)⟩,
 ⟨(some 6), none, .mv (.s 24)⟩])
 (.seq
 (.region false [
 ⟨(some 25), none, .mv (.s 6)⟩,
 ⟨(some 26), none, .bin .gtr .int (.s 25) (.c (.int .u64 2305843009213693952))⟩])
 (.cond (.s 26)
 (.seq
 (.region false [
 ⟨(some 27), none, .build [.int .i64 0, .int .i64 0] []⟩,
 ⟨none, none, .store 2 0 [] (.s 2) (.s 27)⟩,
 ⟨(some 3), none, .mv (.c (.bool false))⟩])
 .ret)
 .skip)))))
 (.region false [
 ⟨(some 28), none, .bin .add .int (.s 14) (.c (.int .i64 1))⟩,
 ⟨(some 14), none, .mv (.s 28)⟩])))))))
 (.region false [
 ⟨(some 29), none, .mv (.s 5)⟩,
 ⟨(some 30), none, .mv (.s 6)⟩,
 ⟨(some 31), none, .conv .i64 (.s 30)⟩,
 ⟨(some 32), none, .iaddrA 2 1 (.s 4) (.s 29)⟩,
 ⟨none, none, .store 1 1 [] (.s 32) (.s 31)⟩])))))
 (.region false [
 ⟨(some 33), none, .bin .add .int (.s 9) (.c (.int .i64 1))⟩,
 ⟨(some 9), none, .mv (.s 33)⟩])))))))
 (.seq
 (.region false [
 ⟨(some 34), none, .load (some 2) (some 1) (.s 4)⟩,
 ⟨none, none, .store 2 0 [] (.s 2) (.s 34)⟩,
 ⟨(some 3), none, .mv (.c (.bool true))⟩])
 .ret)))) }
/- slices.Clone[[]uint8,uint8] -/
def f32 : MFun := { nt := 8, np := 1, no := 1, res := [.slot 2], body :=
 (.seq
 (.region false [
 ⟨(some 2), none, .mv (.c .nilsl)⟩])
 (.seq
 (.seq
 (.region false [
 ⟨(some 3), none, .mv (.s 0)⟩,
 ⟨(some 4), none, .bin .eql .sl (.s 3) (.c .nilsl)⟩])
 (.cond (.s 4)
 (.seq
 (.region false [
 ⟨(some 2), none, .mv (.c .nilsl)⟩])
 .ret)
 .skip))
 (.seq
 (.region false [
 ⟨(some 5), none, .lit (some 0) [] 0 1 [.int .u8 0] []⟩,
 ⟨(some 6), none, .mv (.s 0)⟩,
 ⟨(some 7), none, .append 1 1 0 none (.s 5) (.s 6)⟩,
 ⟨(some 2), none, .mv (.s 7)⟩])
 .ret))) }
def f32o : MFun := { nt := 8, np := 1, no := 1, res := [.slot 2], body :=
 (.seq
 (.region false [
 ⟨(some 2), none, .mv (.c .nilsl)⟩])
 (.seq
 (.seq
 (.region false [
 ⟨(some 3), none, .mv (.s 0)⟩,
 ⟨(some 4), none, .bin .eql .sl (.s 3) (.c .nilsl)⟩])
 (.cond (.s 4)
 (.seq
 (.region false [
 ⟨(some 2), none, .mv (.c .nilsl)⟩])
 .ret)
 .skip))
 (.seq
 (.region false [
 ⟨(some 5), none, .lit (some 1) [] 0 1 [.int .u8 0] []⟩,
 ⟨(some 6), none, .mv (.s 0)⟩,
 ⟨(some 7), none, .append 1 1 1 (some 0) (.s 5) (.s 6)⟩,
 ⟨(some 2), none, .mv (.s 7)⟩])
 .ret))) }
/- cuboid/code.Put -/
def f33 : MFun := { nt := 23, np := 2, no := 1, res := [.slot 4], body :=
 (.seq
 (.region false [
 ⟨(some 4), none, .mv (.c .nilsl)⟩])
 (.seq
 (.region false [
 ⟨(some 6), none, .mv (.s 0)⟩,
 ⟨(some 7), none, .call (.c (.fn 32 [] [])) [(.s 6)] [] [] [(0, 0)] true⟩,
 ⟨(some 5), none, .mv (.s 7)⟩])
 (.seq
 (.block 0
 (.loop [1, 5] [0]
 (.seq
 (.seq
 (.region false [
 ⟨(some 8), none, .mv (.s 1)⟩,
 ⟨(some 9), none, .bin .geq .int (.s 8) (.c (.int .u64 128))⟩])
 (.cond (.s 9)
 .skip
 (.exit 0)))
 (.block 1
 (.seq
 (.region false [
 ⟨(some 10), none, .mv (.s 5)⟩,
 ⟨(some 11), none, .mv (.s 1)⟩,
 ⟨(some 12), none, .conv .u8 (.s 11)⟩,
 ⟨(some 13), none, .bin .or .int (.s 12) (.c (.int .u8 128))⟩,
 ⟨(some 14), none, .lit none [] 1 1 [.int .u8 0] [(0, 1, (.s 13))]⟩,
 ⟨(some 15), none, .append 1 1 0 none (.s 10) (.s 14)⟩,
 ⟨(some 5), none, .mv (.s 15)⟩])
 (.region false [
 ⟨(some 16), none, .mv (.s 1)⟩,
 ⟨(some 17), none, .bin .shr .int (.s 16) (.c (.int .u64 7))⟩,
 ⟨(some 1), none, .mv (.s 17)⟩]))))))
 (.seq
 (.region false [
 ⟨(some 18), none, .mv (.s 5)⟩,
 ⟨(some 19), none, .mv (.s 1)⟩,
 ⟨(some 20), none, .conv .u8 (.s 19)⟩,
 ⟨(some 21), none, .lit none [] 1 1 [.int .u8 0] [(0, 1, (.s 20))]⟩,
 ⟨(some 22), none, .append 1 1 0 none (.s 18) (.s 21)⟩,
 ⟨(some 4), none, .mv (.s 22)⟩])
 .ret)))) }
/- cuboid/code.Zig -/
def f34 : MFun := { nt := 10, np := 1, no := 0, res := [.slot 2], body :=
 (.seq
 (.region false [
 ⟨(some 2), none, .mv (.c (.int .u64 0))⟩])
 (.seq
 (.region false [
 ⟨(some 3), none, .mv (.s 0)⟩,
 ⟨(some 4), none, .conv .u64 (.s 3)⟩,
 ⟨(some 5), none, .bin .shl .int (.s 4) (.c (.int .u64 1))⟩,
 ⟨(some 6), none, .mv (.s 0)⟩,
 ⟨(some 7), none, .bin .shr .int (.s 6) (.c (.int .u64 63))⟩,
 ⟨(some 8), none, .conv .u64 (.s 7)⟩,
 ⟨(some 9), none, .bin .xor .int (.s 5) (.s 8)⟩,
 ⟨(some 2), none, .mv (.s 9)⟩])
 .ret)) }
/- cuboid/row.Bytes -/
def f14 : MFun := { nt := 20, np := 1, no := 2, res := [.slot 2], body :=
 (.seq
 (.region false [
 ⟨(some 1), none, .box 0 (.s 0)⟩,
 ⟨(some 2), none, .mv (.c .nilsl)⟩])
 (.seq
 (.region false [
 ⟨(some 6), none, .faddr 0 (.s 1)⟩,
 ⟨(some 7), none, .sliceA 4 1 (some 0) (.s 6) none none⟩,
 ⟨(some 8), none, .call (.c (.fn 32 [] [])) [(.s 7)] [0] [] [(1, 1)] true⟩,
 ⟨(some 3), none, .mv (.s 8)⟩])
 (.seq
 (.seq
 (.region false [
 ⟨(some 9), none, .faddr 4 (.s 1)⟩,
 ⟨(some 10), none, .load (some 2) (some 0) (.s 9)⟩,
 ⟨(some 11), none, .mv (.c (.int .i64 0))⟩])
 (.block 0
 (.loop [3, 10, 11] [1]
 (.seq
 (.region false [
 ⟨(some 12), none, .bin .lss .int (.s 11) (.c (.int .i64 2))⟩])
 (.seq
 (.cond (.s 12)
 .skip
 (.exit 0))
 (.seq
 (.block 1
 (.seq
 (.region false [
 ⟨(some 13), none, .index 2 1 false (.s 10) (.s 11)⟩,
 ⟨(some 5), none, .mv (.s 13)⟩])
 (.region false [
 ⟨(some 14), none, .mv (.s 3)⟩,
 ⟨(some 15), none, .mv (.s 5)⟩,
 ⟨(some 16), none, .call (.c (.fn 34 [] [])) [(.s 15)] [] [] [] false⟩,
 ⟨(some 17), none, .call (.c (.fn 33 [] [])) [(.s 14), (.s 16)] [] [1] [] true⟩,
 ⟨(some 3), none, .mv (.s 17)⟩])))
 (.region false [
 ⟨(some 18), none, .bin .add .int (.s 11) (.c (.int .i64 1))⟩,
 ⟨(some 11), none, .mv (.s 18)⟩])))))))
 (.seq
 (.region false [
 ⟨(some 19), none, .mv (.s 3)⟩,
 ⟨(some 2), none, .mv (.s 19)⟩])
 .ret)))) }
/- cuboid/code.Get -/
def f37 : MFun := { nt := 47, np := 1, no := 0, res := [.slot 2, .slot 3, .slot 4], body :=
 (.seq
 (.region false [
 ⟨(some 2), none, .mv (.c (.int .u64 0))⟩,
 ⟨(some 3), none, .mv (.c (.int .i64 0))⟩,
 ⟨(some 4), none, .mv (.c (.bool false))⟩])
 (.seq
 (.region false [
 ⟨(some 5), none, .mv (.c (.int .u64 0))⟩])
 (.seq
 (.seq
 (.region false [
 ⟨(some 8), none, .mv (.s 0)⟩,
 ⟨(some 9), none, .mv (.s 0)⟩,
 ⟨(some 10), none, .len (.s 9)⟩,
 ⟨(some 11), none, .minmax false [(.s 10), (.c (.int .i64 10))]⟩,
 ⟨(some 12), none, .sliceS 1 (.s 8) none (some (.s 11))⟩,
 ⟨(some 13), none, .len (.s 12)⟩,
 ⟨(some 14), none, .mv (.c (.int .i64 0))⟩])
 (.block 0
 (.loop [5, 12, 13, 14] []
 (.seq
 (.region false [
 ⟨(some 15), none, .bin .lss .int (.s 14) (.s 13)⟩])
 (.seq
 (.cond (.s 15)
 .skip
 (.exit 0))
 (.seq
 (.block 1
 (.seq
 (.region false [
 ⟨(some 16), none, .mv (.s 14)⟩,
 ⟨(some 17), none, .iaddrS 1 (.s 12) (.s 14)⟩,
 ⟨(some 18), none, .load none none (.s 17)⟩,
 ⟨(some 6), none, .mv (.s 16)⟩,
 ⟨(some 7), none, .mv (.s 18)⟩])
 (.seq
 (.region false [
 ⟨(some 19), none, .mv (.s 5)⟩,
 ⟨(some 20), none, .mv (.s 7)⟩,
 ⟨(some 21), none, .bin .and .int (.s 20) (.c (.int .u8 127))⟩,
 ⟨(some 22), none, .conv .u64 (.s 21)⟩,
 ⟨(some 23), none, .mv (.s 6)⟩,
 ⟨(some 24), none, .bin .mul .int (.c (.int .i64 7)) (.s 23)⟩,
 ⟨(some 25), none, .bin .shl .int (.s 22) (.s 24)⟩,
 ⟨(some 26), none, .bin .or .int (.s 19) (.s 25)⟩,
 ⟨(some 5), none, .mv (.s 26)⟩])
 (.seq
 (.seq
 (.region false [
 ⟨(some 27), none, .mv (.s 7)⟩,
 ⟨(some 28), none, .bin .geq .int (.s 27) (.c (.int .u8 128))⟩])
 (.cond (.s 28)
 (.exit 1)
 .skip))
 (.seq
 (.seq
 (.region false [
 ⟨(some 29), none, .mv (.s 6)⟩,
 ⟨(some 30), none, .bin .eql .int (.s 29) (.c (.int .i64 9))⟩,
 ⟨(some 31), none, .mv (.s 30)⟩,
 ⟨(some 32), (some (31, true)), .mv (.s 7)⟩,
 ⟨(some 33), (some (31, true)), .bin .gtr .int (.s 32) (.c (.int .u8 1))⟩,
 ⟨(some 34), none, .pick (.s 31) (.s 33) (.c (.bool false))⟩,
 ⟨(some 35), none, .mv (.s 34)⟩,
 ⟨(some 36), (some (35, false)), .mv (.s 6)⟩,
 ⟨(some 37), (some (35, false)), .bin .gtr .int (.s 36) (.c (.int .i64 0))⟩,
 ⟨(some 38), (some (35, false)), .mv (.s 37)⟩,
 ⟨(some 39), (some (38, true)), .mv (.s 7)⟩,
 ⟨(some 40), (some (38, true)), .bin .eql .int (.s 39) (.c (.int .u8 0))⟩,
 ⟨(some 41), (some (35, false)), .pick (.s 38) (.s 40) (.c (.bool false))⟩,
 ⟨(some 42), none, .pick (.s 35) (.c (.bool true)) (.s 41)⟩])
 (.cond (.s 42)
 (.seq
 (.region false [
 ⟨(some 2), none, .mv (.c (.int .u64 0))⟩,
 ⟨(some 3), none, .mv (.c (.int .i64 0))⟩,
 ⟨(some 4), none, .mv (.c (.bool false))⟩])
 .ret)
 .skip))
 (.seq
 (.region false [
 ⟨(some 43), none, .mv (.s 5)⟩,
 ⟨(some 44), none, .mv (.s 6)⟩,
 ⟨(some 45), none, .bin .add .int (.s 44) (.c (.int .i64 1))⟩,
 ⟨(some 2), none, .mv (.s 43)⟩,
 ⟨(some 3), none, .mv (.s 45)⟩,
 ⟨(some 4), none, .mv (.c (.bool true))⟩])
 .ret))))))
 (.region false [
 ⟨(some 46), none, .bin .add .int (.s 14) (.c (.int .i64 1))⟩,
 ⟨(some 14), none, .mv (.s 46)⟩])))))))
 (.seq
 (.region false [
 ⟨(some 2), none, .mv (.c (.int .u64 0))⟩,
 ⟨(some 3), none, .mv (.c (.int .i64 0))⟩,
 ⟨(some 4), none, .mv (.c (.bool false))⟩])
 .ret)))) }
/- cuboid/code.Zag -/
def f38 : MFun := { nt := 11, np := 1, no := 0, res := [.slot 2], body :=
 (.seq
 (.region false [
 ⟨(some 2), none, .mv (.c (.int .i64 0))⟩])
 (.seq
 (.region false [
 ⟨(some 3), none, .mv (.s 0)⟩,
 ⟨(some 4), none, .bin .shr .int (.s 3) (.c (.int .u64 1))⟩,
 ⟨(some 5), none, .conv .i64 (.s 4)⟩,
 ⟨(some 6), none, .mv (.s 0)⟩,
 ⟨(some 7), none, .bin .and .int (.s 6) (.c (.int .u64 1))⟩,
 ⟨(some 8), none, .conv .i64 (.s 7)⟩,
 ⟨(some 9), none, .un .neg (.s 8)⟩,
 ⟨(some 10), none, .bin .xor .int (.s 5) (.s 9)⟩,
 ⟨(some 2), none, .mv (.s 10)⟩])
 .ret)) }
/- cuboid/row.Read -/
def f16 : MFun := { nt := 44, np := 1, no := 2, res := [.cell 2 0 (some 6), .slot 3, .slot 4], body :=
 (.seq
 (.region false [
 ⟨(some 2), none, .alloc 0 [.int .u8 0, .int .u8 0, .int .u8 0, .int .u8 0, .int .i64 0, .int .i64 0]⟩,
 ⟨(some 3), none, .mv (.c (.int .i64 0))⟩,
 ⟨(some 4), none, .mv (.c (.bool false))⟩])
 (.seq
 (.region false [
 ⟨(some 5), none, .alloc 1 [.int .u8 0, .int .u8 0, .int .u8 0, .int .u8 0, .int .i64 0, .int .i64 0]⟩])
 (.seq
 (.seq
 (.region false [
 ⟨(some 11), none, .mv (.s 0)⟩,
 ⟨(some 12), none, .len (.s 11)⟩,
 ⟨(some 13), none, .bin .lss .int (.s 12) (.c (.int .i64 4))⟩])
 (.cond (.s 13)
 (.seq
 (.region false [
 ⟨(some 14), none, .load (some 6) (some 1) (.s 5)⟩,
 ⟨none, none, .store 6 0 [] (.s 2) (.s 14)⟩,
 ⟨(some 3), none, .mv (.c (.int .i64 0))⟩,
 ⟨(some 4), none, .mv (.c (.bool false))⟩])
 .ret)
 .skip))
 (.seq
 (.region false [
 ⟨(some 15), none, .faddr 0 (.s 5)⟩,
 ⟨(some 16), none, .sliceA 4 1 (some 1) (.s 15) none none⟩,
 ⟨(some 17), none, .mv (.s 0)⟩,
 ⟨(some 18), none, .copy 1 1 none (.s 16) (.s 17)⟩,
 ⟨(some 6), none, .mv (.s 18)⟩])
 (.seq
 (.seq
 (.region false [
 ⟨(some 19), none, .mv (.c (.int .i64 0))⟩])
 (.block 0
 (.loop [0, 2, 5, 6, 19] [0, 1]
 (.seq
 (.region false [
 ⟨(some 20), none, .bin .lss .int (.s 19) (.c (.int .i64 2))⟩])
 (.seq
 (.cond (.s 20)
 .skip
 (.exit 0))
 (.seq
 (.block 1
 (.seq
 (.region false [
 ⟨(some 21), none, .mv (.s 19)⟩,
 ⟨(some 7), none, .mv (.s 21)⟩])
 (.seq
 (.region false [
 ⟨(some 23), none, .mv (.s 0)⟩,
 ⟨(some 24), none, .mv (.s 6)⟩,
 ⟨(some 25), none, .sliceS 1 (.s 23) (some (.s 24)) none⟩,
 ⟨(some 26), none, .call (.c (.fn 37 [] [])) [(.s 25)] [] [] [] false⟩,
 ⟨(some 22), none, .mv (.s 26)⟩,
 ⟨(some 27), none, .extract (.s 22) 0⟩,
 ⟨(some 28), none, .extract (.s 22) 1⟩,
 ⟨(some 29), none, .extract (.s 22) 2⟩,
 ⟨(some 8), none, .mv (.s 27)⟩,
 ⟨(some 9), none, .mv (.s 28)⟩,
 ⟨(some 10), none, .mv (.s 29)⟩])
 (.seq
 (.seq
 (.region false [
 ⟨(some 30), none, .mv (.s 10)⟩,
 ⟨(some 31), none, .un .not (.s 30)⟩])
 (.cond (.s 31)
 (.seq
 (.region false [
 ⟨(some 32), none, .build [.int .u8 0, .int .u8 0, .int .u8 0, .int .u8 0, .int .i64 0, .int .i64 0] []⟩,
 ⟨none, none, .store 6 0 [] (.s 2) (.s 32)⟩,
 ⟨(some 3), none, .mv (.c (.int .i64 0))⟩,
 ⟨(some 4), none, .mv (.c (.bool false))⟩])
 .ret)
 .skip))
 (.seq
 (.region false [
 ⟨(some 33), none, .mv (.s 7)⟩,
 ⟨(some 34), none, .mv (.s 8)⟩,
 ⟨(some 35), none, .call (.c (.fn 38 [] [])) [(.s 34)] [] [] [] false⟩,
 ⟨(some 36), none, .faddr 4 (.s 5)⟩,
 ⟨(some 37), none, .iaddrA 2 1 (.s 36) (.s 33)⟩,
 ⟨none, none, .store 1 1 [] (.s 37) (.s 35)⟩])
 (.region false [
 ⟨(some 38), none, .mv (.s 6)⟩,
 ⟨(some 39), none, .mv (.s 9)⟩,
 ⟨(some 40), none, .bin .add .int (.s 38) (.s 39)⟩,
 ⟨(some 6), none, .mv (.s 40)⟩]))))))
 (.region false [
 ⟨(some 41), none, .bin .add .int (.s 19) (.c (.int .i64 1))⟩,
 ⟨(some 19), none, .mv (.s 41)⟩])))))))
 (.seq
 (.region false [
 ⟨(some 42), none, .load (some 6) (some 1) (.s 5)⟩,
 ⟨(some 43), none, .mv (.s 6)⟩,
 ⟨none, none, .store 6 0 [] (.s 2) (.s 42)⟩,
 ⟨(some 3), none, .mv (.s 43)⟩,
 ⟨(some 4), none, .mv (.c (.bool true))⟩])
 .ret)))))) }
/- cuboid/schema.between -/
def f63 : MFun := { nt := 15, np := 3, no := 0, res := [.slot 6], body :=
 (.seq
 (.region false [
 ⟨(some 6), none, .mv (.c (.bool false))⟩])
 (.seq
 (.region false [
 ⟨(some 7), none, .mv (.s 0)⟩,
 ⟨(some 8), none, .mv (.s 1)⟩,
 ⟨(some 9), none, .bin .geq .int (.s 7) (.s 8)⟩,
 ⟨(some 10), none, .mv (.s 9)⟩,
 ⟨(some 11), (some (10, true)), .mv (.s 0)⟩,
 ⟨(some 12), (some (10, true)), .mv (.s 2)⟩,
 ⟨(some 13), (some (10, true)), .bin .leq .int (.s 11) (.s 12)⟩,
 ⟨(some 14), none, .pick (.s 10) (.s 13) (.c (.bool false))⟩,
 ⟨(some 6), none, .mv (.s 14)⟩])
 .ret)) }
/- cuboid/hier.between -/
def f65 : MFun := { nt := 15, np := 3, no := 0, res := [.slot 6], body :=
 (.seq
 (.region false [
 ⟨(some 6), none, .mv (.c (.bool false))⟩])
 (.seq
 (.region false [
 ⟨(some 7), none, .mv (.s 0)⟩,
 ⟨(some 8), none, .mv (.s 1)⟩,
 ⟨(some 9), none, .bin .geq .int (.s 7) (.s 8)⟩,
 ⟨(some 10), none, .mv (.s 9)⟩,
 ⟨(some 11), (some (10, true)), .mv (.s 0)⟩,
 ⟨(some 12), (some (10, true)), .mv (.s 2)⟩,
 ⟨(some 13), (some (10, true)), .bin .leq .int (.s 11) (.s 12)⟩,
 ⟨(some 14), none, .pick (.s 10) (.s 13) (.c (.bool false))⟩,
 ⟨(some 6), none, .mv (.s 14)⟩])
 .ret)) }
/- cuboid/hier.up -/
def f78 : MFun := { nt := 25, np := 3, no := 0, res := [.slot 6], body :=
 (.seq
 (.region false [
 ⟨(some 6), none, .mv (.c (.bool false))⟩])
 (.seq
 (.seq
 (.region false [
 ⟨(some 9), none, .mv (.s 0)⟩,
 ⟨(some 10), none, .len (.s 9)⟩,
 ⟨(some 11), none, .mv (.s 1)⟩,
 ⟨(some 12), none, .bin .neq .int (.s 10) (.s 11)⟩])
 (.cond (.s 12)
 (.seq
 (.region false [
 ⟨(some 6), none, .mv (.c (.bool false))⟩])
 .ret)
 .skip))
 (.seq
 (.seq
 (.region false [
 ⟨(some 13), none, .mv (.s 0)⟩,
 ⟨(some 14), none, .len (.s 13)⟩,
 ⟨(some 15), none, .mv (.c (.int .i64 0))⟩])
 (.block 0
 (.loop [2, 13, 14, 15] []
 (.seq
 (.region false [
 ⟨(some 16), none, .bin .lss .int (.s 15) (.s 14)⟩])
 (.seq
 (.cond (.s 16)
 .skip
 (.exit 0))
 (.seq
 (.block 1
 (.seq
 (.region false [
 ⟨(some 17), none, .iaddrS 1 (.s 13) (.s 15)⟩,
 ⟨(some 18), none, .load none none (.s 17)⟩,
 ⟨(some 8), none, .mv (.s 18)⟩])
 (.seq
 (.region false [
 ⟨(some 19), none, .mv (.s 8)⟩,
 ⟨(some 20), none, .mv (.s 2)⟩,
 ⟨(some 21), none, .bin .sub .int (.s 20) (.c (.int .i64 1))⟩,
 ⟨(some 22), none, .call (.c (.fn 65 [] [])) [(.s 19), (.c (.int .i64 0)), (.s 21)] [] [] [] false⟩,
 ⟨(some 23), none, .un .not (.s 22)⟩])
 (.cond (.s 23)
 (.seq
 (.region false [
 ⟨(some 6), none, .mv (.c (.bool false))⟩])
 .ret)
 .skip))))
 (.region false [
 ⟨(some 24), none, .bin .add .int (.s 15) (.c (.int .i64 1))⟩,
 ⟨(some 15), none, .mv (.s 24)⟩])))))))
 (.seq
 (.region false [
 ⟨(some 6), none, .mv (.c (.bool true))⟩])
 .ret)))) }
/- cuboid/hier.Good -/
def f64 : MFun := { nt := 57, np := 1, no := 1, res := [.slot 2], body :=
 (.seq
 (.region false [
 ⟨(some 1), none, .box 0 (.s 0)⟩,
 ⟨(some 2), none, .mv (.c (.bool false))⟩])
 (.seq
 (.seq
 (.region false [
 ⟨(some 6), none, .faddr 0 (.s 1)⟩,
 ⟨(some 7), none, .load none (some 0) (.s 6)⟩,
 ⟨(some 8), none, .len (.s 7)⟩,
 ⟨(some 9), none, .call (.c (.fn 65 [] [])) [(.s 8), (.c (.int .i64 1)), (.c (.int .i64 4))] [] [] [] false⟩,
 ⟨(some 10), none, .un .not (.s 9)⟩,
 ⟨(some 11), none, .mv (.s 10)⟩,
 ⟨(some 12), (some (11, false)), .faddr 1 (.s 1)⟩,
 ⟨(some 13), (some (11, false)), .load none (some 0) (.s 12)⟩,
 ⟨(some 14), (some (11, false)), .len (.s 13)⟩,
 ⟨(some 15), (some (11, false)), .faddr 0 (.s 1)⟩,
 ⟨(some 16), (some (11, false)), .load none (some 0) (.s 15)⟩,
 ⟨(some 17), (some (11, false)), .len (.s 16)⟩,
 ⟨(some 18), (some (11, false)), .bin .sub .int (.s 17) (.c (.int .i64 1))⟩,
 ⟨(some 19), (some (11, false)), .bin .neq .int (.s 14) (.s 18)⟩,
 ⟨(some 20), none, .pick (.s 11) (.c (.bool true)) (.s 19)⟩])
 (.cond (.s 20)
 (.seq
 (.region false [
 ⟨(some 2), none, .mv (.c (.bool false))⟩])
 .ret)
 .skip))
 (.seq
 (.seq
 (.region false [
 ⟨(some 21), none, .faddr 0 (.s 1)⟩,
 ⟨(some 22), none, .load none (some 0) (.s 21)⟩,
 ⟨(some 23), none, .len (.s 22)⟩,
 ⟨(some 24), none, .mv (.c (.int .i64 0))⟩])
 (.block 0
 (.loop [1, 22, 23, 24] [0]
 (.seq
 (.region false [
 ⟨(some 25), none, .bin .lss .int (.s 24) (.s 23)⟩])
 (.seq
 (.cond (.s 25)
 .skip
 (.exit 0))
 (.seq
 (.block 1
 (.seq
 (.region false [
 ⟨(some 26), none, .iaddrS 1 (.s 22) (.s 24)⟩,
 ⟨(some 27), none, .load none none (.s 26)⟩,
 ⟨(some 4), none, .mv (.s 27)⟩])
 (.seq
 (.region false [
 ⟨(some 28), none, .mv (.s 4)⟩,
 ⟨(some 29), none, .call (.c (.fn 65 [] [])) [(.s 28), (.c (.int .i64 1)), (.c (.int .i64 40))] [] [] [] false⟩,
 ⟨(some 30), none, .un .not (.s 29)⟩])
 (.cond (.s 30)
 (.seq
 (.region false [
 ⟨(some 2), none, .mv (.c (.bool false))⟩])
 .ret)
 .skip))))
 (.region false [
 ⟨(some 31), none, .bin .add .int (.s 24) (.c (.int .i64 1))⟩,
 ⟨(some 24), none, .mv (.s 31)⟩])))))))
 (.seq
 (.seq
 (.region false [
 ⟨(some 32), none, .faddr 1 (.s 1)⟩,
 ⟨(some 33), none, .load none (some 0) (.s 32)⟩,
 ⟨(some 34), none, .len (.s 33)⟩,
 ⟨(some 35), none, .mv (.c (.int .i64 0))⟩])
 (.block 2
 (.loop [1, 34, 35] [0]
 (.seq
 (.region false [
 ⟨(some 36), none, .bin .lss .int (.s 35) (.s 34)⟩])
 (.seq
 (.cond (.s 36)
 .skip
 (.exit 2))
 (.seq
 (.block 3
 (.seq
 (.region false [
 ⟨(some 37), none, .mv (.s 35)⟩,
 ⟨(some 5), none, .mv (.s 37)⟩])
 (.seq
 (.region true [
 ⟨(some 38), none, .faddr 1 (.s 1)⟩,
 ⟨(some 39), none, .load none (some 0) (.s 38)⟩,
 ⟨(some 40), none, .mv (.s 5)⟩,
 ⟨(some 41), none, .iaddrS 1 (.s 39) (.s 40)⟩,
 ⟨(some 42), none, .load none none (.s 41)⟩,
 ⟨(some 43), none, .faddr 0 (.s 1)⟩,
 ⟨(some 44), none, .load none (some 0) (.s 43)⟩,
 ⟨(some 45), none, .mv (.s 5)⟩,
 ⟨(some 46), none, .iaddrS 1 (.s 44) (.s 45)⟩,
 ⟨(some 47), none, .load none none (.s 46)⟩,
 ⟨(some 48), none, .faddr 0 (.s 1)⟩,
 ⟨(some 49), none, .load none (some 0) (.s 48)⟩,
 ⟨(some 50), none, .mv (.s 5)⟩,
 ⟨(some 51), none, .bin .add .int (.s 50) (.c (.int .i64 1))⟩,
 ⟨(some 52), none, .iaddrS 1 (.s 49) (.s 51)⟩,
 ⟨(some 53), none, .load none none (.s 52)⟩,
 ⟨(some 54), none, .call (.c (.fn 78 [] [])) [(.s 42), (.s 47), (.s 53)] [] [] [] false⟩,
 ⟨(some 55), none, .un .not (.s 54)⟩])
 (.cond (.s 55)
 (.seq
 (.region false [
 ⟨(some 2), none, .mv (.c (.bool false))⟩])
 .ret)
 .skip))))
 (.region false [
 ⟨(some 56), none, .bin .add .int (.s 35) (.c (.int .i64 1))⟩,
 ⟨(some 35), none, .mv (.s 56)⟩])))))))
 (.seq
 (.region false [
 ⟨(some 2), none, .mv (.c (.bool true))⟩])
 .ret))))) }
/- cuboid/schema.Good -/
def f55 : MFun := { nt := 27, np := 1, no := 2, res := [.slot 2], body :=
 (.seq
 (.region false [
 ⟨(some 1), none, .box 0 (.s 0)⟩,
 ⟨(some 2), none, .mv (.c (.bool false))⟩])
 (.seq
 (.seq
 (.region false [
 ⟨(some 5), none, .faddr 0 (.s 1)⟩,
 ⟨(some 6), none, .load none (some 0) (.s 5)⟩,
 ⟨(some 7), none, .len (.s 6)⟩,
 ⟨(some 8), none, .call (.c (.fn 63 [] [])) [(.s 7), (.c (.int .i64 1)), (.c (.int .i64 4))] [] [] [] false⟩,
 ⟨(some 9), none, .un .not (.s 8)⟩,
 ⟨(some 10), none, .mv (.s 9)⟩,
 ⟨(some 11), (some (10, false)), .faddr 1 (.s 1)⟩,
 ⟨(some 12), (some (10, false)), .load none (some 0) (.s 11)⟩,
 ⟨(some 13), (some (10, false)), .call (.c (.fn 63 [] [])) [(.s 12), (.c (.int .i64 1)), (.c (.int .i64 2))] [] [] [] false⟩,
 ⟨(some 14), (some (10, false)), .un .not (.s 13)⟩,
 ⟨(some 15), none, .pick (.s 10) (.c (.bool true)) (.s 14)⟩])
 (.cond (.s 15)
 (.seq
 (.region false [
 ⟨(some 2), none, .mv (.c (.bool false))⟩])
 .ret)
 .skip))
 (.seq
 (.seq
 (.region false [
 ⟨(some 16), none, .faddr 0 (.s 1)⟩,
 ⟨(some 17), none, .load none (some 0) (.s 16)⟩,
 ⟨(some 18), none, .len (.s 17)⟩,
 ⟨(some 19), none, .mv (.c (.int .i64 0))⟩])
 (.block 0
 (.loop [17, 18, 19] []
 (.seq
 (.region false [
 ⟨(some 20), none, .bin .lss .int (.s 19) (.s 18)⟩])
 (.seq
 (.cond (.s 20)
 .skip
 (.exit 0))
 (.seq
 (.block 1
 (.seq
 (.region false [
 ⟨(some 21), none, .iaddrS 2 (.s 17) (.s 19)⟩,
 ⟨(some 22), none, .load (some 2) none (.s 21)⟩,
 ⟨(some 4), none, .alloc 1 [.nilsl, .nilsl]⟩,
 ⟨none, none, .store 2 1 [] (.s 4) (.s 22)⟩])
 (.seq
 (.region false [
 ⟨(some 23), none, .load (some 2) (some 1) (.s 4)⟩,
 ⟨(some 24), none, .call (.c (.fn 64 [] [])) [(.s 23)] [] [] [] false⟩,
 ⟨(some 25), none, .un .not (.s 24)⟩])
 (.cond (.s 25)
 (.seq
 (.region false [
 ⟨(some 2), none, .mv (.c (.bool false))⟩])
 .ret)
 .skip))))
 (.region false [
 ⟨(some 26), none, .bin .add .int (.s 19) (.c (.int .i64 1))⟩,
 ⟨(some 19), none, .mv (.s 26)⟩])))))))
 (.seq
 (.region false [
 ⟨(some 2), none, .mv (.c (.bool true))⟩])
 .ret)))) }
/- cuboid/hier.Size -/
def f56 : MFun := { nt := 28, np := 2, no := 1, res := [.slot 4], body :=
 (.seq
 (.region false [
 ⟨(some 2), none, .box 0 (.s 0)⟩,
 ⟨(some 4), none, .mv (.c (.int .i64 0))⟩])
 (.seq
 (.block 0
 (.seq
 (.region false [
 ⟨(some 6), none, .load (some 2) (some 0) (.s 2)⟩,
 ⟨(some 7), none, .call (.c (.fn 64 [] [])) [(.s 6)] [] [] [] false⟩,
 ⟨(some 8), none, .un .not (.s 7)⟩,
 ⟨(some 9), none, .mv (.s 8)⟩,
 ⟨(some 10), (some (9, false)), .mv (.s 1)⟩,
 ⟨(some 11), (some (9, false)), .faddr 0 (.s 2)⟩,
 ⟨(some 12), (some (9, false)), .load none (some 0) (.s 11)⟩,
 ⟨(some 13), (some (9, false)), .len (.s 12)⟩,
 ⟨(some 14), (some (9, false)), .call (.c (.fn 65 [] [])) [(.s 10), (.c (.int .i64 0)), (.s 13)] [] [] [] false⟩,
 ⟨(some 15), (some (9, false)), .un .not (.s 14)⟩,
 ⟨(some 16), none, .pick (.s 9) (.c (.bool true)) (.s 15)⟩,
 ⟨(some 5), none, .mv (.s 16)⟩])
 (.cond (.s 5)
 (.seq
 (.region false [
 ⟨(some 4), none, .mv (.c (.int .i64 0))⟩])
 .ret)
 (.seq
 (.region false [
 ⟨(some 18), none, .mv (.s 1)⟩,
 ⟨(some 19), none, .faddr 0 (.s 2)⟩,
 ⟨(some 20), none, .load none (some 0) (.s 19)⟩,
 ⟨(some 21), none, .len (.s 20)⟩,
 ⟨(some 22), none, .bin .eql .int (.s 18) (.s 21)⟩,
 ⟨(some 17), none, .mv (.s 22)⟩])
 (.cond (.s 17)
 (.seq
 (.region false [
 ⟨(some 4), none, .mv (.c (.int .i64 1))⟩])
 .ret)
 .skip)))))
 (.seq
 (.region false [
 ⟨(some 23), none, .faddr 0 (.s 2)⟩,
 ⟨(some 24), none, .load none (some 0) (.s 23)⟩,
 ⟨(some 25), none, .mv (.s 1)⟩,
 ⟨(some 26), none, .iaddrS 1 (.s 24) (.s 25)⟩,
 ⟨(some 27), none, .load none none (.s 26)⟩,
 ⟨(some 4), none, .mv (.s 27)⟩])
 .ret))) }
/- cuboid/schema.Right -/
def f42 : MFun := { nt := 45, np := 3, no := 3, res := [.slot 6], body :=
 (.seq
 (.region false [
 ⟨(some 3), none, .box 0 (.s 0)⟩,
 ⟨(some 4), none, .box 1 (.s 1)⟩,
 ⟨(some 5), none, .box 2 (.s 2)⟩,
 ⟨(some 6), none, .mv (.c (.bool false))⟩])
 (.seq
 (.seq
 (.region false [
 ⟨(some 8), none, .load (some 2) (some 0) (.s 3)⟩,
 ⟨(some 9), none, .call (.c (.fn 55 [] [])) [(.s 8)] [] [] [] false⟩,
 ⟨(some 10), none, .un .not (.s 9)⟩])
 (.cond (.s 10)
 (.seq
 (.region false [
 ⟨(some 6), none, .mv (.c (.bool false))⟩])
 .ret)
 .skip))
 (.seq
 (.seq
 (.region false [
 ⟨(some 11), none, .mv (.c (.int .i64 0))⟩])
 (.block 0
 (.loop [3, 4, 5, 11] [0, 1, 2]
 (.seq
 (.region false [
 ⟨(some 12), none, .bin .lss .int (.s 11) (.c (.int .i64 4))⟩])
 (.seq
 (.cond (.s 12)
 .skip
 (.exit 0))
 (.seq
 (.block 1
 (.seq
 (.region false [
 ⟨(some 13), none, .mv (.s 11)⟩,
 ⟨(some 7), none, .mv (.s 13)⟩])
 (.seq
 (.seq
 (.region false [
 ⟨(some 14), none, .mv (.s 7)⟩,
 ⟨(some 15), none, .faddr 0 (.s 3)⟩,
 ⟨(some 16), none, .load none (some 0) (.s 15)⟩,
 ⟨(some 17), none, .len (.s 16)⟩,
 ⟨(some 18), none, .bin .geq .int (.s 14) (.s 17)⟩])
 (.cond (.s 18)
 (.seq
 (.seq
 (.region false [
 ⟨(some 19), none, .mv (.s 7)⟩,
 ⟨(some 20), none, .iaddrA 4 1 (.s 4) (.s 19)⟩,
 ⟨(some 21), none, .load none (some 1) (.s 20)⟩,
 ⟨(some 22), none, .bin .neq .int (.s 21) (.c (.int .u8 0))⟩,
 ⟨(some 23), none, .mv (.s 22)⟩,
 ⟨(some 24), (some (23, false)), .mv (.s 7)⟩,
 ⟨(some 25), (some (23, false)), .iaddrA 4 1 (.s 5) (.s 24)⟩,
 ⟨(some 26), (some (23, false)), .load none (some 2) (.s 25)⟩,
 ⟨(some 27), (some (23, false)), .bin .neq .int (.s 26) (.c (.int .u8 0))⟩,
 ⟨(some 28), none, .pick (.s 23) (.c (.bool true)) (.s 27)⟩])
 (.cond (.s 28)
 (.seq
 (.region false [
 ⟨(some 6), none, .mv (.c (.bool false))⟩])
 .ret)
 .skip))
 (.exit 1))
 .skip))
 (.seq
 (.region true [
 ⟨(some 29), none, .mv (.s 7)⟩,
 ⟨(some 30), none, .iaddrA 4 1 (.s 5) (.s 29)⟩,
 ⟨(some 31), none, .load none (some 2) (.s 30)⟩,
 ⟨(some 32), none, .conv .i64 (.s 31)⟩,
 ⟨(some 33), none, .faddr 0 (.s 3)⟩,
 ⟨(some 34), none, .load none (some 0) (.s 33)⟩,
 ⟨(some 35), none, .mv (.s 7)⟩,
 ⟨(some 36), none, .iaddrS 2 (.s 34) (.s 35)⟩,
 ⟨(some 37), none, .load (some 2) none (.s 36)⟩,
 ⟨(some 38), none, .mv (.s 7)⟩,
 ⟨(some 39), none, .iaddrA 4 1 (.s 4) (.s 38)⟩,
 ⟨(some 40), none, .load none (some 1) (.s 39)⟩,
 ⟨(some 41), none, .conv .i64 (.s 40)⟩,
 ⟨(some 42), none, .call (.c (.fn 56 [] [])) [(.s 37), (.s 41)] [] [] [] false⟩,
 ⟨(some 43), none, .bin .geq .int (.s 32) (.s 42)⟩])
 (.cond (.s 43)
 (.seq
 (.region false [
 ⟨(some 6), none, .mv (.c (.bool false))⟩])
 .ret)
 .skip)))))
 (.region false [
 ⟨(some 44), none, .bin .add .int (.s 11) (.c (.int .i64 1))⟩,
 ⟨(some 11), none, .mv (.s 44)⟩])))))))
 (.seq
 (.region false [
 ⟨(some 6), none, .mv (.c (.bool true))⟩])
 .ret)))) }
/- cuboid/lattice.Base -/
def f43 : MFun := { nt := 2, np := 0, no := 1, res := [.cell 0 0 (some 4)], body :=
 (.seq
 (.region false [
 ⟨(some 0), none, .alloc 0 [.int .u8 0, .int .u8 0, .int .u8 0, .int .u8 0]⟩])
 (.seq
 (.region false [
 ⟨(some 1), none, .build [.int .u8 0, .int .u8 0, .int .u8 0, .int .u8 0] []⟩,
 ⟨none, none, .store 4 0 [] (.s 0) (.s 1)⟩])
 .ret)) }
/- cuboid/row.Good -/
def f20 : MFun := { nt := 25, np := 2, no := 2, res := [.slot 4], body :=
 (.seq
 (.region false [
 ⟨(some 2), none, .box 0 (.s 0)⟩,
 ⟨(some 3), none, .box 1 (.s 1)⟩,
 ⟨(some 4), none, .mv (.c (.bool false))⟩])
 (.seq
 (.seq
 (.region true [
 ⟨(some 7), none, .load (some 2) (some 0) (.s 2)⟩,
 ⟨(some 8), none, .call (.c (.fn 43 [] [])) [] [] [] [] false⟩,
 ⟨(some 9), none, .faddr 0 (.s 3)⟩,
 ⟨(some 10), none, .load (some 4) (some 1) (.s 9)⟩,
 ⟨(some 11), none, .call (.c (.fn 42 [] [])) [(.s 7), (.s 8), (.s 10)] [] [] [] false⟩,
 ⟨(some 12), none, .un .not (.s 11)⟩])
 (.cond (.s 12)
 (.seq
 (.region false [
 ⟨(some 4), none, .mv (.c (.bool false))⟩])
 .ret)
 .skip))
 (.seq
 (.seq
 (.region false [
 ⟨(some 13), none, .faddr 4 (.s 3)⟩,
 ⟨(some 14), none, .faddr 1 (.s 2)⟩,
 ⟨(some 15), none, .load none (some 0) (.s 14)⟩,
 ⟨(some 16), none, .sliceA 2 1 (some 1) (.s 13) (some (.s 15)) none⟩,
 ⟨(some 17), none, .len (.s 16)⟩,
 ⟨(some 18), none, .mv (.c (.int .i64 0))⟩])
 (.block 0
 (.loop [16, 17, 18] [1]
 (.seq
 (.region false [
 ⟨(some 19), none, .bin .lss .int (.s 18) (.s 17)⟩])
 (.seq
 (.cond (.s 19)
 .skip
 (.exit 0))
 (.seq
 (.block 1
 (.seq
 (.region false [
 ⟨(some 20), none, .iaddrS 1 (.s 16) (.s 18)⟩,
 ⟨(some 21), none, .load none (some 1) (.s 20)⟩,
 ⟨(some 6), none, .mv (.s 21)⟩])
 (.seq
 (.region false [
 ⟨(some 22), none, .mv (.s 6)⟩,
 ⟨(some 23), none, .bin .neq .int (.s 22) (.c (.int .i64 0))⟩])
 (.cond (.s 23)
 (.seq
 (.region false [
 ⟨(some 4), none, .mv (.c (.bool false))⟩])
 .ret)
 .skip))))
 (.region false [
 ⟨(some 24), none, .bin .add .int (.s 18) (.c (.int .i64 1))⟩,
 ⟨(some 18), none, .mv (.s 24)⟩])))))))
 (.seq
 (.region false [
 ⟨(some 4), none, .mv (.c (.bool true))⟩])
 .ret)))) }
/- cuboid/cuboidlaw07.wakes -/
def f10 : MFun := { nt := 68, np := 0, no := 4, res := [.slot 0], body :=
 (.seq
 (.region false [
 ⟨(some 0), none, .mv (.c (.bool false))⟩])
 (.seq
 (.region false [
 ⟨(some 8), none, .build [.int .u8 0, .int .u8 0, .int .u8 0, .int .u8 0] [(0, 1, (.c (.int .u8 1)))]⟩,
 ⟨(some 9), none, .build [.int .i64 0, .int .i64 0] [(0, 1, (.c (.int .i64 (-1)))), (1, 1, (.c (.int .i64 5)))]⟩,
 ⟨(some 10), none, .build [.int .u8 0, .int .u8 0, .int .u8 0, .int .u8 0, .int .i64 0, .int .i64 0] [(0, 4, (.s 8)), (4, 2, (.s 9))]⟩,
 ⟨(some 1), none, .alloc 0 [.int .u8 0, .int .u8 0, .int .u8 0, .int .u8 0, .int .i64 0, .int .i64 0]⟩,
 ⟨none, none, .store 6 0 [] (.s 1) (.s 10)⟩])
 (.seq
 (.region false [
 ⟨(some 11), none, .lit none [] 1 1 [.int .i64 0] [(0, 1, (.c (.int .i64 2)))]⟩,
 ⟨(some 12), none, .build [.nilsl, .nilsl] [(0, 1, (.s 11))]⟩,
 ⟨(some 13), none, .lit none [] 1 2 [.nilsl, .nilsl] [(0, 2, (.s 12))]⟩,
 ⟨(some 14), none, .build [.nilsl, .int .i64 0] [(0, 1, (.s 13)), (1, 1, (.c (.int .i64 2)))]⟩,
 ⟨(some 2), none, .alloc 1 [.nilsl, .int .i64 0]⟩,
 ⟨none, none, .store 2 1 [] (.s 2) (.s 14)⟩])
 (.seq
 (.region false [
 ⟨(some 16), none, .lit none [] 7 1 [.int .u8 0] [(0, 1, (.c (.int .u8 1))), (1, 1, (.c (.int .u8 0))), (2, 1, (.c (.int .u8 0))), (3, 1, (.c (.int .u8 0))), (4, 1, (.c (.int .u8 1))), (5, 1, (.c (.int .u8 10))), (6, 1, (.c (.int .u8 9)))]⟩,
 ⟨(some 17), none, .call (.c (.fn 16 [] [])) [(.s 16)] [] [] [] false⟩,
 ⟨(some 15), none, .mv (.s 17)⟩,
 ⟨(some 18), none, .extract (.s 15) 0⟩,
 ⟨(some 19), none, .extract (.s 15) 1⟩,
 ⟨(some 20), none, .extract (.s 15) 2⟩,
 ⟨(some 3), none, .alloc 2 [.int .u8 0, .int .u8 0, .int .u8 0, .int .u8 0, .int .i64 0, .int .i64 0]⟩,
 ⟨none, none, .store 6 2 [] (.s 3) (.s 18)⟩,
 ⟨(some 4), none, .mv (.s 19)⟩,
 ⟨(some 5), none, .mv (.s 20)⟩])
 (.seq
 (.region false [
 ⟨(some 22), none, .load (some 6) (some 0) (.s 1)⟩,
 ⟨(some 23), none, .load (some 6) (some 0) (.s 1)⟩,
 ⟨(some 24), none, .lit none [] 2 6 [.int .u8 0, .int .u8 0, .int .u8 0, .int .u8 0, .int .i64 0, .int .i64 0] [(0, 6, (.s 22)), (6, 6, (.s 23))]⟩,
 ⟨(some 25), none, .call (.c (.fn 11 [] [])) [(.s 24)] [] [] [] false⟩,
 ⟨(some 21), none, .mv (.s 25)⟩,
 ⟨(some 26), none, .extract (.s 21) 0⟩,
 ⟨(some 27), none, .extract (.s 21) 1⟩,
 ⟨(some 6), none, .alloc 3 [.int .i64 0, .int .i64 0]⟩,
 ⟨none, none, .store 2 3 [] (.s 6) (.s 26)⟩,
 ⟨(some 7), none, .mv (.s 27)⟩])
 (.seq
 (.region false [
 ⟨(some 28), none, .load (some 6) (some 0) (.s 1)⟩,
 ⟨(some 29), none, .call (.c (.fn 14 [] [])) [(.s 28)] [] [] [] true⟩,
 ⟨(some 30), none, .b2s none (.s 29)⟩,
 ⟨(some 31), none, .bin .eql .str (.s 30) (.c (.str [1, 0, 0, 0, 1, 10]))⟩,
 ⟨(some 32), none, .mv (.s 31)⟩,
 ⟨(some 33), (some (32, true)), .load (some 6) (some 2) (.s 3)⟩,
 ⟨(some 34), (some (32, true)), .load (some 6) (some 0) (.s 1)⟩,
 ⟨(some 35), (some (32, true)), .bin .eql (.agg [some .u8, some .u8, some .u8, some .u8, some .i64, some .i64]) (.s 33) (.s 34)⟩,
 ⟨(some 36), none, .pick (.s 32) (.s 35) (.c (.bool false))⟩,
 ⟨(some 37), none, .mv (.s 36)⟩,
 ⟨(some 38), (some (37, true)), .mv (.s 4)⟩,
 ⟨(some 39), (some (37, true)), .bin .eql .int (.s 38) (.c (.int .i64 6))⟩,
 ⟨(some 40), none, .pick (.s 37) (.s 39) (.c (.bool false))⟩,
 ⟨(some 41), none, .mv (.s 40)⟩,
 ⟨(some 42), (some (41, true)), .mv (.s 5)⟩,
 ⟨(some 43), none, .pick (.s 41) (.s 42) (.c (.bool false))⟩,
 ⟨(some 44), none, .mv (.s 43)⟩,
 ⟨(some 45), (some (44, true)), .load (some 2) (some 1) (.s 2)⟩,
 ⟨(some 46), (some (44, true)), .load (some 6) (some 0) (.s 1)⟩,
 ⟨(some 47), (some (44, true)), .call (.c (.fn 20 [] [])) [(.s 45), (.s 46)] [] [] [] false⟩,
 ⟨(some 48), none, .pick (.s 44) (.s 47) (.c (.bool false))⟩,
 ⟨(some 49), none, .mv (.s 48)⟩,
 ⟨(some 50), (some (49, true)), .build [.nilsl, .int .i64 0] []⟩,
 ⟨(some 51), (some (49, true)), .load (some 6) (some 0) (.s 1)⟩,
 ⟨(some 52), (some (49, true)), .call (.c (.fn 20 [] [])) [(.s 50), (.s 51)] [] [] [] false⟩,
 ⟨(some 53), (some (49, true)), .un .not (.s 52)⟩,
 ⟨(some 54), none, .pick (.s 49) (.s 53) (.c (.bool false))⟩,
 ⟨(some 55), none, .mv (.s 54)⟩,
 ⟨(some 56), (some (55, true)), .mv (.s 7)⟩,
 ⟨(some 57), none, .pick (.s 55) (.s 56) (.c (.bool false))⟩,
 ⟨(some 58), none, .mv (.s 57)⟩,
 ⟨(some 59), (some (58, true)), .iaddrA 2 1 (.s 6) (.c (.int .i64 1))⟩,
 ⟨(some 60), (some (58, true)), .load none (some 3) (.s 59)⟩,
 ⟨(some 61), (some (58, true)), .bin .eql .int (.s 60) (.c (.int .i64 10))⟩,
 ⟨(some 62), none, .pick (.s 58) (.s 61) (.c (.bool false))⟩,
 ⟨(some 63), none, .mv (.s 62)⟩,
 ⟨(some 64), (some (63, true)), .build [.int .u8 0, .int .u8 0, .int .u8 0, .int .u8 0, .int .i64 0, .int .i64 0] []⟩,
 ⟨(some 65), (some (63, true)), .load (some 6) (some 0) (.s 1)⟩,
 ⟨(some 66), (some (63, true)), .call (.c (.fn 9 [] [])) [(.s 64), (.s 65)] [] [] [] false⟩,
 ⟨(some 67), none, .pick (.s 63) (.s 66) (.c (.bool false))⟩,
 ⟨(some 0), none, .mv (.s 67)⟩])
 .ret)))))) }
/- cuboid/cuboidlaw07.RowLess -/
def f3 : MFun := { nt := 53, np := 3, no := 3, res := [.slot 6], body :=
 (.seq
 (.region false [
 ⟨(some 3), none, .box 0 (.s 0)⟩,
 ⟨(some 4), none, .box 1 (.s 1)⟩,
 ⟨(some 5), none, .box 2 (.s 2)⟩,
 ⟨(some 6), none, .mv (.c (.bool false))⟩])
 (.seq
 (.region true [
 ⟨(some 9), none, .load (some 6) (some 0) (.s 3)⟩,
 ⟨(some 10), none, .load (some 6) (some 1) (.s 4)⟩,
 ⟨(some 11), none, .call (.c (.fn 9 [] [])) [(.s 9), (.s 10)] [] [] [] false⟩,
 ⟨(some 12), none, .load (some 6) (some 1) (.s 4)⟩,
 ⟨(some 13), none, .load (some 6) (some 0) (.s 3)⟩,
 ⟨(some 14), none, .call (.c (.fn 9 [] [])) [(.s 12), (.s 13)] [] [] [] false⟩,
 ⟨(some 7), none, .mv (.s 11)⟩,
 ⟨(some 8), none, .mv (.s 14)⟩])
 (.seq
 (.region false [
 ⟨(some 15), none, .mv (.s 7)⟩,
 ⟨(some 16), none, .mv (.s 8)⟩,
 ⟨(some 17), none, .bin .neq .bool (.s 15) (.s 16)⟩,
 ⟨(some 18), none, .load (some 6) (some 0) (.s 3)⟩,
 ⟨(some 19), none, .load (some 6) (some 1) (.s 4)⟩,
 ⟨(some 20), none, .bin .neq (.agg [some .u8, some .u8, some .u8, some .u8, some .i64, some .i64]) (.s 18) (.s 19)⟩,
 ⟨(some 21), none, .bin .eql .bool (.s 17) (.s 20)⟩,
 ⟨(some 22), none, .mv (.s 21)⟩,
 ⟨(some 23), (some (22, true)), .mv (.s 7)⟩,
 ⟨(some 24), (some (22, true)), .mv (.s 23)⟩,
 ⟨(some 25), (some (24, true)), .mv (.s 8)⟩,
 ⟨(some 26), (some (22, true)), .pick (.s 24) (.s 25) (.c (.bool false))⟩,
 ⟨(some 27), (some (22, true)), .un .not (.s 26)⟩,
 ⟨(some 28), none, .pick (.s 22) (.s 27) (.c (.bool false))⟩,
 ⟨(some 29), none, .mv (.s 28)⟩,
 ⟨(some 30), (some (29, true)), .mv (.s 7)⟩,
 ⟨(some 31), (some (29, true)), .un .not (.s 30)⟩,
 ⟨(some 32), (some (29, true)), .mv (.s 31)⟩,
 ⟨(some 33), (some (32, false)), .load (some 6) (some 1) (.s 4)⟩,
 ⟨(some 34), (some (32, false)), .load (some 6) (some 2) (.s 5)⟩,
 ⟨(some 35), (some (32, false)), .call (.c (.fn 9 [] [])) [(.s 33), (.s 34)] [] [] [] false⟩,
 ⟨(some 36), (some (32, false)), .un .not (.s 35)⟩,
 ⟨(some 37), (some (29, true)), .pick (.s 32) (.c (.bool true)) (.s 36)⟩,
 ⟨(some 38), (some (29, true)), .mv (.s 37)⟩,
 ⟨(some 39), (some (38, false)), .load (some 6) (some 0) (.s 3)⟩,
 ⟨(some 40), (some (38, false)), .load (some 6) (some 2) (.s 5)⟩,
 ⟨(some 41), (some (38, false)), .call (.c (.fn 9 [] [])) [(.s 39), (.s 40)] [] [] [] false⟩,
 ⟨(some 42), (some (29, true)), .pick (.s 38) (.c (.bool true)) (.s 41)⟩,
 ⟨(some 43), none, .pick (.s 29) (.s 42) (.c (.bool false))⟩,
 ⟨(some 44), none, .mv (.s 43)⟩,
 ⟨(some 45), (some (44, true)), .load (some 6) (some 0) (.s 3)⟩,
 ⟨(some 46), (some (44, true)), .load (some 6) (some 0) (.s 3)⟩,
 ⟨(some 47), (some (44, true)), .call (.c (.fn 9 [] [])) [(.s 45), (.s 46)] [] [] [] false⟩,
 ⟨(some 48), (some (44, true)), .un .not (.s 47)⟩,
 ⟨(some 49), none, .pick (.s 44) (.s 48) (.c (.bool false))⟩,
 ⟨(some 50), none, .mv (.s 49)⟩,
 ⟨(some 51), (some (50, true)), .call (.c (.fn 10 [] [])) [] [] [] [] false⟩,
 ⟨(some 52), none, .pick (.s 50) (.s 51) (.c (.bool false))⟩,
 ⟨(some 6), none, .mv (.s 52)⟩])
 .ret))) }
/- cuboid/cuboidref01.Size -/
def f28 : MFun := { nt := 12, np := 1, no := 0, res := [.slot 2], body :=
 (.seq
 (.region false [
 ⟨(some 2), none, .mv (.c (.int .u64 0))⟩])
 (.seq
 (.seq
 (.region false [
 ⟨(some 3), none, .mv (.s 0)⟩,
 ⟨(some 4), none, .bin .lss .int (.s 3) (.c (.int .i64 0))⟩])
 (.cond (.s 4)
 (.seq
 (.region false [
 ⟨(some 5), none, .mv (.s 0)⟩,
 ⟨(some 6), none, .bin .add .int (.s 5) (.c (.int .i64 1))⟩,
 ⟨(some 7), none, .un .neg (.s 6)⟩,
 ⟨(some 8), none, .conv .u64 (.s 7)⟩,
 ⟨(some 9), none, .bin .add .int (.s 8) (.c (.int .u64 1))⟩,
 ⟨(some 2), none, .mv (.s 9)⟩])
 .ret)
 .skip))
 (.seq
 (.region false [
 ⟨(some 10), none, .mv (.s 0)⟩,
 ⟨(some 11), none, .conv .u64 (.s 10)⟩,
 ⟨(some 2), none, .mv (.s 11)⟩])
 .ret))) }
/- cuboid/cuboidref07.Mass -/
def f12 : MFun := { nt := 45, np := 1, no := 2, res := [.cell 2 0 (some 3)], body :=
 (.seq
 (.region false [
 ⟨(some 2), none, .alloc 0 [.int .i64 0, .int .i64 0, .bool false]⟩])
 (.seq
 (.region false [
 ⟨(some 3), none, .alloc 1 [.int .i64 0, .int .i64 0, .bool false]⟩])
 (.seq
 (.seq
 (.region false [
 ⟨(some 4), none, .mv (.c (.int .i64 0))⟩])
 (.block 0
 (.loop [0, 2, 3, 4] [0, 1]
 (.seq
 (.seq
 (.region false [
 ⟨(some 7), none, .mv (.s 4)⟩,
 ⟨(some 8), none, .mv (.s 0)⟩,
 ⟨(some 9), none, .len (.s 8)⟩,
 ⟨(some 10), none, .bin .lss .int (.s 7) (.s 9)⟩])
 (.cond (.s 10)
 .skip
 (.exit 0)))
 (.seq
 (.block 1
 (.seq
 (.region false [
 ⟨(some 5), none, .mv (.c (.int .i64 0))⟩])
 (.block 2
 (.loop [0, 2, 3, 4, 5] [0, 1]
 (.seq
 (.seq
 (.region false [
 ⟨(some 13), none, .mv (.s 5)⟩,
 ⟨(some 14), none, .bin .lss .int (.s 13) (.c (.int .i64 2))⟩])
 (.cond (.s 14)
 .skip
 (.exit 2)))
 (.seq
 (.block 3
 (.seq
 (.region false [
 ⟨(some 17), none, .mv (.s 0)⟩,
 ⟨(some 18), none, .mv (.s 4)⟩,
 ⟨(some 19), none, .mv (.s 5)⟩,
 ⟨(some 20), none, .iaddrS 6 (.s 17) (.s 18)⟩,
 ⟨(some 21), none, .faddr 4 (.s 20)⟩,
 ⟨(some 22), none, .iaddrA 2 1 (.s 21) (.s 19)⟩,
 ⟨(some 23), none, .load none none (.s 22)⟩,
 ⟨(some 24), none, .call (.c (.fn 28 [] [])) [(.s 23)] [] [] [] false⟩,
 ⟨(some 6), none, .mv (.s 24)⟩])
 (.seq
 (.seq
 (.region false [
 ⟨(some 25), none, .mv (.s 6)⟩,
 ⟨(some 26), none, .mv (.s 5)⟩,
 ⟨(some 27), none, .faddr 0 (.s 3)⟩,
 ⟨(some 28), none, .iaddrA 2 1 (.s 27) (.s 26)⟩,
 ⟨(some 29), none, .load none (some 1) (.s 28)⟩,
 ⟨(some 30), none, .bin .sub .int (.c (.int .i64 2305843009213693952)) (.s 29)⟩,
 ⟨(some 31), none, .conv .u64 (.s 30)⟩,
 ⟨(some 32), none, .bin .gtr .int (.s 25) (.s 31)⟩])
 (.cond (.s 32)
 (.seq
 (.region false [
 ⟨(some 33), none, .build [.int .i64 0, .int .i64 0, .bool false] []⟩,
 ⟨none, none, .store 3 0 [] (.s 2) (.s 33)⟩])
 .ret)
 .skip))
 (.region false [
 ⟨(some 34), none, .mv (.s 5)⟩,
 ⟨(some 35), none, .faddr 0 (.s 3)⟩,
 ⟨(some 36), none, .iaddrA 2 1 (.s 35) (.s 34)⟩,
 ⟨(some 37), none, .load none (some 1) (.s 36)⟩,
 ⟨(some 38), none, .mv (.s 6)⟩,
 ⟨(some 39), none, .conv .i64 (.s 38)⟩,
 ⟨(some 40), none, .bin .add .int (.s 37) (.s 39)⟩,
 ⟨(some 41), none, .faddr 0 (.s 3)⟩,
 ⟨(some 42), none, .iaddrA 2 1 (.s 41) (.s 34)⟩,
 ⟨none, none, .store 1 1 [] (.s 42) (.s 40)⟩]))))
 (.region false [
 ⟨(some 15), none, .mv (.s 5)⟩,
 ⟨(some 16), none, .bin .add .int (.s 15) (.c (.int .i64 1))⟩,
 ⟨(some 5), none, .mv (.s 16)⟩])))))))
 (.region false [
 ⟨(some 11), none, .mv (.s 4)⟩,
 ⟨(some 12), none, .bin .add .int (.s 11) (.c (.int .i64 1))⟩,
 ⟨(some 4), none, .mv (.s 12)⟩]))))))
 (.seq
 (.region false [
 ⟨(some 43), none, .faddr 2 (.s 3)⟩,
 ⟨none, none, .store 1 1 [] (.s 43) (.c (.bool true))⟩])
 (.seq
 (.region false [
 ⟨(some 44), none, .load (some 3) (some 1) (.s 3)⟩,
 ⟨none, none, .store 3 0 [] (.s 2) (.s 44)⟩])
 .ret))))) }
/- cuboid/cuboidlaw07.RowMass -/
def f4 : MFun := { nt := 63, np := 2, no := 6, res := [.slot 4], body :=
 (.seq
 (.region false [
 ⟨(some 4), none, .mv (.c (.bool false))⟩])
 (.seq
 (.seq
 (.region false [
 ⟨(some 14), none, .mv (.s 0)⟩,
 ⟨(some 15), none, .len (.s 14)⟩,
 ⟨(some 16), none, .bin .gtr .int (.s 15) (.c (.int .i64 200))⟩])
 (.cond (.s 16)
 (.seq
 (.region false [
 ⟨(some 17), none, .call (.c (.fn 10 [] [])) [] [] [] [] false⟩,
 ⟨(some 4), none, .mv (.s 17)⟩])
 .ret)
 .skip))
 (.seq
 (.region false [
 ⟨(some 19), none, .mv (.s 0)⟩,
 ⟨(some 20), none, .call (.c (.fn 11 [] [])) [(.s 19)] [] [] [] false⟩,
 ⟨(some 18), none, .mv (.s 20)⟩,
 ⟨(some 21), none, .extract (.s 18) 0⟩,
 ⟨(some 22), none, .extract (.s 18) 1⟩,
 ⟨(some 5), none, .alloc 0 [.int .i64 0, .int .i64 0]⟩,
 ⟨none, none, .store 2 0 [] (.s 5) (.s 21)⟩,
 ⟨(some 6), none, .mv (.s 22)⟩])
 (.seq
 (.region false [
 ⟨(some 23), none, .mv (.s 0)⟩,
 ⟨(some 24), none, .call (.c (.fn 12 [] [])) [(.s 23)] [] [] [] false⟩,
 ⟨(some 7), none, .alloc 1 [.int .i64 0, .int .i64 0, .bool false]⟩,
 ⟨none, none, .store 3 1 [] (.s 7) (.s 24)⟩])
 (.seq
 (.seq
 (.region false [
 ⟨(some 25), none, .mv (.s 6)⟩,
 ⟨(some 26), none, .faddr 2 (.s 7)⟩,
 ⟨(some 27), none, .load none (some 1) (.s 26)⟩,
 ⟨(some 28), none, .bin .neq .bool (.s 25) (.s 27)⟩,
 ⟨(some 29), none, .mv (.s 28)⟩,
 ⟨(some 30), (some (29, false)), .load (some 2) (some 0) (.s 5)⟩,
 ⟨(some 31), (some (29, false)), .faddr 0 (.s 7)⟩,
 ⟨(some 32), (some (29, false)), .load (some 2) (some 1) (.s 31)⟩,
 ⟨(some 33), (some (29, false)), .bin .neq (.agg [some .i64, some .i64]) (.s 30) (.s 32)⟩,
 ⟨(some 34), none, .pick (.s 29) (.c (.bool true)) (.s 33)⟩])
 (.cond (.s 34)
 (.seq
 (.region false [
 ⟨(some 4), none, .mv (.c (.bool false))⟩])
 .ret)
 .skip))
 (.seq
 (.region false [
 ⟨(some 35), none, .build [.int .i64 0, .int .i64 0] [(0, 1, (.c (.int .i64 2305843009213693952))), (1, 1, (.c (.int .i64 (-2305843009213693952))))]⟩,
 ⟨(some 36), none, .build [.int .u8 0, .int .u8 0, .int .u8 0, .int .u8 0, .int .i64 0, .int .i64 0] [(4, 2, (.s 35))]⟩,
 ⟨(some 8), none, .alloc 2 [.int .u8 0, .int .u8 0, .int .u8 0, .int .u8 0, .int .i64 0, .int .i64 0]⟩,
 ⟨none, none, .store 6 2 [] (.s 8) (.s 36)⟩])
 (.seq
 (.region false [
 ⟨(some 37), none, .mv (.s 1)⟩,
 ⟨(some 38), none, .build [.int .i64 0, .int .i64 0] [(0, 1, (.s 37))]⟩,
 ⟨(some 39), none, .build [.int .u8 0, .int .u8 0, .int .u8 0, .int .u8 0, .int .i64 0, .int .i64 0] [(4, 2, (.s 38))]⟩,
 ⟨(some 9), none, .alloc 3 [.int .u8 0, .int .u8 0, .int .u8 0, .int .u8 0, .int .i64 0, .int .i64 0]⟩,
 ⟨none, none, .store 6 3 [] (.s 9) (.s 39)⟩])
 (.seq
 (.region false [
 ⟨(some 41), none, .load (some 6) (some 2) (.s 8)⟩,
 ⟨(some 42), none, .lit none [] 1 6 [.int .u8 0, .int .u8 0, .int .u8 0, .int .u8 0, .int .i64 0, .int .i64 0] [(0, 6, (.s 41))]⟩,
 ⟨(some 43), none, .call (.c (.fn 11 [] [])) [(.s 42)] [] [] [] false⟩,
 ⟨(some 40), none, .mv (.s 43)⟩,
 ⟨(some 44), none, .extract (.s 40) 0⟩,
 ⟨(some 45), none, .extract (.s 40) 1⟩,
 ⟨(some 10), none, .alloc 4 [.int .i64 0, .int .i64 0]⟩,
 ⟨none, none, .store 2 4 [] (.s 10) (.s 44)⟩,
 ⟨(some 11), none, .mv (.s 45)⟩])
 (.seq
 (.region false [
 ⟨(some 47), none, .load (some 6) (some 2) (.s 8)⟩,
 ⟨(some 48), none, .load (some 6) (some 3) (.s 9)⟩,
 ⟨(some 49), none, .lit none [] 2 6 [.int .u8 0, .int .u8 0, .int .u8 0, .int .u8 0, .int .i64 0, .int .i64 0] [(0, 6, (.s 47)), (6, 6, (.s 48))]⟩,
 ⟨(some 50), none, .call (.c (.fn 11 [] [])) [(.s 49)] [] [] [] false⟩,
 ⟨(some 46), none, .mv (.s 50)⟩,
 ⟨(some 51), none, .extract (.s 46) 0⟩,
 ⟨(some 52), none, .extract (.s 46) 1⟩,
 ⟨(some 12), none, .alloc 5 [.int .i64 0, .int .i64 0]⟩,
 ⟨none, none, .store 2 5 [] (.s 12) (.s 51)⟩,
 ⟨(some 13), none, .mv (.s 52)⟩])
 (.seq
 (.region false [
 ⟨(some 53), none, .mv (.s 11)⟩,
 ⟨(some 54), none, .mv (.s 53)⟩,
 ⟨(some 55), (some (54, true)), .mv (.s 13)⟩,
 ⟨(some 56), (some (54, true)), .mv (.s 1)⟩,
 ⟨(some 57), (some (54, true)), .bin .eql .int (.s 56) (.c (.int .i64 0))⟩,
 ⟨(some 58), (some (54, true)), .bin .eql .bool (.s 55) (.s 57)⟩,
 ⟨(some 59), none, .pick (.s 54) (.s 58) (.c (.bool false))⟩,
 ⟨(some 60), none, .mv (.s 59)⟩,
 ⟨(some 61), (some (60, true)), .call (.c (.fn 10 [] [])) [] [] [] [] false⟩,
 ⟨(some 62), none, .pick (.s 60) (.s 61) (.c (.bool false))⟩,
 ⟨(some 4), none, .mv (.s 62)⟩])
 .ret)))))))))) }
/- cuboid/cuboidref01.less -/
def f54 : MFun := { nt := 24, np := 2, no := 2, res := [.slot 4], body :=
 (.seq
 (.region false [
 ⟨(some 2), none, .box 0 (.s 0)⟩,
 ⟨(some 3), none, .box 1 (.s 1)⟩,
 ⟨(some 4), none, .mv (.c (.bool false))⟩])
 (.seq
 (.region false [
 ⟨(some 5), none, .faddr 1 (.s 2)⟩,
 ⟨(some 6), none, .load none (some 0) (.s 5)⟩,
 ⟨(some 7), none, .faddr 1 (.s 3)⟩,
 ⟨(some 8), none, .load none (some 1) (.s 7)⟩,
 ⟨(some 9), none, .bin .lss .int (.s 6) (.s 8)⟩,
 ⟨(some 10), none, .mv (.s 9)⟩,
 ⟨(some 11), (some (10, false)), .faddr 1 (.s 2)⟩,
 ⟨(some 12), (some (10, false)), .load none (some 0) (.s 11)⟩,
 ⟨(some 13), (some (10, false)), .faddr 1 (.s 3)⟩,
 ⟨(some 14), (some (10, false)), .load none (some 1) (.s 13)⟩,
 ⟨(some 15), (some (10, false)), .bin .eql .int (.s 12) (.s 14)⟩,
 ⟨(some 16), (some (10, false)), .mv (.s 15)⟩,
 ⟨(some 17), (some (16, true)), .faddr 2 (.s 2)⟩,
 ⟨(some 18), (some (16, true)), .load none (some 0) (.s 17)⟩,
 ⟨(some 19), (some (16, true)), .faddr 2 (.s 3)⟩,
 ⟨(some 20), (some (16, true)), .load none (some 1) (.s 19)⟩,
 ⟨(some 21), (some (16, true)), .bin .lss .int (.s 18) (.s 20)⟩,
 ⟨(some 22), (some (10, false)), .pick (.s 16) (.s 21) (.c (.bool false))⟩,
 ⟨(some 23), none, .pick (.s 10) (.c (.bool true)) (.s 22)⟩,
 ⟨(some 4), none, .mv (.s 23)⟩])
 .ret)) }
/- cuboid/cuboidref01.Plus -/
def f29 : MFun := { nt := 72, np := 2, no := 5, res := [.cell 4 2 (some 3)], body :=
 (.seq
 (.region false [
 ⟨(some 2), none, .box 0 (.s 0)⟩,
 ⟨(some 3), none, .box 1 (.s 1)⟩,
 ⟨(some 4), none, .alloc 2 [.bool false, .int .u64 0, .int .u64 0]⟩])
 (.seq
 (.seq
 (.region false [
 ⟨(some 7), none, .faddr 0 (.s 2)⟩,
 ⟨(some 8), none, .load none (some 0) (.s 7)⟩,
 ⟨(some 9), none, .faddr 0 (.s 3)⟩,
 ⟨(some 10), none, .load none (some 1) (.s 9)⟩,
 ⟨(some 11), none, .bin .eql .bool (.s 8) (.s 10)⟩])
 (.cond (.s 11)
 (.seq
 (.region false [
 ⟨(some 12), none, .faddr 0 (.s 2)⟩,
 ⟨(some 13), none, .load none (some 0) (.s 12)⟩,
 ⟨(some 14), none, .faddr 1 (.s 2)⟩,
 ⟨(some 15), none, .load none (some 0) (.s 14)⟩,
 ⟨(some 16), none, .faddr 1 (.s 3)⟩,
 ⟨(some 17), none, .load none (some 1) (.s 16)⟩,
 ⟨(some 18), none, .bin .add .int (.s 15) (.s 17)⟩,
 ⟨(some 19), none, .faddr 2 (.s 2)⟩,
 ⟨(some 20), none, .load none (some 0) (.s 19)⟩,
 ⟨(some 21), none, .faddr 2 (.s 3)⟩,
 ⟨(some 22), none, .load none (some 1) (.s 21)⟩,
 ⟨(some 23), none, .bin .add .int (.s 20) (.s 22)⟩,
 ⟨(some 24), none, .build [.bool false, .int .u64 0, .int .u64 0] [(0, 1, (.s 13)), (1, 1, (.s 18)), (2, 1, (.s 23))]⟩,
 ⟨(some 5), none, .alloc 3 [.bool false, .int .u64 0, .int .u64 0]⟩,
 ⟨none, none, .store 3 3 [] (.s 5) (.s 24)⟩])
 (.seq
 (.seq
 (.region false [
 ⟨(some 25), none, .faddr 2 (.s 5)⟩,
 ⟨(some 26), none, .load none (some 3) (.s 25)⟩,
 ⟨(some 27), none, .faddr 2 (.s 2)⟩,
 ⟨(some 28), none, .load none (some 0) (.s 27)⟩,
 ⟨(some 29), none, .bin .lss .int (.s 26) (.s 28)⟩])
 (.cond (.s 29)
 (.region false [
 ⟨(some 30), none, .faddr 1 (.s 5)⟩,
 ⟨(some 31), none, .load none (some 3) (.s 30)⟩,
 ⟨(some 32), none, .bin .add .int (.s 31) (.c (.int .u64 1))⟩,
 ⟨(some 33), none, .faddr 1 (.s 5)⟩,
 ⟨none, none, .store 1 3 [] (.s 33) (.s 32)⟩])
 .skip))
 (.seq
 (.region false [
 ⟨(some 34), none, .load (some 3) (some 3) (.s 5)⟩,
 ⟨none, none, .store 3 2 [] (.s 4) (.s 34)⟩])
 .ret)))
 .skip))
 (.seq
 (.seq
 (.region false [
 ⟨(some 35), none, .load (some 3) (some 0) (.s 2)⟩,
 ⟨(some 36), none, .load (some 3) (some 1) (.s 3)⟩,
 ⟨(some 37), none, .call (.c (.fn 54 [] [])) [(.s 35), (.s 36)] [] [] [] false⟩])
 (.cond (.s 37)
 (.region false [
 ⟨(some 38), none, .load (some 3) (some 1) (.s 3)⟩,
 ⟨(some 39), none, .load (some 3) (some 0) (.s 2)⟩,
 ⟨none, none, .store 3 0 [] (.s 2) (.s 38)⟩,
 ⟨none, none, .store 3 1 [] (.s 3) (.s 39)⟩])
 .skip))
 (.seq
 (.region false [
 ⟨(some 40), none, .faddr 0 (.s 2)⟩,
 ⟨(some 41), none, .load none (some 0) (.s 40)⟩,
 ⟨(some 42), none, .faddr 1 (.s 2)⟩,
 ⟨(some 43), none, .load none (some 0) (.s 42)⟩,
 ⟨(some 44), none, .faddr 1 (.s 3)⟩,
 ⟨(some 45), none, .load none (some 1) (.s 44)⟩,
 ⟨(some 46), none, .bin .sub .int (.s 43) (.s 45)⟩,
 ⟨(some 47), none, .faddr 2 (.s 2)⟩,
 ⟨(some 48), none, .load none (some 0) (.s 47)⟩,
 ⟨(some 49), none, .faddr 2 (.s 3)⟩,
 ⟨(some 50), none, .load none (some 1) (.s 49)⟩,
 ⟨(some 51), none, .bin .sub .int (.s 48) (.s 50)⟩,
 ⟨(some 52), none, .build [.bool false, .int .u64 0, .int .u64 0] [(0, 1, (.s 41)), (1, 1, (.s 46)), (2, 1, (.s 51))]⟩,
 ⟨(some 6), none, .alloc 4 [.bool false, .int .u64 0, .int .u64 0]⟩,
 ⟨none, none, .store 3 4 [] (.s 6) (.s 52)⟩])
 (.seq
 (.seq
 (.region false [
 ⟨(some 53), none, .faddr 2 (.s 2)⟩,
 ⟨(some 54), none, .load none (some 0) (.s 53)⟩,
 ⟨(some 55), none, .faddr 2 (.s 3)⟩,
 ⟨(some 56), none, .load none (some 1) (.s 55)⟩,
 ⟨(some 57), none, .bin .lss .int (.s 54) (.s 56)⟩])
 (.cond (.s 57)
 (.region false [
 ⟨(some 58), none, .faddr 1 (.s 6)⟩,
 ⟨(some 59), none, .load none (some 4) (.s 58)⟩,
 ⟨(some 60), none, .bin .sub .int (.s 59) (.c (.int .u64 1))⟩,
 ⟨(some 61), none, .faddr 1 (.s 6)⟩,
 ⟨none, none, .store 1 4 [] (.s 61) (.s 60)⟩])
 .skip))
 (.seq
 (.seq
 (.region false [
 ⟨(some 62), none, .faddr 1 (.s 6)⟩,
 ⟨(some 63), none, .load none (some 4) (.s 62)⟩,
 ⟨(some 64), none, .bin .eql .int (.s 63) (.c (.int .u64 0))⟩,
 ⟨(some 65), none, .mv (.s 64)⟩,
 ⟨(some 66), (some (65, true)), .faddr 2 (.s 6)⟩,
 ⟨(some 67), (some (65, true)), .load none (some 4) (.s 66)⟩,
 ⟨(some 68), (some (65, true)), .bin .eql .int (.s 67) (.c (.int .u64 0))⟩,
 ⟨(some 69), none, .pick (.s 65) (.s 68) (.c (.bool false))⟩])
 (.cond (.s 69)
 (.region false [
 ⟨(some 70), none, .faddr 0 (.s 6)⟩,
 ⟨none, none, .store 1 4 [] (.s 70) (.c (.bool false))⟩])
 .skip))
 (.seq
 (.region false [
 ⟨(some 71), none, .load (some 3) (some 4) (.s 6)⟩,
 ⟨none, none, .store 3 2 [] (.s 4) (.s 71)⟩])
 .ret))))))) }
/- cuboid/cuboidref01.Of -/
def f30 : MFun := { nt := 8, np := 1, no := 1, res := [.cell 2 0 (some 3)], body :=
 (.seq
 (.region false [
 ⟨(some 2), none, .alloc 0 [.bool false, .int .u64 0, .int .u64 0]⟩])
 (.seq
 (.region false [
 ⟨(some 3), none, .mv (.s 0)⟩,
 ⟨(some 4), none, .bin .lss .int (.s 3) (.c (.int .i64 0))⟩,
 ⟨(some 5), none, .mv (.s 0)⟩,
 ⟨(some 6), none, .call (.c (.fn 28 [] [])) [(.s 5)] [] [] [] false⟩,
 ⟨(some 7), none, .build [.bool false, .int .u64 0, .int .u64 0] [(0, 1, (.s 4)), (1, 1, (.c (.int .u64 0))), (2, 1, (.s 6))]⟩,
 ⟨none, none, .store 3 0 [] (.s 2) (.s 7)⟩])
 .ret)) }
/- cuboid/cuboidref01.Back -/
def f31 : MFun := { nt := 37, np := 1, no := 1, res := [.slot 2, .slot 3], body :=
 (.seq
 (.region false [
 ⟨(some 1), none, .box 0 (.s 0)⟩,
 ⟨(some 2), none, .mv (.c (.int .i64 0))⟩,
 ⟨(some 3), none, .mv (.c (.bool false))⟩])
 (.seq
 (.block 0
 (.seq
 (.region false [
 ⟨(some 5), none, .faddr 1 (.s 1)⟩,
 ⟨(some 6), none, .load none (some 0) (.s 5)⟩,
 ⟨(some 7), none, .bin .neq .int (.s 6) (.c (.int .u64 0))⟩,
 ⟨(some 8), none, .mv (.s 7)⟩,
 ⟨(some 9), (some (8, false)), .faddr 2 (.s 1)⟩,
 ⟨(some 10), (some (8, false)), .load none (some 0) (.s 9)⟩,
 ⟨(some 11), (some (8, false)), .bin .gtr .int (.s 10) (.c (.int .u64 9223372036854775808))⟩,
 ⟨(some 12), none, .pick (.s 8) (.c (.bool true)) (.s 11)⟩,
 ⟨(some 13), none, .mv (.s 12)⟩,
 ⟨(some 14), (some (13, false)), .faddr 2 (.s 1)⟩,
 ⟨(some 15), (some (13, false)), .load none (some 0) (.s 14)⟩,
 ⟨(some 16), (some (13, false)), .bin .eql .int (.s 15) (.c (.int .u64 9223372036854775808))⟩,
 ⟨(some 17), (some (13, false)), .mv (.s 16)⟩,
 ⟨(some 18), (some (17, true)), .faddr 0 (.s 1)⟩,
 ⟨(some 19), (some (17, true)), .load none (some 0) (.s 18)⟩,
 ⟨(some 20), (some (17, true)), .un .not (.s 19)⟩,
 ⟨(some 21), (some (13, false)), .pick (.s 17) (.s 20) (.c (.bool false))⟩,
 ⟨(some 22), none, .pick (.s 13) (.c (.bool true)) (.s 21)⟩,
 ⟨(some 4), none, .mv (.s 22)⟩])
 (.cond (.s 4)
 (.seq
 (.region false [
 ⟨(some 2), none, .mv (.c (.int .i64 0))⟩,
 ⟨(some 3), none, .mv (.c (.bool false))⟩])
 .ret)
 (.seq
 (.region false [
 ⟨(some 24), none, .faddr 2 (.s 1)⟩,
 ⟨(some 25), none, .load none (some 0) (.s 24)⟩,
 ⟨(some 26), none, .bin .eql .int (.s 25) (.c (.int .u64 9223372036854775808))⟩,
 ⟨(some 23), none, .mv (.s 26)⟩])
 (.cond (.s 23)
 (.seq
 (.region false [
 ⟨(some 2), none, .mv (.c (.int .i64 (-9223372036854775808)))⟩,
 ⟨(some 3), none, .mv (.c (.bool true))⟩])
 .ret)
 (.seq
 (.region false [
 ⟨(some 28), none, .faddr 0 (.s 1)⟩,
 ⟨(some 29), none, .load none (some 0) (.s 28)⟩,
 ⟨(some 27), none, .mv (.s 29)⟩])
 (.cond (.s 27)
 (.seq
 (.region false [
 ⟨(some 30), none, .faddr 2 (.s 1)⟩,
 ⟨(some 31), none, .load none (some 0) (.s 30)⟩,
 ⟨(some 32), none, .conv .i64 (.s 31)⟩,
 ⟨(some 33), none, .un .neg (.s 32)⟩,
 ⟨(some 2), none, .mv (.s 33)⟩,
 ⟨(some 3), none, .mv (.c (.bool true))⟩])
 .ret)
 .skip)))))))
 (.seq
 (.region false [
 ⟨(some 34), none, .faddr 2 (.s 1)⟩,
 ⟨(some 35), none, .load none (some 0) (.s 34)⟩,
 ⟨(some 36), none, .conv .i64 (.s 35)⟩,
 ⟨(some 2), none, .mv (.s 36)⟩,
 ⟨(some 3), none, .mv (.c (.bool true))⟩])
 .ret))) }
/- cuboid/cuboidref01.Total -/
def f13 : MFun := { nt := 23, np := 1, no := 1, res := [.slot 2, .slot 3], body :=
 (.seq
 (.region false [
 ⟨(some 2), none, .mv (.c (.int .i64 0))⟩,
 ⟨(some 3), none, .mv (.c (.bool false))⟩])
 (.seq
 (.region false [
 ⟨(some 4), none, .alloc 0 [.bool false, .int .u64 0, .int .u64 0]⟩])
 (.seq
 (.seq
 (.region false [
 ⟨(some 5), none, .mv (.c (.int .i64 0))⟩])
 (.block 0
 (.loop [0, 4, 5] [0]
 (.seq
 (.seq
 (.region false [
 ⟨(some 6), none, .mv (.s 5)⟩,
 ⟨(some 7), none, .mv (.s 0)⟩,
 ⟨(some 8), none, .len (.s 7)⟩,
 ⟨(some 9), none, .bin .lss .int (.s 6) (.s 8)⟩])
 (.cond (.s 9)
 .skip
 (.exit 0)))
 (.seq
 (.block 1
 (.region true [
 ⟨(some 12), none, .load (some 3) (some 0) (.s 4)⟩,
 ⟨(some 13), none, .mv (.s 0)⟩,
 ⟨(some 14), none, .mv (.s 5)⟩,
 ⟨(some 15), none, .iaddrS 1 (.s 13) (.s 14)⟩,
 ⟨(some 16), none, .load none none (.s 15)⟩,
 ⟨(some 17), none, .call (.c (.fn 30 [] [])) [(.s 16)] [] [] [] false⟩,
 ⟨(some 18), none, .call (.c (.fn 29 [] [])) [(.s 12), (.s 17)] [] [] [] false⟩,
 ⟨none, none, .store 3 0 [] (.s 4) (.s 18)⟩]))
 (.region false [
 ⟨(some 10), none, .mv (.s 5)⟩,
 ⟨(some 11), none, .bin .add .int (.s 10) (.c (.int .i64 1))⟩,
 ⟨(some 5), none, .mv (.s 11)⟩]))))))
 (.seq
 (.region false [
 ⟨(some 19), none, .load (some 3) (some 0) (.s 4)⟩,
 ⟨(some 20), none, .call (.c (.fn 31 [] [])) [(.s 19)] [] [] [] false⟩,
 ⟨(some 21), none, .extract (.s 20) 0⟩,
 ⟨(some 22), none, .extract (.s 20) 1⟩,
 ⟨(some 2), none, .mv (.s 21)⟩,
 ⟨(some 3), none, .mv (.s 22)⟩])
 .ret)))) }
/- cuboid/cuboidlaw07.RowSums -/
def f5 : MFun := { nt := 94, np := 2, no := 2, res := [.slot 4], body :=
 (.seq
 (.region false [
 ⟨(some 4), none, .mv (.c (.bool false))⟩])
 (.seq
 (.seq
 (.region false [
 ⟨(some 12), none, .mv (.s 0)⟩,
 ⟨(some 13), none, .len (.s 12)⟩,
 ⟨(some 14), none, .bin .gtr .int (.s 13) (.c (.int .i64 200))⟩])
 (.cond (.s 14)
 (.seq
 (.region false [
 ⟨(some 15), none, .call (.c (.fn 10 [] [])) [] [] [] [] false⟩,
 ⟨(some 4), none, .mv (.s 15)⟩])
 .ret)
 .skip))
 (.seq
 (.region false [
 ⟨(some 17), none, .mv (.s 0)⟩,
 ⟨(some 18), none, .call (.c (.fn 11 [] [])) [(.s 17)] [] [] [] false⟩,
 ⟨(some 16), none, .mv (.s 18)⟩,
 ⟨(some 19), none, .extract (.s 16) 0⟩,
 ⟨(some 20), none, .extract (.s 16) 1⟩,
 ⟨(some 5), none, .alloc 0 [.int .i64 0, .int .i64 0]⟩,
 ⟨none, none, .store 2 0 [] (.s 5) (.s 19)⟩,
 ⟨(some 6), none, .mv (.s 20)⟩])
 (.seq
 (.seq
 (.region false [
 ⟨(some 21), none, .mv (.s 6)⟩,
 ⟨(some 22), none, .un .not (.s 21)⟩])
 (.cond (.s 22)
 (.seq
 (.region false [
 ⟨(some 23), none, .load (some 2) (some 0) (.s 5)⟩,
 ⟨(some 24), none, .build [.int .i64 0, .int .i64 0] []⟩,
 ⟨(some 25), none, .bin .eql (.agg [some .i64, some .i64]) (.s 23) (.s 24)⟩,
 ⟨(some 26), none, .mv (.s 25)⟩,
 ⟨(some 27), (some (26, true)), .call (.c (.fn 10 [] [])) [] [] [] [] false⟩,
 ⟨(some 28), none, .pick (.s 26) (.s 27) (.c (.bool false))⟩,
 ⟨(some 4), none, .mv (.s 28)⟩])
 .ret)
 .skip))
 (.seq
 (.seq
 (.region false [
 ⟨(some 7), none, .mv (.c (.int .i64 0))⟩])
 (.block 0
 (.loop [0, 1, 5, 7] [0]
 (.seq
 (.seq
 (.region false [
 ⟨(some 29), none, .mv (.s 7)⟩,
 ⟨(some 30), none, .bin .lss .int (.s 29) (.c (.int .i64 2))⟩])
 (.cond (.s 30)
 .skip
 (.exit 0)))
 (.seq
 (.block 1
 (.seq
 (.region false [
 ⟨(some 8), none, .vnil 1 1⟩])
 (.seq
 (.seq
 (.region false [
 ⟨(some 9), none, .mv (.c (.int .i64 0))⟩])
 (.block 2
 (.loop [0, 1, 5, 7, 8, 9] [0, 1]
 (.seq
 (.seq
 (.region false [
 ⟨(some 33), none, .mv (.s 9)⟩,
 ⟨(some 34), none, .mv (.s 0)⟩,
 ⟨(some 35), none, .len (.s 34)⟩,
 ⟨(some 36), none, .bin .lss .int (.s 33) (.s 35)⟩])
 (.cond (.s 36)
 .skip
 (.exit 2)))
 (.seq
 (.block 3
 (.seq
 (.region false [
 ⟨(some 39), none, .mv (.s 9)⟩,
 ⟨(some 40), none, .mv (.s 1)⟩,
 ⟨(some 41), none, .len (.s 40)⟩,
 ⟨(some 42), none, .bin .lss .int (.s 39) (.s 41)⟩,
 ⟨(some 43), none, .mv (.s 42)⟩,
 ⟨(some 44), (some (43, true)), .mv (.s 1)⟩,
 ⟨(some 45), (some (43, true)), .mv (.s 9)⟩,
 ⟨(some 46), (some (43, true)), .iaddrS 1 (.s 44) (.s 45)⟩,
 ⟨(some 47), (some (43, true)), .load none none (.s 46)⟩,
 ⟨(some 48), none, .pick (.s 43) (.s 47) (.c (.bool false))⟩])
 (.cond (.s 48)
 (.region false [
 ⟨(some 49), none, .mv (.s 8)⟩,
 ⟨(some 50), none, .mv (.s 0)⟩,
 ⟨(some 51), none, .mv (.s 9)⟩,
 ⟨(some 52), none, .mv (.s 7)⟩,
 ⟨(some 53), none, .iaddrS 6 (.s 50) (.s 51)⟩,
 ⟨(some 54), none, .faddr 4 (.s 53)⟩,
 ⟨(some 55), none, .iaddrA 2 1 (.s 54) (.s 52)⟩,
 ⟨(some 56), none, .load none none (.s 55)⟩,
 ⟨(some 57), none, .lit none [] 1 1 [.int .i64 0] [(0, 1, (.s 56))]⟩,
 ⟨(some 58), none, .append 8 1 1 none (.s 49) (.s 57)⟩,
 ⟨(some 8), none, .mv (.s 58)⟩])
 .skip)))
 (.region false [
 ⟨(some 37), none, .mv (.s 9)⟩,
 ⟨(some 38), none, .bin .add .int (.s 37) (.c (.int .i64 1))⟩,
 ⟨(some 9), none, .mv (.s 38)⟩]))))))
 (.seq
 (.region false [
 ⟨(some 60), none, .mv (.s 8)⟩,
 ⟨(some 61), none, .call (.c (.fn 13 [] [])) [(.s 60)] [] [1] [] false⟩,
 ⟨(some 59), none, .mv (.s 61)⟩,
 ⟨(some 62), none, .extract (.s 59) 0⟩,
 ⟨(some 63), none, .extract (.s 59) 1⟩,
 ⟨(some 10), none, .mv (.s 62)⟩,
 ⟨(some 11), none, .mv (.s 63)⟩])
 (.seq
 (.region false [
 ⟨(some 64), none, .mv (.s 11)⟩,
 ⟨(some 65), none, .un .not (.s 64)⟩,
 ⟨(some 66), none, .mv (.s 65)⟩,
 ⟨(some 67), (some (66, false)), .mv (.s 10)⟩,
 ⟨(some 68), (some (66, false)), .mv (.s 7)⟩,
 ⟨(some 69), (some (66, false)), .iaddrA 2 1 (.s 5) (.s 68)⟩,
 ⟨(some 70), (some (66, false)), .load none (some 0) (.s 69)⟩,
 ⟨(some 71), (some (66, false)), .bin .gtr .int (.s 67) (.s 70)⟩,
 ⟨(some 72), none, .pick (.s 66) (.c (.bool true)) (.s 71)⟩,
 ⟨(some 73), none, .mv (.s 72)⟩,
 ⟨(some 74), (some (73, false)), .mv (.s 10)⟩,
 ⟨(some 75), (some (73, false)), .mv (.s 7)⟩,
 ⟨(some 76), (some (73, false)), .iaddrA 2 1 (.s 5) (.s 75)⟩,
 ⟨(some 77), (some (73, false)), .load none (some 0) (.s 76)⟩,
 ⟨(some 78), (some (73, false)), .un .neg (.s 77)⟩,
 ⟨(some 79), (some (73, false)), .bin .lss .int (.s 74) (.s 78)⟩,
 ⟨(some 80), none, .pick (.s 73) (.c (.bool true)) (.s 79)⟩,
 ⟨(some 81), none, .mv (.s 80)⟩,
 ⟨(some 82), (some (81, false)), .mv (.s 7)⟩,
 ⟨(some 83), (some (81, false)), .iaddrA 2 1 (.s 5) (.s 82)⟩,
 ⟨(some 84), (some (81, false)), .load none (some 0) (.s 83)⟩,
 ⟨(some 85), (some (81, false)), .bin .lss .int (.s 84) (.c (.int .i64 0))⟩,
 ⟨(some 86), none, .pick (.s 81) (.c (.bool true)) (.s 85)⟩,
 ⟨(some 87), none, .mv (.s 86)⟩,
 ⟨(some 88), (some (87, false)), .mv (.s 7)⟩,
 ⟨(some 89), (some (87, false)), .iaddrA 2 1 (.s 5) (.s 88)⟩,
 ⟨(some 90), (some (87, false)), .load none (some 0) (.s 89)⟩,
 ⟨(some 91), (some (87, false)), .bin .gtr .int (.s 90) (.c (.int .i64 2305843009213693952))⟩,
 ⟨(some 92), none, .pick (.s 87) (.c (.bool true)) (.s 91)⟩])
 (.cond (.s 92)
 (.seq
 (.region false [
 ⟨(some 4), none, .mv (.c (.bool false))⟩])
 .ret)
 .skip))))))
 (.region false [
 ⟨(some 31), none, .mv (.s 7)⟩,
 ⟨(some 32), none, .bin .add .int (.s 31) (.c (.int .i64 1))⟩,
 ⟨(some 7), none, .mv (.s 32)⟩]))))))
 (.seq
 (.region false [
 ⟨(some 93), none, .call (.c (.fn 10 [] [])) [] [] [] [] false⟩,
 ⟨(some 4), none, .mv (.s 93)⟩])
 .ret)))))) }
/- cuboid/cuboidref02.Digits -/
def f35 : MFun := { nt := 20, np := 1, no := 1, res := [.slot 2], body :=
 (.seq
 (.region false [
 ⟨(some 2), none, .mv (.c .nilsl)⟩])
 (.seq
 (.region false [
 ⟨(some 3), none, .vnil 0 1⟩])
 (.seq
 (.block 0
 (.loop [0, 3] [0]
 (.seq
 (.seq
 (.region false [
 ⟨(some 4), none, .mv (.s 0)⟩,
 ⟨(some 5), none, .bin .gtr .int (.s 4) (.c (.int .u64 127))⟩])
 (.cond (.s 5)
 .skip
 (.exit 0)))
 (.block 1
 (.seq
 (.region false [
 ⟨(some 6), none, .mv (.s 3)⟩,
 ⟨(some 7), none, .mv (.s 0)⟩,
 ⟨(some 8), none, .bin .rem .int (.s 7) (.c (.int .u64 128))⟩,
 ⟨(some 9), none, .conv .u8 (.s 8)⟩,
 ⟨(some 10), none, .bin .add .int (.s 9) (.c (.int .u8 128))⟩,
 ⟨(some 11), none, .lit none [] 1 1 [.int .u8 0] [(0, 1, (.s 10))]⟩,
 ⟨(some 12), none, .append 1 1 0 none (.s 6) (.s 11)⟩,
 ⟨(some 3), none, .mv (.s 12)⟩])
 (.region false [
 ⟨(some 13), none, .mv (.s 0)⟩,
 ⟨(some 14), none, .bin .quo .int (.s 13) (.c (.int .u64 128))⟩,
 ⟨(some 0), none, .mv (.s 14)⟩]))))))
 (.seq
 (.region false [
 ⟨(some 15), none, .mv (.s 3)⟩,
 ⟨(some 16), none, .mv (.s 0)⟩,
 ⟨(some 17), none, .conv .u8 (.s 16)⟩,
 ⟨(some 18), none, .lit none [] 1 1 [.int .u8 0] [(0, 1, (.s 17))]⟩,
 ⟨(some 19), none, .append 1 1 0 none (.s 15) (.s 18)⟩,
 ⟨(some 2), none, .mv (.s 19)⟩])
 .ret)))) }
/- cuboid/cuboidref02.Zig -/
def f36 : MFun := { nt := 14, np := 1, no := 0, res := [.slot 2], body :=
 (.seq
 (.region false [
 ⟨(some 2), none, .mv (.c (.int .u64 0))⟩])
 (.seq
 (.seq
 (.region false [
 ⟨(some 3), none, .mv (.s 0)⟩,
 ⟨(some 4), none, .bin .lss .int (.s 3) (.c (.int .i64 0))⟩])
 (.cond (.s 4)
 (.seq
 (.region false [
 ⟨(some 5), none, .mv (.s 0)⟩,
 ⟨(some 6), none, .bin .add .int (.s 5) (.c (.int .i64 1))⟩,
 ⟨(some 7), none, .un .neg (.s 6)⟩,
 ⟨(some 8), none, .conv .u64 (.s 7)⟩,
 ⟨(some 9), none, .bin .mul .int (.c (.int .u64 2)) (.s 8)⟩,
 ⟨(some 10), none, .bin .add .int (.s 9) (.c (.int .u64 1))⟩,
 ⟨(some 2), none, .mv (.s 10)⟩])
 .ret)
 .skip))
 (.seq
 (.region false [
 ⟨(some 11), none, .mv (.s 0)⟩,
 ⟨(some 12), none, .conv .u64 (.s 11)⟩,
 ⟨(some 13), none, .bin .mul .int (.c (.int .u64 2)) (.s 12)⟩,
 ⟨(some 2), none, .mv (.s 13)⟩])
 .ret))) }
/- cuboid/cuboidref07.Bytes -/
def f15 : MFun := { nt := 30, np := 1, no := 2, res := [.slot 2], body :=
 (.seq
 (.region false [
 ⟨(some 1), none, .box 0 (.s 0)⟩,
 ⟨(some 2), none, .mv (.c .nilsl)⟩])
 (.seq
 (.region false [
 ⟨(some 3), none, .vnil 1 1⟩])
 (.seq
 (.seq
 (.region false [
 ⟨(some 4), none, .mv (.c (.int .i64 0))⟩])
 (.block 0
 (.loop [1, 3, 4] [0, 1]
 (.seq
 (.seq
 (.region false [
 ⟨(some 6), none, .mv (.s 4)⟩,
 ⟨(some 7), none, .bin .lss .int (.s 6) (.c (.int .i64 4))⟩])
 (.cond (.s 7)
 .skip
 (.exit 0)))
 (.seq
 (.block 1
 (.region false [
 ⟨(some 10), none, .mv (.s 3)⟩,
 ⟨(some 11), none, .mv (.s 4)⟩,
 ⟨(some 12), none, .faddr 0 (.s 1)⟩,
 ⟨(some 13), none, .iaddrA 4 1 (.s 12) (.s 11)⟩,
 ⟨(some 14), none, .load none (some 0) (.s 13)⟩,
 ⟨(some 15), none, .lit none [] 1 1 [.int .u8 0] [(0, 1, (.s 14))]⟩,
 ⟨(some 16), none, .append 1 1 1 none (.s 10) (.s 15)⟩,
 ⟨(some 3), none, .mv (.s 16)⟩]))
 (.region false [
 ⟨(some 8), none, .mv (.s 4)⟩,
 ⟨(some 9), none, .bin .add .int (.s 8) (.c (.int .i64 1))⟩,
 ⟨(some 4), none, .mv (.s 9)⟩]))))))
 (.seq
 (.seq
 (.region false [
 ⟨(some 5), none, .mv (.c (.int .i64 0))⟩])
 (.block 2
 (.loop [1, 3, 5] [0, 1]
 (.seq
 (.seq
 (.region false [
 ⟨(some 17), none, .mv (.s 5)⟩,
 ⟨(some 18), none, .bin .lss .int (.s 17) (.c (.int .i64 2))⟩])
 (.cond (.s 18)
 .skip
 (.exit 2)))
 (.seq
 (.block 3
 (.region false [
 ⟨(some 21), none, .mv (.s 3)⟩,
 ⟨(some 22), none, .mv (.s 5)⟩,
 ⟨(some 23), none, .faddr 4 (.s 1)⟩,
 ⟨(some 24), none, .iaddrA 2 1 (.s 23) (.s 22)⟩,
 ⟨(some 25), none, .load none (some 0) (.s 24)⟩,
 ⟨(some 26), none, .call (.c (.fn 36 [] [])) [(.s 25)] [] [] [] false⟩,
 ⟨(some 27), none, .call (.c (.fn 35 [] [])) [(.s 26)] [] [] [] true⟩,
 ⟨(some 28), none, .append 1 1 1 none (.s 21) (.s 27)⟩,
 ⟨(some 3), none, .mv (.s 28)⟩]))
 (.region false [
 ⟨(some 19), none, .mv (.s 5)⟩,
 ⟨(some 20), none, .bin .add .int (.s 19) (.c (.int .i64 1))⟩,
 ⟨(some 5), none, .mv (.s 20)⟩]))))))
 (.seq
 (.region false [
 ⟨(some 29), none, .mv (.s 3)⟩,
 ⟨(some 2), none, .mv (.s 29)⟩])
 .ret))))) }
/- cuboid/cuboidkeep.Mod -/
def f17 : MFun := { nt := 15, np := 2, no := 0, res := [.slot 4], body :=
 (.seq
 (.region false [
 ⟨(some 4), none, .mv (.c (.int .i64 0))⟩])
 (.seq
 (.region false [
 ⟨(some 6), none, .mv (.s 0)⟩,
 ⟨(some 7), none, .mv (.s 1)⟩,
 ⟨(some 8), none, .bin .rem .int (.s 6) (.s 7)⟩,
 ⟨(some 5), none, .mv (.s 8)⟩])
 (.seq
 (.seq
 (.region false [
 ⟨(some 9), none, .mv (.s 5)⟩,
 ⟨(some 10), none, .bin .lss .int (.s 9) (.c (.int .i64 0))⟩])
 (.cond (.s 10)
 (.region false [
 ⟨(some 11), none, .mv (.s 5)⟩,
 ⟨(some 12), none, .mv (.s 1)⟩,
 ⟨(some 13), none, .bin .add .int (.s 11) (.s 12)⟩,
 ⟨(some 5), none, .mv (.s 13)⟩])
 .skip))
 (.seq
 (.region false [
 ⟨(some 14), none, .mv (.s 5)⟩,
 ⟨(some 4), none, .mv (.s 14)⟩])
 .ret)))) }
/- cuboid/cuboidref02.Get -/
def f39 : MFun := { nt := 67, np := 1, no := 0, res := [.slot 2, .slot 3], body :=
 (.seq
 (.region false [
 ⟨(some 2), none, .mv (.c (.int .u64 0))⟩,
 ⟨(some 3), none, .mv (.c (.int .i64 0))⟩])
 (.seq
 (.region false [
 ⟨(some 4), none, .mv (.c (.int .i64 0))⟩])
 (.seq
 (.block 0
 (.loop [0, 4] []
 (.seq
 (.seq
 (.region false [
 ⟨(some 7), none, .mv (.s 4)⟩,
 ⟨(some 8), none, .mv (.s 0)⟩,
 ⟨(some 9), none, .len (.s 8)⟩,
 ⟨(some 10), none, .bin .lss .int (.s 7) (.s 9)⟩,
 ⟨(some 11), none, .mv (.s 10)⟩,
 ⟨(some 12), (some (11, true)), .mv (.s 0)⟩,
 ⟨(some 13), (some (11, true)), .mv (.s 4)⟩,
 ⟨(some 14), (some (11, true)), .iaddrS 1 (.s 12) (.s 13)⟩,
 ⟨(some 15), (some (11, true)), .load none none (.s 14)⟩,
 ⟨(some 16), (some (11, true)), .bin .gtr .int (.s 15) (.c (.int .u8 127))⟩,
 ⟨(some 17), none, .pick (.s 11) (.s 16) (.c (.bool false))⟩])
 (.cond (.s 17)
 .skip
 (.exit 0)))
 (.block 1
 (.region false [
 ⟨(some 18), none, .mv (.s 4)⟩,
 ⟨(some 19), none, .bin .add .int (.s 18) (.c (.int .i64 1))⟩,
 ⟨(some 4), none, .mv (.s 19)⟩])))))
 (.seq
 (.seq
 (.region false [
 ⟨(some 20), none, .mv (.s 4)⟩,
 ⟨(some 21), none, .mv (.s 0)⟩,
 ⟨(some 22), none, .len (.s 21)⟩,
 ⟨(some 23), none, .bin .geq .int (.s 20) (.s 22)⟩,
 ⟨(some 24), none, .mv (.s 23)⟩,
 ⟨(some 25), (some (24, false)), .mv (.s 4)⟩,
 ⟨(some 26), (some (24, false)), .bin .gtr .int (.s 25) (.c (.int .i64 9))⟩,
 ⟨(some 27), none, .pick (.s 24) (.c (.bool true)) (.s 26)⟩,
 ⟨(some 28), none, .mv (.s 27)⟩,
 ⟨(some 29), (some (28, false)), .mv (.s 4)⟩,
 ⟨(some 30), (some (28, false)), .bin .gtr .int (.s 29) (.c (.int .i64 0))⟩,
 ⟨(some 31), (some (28, false)), .mv (.s 30)⟩,
 ⟨(some 32), (some (31, true)), .mv (.s 0)⟩,
 ⟨(some 33), (some (31, true)), .mv (.s 4)⟩,
 ⟨(some 34), (some (31, true)), .iaddrS 1 (.s 32) (.s 33)⟩,
 ⟨(some 35), (some (31, true)), .load none none (.s 34)⟩,
 ⟨(some 36), (some (31, true)), .bin .eql .int (.s 35) (.c (.int .u8 0))⟩,
 ⟨(some 37), (some (28, false)), .pick (.s 31) (.s 36) (.c (.bool false))⟩,
 ⟨(some 38), none, .pick (.s 28) (.c (.bool true)) (.s 37)⟩,
 ⟨(some 39), none, .mv (.s 38)⟩,
 ⟨(some 40), (some (39, false)), .mv (.s 4)⟩,
 ⟨(some 41), (some (39, false)), .bin .eql .int (.s 40) (.c (.int .i64 9))⟩,
 ⟨(some 42), (some (39, false)), .mv (.s 41)⟩,
 ⟨(some 43), (some (42, true)), .mv (.s 0)⟩,
 ⟨(some 44), (some (42, true)), .mv (.s 4)⟩,
 ⟨(some 45), (some (42, true)), .iaddrS 1 (.s 43) (.s 44)⟩,
 ⟨(some 46), (some (42, true)), .load none none (.s 45)⟩,
 ⟨(some 47), (some (42, true)), .bin .gtr .int (.s 46) (.c (.int .u8 1))⟩,
 ⟨(some 48), (some (39, false)), .pick (.s 42) (.s 47) (.c (.bool false))⟩,
 ⟨(some 49), none, .pick (.s 39) (.c (.bool true)) (.s 48)⟩])
 (.cond (.s 49)
 (.seq
 (.region false [
 ⟨(some 2), none, .mv (.c (.int .u64 0))⟩,
 ⟨(some 3), none, .mv (.c (.int .i64 0))⟩])
 .ret)
 .skip))
 (.seq
 (.region false [
 ⟨(some 5), none, .mv (.c (.int .u64 0))⟩])
 (.seq
 (.seq
 (.region false [
 ⟨(some 50), none, .mv (.s 4)⟩,
 ⟨(some 6), none, .mv (.s 50)⟩])
 (.block 2
 (.loop [0, 4, 5, 6] []
 (.seq
 (.seq
 (.region false [
 ⟨(some 51), none, .mv (.s 6)⟩,
 ⟨(some 52), none, .bin .geq .int (.s 51) (.c (.int .i64 0))⟩])
 (.cond (.s 52)
 .skip
 (.exit 2)))
 (.seq
 (.block 3
 (.region false [
 ⟨(some 55), none, .mv (.s 5)⟩,
 ⟨(some 56), none, .bin .mul .int (.s 55) (.c (.int .u64 128))⟩,
 ⟨(some 57), none, .mv (.s 0)⟩,
 ⟨(some 58), none, .mv (.s 6)⟩,
 ⟨(some 59), none, .iaddrS 1 (.s 57) (.s 58)⟩,
 ⟨(some 60), none, .load none none (.s 59)⟩,
 ⟨(some 61), none, .bin .rem .int (.s 60) (.c (.int .u8 128))⟩,
 ⟨(some 62), none, .conv .u64 (.s 61)⟩,
 ⟨(some 63), none, .bin .add .int (.s 56) (.s 62)⟩,
 ⟨(some 5), none, .mv (.s 63)⟩]))
 (.region false [
 ⟨(some 53), none, .mv (.s 6)⟩,
 ⟨(some 54), none, .bin .sub .int (.s 53) (.c (.int .i64 1))⟩,
 ⟨(some 6), none, .mv (.s 54)⟩]))))))
 (.seq
 (.region false [
 ⟨(some 64), none, .mv (.s 5)⟩,
 ⟨(some 65), none, .mv (.s 4)⟩,
 ⟨(some 66), none, .bin .add .int (.s 65) (.c (.int .i64 1))⟩,
 ⟨(some 2), none, .mv (.s 64)⟩,
 ⟨(some 3), none, .mv (.s 66)⟩])
 .ret))))))) }
/- cuboid/cuboidref02.Zag -/
def f40 : MFun := { nt := 14, np := 1, no := 0, res := [.slot 2], body :=
 (.seq
 (.region false [
 ⟨(some 2), none, .mv (.c (.int .i64 0))⟩])
 (.seq
 (.seq
 (.region false [
 ⟨(some 3), none, .mv (.s 0)⟩,
 ⟨(some 4), none, .bin .rem .int (.s 3) (.c (.int .u64 2))⟩,
 ⟨(some 5), none, .bin .eql .int (.s 4) (.c (.int .u64 1))⟩])
 (.cond (.s 5)
 (.seq
 (.region false [
 ⟨(some 6), none, .mv (.s 0)⟩,
 ⟨(some 7), none, .bin .quo .int (.s 6) (.c (.int .u64 2))⟩,
 ⟨(some 8), none, .conv .i64 (.s 7)⟩,
 ⟨(some 9), none, .un .neg (.s 8)⟩,
 ⟨(some 10), none, .bin .sub .int (.s 9) (.c (.int .i64 1))⟩,
 ⟨(some 2), none, .mv (.s 10)⟩])
 .ret)
 .skip))
 (.seq
 (.region false [
 ⟨(some 11), none, .mv (.s 0)⟩,
 ⟨(some 12), none, .bin .quo .int (.s 11) (.c (.int .u64 2))⟩,
 ⟨(some 13), none, .conv .i64 (.s 12)⟩,
 ⟨(some 2), none, .mv (.s 13)⟩])
 .ret))) }
/- cuboid/cuboidref07.Read -/
def f18 : MFun := { nt := 49, np := 1, no := 2, res := [.cell 2 0 (some 6), .slot 3], body :=
 (.seq
 (.region false [
 ⟨(some 2), none, .alloc 0 [.int .u8 0, .int .u8 0, .int .u8 0, .int .u8 0, .int .i64 0, .int .i64 0]⟩,
 ⟨(some 3), none, .mv (.c (.int .i64 0))⟩])
 (.seq
 (.seq
 (.region false [
 ⟨(some 10), none, .mv (.s 0)⟩,
 ⟨(some 11), none, .len (.s 10)⟩,
 ⟨(some 12), none, .bin .lss .int (.s 11) (.c (.int .i64 4))⟩])
 (.cond (.s 12)
 (.seq
 (.region false [
 ⟨(some 13), none, .build [.int .u8 0, .int .u8 0, .int .u8 0, .int .u8 0, .int .i64 0, .int .i64 0] []⟩,
 ⟨none, none, .store 6 0 [] (.s 2) (.s 13)⟩,
 ⟨(some 3), none, .mv (.c (.int .i64 0))⟩])
 .ret)
 .skip))
 (.seq
 (.region false [
 ⟨(some 4), none, .alloc 1 [.int .u8 0, .int .u8 0, .int .u8 0, .int .u8 0, .int .i64 0, .int .i64 0]⟩])
 (.seq
 (.seq
 (.region false [
 ⟨(some 5), none, .mv (.c (.int .i64 0))⟩])
 (.block 0
 (.loop [0, 2, 4, 5] [0, 1]
 (.seq
 (.seq
 (.region false [
 ⟨(some 14), none, .mv (.s 5)⟩,
 ⟨(some 15), none, .bin .lss .int (.s 14) (.c (.int .i64 4))⟩])
 (.cond (.s 15)
 .skip
 (.exit 0)))
 (.seq
 (.block 1
 (.region false [
 ⟨(some 18), none, .mv (.s 5)⟩,
 ⟨(some 19), none, .mv (.s 0)⟩,
 ⟨(some 20), none, .mv (.s 5)⟩,
 ⟨(some 21), none, .iaddrS 1 (.s 19) (.s 20)⟩,
 ⟨(some 22), none, .load none none (.s 21)⟩,
 ⟨(some 23), none, .faddr 0 (.s 4)⟩,
 ⟨(some 24), none, .iaddrA 4 1 (.s 23) (.s 18)⟩,
 ⟨none, none, .store 1 1 [] (.s 24) (.s 22)⟩]))
 (.region false [
 ⟨(some 16), none, .mv (.s 5)⟩,
 ⟨(some 17), none, .bin .add .int (.s 16) (.c (.int .i64 1))⟩,
 ⟨(some 5), none, .mv (.s 17)⟩]))))))
 (.seq
 (.region false [
 ⟨(some 6), none, .mv (.c (.int .i64 4))⟩])
 (.seq
 (.seq
 (.region false [
 ⟨(some 7), none, .mv (.c (.int .i64 0))⟩])
 (.block 2
 (.loop [0, 2, 4, 6, 7] [0, 1]
 (.seq
 (.seq
 (.region false [
 ⟨(some 25), none, .mv (.s 7)⟩,
 ⟨(some 26), none, .bin .lss .int (.s 25) (.c (.int .i64 2))⟩])
 (.cond (.s 26)
 .skip
 (.exit 2)))
 (.seq
 (.block 3
 (.seq
 (.region false [
 ⟨(some 30), none, .mv (.s 0)⟩,
 ⟨(some 31), none, .mv (.s 6)⟩,
 ⟨(some 32), none, .sliceS 1 (.s 30) (some (.s 31)) none⟩,
 ⟨(some 33), none, .call (.c (.fn 39 [] [])) [(.s 32)] [] [] [] false⟩,
 ⟨(some 29), none, .mv (.s 33)⟩,
 ⟨(some 34), none, .extract (.s 29) 0⟩,
 ⟨(some 35), none, .extract (.s 29) 1⟩,
 ⟨(some 8), none, .mv (.s 34)⟩,
 ⟨(some 9), none, .mv (.s 35)⟩])
 (.seq
 (.seq
 (.region false [
 ⟨(some 36), none, .mv (.s 9)⟩,
 ⟨(some 37), none, .bin .eql .int (.s 36) (.c (.int .i64 0))⟩])
 (.cond (.s 37)
 (.seq
 (.region false [
 ⟨(some 38), none, .build [.int .u8 0, .int .u8 0, .int .u8 0, .int .u8 0, .int .i64 0, .int .i64 0] []⟩,
 ⟨none, none, .store 6 0 [] (.s 2) (.s 38)⟩,
 ⟨(some 3), none, .mv (.c (.int .i64 0))⟩])
 .ret)
 .skip))
 (.seq
 (.region false [
 ⟨(some 39), none, .mv (.s 7)⟩,
 ⟨(some 40), none, .mv (.s 8)⟩,
 ⟨(some 41), none, .call (.c (.fn 40 [] [])) [(.s 40)] [] [] [] false⟩,
 ⟨(some 42), none, .faddr 4 (.s 4)⟩,
 ⟨(some 43), none, .iaddrA 2 1 (.s 42) (.s 39)⟩,
 ⟨none, none, .store 1 1 [] (.s 43) (.s 41)⟩])
 (.region false [
 ⟨(some 44), none, .mv (.s 6)⟩,
 ⟨(some 45), none, .mv (.s 9)⟩,
 ⟨(some 46), none, .bin .add .int (.s 44) (.s 45)⟩,
 ⟨(some 6), none, .mv (.s 46)⟩])))))
 (.region false [
 ⟨(some 27), none, .mv (.s 7)⟩,
 ⟨(some 28), none, .bin .add .int (.s 27) (.c (.int .i64 1))⟩,
 ⟨(some 7), none, .mv (.s 28)⟩]))))))
 (.seq
 (.region false [
 ⟨(some 47), none, .load (some 6) (some 1) (.s 4)⟩,
 ⟨(some 48), none, .mv (.s 6)⟩,
 ⟨none, none, .store 6 0 [] (.s 2) (.s 47)⟩,
 ⟨(some 3), none, .mv (.s 48)⟩])
 .ret))))))) }
/- cuboid/cuboidlaw07.RowBack -/
def f6 : MFun := { nt := 103, np := 3, no := 6, res := [.slot 6], body :=
 (.seq
 (.region false [
 ⟨(some 3), none, .box 0 (.s 0)⟩,
 ⟨(some 6), none, .mv (.c (.bool false))⟩])
 (.seq
 (.seq
 (.region false [
 ⟨(some 19), none, .mv (.s 1)⟩,
 ⟨(some 20), none, .len (.s 19)⟩,
 ⟨(some 21), none, .bin .gtr .int (.s 20) (.c (.int .i64 1000))⟩])
 (.cond (.s 21)
 (.seq
 (.region false [
 ⟨(some 22), none, .call (.c (.fn 10 [] [])) [] [] [] [] false⟩,
 ⟨(some 6), none, .mv (.s 22)⟩])
 .ret)
 .skip))
 (.seq
 (.region false [
 ⟨(some 23), none, .load (some 6) (some 0) (.s 3)⟩,
 ⟨(some 24), none, .call (.c (.fn 14 [] [])) [(.s 23)] [] [] [] true⟩,
 ⟨(some 7), none, .mv (.s 24)⟩])
 (.seq
 (.seq
 (.region true [
 ⟨(some 25), none, .mv (.s 7)⟩,
 ⟨(some 26), none, .b2s none (.s 25)⟩,
 ⟨(some 27), none, .load (some 6) (some 0) (.s 3)⟩,
 ⟨(some 28), none, .call (.c (.fn 15 [] [])) [(.s 27)] [] [] [] true⟩,
 ⟨(some 29), none, .b2s none (.s 28)⟩,
 ⟨(some 30), none, .bin .neq .str (.s 26) (.s 29)⟩,
 ⟨(some 31), none, .mv (.s 30)⟩,
 ⟨(some 32), (some (31, false)), .mv (.s 7)⟩,
 ⟨(some 33), (some (31, false)), .len (.s 32)⟩,
 ⟨(some 34), (some (31, false)), .bin .lss .int (.s 33) (.c (.int .i64 6))⟩,
 ⟨(some 35), none, .pick (.s 31) (.c (.bool true)) (.s 34)⟩])
 (.cond (.s 35)
 (.seq
 (.region false [
 ⟨(some 6), none, .mv (.c (.bool false))⟩])
 .ret)
 .skip))
 (.seq
 (.region false [
 ⟨(some 37), none, .lit (some 1) [] 0 1 [.int .u8 0] []⟩,
 ⟨(some 38), none, .mv (.s 7)⟩,
 ⟨(some 39), none, .append 1 1 1 none (.s 37) (.s 38)⟩,
 ⟨(some 40), none, .mv (.s 1)⟩,
 ⟨(some 41), none, .append 1 1 1 none (.s 39) (.s 40)⟩,
 ⟨(some 42), none, .call (.c (.fn 16 [] [])) [(.s 41)] [] [1] [] false⟩,
 ⟨(some 36), none, .mv (.s 42)⟩,
 ⟨(some 43), none, .extract (.s 36) 0⟩,
 ⟨(some 44), none, .extract (.s 36) 1⟩,
 ⟨(some 45), none, .extract (.s 36) 2⟩,
 ⟨(some 8), none, .alloc 2 [.int .u8 0, .int .u8 0, .int .u8 0, .int .u8 0, .int .i64 0, .int .i64 0]⟩,
 ⟨none, none, .store 6 2 [] (.s 8) (.s 43)⟩,
 ⟨(some 9), none, .mv (.s 44)⟩,
 ⟨(some 10), none, .mv (.s 45)⟩])
 (.seq
 (.region false [
 ⟨(some 47), none, .mv (.s 7)⟩,
 ⟨(some 48), none, .mv (.s 2)⟩,
 ⟨(some 49), none, .mv (.s 7)⟩,
 ⟨(some 50), none, .len (.s 49)⟩,
 ⟨(some 51), none, .call (.c (.fn 17 [] [])) [(.s 48), (.s 50)] [] [] [] false⟩,
 ⟨(some 52), none, .sliceS 1 (.s 47) none (some (.s 51))⟩,
 ⟨(some 53), none, .call (.c (.fn 16 [] [])) [(.s 52)] [] [] [] false⟩,
 ⟨(some 46), none, .mv (.s 53)⟩,
 ⟨(some 54), none, .extract (.s 46) 0⟩,
 ⟨(some 55), none, .extract (.s 46) 1⟩,
 ⟨(some 56), none, .extract (.s 46) 2⟩,
 ⟨(some 11), none, .alloc 3 [.int .u8 0, .int .u8 0, .int .u8 0, .int .u8 0, .int .i64 0, .int .i64 0]⟩,
 ⟨none, none, .store 6 3 [] (.s 11) (.s 54)⟩,
 ⟨(some 12), none, .mv (.s 55)⟩,
 ⟨(some 13), none, .mv (.s 56)⟩])
 (.seq
 (.region false [
 ⟨(some 58), none, .mv (.s 1)⟩,
 ⟨(some 59), none, .call (.c (.fn 16 [] [])) [(.s 58)] [] [] [] false⟩,
 ⟨(some 57), none, .mv (.s 59)⟩,
 ⟨(some 60), none, .extract (.s 57) 0⟩,
 ⟨(some 61), none, .extract (.s 57) 1⟩,
 ⟨(some 62), none, .extract (.s 57) 2⟩,
 ⟨(some 14), none, .alloc 4 [.int .u8 0, .int .u8 0, .int .u8 0, .int .u8 0, .int .i64 0, .int .i64 0]⟩,
 ⟨none, none, .store 6 4 [] (.s 14) (.s 60)⟩,
 ⟨(some 15), none, .mv (.s 61)⟩,
 ⟨(some 16), none, .mv (.s 62)⟩])
 (.seq
 (.region false [
 ⟨(some 64), none, .mv (.s 1)⟩,
 ⟨(some 65), none, .call (.c (.fn 18 [] [])) [(.s 64)] [] [] [] false⟩,
 ⟨(some 63), none, .mv (.s 65)⟩,
 ⟨(some 66), none, .extract (.s 63) 0⟩,
 ⟨(some 67), none, .extract (.s 63) 1⟩,
 ⟨(some 17), none, .alloc 5 [.int .u8 0, .int .u8 0, .int .u8 0, .int .u8 0, .int .i64 0, .int .i64 0]⟩,
 ⟨none, none, .store 6 5 [] (.s 17) (.s 66)⟩,
 ⟨(some 18), none, .mv (.s 67)⟩])
 (.seq
 (.region false [
 ⟨(some 68), none, .mv (.s 10)⟩,
 ⟨(some 69), none, .mv (.s 68)⟩,
 ⟨(some 70), (some (69, true)), .load (some 6) (some 2) (.s 8)⟩,
 ⟨(some 71), (some (69, true)), .load (some 6) (some 0) (.s 3)⟩,
 ⟨(some 72), (some (69, true)), .bin .eql (.agg [some .u8, some .u8, some .u8, some .u8, some .i64, some .i64]) (.s 70) (.s 71)⟩,
 ⟨(some 73), none, .pick (.s 69) (.s 72) (.c (.bool false))⟩,
 ⟨(some 74), none, .mv (.s 73)⟩,
 ⟨(some 75), (some (74, true)), .mv (.s 9)⟩,
 ⟨(some 76), (some (74, true)), .mv (.s 7)⟩,
 ⟨(some 77), (some (74, true)), .len (.s 76)⟩,
 ⟨(some 78), (some (74, true)), .bin .eql .int (.s 75) (.s 77)⟩,
 ⟨(some 79), none, .pick (.s 74) (.s 78) (.c (.bool false))⟩,
 ⟨(some 80), none, .mv (.s 79)⟩,
 ⟨(some 81), (some (80, true)), .mv (.s 13)⟩,
 ⟨(some 82), (some (80, true)), .un .not (.s 81)⟩,
 ⟨(some 83), none, .pick (.s 80) (.s 82) (.c (.bool false))⟩,
 ⟨(some 84), none, .mv (.s 83)⟩,
 ⟨(some 85), (some (84, true)), .load (some 6) (some 4) (.s 14)⟩,
 ⟨(some 86), (some (84, true)), .load (some 6) (some 5) (.s 17)⟩,
 ⟨(some 87), (some (84, true)), .bin .eql (.agg [some .u8, some .u8, some .u8, some .u8, some .i64, some .i64]) (.s 85) (.s 86)⟩,
 ⟨(some 88), none, .pick (.s 84) (.s 87) (.c (.bool false))⟩,
 ⟨(some 89), none, .mv (.s 88)⟩,
 ⟨(some 90), (some (89, true)), .mv (.s 15)⟩,
 ⟨(some 91), (some (89, true)), .mv (.s 18)⟩,
 ⟨(some 92), (some (89, true)), .bin .eql .int (.s 90) (.s 91)⟩,
 ⟨(some 93), none, .pick (.s 89) (.s 92) (.c (.bool false))⟩,
 ⟨(some 94), none, .mv (.s 93)⟩,
 ⟨(some 95), (some (94, true)), .mv (.s 16)⟩,
 ⟨(some 96), (some (94, true)), .mv (.s 18)⟩,
 ⟨(some 97), (some (94, true)), .bin .gtr .int (.s 96) (.c (.int .i64 0))⟩,
 ⟨(some 98), (some (94, true)), .bin .eql .bool (.s 95) (.s 97)⟩,
 ⟨(some 99), none, .pick (.s 94) (.s 98) (.c (.bool false))⟩,
 ⟨(some 100), none, .mv (.s 99)⟩,
 ⟨(some 101), (some (100, true)), .call (.c (.fn 10 [] [])) [] [] [] [] false⟩,
 ⟨(some 102), none, .pick (.s 100) (.s 101) (.c (.bool false))⟩,
 ⟨(some 6), none, .mv (.s 102)⟩])
 .ret))))))))) }
/- cuboid/cuboidkeep.LightDim -/
def f41 : MFun := { nt := 28, np := 1, no := 1, res := [.slot 2], body :=
 (.seq
 (.region false [
 ⟨(some 1), none, .box 0 (.s 0)⟩,
 ⟨(some 2), none, .mv (.c (.bool false))⟩])
 (.seq
 (.seq
 (.region false [
 ⟨(some 4), none, .faddr 0 (.s 1)⟩,
 ⟨(some 5), none, .load none (some 0) (.s 4)⟩,
 ⟨(some 6), none, .len (.s 5)⟩,
 ⟨(some 7), none, .bin .gtr .int (.s 6) (.c (.int .i64 10))⟩,
 ⟨(some 8), none, .mv (.s 7)⟩,
 ⟨(some 9), (some (8, false)), .faddr 1 (.s 1)⟩,
 ⟨(some 10), (some (8, false)), .load none (some 0) (.s 9)⟩,
 ⟨(some 11), (some (8, false)), .len (.s 10)⟩,
 ⟨(some 12), (some (8, false)), .bin .gtr .int (.s 11) (.c (.int .i64 10))⟩,
 ⟨(some 13), none, .pick (.s 8) (.c (.bool true)) (.s 12)⟩])
 (.cond (.s 13)
 (.seq
 (.region false [
 ⟨(some 2), none, .mv (.c (.bool false))⟩])
 .ret)
 .skip))
 (.seq
 (.seq
 (.region false [
 ⟨(some 3), none, .mv (.c (.int .i64 0))⟩])
 (.block 0
 (.loop [1, 3] [0]
 (.seq
 (.seq
 (.region false [
 ⟨(some 14), none, .mv (.s 3)⟩,
 ⟨(some 15), none, .faddr 1 (.s 1)⟩,
 ⟨(some 16), none, .load none (some 0) (.s 15)⟩,
 ⟨(some 17), none, .len (.s 16)⟩,
 ⟨(some 18), none, .bin .lss .int (.s 14) (.s 17)⟩])
 (.cond (.s 18)
 .skip
 (.exit 0)))
 (.seq
 (.block 1
 (.seq
 (.region false [
 ⟨(some 21), none, .faddr 1 (.s 1)⟩,
 ⟨(some 22), none, .load none (some 0) (.s 21)⟩,
 ⟨(some 23), none, .mv (.s 3)⟩,
 ⟨(some 24), none, .iaddrS 1 (.s 22) (.s 23)⟩,
 ⟨(some 25), none, .load none none (.s 24)⟩,
 ⟨(some 26), none, .len (.s 25)⟩,
 ⟨(some 27), none, .bin .gtr .int (.s 26) (.c (.int .i64 60))⟩])
 (.cond (.s 27)
 (.seq
 (.region false [
 ⟨(some 2), none, .mv (.c (.bool false))⟩])
 .ret)
 .skip)))
 (.region false [
 ⟨(some 19), none, .mv (.s 3)⟩,
 ⟨(some 20), none, .bin .add .int (.s 19) (.c (.int .i64 1))⟩,
 ⟨(some 3), none, .mv (.s 20)⟩]))))))
 (.seq
 (.region false [
 ⟨(some 2), none, .mv (.c (.bool true))⟩])
 .ret)))) }
/- cuboid/cuboidkeep.LightCat -/
def f19 : MFun := { nt := 22, np := 1, no := 1, res := [.slot 2], body :=
 (.seq
 (.region false [
 ⟨(some 1), none, .box 0 (.s 0)⟩,
 ⟨(some 2), none, .mv (.c (.bool false))⟩])
 (.seq
 (.seq
 (.region false [
 ⟨(some 4), none, .faddr 0 (.s 1)⟩,
 ⟨(some 5), none, .load none (some 0) (.s 4)⟩,
 ⟨(some 6), none, .len (.s 5)⟩,
 ⟨(some 7), none, .bin .gtr .int (.s 6) (.c (.int .i64 8))⟩])
 (.cond (.s 7)
 (.seq
 (.region false [
 ⟨(some 2), none, .mv (.c (.bool false))⟩])
 .ret)
 .skip))
 (.seq
 (.seq
 (.region false [
 ⟨(some 3), none, .mv (.c (.int .i64 0))⟩])
 (.block 0
 (.loop [1, 3] [0]
 (.seq
 (.seq
 (.region false [
 ⟨(some 8), none, .mv (.s 3)⟩,
 ⟨(some 9), none, .faddr 0 (.s 1)⟩,
 ⟨(some 10), none, .load none (some 0) (.s 9)⟩,
 ⟨(some 11), none, .len (.s 10)⟩,
 ⟨(some 12), none, .bin .lss .int (.s 8) (.s 11)⟩])
 (.cond (.s 12)
 .skip
 (.exit 0)))
 (.seq
 (.block 1
 (.seq
 (.region false [
 ⟨(some 15), none, .faddr 0 (.s 1)⟩,
 ⟨(some 16), none, .load none (some 0) (.s 15)⟩,
 ⟨(some 17), none, .mv (.s 3)⟩,
 ⟨(some 18), none, .iaddrS 2 (.s 16) (.s 17)⟩,
 ⟨(some 19), none, .load (some 2) none (.s 18)⟩,
 ⟨(some 20), none, .call (.c (.fn 41 [] [])) [(.s 19)] [] [] [] false⟩,
 ⟨(some 21), none, .un .not (.s 20)⟩])
 (.cond (.s 21)
 (.seq
 (.region false [
 ⟨(some 2), none, .mv (.c (.bool false))⟩])
 .ret)
 .skip)))
 (.region false [
 ⟨(some 13), none, .mv (.s 3)⟩,
 ⟨(some 14), none, .bin .add .int (.s 13) (.c (.int .i64 1))⟩,
 ⟨(some 3), none, .mv (.s 14)⟩]))))))
 (.seq
 (.region false [
 ⟨(some 2), none, .mv (.c (.bool true))⟩])
 .ret)))) }
/- cuboid/cuboidref03.Good -/
def f66 : MFun := { nt := 97, np := 1, no := 1, res := [.slot 2], body :=
 (.seq
 (.region false [
 ⟨(some 1), none, .box 0 (.s 0)⟩,
 ⟨(some 2), none, .mv (.c (.bool false))⟩])
 (.seq
 (.region false [
 ⟨(some 7), none, .faddr 0 (.s 1)⟩,
 ⟨(some 8), none, .load none (some 0) (.s 7)⟩,
 ⟨(some 9), none, .len (.s 8)⟩,
 ⟨(some 3), none, .mv (.s 9)⟩])
 (.seq
 (.seq
 (.region false [
 ⟨(some 10), none, .mv (.s 3)⟩,
 ⟨(some 11), none, .bin .lss .int (.s 10) (.c (.int .i64 1))⟩,
 ⟨(some 12), none, .mv (.s 11)⟩,
 ⟨(some 13), (some (12, false)), .mv (.s 3)⟩,
 ⟨(some 14), (some (12, false)), .bin .gtr .int (.s 13) (.c (.int .i64 4))⟩,
 ⟨(some 15), none, .pick (.s 12) (.c (.bool true)) (.s 14)⟩,
 ⟨(some 16), none, .mv (.s 15)⟩,
 ⟨(some 17), (some (16, false)), .faddr 1 (.s 1)⟩,
 ⟨(some 18), (some (16, false)), .load none (some 0) (.s 17)⟩,
 ⟨(some 19), (some (16, false)), .len (.s 18)⟩,
 ⟨(some 20), (some (16, false)), .mv (.s 3)⟩,
 ⟨(some 21), (some (16, false)), .bin .sub .int (.s 20) (.c (.int .i64 1))⟩,
 ⟨(some 22), (some (16, false)), .bin .neq .int (.s 19) (.s 21)⟩,
 ⟨(some 23), none, .pick (.s 16) (.c (.bool true)) (.s 22)⟩])
 (.cond (.s 23)
 (.seq
 (.region false [
 ⟨(some 2), none, .mv (.c (.bool false))⟩])
 .ret)
 .skip))
 (.seq
 (.seq
 (.region false [
 ⟨(some 4), none, .mv (.c (.int .i64 0))⟩])
 (.block 0
 (.loop [1, 3, 4] [0]
 (.seq
 (.seq
 (.region false [
 ⟨(some 24), none, .mv (.s 4)⟩,
 ⟨(some 25), none, .mv (.s 3)⟩,
 ⟨(some 26), none, .bin .lss .int (.s 24) (.s 25)⟩])
 (.cond (.s 26)
 .skip
 (.exit 0)))
 (.seq
 (.block 1
 (.seq
 (.region false [
 ⟨(some 29), none, .faddr 0 (.s 1)⟩,
 ⟨(some 30), none, .load none (some 0) (.s 29)⟩,
 ⟨(some 31), none, .mv (.s 4)⟩,
 ⟨(some 32), none, .iaddrS 1 (.s 30) (.s 31)⟩,
 ⟨(some 33), none, .load none none (.s 32)⟩,
 ⟨(some 34), none, .bin .lss .int (.s 33) (.c (.int .i64 1))⟩,
 ⟨(some 35), none, .mv (.s 34)⟩,
 ⟨(some 36), (some (35, false)), .faddr 0 (.s 1)⟩,
 ⟨(some 37), (some (35, false)), .load none (some 0) (.s 36)⟩,
 ⟨(some 38), (some (35, false)), .mv (.s 4)⟩,
 ⟨(some 39), (some (35, false)), .iaddrS 1 (.s 37) (.s 38)⟩,
 ⟨(some 40), (some (35, false)), .load none none (.s 39)⟩,
 ⟨(some 41), (some (35, false)), .bin .gtr .int (.s 40) (.c (.int .i64 40))⟩,
 ⟨(some 42), none, .pick (.s 35) (.c (.bool true)) (.s 41)⟩])
 (.cond (.s 42)
 (.seq
 (.region false [
 ⟨(some 2), none, .mv (.c (.bool false))⟩])
 .ret)
 .skip)))
 (.region false [
 ⟨(some 27), none, .mv (.s 4)⟩,
 ⟨(some 28), none, .bin .add .int (.s 27) (.c (.int .i64 1))⟩,
 ⟨(some 4), none, .mv (.s 28)⟩]))))))
 (.seq
 (.seq
 (.region false [
 ⟨(some 5), none, .mv (.c (.int .i64 0))⟩])
 (.block 2
 (.loop [1, 3, 5] [0]
 (.seq
 (.seq
 (.region false [
 ⟨(some 43), none, .mv (.s 5)⟩,
 ⟨(some 44), none, .mv (.s 3)⟩,
 ⟨(some 45), none, .bin .sub .int (.s 44) (.c (.int .i64 1))⟩,
 ⟨(some 46), none, .bin .lss .int (.s 43) (.s 45)⟩])
 (.cond (.s 46)
 .skip
 (.exit 2)))
 (.seq
 (.block 3
 (.seq
 (.seq
 (.region true [
 ⟨(some 49), none, .faddr 1 (.s 1)⟩,
 ⟨(some 50), none, .load none (some 0) (.s 49)⟩,
 ⟨(some 51), none, .mv (.s 5)⟩,
 ⟨(some 52), none, .iaddrS 1 (.s 50) (.s 51)⟩,
 ⟨(some 53), none, .load none none (.s 52)⟩,
 ⟨(some 54), none, .len (.s 53)⟩,
 ⟨(some 55), none, .faddr 0 (.s 1)⟩,
 ⟨(some 56), none, .load none (some 0) (.s 55)⟩,
 ⟨(some 57), none, .mv (.s 5)⟩,
 ⟨(some 58), none, .iaddrS 1 (.s 56) (.s 57)⟩,
 ⟨(some 59), none, .load none none (.s 58)⟩,
 ⟨(some 60), none, .bin .neq .int (.s 54) (.s 59)⟩])
 (.cond (.s 60)
 (.seq
 (.region false [
 ⟨(some 2), none, .mv (.c (.bool false))⟩])
 .ret)
 .skip))
 (.seq
 (.region false [
 ⟨(some 6), none, .mv (.c (.int .i64 0))⟩])
 (.block 4
 (.loop [1, 3, 5, 6] [0]
 (.seq
 (.seq
 (.region false [
 ⟨(some 61), none, .mv (.s 6)⟩,
 ⟨(some 62), none, .faddr 1 (.s 1)⟩,
 ⟨(some 63), none, .load none (some 0) (.s 62)⟩,
 ⟨(some 64), none, .mv (.s 5)⟩,
 ⟨(some 65), none, .iaddrS 1 (.s 63) (.s 64)⟩,
 ⟨(some 66), none, .load none none (.s 65)⟩,
 ⟨(some 67), none, .len (.s 66)⟩,
 ⟨(some 68), none, .bin .lss .int (.s 61) (.s 67)⟩])
 (.cond (.s 68)
 .skip
 (.exit 4)))
 (.seq
 (.block 5
 (.seq
 (.region true [
 ⟨(some 71), none, .faddr 1 (.s 1)⟩,
 ⟨(some 72), none, .load none (some 0) (.s 71)⟩,
 ⟨(some 73), none, .mv (.s 5)⟩,
 ⟨(some 74), none, .iaddrS 1 (.s 72) (.s 73)⟩,
 ⟨(some 75), none, .load none none (.s 74)⟩,
 ⟨(some 76), none, .mv (.s 6)⟩,
 ⟨(some 77), none, .iaddrS 1 (.s 75) (.s 76)⟩,
 ⟨(some 78), none, .load none none (.s 77)⟩,
 ⟨(some 79), none, .bin .lss .int (.s 78) (.c (.int .i64 0))⟩,
 ⟨(some 80), none, .mv (.s 79)⟩,
 ⟨(some 81), (some (80, false)), .faddr 1 (.s 1)⟩,
 ⟨(some 82), (some (80, false)), .load none (some 0) (.s 81)⟩,
 ⟨(some 83), (some (80, false)), .mv (.s 5)⟩,
 ⟨(some 84), (some (80, false)), .iaddrS 1 (.s 82) (.s 83)⟩,
 ⟨(some 85), (some (80, false)), .load none none (.s 84)⟩,
 ⟨(some 86), (some (80, false)), .mv (.s 6)⟩,
 ⟨(some 87), (some (80, false)), .iaddrS 1 (.s 85) (.s 86)⟩,
 ⟨(some 88), (some (80, false)), .load none none (.s 87)⟩,
 ⟨(some 89), (some (80, false)), .faddr 0 (.s 1)⟩,
 ⟨(some 90), (some (80, false)), .load none (some 0) (.s 89)⟩,
 ⟨(some 91), (some (80, false)), .mv (.s 5)⟩,
 ⟨(some 92), (some (80, false)), .bin .add .int (.s 91) (.c (.int .i64 1))⟩,
 ⟨(some 93), (some (80, false)), .iaddrS 1 (.s 90) (.s 92)⟩,
 ⟨(some 94), (some (80, false)), .load none none (.s 93)⟩,
 ⟨(some 95), (some (80, false)), .bin .geq .int (.s 88) (.s 94)⟩,
 ⟨(some 96), none, .pick (.s 80) (.c (.bool true)) (.s 95)⟩])
 (.cond (.s 96)
 (.seq
 (.region false [
 ⟨(some 2), none, .mv (.c (.bool false))⟩])
 .ret)
 .skip)))
 (.region false [
 ⟨(some 69), none, .mv (.s 6)⟩,
 ⟨(some 70), none, .bin .add .int (.s 69) (.c (.int .i64 1))⟩,
 ⟨(some 6), none, .mv (.s 70)⟩]))))))))
 (.region false [
 ⟨(some 47), none, .mv (.s 5)⟩,
 ⟨(some 48), none, .bin .add .int (.s 47) (.c (.int .i64 1))⟩,
 ⟨(some 5), none, .mv (.s 48)⟩]))))))
 (.seq
 (.region false [
 ⟨(some 2), none, .mv (.c (.bool true))⟩])
 .ret)))))) }
/- cuboid/cuboidref04.Good -/
def f57 : MFun := { nt := 38, np := 1, no := 1, res := [.slot 2], body :=
 (.seq
 (.region false [
 ⟨(some 1), none, .box 0 (.s 0)⟩,
 ⟨(some 2), none, .mv (.c (.bool false))⟩])
 (.seq
 (.seq
 (.region false [
 ⟨(some 4), none, .faddr 0 (.s 1)⟩,
 ⟨(some 5), none, .load none (some 0) (.s 4)⟩,
 ⟨(some 6), none, .len (.s 5)⟩,
 ⟨(some 7), none, .bin .lss .int (.s 6) (.c (.int .i64 1))⟩,
 ⟨(some 8), none, .mv (.s 7)⟩,
 ⟨(some 9), (some (8, false)), .faddr 0 (.s 1)⟩,
 ⟨(some 10), (some (8, false)), .load none (some 0) (.s 9)⟩,
 ⟨(some 11), (some (8, false)), .len (.s 10)⟩,
 ⟨(some 12), (some (8, false)), .bin .gtr .int (.s 11) (.c (.int .i64 4))⟩,
 ⟨(some 13), none, .pick (.s 8) (.c (.bool true)) (.s 12)⟩,
 ⟨(some 14), none, .mv (.s 13)⟩,
 ⟨(some 15), (some (14, false)), .faddr 1 (.s 1)⟩,
 ⟨(some 16), (some (14, false)), .load none (some 0) (.s 15)⟩,
 ⟨(some 17), (some (14, false)), .bin .lss .int (.s 16) (.c (.int .i64 1))⟩,
 ⟨(some 18), none, .pick (.s 14) (.c (.bool true)) (.s 17)⟩,
 ⟨(some 19), none, .mv (.s 18)⟩,
 ⟨(some 20), (some (19, false)), .faddr 1 (.s 1)⟩,
 ⟨(some 21), (some (19, false)), .load none (some 0) (.s 20)⟩,
 ⟨(some 22), (some (19, false)), .bin .gtr .int (.s 21) (.c (.int .i64 2))⟩,
 ⟨(some 23), none, .pick (.s 19) (.c (.bool true)) (.s 22)⟩])
 (.cond (.s 23)
 (.seq
 (.region false [
 ⟨(some 2), none, .mv (.c (.bool false))⟩])
 .ret)
 .skip))
 (.seq
 (.seq
 (.region false [
 ⟨(some 3), none, .mv (.c (.int .i64 0))⟩])
 (.block 0
 (.loop [1, 3] [0]
 (.seq
 (.seq
 (.region false [
 ⟨(some 24), none, .mv (.s 3)⟩,
 ⟨(some 25), none, .faddr 0 (.s 1)⟩,
 ⟨(some 26), none, .load none (some 0) (.s 25)⟩,
 ⟨(some 27), none, .len (.s 26)⟩,
 ⟨(some 28), none, .bin .lss .int (.s 24) (.s 27)⟩])
 (.cond (.s 28)
 .skip
 (.exit 0)))
 (.seq
 (.block 1
 (.seq
 (.region false [
 ⟨(some 31), none, .faddr 0 (.s 1)⟩,
 ⟨(some 32), none, .load none (some 0) (.s 31)⟩,
 ⟨(some 33), none, .mv (.s 3)⟩,
 ⟨(some 34), none, .iaddrS 2 (.s 32) (.s 33)⟩,
 ⟨(some 35), none, .load (some 2) none (.s 34)⟩,
 ⟨(some 36), none, .call (.c (.fn 66 [] [])) [(.s 35)] [] [] [] false⟩,
 ⟨(some 37), none, .un .not (.s 36)⟩])
 (.cond (.s 37)
 (.seq
 (.region false [
 ⟨(some 2), none, .mv (.c (.bool false))⟩])
 .ret)
 .skip)))
 (.region false [
 ⟨(some 29), none, .mv (.s 3)⟩,
 ⟨(some 30), none, .bin .add .int (.s 29) (.c (.int .i64 1))⟩,
 ⟨(some 3), none, .mv (.s 30)⟩]))))))
 (.seq
 (.region false [
 ⟨(some 2), none, .mv (.c (.bool true))⟩])
 .ret)))) }
/- cuboid/cuboidref03.Size -/
def f58 : MFun := { nt := 31, np := 2, no := 1, res := [.slot 4], body :=
 (.seq
 (.region false [
 ⟨(some 2), none, .box 0 (.s 0)⟩,
 ⟨(some 4), none, .mv (.c (.int .i64 0))⟩])
 (.seq
 (.block 0
 (.seq
 (.region false [
 ⟨(some 6), none, .load (some 2) (some 0) (.s 2)⟩,
 ⟨(some 7), none, .call (.c (.fn 66 [] [])) [(.s 6)] [] [] [] false⟩,
 ⟨(some 8), none, .un .not (.s 7)⟩,
 ⟨(some 9), none, .mv (.s 8)⟩,
 ⟨(some 10), (some (9, false)), .mv (.s 1)⟩,
 ⟨(some 11), (some (9, false)), .bin .lss .int (.s 10) (.c (.int .i64 0))⟩,
 ⟨(some 12), none, .pick (.s 9) (.c (.bool true)) (.s 11)⟩,
 ⟨(some 13), none, .mv (.s 12)⟩,
 ⟨(some 14), (some (13, false)), .mv (.s 1)⟩,
 ⟨(some 15), (some (13, false)), .faddr 0 (.s 2)⟩,
 ⟨(some 16), (some (13, false)), .load none (some 0) (.s 15)⟩,
 ⟨(some 17), (some (13, false)), .len (.s 16)⟩,
 ⟨(some 18), (some (13, false)), .bin .gtr .int (.s 14) (.s 17)⟩,
 ⟨(some 19), none, .pick (.s 13) (.c (.bool true)) (.s 18)⟩,
 ⟨(some 5), none, .mv (.s 19)⟩])
 (.cond (.s 5)
 (.seq
 (.region false [
 ⟨(some 4), none, .mv (.c (.int .i64 0))⟩])
 .ret)
 (.seq
 (.region false [
 ⟨(some 21), none, .mv (.s 1)⟩,
 ⟨(some 22), none, .faddr 0 (.s 2)⟩,
 ⟨(some 23), none, .load none (some 0) (.s 22)⟩,
 ⟨(some 24), none, .len (.s 23)⟩,
 ⟨(some 25), none, .bin .eql .int (.s 21) (.s 24)⟩,
 ⟨(some 20), none, .mv (.s 25)⟩])
 (.cond (.s 20)
 (.seq
 (.region false [
 ⟨(some 4), none, .mv (.c (.int .i64 1))⟩])
 .ret)
 .skip)))))
 (.seq
 (.region false [
 ⟨(some 26), none, .faddr 0 (.s 2)⟩,
 ⟨(some 27), none, .load none (some 0) (.s 26)⟩,
 ⟨(some 28), none, .mv (.s 1)⟩,
 ⟨(some 29), none, .iaddrS 1 (.s 27) (.s 28)⟩,
 ⟨(some 30), none, .load none none (.s 29)⟩,
 ⟨(some 4), none, .mv (.s 30)⟩])
 .ret))) }
/- cuboid/cuboidref04.Right -/
def f44 : MFun := { nt := 45, np := 3, no := 3, res := [.slot 6], body :=
 (.seq
 (.region false [
 ⟨(some 3), none, .box 0 (.s 0)⟩,
 ⟨(some 4), none, .box 1 (.s 1)⟩,
 ⟨(some 5), none, .box 2 (.s 2)⟩,
 ⟨(some 6), none, .mv (.c (.bool false))⟩])
 (.seq
 (.seq
 (.region false [
 ⟨(some 8), none, .load (some 2) (some 0) (.s 3)⟩,
 ⟨(some 9), none, .call (.c (.fn 57 [] [])) [(.s 8)] [] [] [] false⟩,
 ⟨(some 10), none, .un .not (.s 9)⟩])
 (.cond (.s 10)
 (.seq
 (.region false [
 ⟨(some 6), none, .mv (.c (.bool false))⟩])
 .ret)
 .skip))
 (.seq
 (.seq
 (.region false [
 ⟨(some 7), none, .mv (.c (.int .i64 0))⟩])
 (.block 0
 (.loop [3, 4, 5, 7] [0, 1, 2]
 (.seq
 (.seq
 (.region false [
 ⟨(some 11), none, .mv (.s 7)⟩,
 ⟨(some 12), none, .bin .lss .int (.s 11) (.c (.int .i64 4))⟩])
 (.cond (.s 12)
 .skip
 (.exit 0)))
 (.seq
 (.block 1
 (.seq
 (.region false [
 ⟨(some 15), none, .mv (.s 7)⟩,
 ⟨(some 16), none, .faddr 0 (.s 3)⟩,
 ⟨(some 17), none, .load none (some 0) (.s 16)⟩,
 ⟨(some 18), none, .len (.s 17)⟩,
 ⟨(some 19), none, .bin .geq .int (.s 15) (.s 18)⟩])
 (.cond (.s 19)
 (.seq
 (.region false [
 ⟨(some 20), none, .mv (.s 7)⟩,
 ⟨(some 21), none, .iaddrA 4 1 (.s 4) (.s 20)⟩,
 ⟨(some 22), none, .load none (some 1) (.s 21)⟩,
 ⟨(some 23), none, .bin .neq .int (.s 22) (.c (.int .u8 0))⟩,
 ⟨(some 24), none, .mv (.s 23)⟩,
 ⟨(some 25), (some (24, false)), .mv (.s 7)⟩,
 ⟨(some 26), (some (24, false)), .iaddrA 4 1 (.s 5) (.s 25)⟩,
 ⟨(some 27), (some (24, false)), .load none (some 2) (.s 26)⟩,
 ⟨(some 28), (some (24, false)), .bin .neq .int (.s 27) (.c (.int .u8 0))⟩,
 ⟨(some 29), none, .pick (.s 24) (.c (.bool true)) (.s 28)⟩])
 (.cond (.s 29)
 (.seq
 (.region false [
 ⟨(some 6), none, .mv (.c (.bool false))⟩])
 .ret)
 .skip))
 (.seq
 (.region true [
 ⟨(some 30), none, .mv (.s 7)⟩,
 ⟨(some 31), none, .iaddrA 4 1 (.s 5) (.s 30)⟩,
 ⟨(some 32), none, .load none (some 2) (.s 31)⟩,
 ⟨(some 33), none, .conv .i64 (.s 32)⟩,
 ⟨(some 34), none, .faddr 0 (.s 3)⟩,
 ⟨(some 35), none, .load none (some 0) (.s 34)⟩,
 ⟨(some 36), none, .mv (.s 7)⟩,
 ⟨(some 37), none, .iaddrS 2 (.s 35) (.s 36)⟩,
 ⟨(some 38), none, .load (some 2) none (.s 37)⟩,
 ⟨(some 39), none, .mv (.s 7)⟩,
 ⟨(some 40), none, .iaddrA 4 1 (.s 4) (.s 39)⟩,
 ⟨(some 41), none, .load none (some 1) (.s 40)⟩,
 ⟨(some 42), none, .conv .i64 (.s 41)⟩,
 ⟨(some 43), none, .call (.c (.fn 58 [] [])) [(.s 38), (.s 42)] [] [] [] false⟩,
 ⟨(some 44), none, .bin .geq .int (.s 33) (.s 43)⟩])
 (.cond (.s 44)
 (.seq
 (.region false [
 ⟨(some 6), none, .mv (.c (.bool false))⟩])
 .ret)
 .skip)))))
 (.region false [
 ⟨(some 13), none, .mv (.s 7)⟩,
 ⟨(some 14), none, .bin .add .int (.s 13) (.c (.int .i64 1))⟩,
 ⟨(some 7), none, .mv (.s 14)⟩]))))))
 (.seq
 (.region false [
 ⟨(some 6), none, .mv (.c (.bool true))⟩])
 .ret)))) }
/- cuboid/cuboidref05.Good -/
def f45 : MFun := { nt := 9, np := 2, no := 2, res := [.slot 4], body :=
 (.seq
 (.region false [
 ⟨(some 2), none, .box 0 (.s 0)⟩,
 ⟨(some 3), none, .box 1 (.s 1)⟩,
 ⟨(some 4), none, .mv (.c (.bool false))⟩])
 (.seq
 (.region false [
 ⟨(some 5), none, .load (some 2) (some 0) (.s 2)⟩,
 ⟨(some 6), none, .load (some 4) (some 1) (.s 3)⟩,
 ⟨(some 7), none, .build [.int .u8 0, .int .u8 0, .int .u8 0, .int .u8 0] []⟩,
 ⟨(some 8), none, .call (.c (.fn 44 [] [])) [(.s 5), (.s 6), (.s 7)] [] [] [] false⟩,
 ⟨(some 4), none, .mv (.s 8)⟩])
 .ret)) }
/- cuboid/cuboidref07.Good -/
def f21 : MFun := { nt := 29, np := 2, no := 2, res := [.slot 4], body :=
 (.seq
 (.region false [
 ⟨(some 2), none, .box 0 (.s 0)⟩,
 ⟨(some 3), none, .box 1 (.s 1)⟩,
 ⟨(some 4), none, .mv (.c (.bool false))⟩])
 (.seq
 (.seq
 (.region false [
 ⟨(some 6), none, .load (some 2) (some 0) (.s 2)⟩,
 ⟨(some 7), none, .build [.int .u8 0, .int .u8 0, .int .u8 0, .int .u8 0] []⟩,
 ⟨(some 8), none, .faddr 0 (.s 3)⟩,
 ⟨(some 9), none, .load (some 4) (some 1) (.s 8)⟩,
 ⟨(some 10), none, .call (.c (.fn 44 [] [])) [(.s 6), (.s 7), (.s 9)] [] [] [] false⟩,
 ⟨(some 11), none, .un .not (.s 10)⟩,
 ⟨(some 12), none, .mv (.s 11)⟩,
 ⟨(some 13), (some (12, false)), .load (some 2) (some 0) (.s 2)⟩,
 ⟨(some 14), (some (12, false)), .build [.int .u8 0, .int .u8 0, .int .u8 0, .int .u8 0] []⟩,
 ⟨(some 15), (some (12, false)), .call (.c (.fn 45 [] [])) [(.s 13), (.s 14)] [] [] [] false⟩,
 ⟨(some 16), (some (12, false)), .un .not (.s 15)⟩,
 ⟨(some 17), none, .pick (.s 12) (.c (.bool true)) (.s 16)⟩])
 (.cond (.s 17)
 (.seq
 (.region false [
 ⟨(some 4), none, .mv (.c (.bool false))⟩])
 .ret)
 .skip))
 (.seq
 (.seq
 (.region false [
 ⟨(some 18), none, .faddr 1 (.s 2)⟩,
 ⟨(some 19), none, .load none (some 0) (.s 18)⟩,
 ⟨(some 5), none, .mv (.s 19)⟩])
 (.block 0
 (.loop [3, 5] [1]
 (.seq
 (.seq
 (.region false [
 ⟨(some 20), none, .mv (.s 5)⟩,
 ⟨(some 21), none, .bin .lss .int (.s 20) (.c (.int .i64 2))⟩])
 (.cond (.s 21)
 .skip
 (.exit 0)))
 (.seq
 (.block 1
 (.seq
 (.region false [
 ⟨(some 24), none, .mv (.s 5)⟩,
 ⟨(some 25), none, .faddr 4 (.s 3)⟩,
 ⟨(some 26), none, .iaddrA 2 1 (.s 25) (.s 24)⟩,
 ⟨(some 27), none, .load none (some 1) (.s 26)⟩,
 ⟨(some 28), none, .bin .neq .int (.s 27) (.c (.int .i64 0))⟩])
 (.cond (.s 28)
 (.seq
 (.region false [
 ⟨(some 4), none, .mv (.c (.bool false))⟩])
 .ret)
 .skip)))
 (.region false [
 ⟨(some 22), none, .mv (.s 5)⟩,
 ⟨(some 23), none, .bin .add .int (.s 22) (.c (.int .i64 1))⟩,
 ⟨(some 5), none, .mv (.s 23)⟩]))))))
 (.seq
 (.region false [
 ⟨(some 4), none, .mv (.c (.bool true))⟩])
 .ret)))) }
/- cuboid/cuboidref02.Key -/
def f46 : MFun := { nt := 17, np := 1, no := 1, res := [.slot 2], body :=
 (.seq
 (.region false [
 ⟨(some 1), none, .box 0 (.s 0)⟩,
 ⟨(some 2), none, .mv (.c (.int .u32 0))⟩])
 (.seq
 (.region false [
 ⟨(some 3), none, .mv (.c (.int .u32 0))⟩])
 (.seq
 (.seq
 (.region false [
 ⟨(some 4), none, .mv (.c (.int .i64 0))⟩])
 (.block 0
 (.loop [1, 3, 4] [0]
 (.seq
 (.seq
 (.region false [
 ⟨(some 5), none, .mv (.s 4)⟩,
 ⟨(some 6), none, .bin .lss .int (.s 5) (.c (.int .i64 4))⟩])
 (.cond (.s 6)
 .skip
 (.exit 0)))
 (.seq
 (.block 1
 (.region false [
 ⟨(some 9), none, .mv (.s 3)⟩,
 ⟨(some 10), none, .bin .mul .int (.s 9) (.c (.int .u32 256))⟩,
 ⟨(some 11), none, .mv (.s 4)⟩,
 ⟨(some 12), none, .iaddrA 4 1 (.s 1) (.s 11)⟩,
 ⟨(some 13), none, .load none (some 0) (.s 12)⟩,
 ⟨(some 14), none, .conv .u32 (.s 13)⟩,
 ⟨(some 15), none, .bin .add .int (.s 10) (.s 14)⟩,
 ⟨(some 3), none, .mv (.s 15)⟩]))
 (.region false [
 ⟨(some 7), none, .mv (.s 4)⟩,
 ⟨(some 8), none, .bin .add .int (.s 7) (.c (.int .i64 1))⟩,
 ⟨(some 4), none, .mv (.s 8)⟩]))))))
 (.seq
 (.region false [
 ⟨(some 16), none, .mv (.s 3)⟩,
 ⟨(some 2), none, .mv (.s 16)⟩])
 .ret)))) }
/- cuboid/cuboidref07.Less -/
def f22 : MFun := { nt := 40, np := 2, no := 2, res := [.slot 4], body :=
 (.seq
 (.region false [
 ⟨(some 2), none, .box 0 (.s 0)⟩,
 ⟨(some 3), none, .box 1 (.s 1)⟩,
 ⟨(some 4), none, .mv (.c (.bool false))⟩])
 (.seq
 (.seq
 (.region false [
 ⟨(some 6), none, .faddr 0 (.s 2)⟩,
 ⟨(some 7), none, .load (some 4) (some 0) (.s 6)⟩,
 ⟨(some 8), none, .faddr 0 (.s 3)⟩,
 ⟨(some 9), none, .load (some 4) (some 1) (.s 8)⟩,
 ⟨(some 10), none, .bin .neq (.agg [some .u8, some .u8, some .u8, some .u8]) (.s 7) (.s 9)⟩])
 (.cond (.s 10)
 (.seq
 (.region true [
 ⟨(some 11), none, .faddr 0 (.s 2)⟩,
 ⟨(some 12), none, .load (some 4) (some 0) (.s 11)⟩,
 ⟨(some 13), none, .call (.c (.fn 46 [] [])) [(.s 12)] [] [] [] false⟩,
 ⟨(some 14), none, .faddr 0 (.s 3)⟩,
 ⟨(some 15), none, .load (some 4) (some 1) (.s 14)⟩,
 ⟨(some 16), none, .call (.c (.fn 46 [] [])) [(.s 15)] [] [] [] false⟩,
 ⟨(some 17), none, .bin .lss .int (.s 13) (.s 16)⟩,
 ⟨(some 4), none, .mv (.s 17)⟩])
 .ret)
 .skip))
 (.seq
 (.seq
 (.region false [
 ⟨(some 5), none, .mv (.c (.int .i64 0))⟩])
 (.block 0
 (.loop [2, 3, 5] [0, 1]
 (.seq
 (.seq
 (.region false [
 ⟨(some 18), none, .mv (.s 5)⟩,
 ⟨(some 19), none, .bin .lss .int (.s 18) (.c (.int .i64 2))⟩])
 (.cond (.s 19)
 .skip
 (.exit 0)))
 (.seq
 (.block 1
 (.seq
 (.region true [
 ⟨(some 22), none, .mv (.s 5)⟩,
 ⟨(some 23), none, .faddr 4 (.s 2)⟩,
 ⟨(some 24), none, .iaddrA 2 1 (.s 23) (.s 22)⟩,
 ⟨(some 25), none, .load none (some 0) (.s 24)⟩,
 ⟨(some 26), none, .mv (.s 5)⟩,
 ⟨(some 27), none, .faddr 4 (.s 3)⟩,
 ⟨(some 28), none, .iaddrA 2 1 (.s 27) (.s 26)⟩,
 ⟨(some 29), none, .load none (some 1) (.s 28)⟩,
 ⟨(some 30), none, .bin .neq .int (.s 25) (.s 29)⟩])
 (.cond (.s 30)
 (.seq
 (.region true [
 ⟨(some 31), none, .mv (.s 5)⟩,
 ⟨(some 32), none, .faddr 4 (.s 2)⟩,
 ⟨(some 33), none, .iaddrA 2 1 (.s 32) (.s 31)⟩,
 ⟨(some 34), none, .load none (some 0) (.s 33)⟩,
 ⟨(some 35), none, .mv (.s 5)⟩,
 ⟨(some 36), none, .faddr 4 (.s 3)⟩,
 ⟨(some 37), none, .iaddrA 2 1 (.s 36) (.s 35)⟩,
 ⟨(some 38), none, .load none (some 1) (.s 37)⟩,
 ⟨(some 39), none, .bin .lss .int (.s 34) (.s 38)⟩,
 ⟨(some 4), none, .mv (.s 39)⟩])
 .ret)
 .skip)))
 (.region false [
 ⟨(some 20), none, .mv (.s 5)⟩,
 ⟨(some 21), none, .bin .add .int (.s 20) (.c (.int .i64 1))⟩,
 ⟨(some 5), none, .mv (.s 21)⟩]))))))
 (.seq
 (.region false [
 ⟨(some 4), none, .mv (.c (.bool false))⟩])
 .ret)))) }
/- cuboid/cuboidref07.Same -/
def f23 : MFun := { nt := 26, np := 2, no := 0, res := [.slot 4], body :=
 (.seq
 (.region false [
 ⟨(some 4), none, .mv (.c (.bool false))⟩])
 (.seq
 (.seq
 (.region false [
 ⟨(some 6), none, .mv (.s 0)⟩,
 ⟨(some 7), none, .len (.s 6)⟩,
 ⟨(some 8), none, .mv (.s 1)⟩,
 ⟨(some 9), none, .len (.s 8)⟩,
 ⟨(some 10), none, .bin .neq .int (.s 7) (.s 9)⟩])
 (.cond (.s 10)
 (.seq
 (.region false [
 ⟨(some 4), none, .mv (.c (.bool false))⟩])
 .ret)
 .skip))
 (.seq
 (.seq
 (.region false [
 ⟨(some 5), none, .mv (.c (.int .i64 0))⟩])
 (.block 0
 (.loop [0, 1, 5] []
 (.seq
 (.seq
 (.region false [
 ⟨(some 11), none, .mv (.s 5)⟩,
 ⟨(some 12), none, .mv (.s 0)⟩,
 ⟨(some 13), none, .len (.s 12)⟩,
 ⟨(some 14), none, .bin .lss .int (.s 11) (.s 13)⟩])
 (.cond (.s 14)
 .skip
 (.exit 0)))
 (.seq
 (.block 1
 (.seq
 (.region true [
 ⟨(some 17), none, .mv (.s 0)⟩,
 ⟨(some 18), none, .mv (.s 5)⟩,
 ⟨(some 19), none, .iaddrS 6 (.s 17) (.s 18)⟩,
 ⟨(some 20), none, .load (some 6) none (.s 19)⟩,
 ⟨(some 21), none, .mv (.s 1)⟩,
 ⟨(some 22), none, .mv (.s 5)⟩,
 ⟨(some 23), none, .iaddrS 6 (.s 21) (.s 22)⟩,
 ⟨(some 24), none, .load (some 6) none (.s 23)⟩,
 ⟨(some 25), none, .bin .neq (.agg [some .u8, some .u8, some .u8, some .u8, some .i64, some .i64]) (.s 20) (.s 24)⟩])
 (.cond (.s 25)
 (.seq
 (.region false [
 ⟨(some 4), none, .mv (.c (.bool false))⟩])
 .ret)
 .skip)))
 (.region false [
 ⟨(some 15), none, .mv (.s 5)⟩,
 ⟨(some 16), none, .bin .add .int (.s 15) (.c (.int .i64 1))⟩,
 ⟨(some 5), none, .mv (.s 16)⟩]))))))
 (.seq
 (.region false [
 ⟨(some 4), none, .mv (.c (.bool true))⟩])
 .ret)))) }
/- slices.Clone[[]cuboid/api.Row,cuboid/api.Row] -/
def f47 : MFun := { nt := 8, np := 1, no := 1, res := [.slot 2], body :=
 (.seq
 (.region false [
 ⟨(some 2), none, .mv (.c .nilsl)⟩])
 (.seq
 (.seq
 (.region false [
 ⟨(some 3), none, .mv (.s 0)⟩,
 ⟨(some 4), none, .bin .eql .sl (.s 3) (.c .nilsl)⟩])
 (.cond (.s 4)
 (.seq
 (.region false [
 ⟨(some 2), none, .mv (.c .nilsl)⟩])
 .ret)
 .skip))
 (.seq
 (.region false [
 ⟨(some 5), none, .lit (some 0) [] 0 6 [.int .u8 0, .int .u8 0, .int .u8 0, .int .u8 0, .int .i64 0, .int .i64 0] []⟩,
 ⟨(some 6), none, .mv (.s 0)⟩,
 ⟨(some 7), none, .append 24 6 0 none (.s 5) (.s 6)⟩,
 ⟨(some 2), none, .mv (.s 7)⟩])
 .ret))) }
/- cuboid/row.Sort -/
def f24 : MFun := { nt := 9, np := 1, no := 1, res := [.slot 2], body :=
 (.seq
 (.region false [
 ⟨(some 2), none, .mv (.c .nilsl)⟩])
 (.seq
 (.region false [
 ⟨(some 4), none, .mv (.s 0)⟩,
 ⟨(some 5), none, .call (.c (.fn 47 [] [])) [(.s 4)] [] [] [(0, 0)] true⟩,
 ⟨(some 3), none, .mv (.s 5)⟩])
 (.seq
 (.region false [
 ⟨(some 6), none, .mv (.s 3)⟩,
 ⟨(some 7), none, .call (.c (.fn 48 [] [])) [(.s 6), (.c (.fn 26 [] []))] [0] [] [] false⟩])
 (.seq
 (.region false [
 ⟨(some 8), none, .mv (.s 3)⟩,
 ⟨(some 2), none, .mv (.s 8)⟩])
 .ret)))) }
/- cuboid/cuboidref07.Insert -/
def f49 : MFun := { nt := 33, np := 2, no := 2, res := [.slot 4], body :=
 (.seq
 (.region false [
 ⟨(some 3), none, .box 0 (.s 1)⟩,
 ⟨(some 4), none, .mv (.c .nilsl)⟩])
 (.seq
 (.region false [
 ⟨(some 5), none, .mv (.c (.int .i64 0))⟩])
 (.seq
 (.block 0
 (.loop [0, 3, 5] [0]
 (.seq
 (.seq
 (.region true [
 ⟨(some 6), none, .mv (.s 5)⟩,
 ⟨(some 7), none, .mv (.s 0)⟩,
 ⟨(some 8), none, .len (.s 7)⟩,
 ⟨(some 9), none, .bin .lss .int (.s 6) (.s 8)⟩,
 ⟨(some 10), none, .mv (.s 9)⟩,
 ⟨(some 11), (some (10, true)), .load (some 6) (some 0) (.s 3)⟩,
 ⟨(some 12), (some (10, true)), .mv (.s 0)⟩,
 ⟨(some 13), (some (10, true)), .mv (.s 5)⟩,
 ⟨(some 14), (some (10, true)), .iaddrS 6 (.s 12) (.s 13)⟩,
 ⟨(some 15), (some (10, true)), .load (some 6) none (.s 14)⟩,
 ⟨(some 16), (some (10, true)), .call (.c (.fn 22 [] [])) [(.s 11), (.s 15)] [] [] [] false⟩,
 ⟨(some 17), (some (10, true)), .un .not (.s 16)⟩,
 ⟨(some 18), none, .pick (.s 10) (.s 17) (.c (.bool false))⟩])
 (.cond (.s 18)
 .skip
 (.exit 0)))
 (.block 1
 (.region false [
 ⟨(some 19), none, .mv (.s 5)⟩,
 ⟨(some 20), none, .bin .add .int (.s 19) (.c (.int .i64 1))⟩,
 ⟨(some 5), none, .mv (.s 20)⟩])))))
 (.seq
 (.region true [
 ⟨(some 21), none, .lit (some 1) [] 0 6 [.int .u8 0, .int .u8 0, .int .u8 0, .int .u8 0, .int .i64 0, .int .i64 0] []⟩,
 ⟨(some 22), none, .mv (.s 0)⟩,
 ⟨(some 23), none, .mv (.s 5)⟩,
 ⟨(some 24), none, .sliceS 6 (.s 22) none (some (.s 23))⟩,
 ⟨(some 25), none, .append 24 6 1 none (.s 21) (.s 24)⟩,
 ⟨(some 26), none, .load (some 6) (some 0) (.s 3)⟩,
 ⟨(some 27), none, .lit none [] 1 6 [.int .u8 0, .int .u8 0, .int .u8 0, .int .u8 0, .int .i64 0, .int .i64 0] [(0, 6, (.s 26))]⟩,
 ⟨(some 28), none, .append 24 6 1 none (.s 25) (.s 27)⟩,
 ⟨(some 29), none, .mv (.s 0)⟩,
 ⟨(some 30), none, .mv (.s 5)⟩,
 ⟨(some 31), none, .sliceS 6 (.s 29) (some (.s 30)) none⟩,
 ⟨(some 32), none, .append 24 6 1 none (.s 28) (.s 31)⟩,
 ⟨(some 4), none, .mv (.s 32)⟩])
 .ret)))) }
/- cuboid/cuboidref07.Sort -/
def f25 : MFun := { nt := 18, np := 1, no := 0, res := [.slot 2], body :=
 (.seq
 (.region false [
 ⟨(some 2), none, .mv (.c .nilsl)⟩])
 (.seq
 (.region false [
 ⟨(some 3), none, .mv (.c .nilsl)⟩])
 (.seq
 (.seq
 (.region false [
 ⟨(some 4), none, .mv (.c (.int .i64 0))⟩])
 (.block 0
 (.loop [0, 3, 4] []
 (.seq
 (.seq
 (.region false [
 ⟨(some 5), none, .mv (.s 4)⟩,
 ⟨(some 6), none, .mv (.s 0)⟩,
 ⟨(some 7), none, .len (.s 6)⟩,
 ⟨(some 8), none, .bin .lss .int (.s 5) (.s 7)⟩])
 (.cond (.s 8)
 .skip
 (.exit 0)))
 (.seq
 (.block 1
 (.region false [
 ⟨(some 11), none, .mv (.s 3)⟩,
 ⟨(some 12), none, .mv (.s 0)⟩,
 ⟨(some 13), none, .mv (.s 4)⟩,
 ⟨(some 14), none, .iaddrS 6 (.s 12) (.s 13)⟩,
 ⟨(some 15), none, .load (some 6) none (.s 14)⟩,
 ⟨(some 16), none, .call (.c (.fn 49 [] [])) [(.s 11), (.s 15)] [] [] [] true⟩,
 ⟨(some 3), none, .mv (.s 16)⟩]))
 (.region false [
 ⟨(some 9), none, .mv (.s 4)⟩,
 ⟨(some 10), none, .bin .add .int (.s 9) (.c (.int .i64 1))⟩,
 ⟨(some 4), none, .mv (.s 10)⟩]))))))
 (.seq
 (.region false [
 ⟨(some 17), none, .mv (.s 3)⟩,
 ⟨(some 2), none, .mv (.s 17)⟩])
 .ret)))) }
/- cuboid/cuboidlaw07.RowTells -/
def f7 : MFun := { nt := 80, np := 2, no := 1, res := [.slot 4], body :=
 (.seq
 (.region false [
 ⟨(some 2), none, .box 0 (.s 0)⟩,
 ⟨(some 4), none, .mv (.c (.bool false))⟩])
 (.seq
 (.seq
 (.region false [
 ⟨(some 6), none, .load (some 2) (some 0) (.s 2)⟩,
 ⟨(some 7), none, .call (.c (.fn 19 [] [])) [(.s 6)] [] [] [] false⟩,
 ⟨(some 8), none, .un .not (.s 7)⟩,
 ⟨(some 9), none, .mv (.s 8)⟩,
 ⟨(some 10), (some (9, false)), .mv (.s 1)⟩,
 ⟨(some 11), (some (9, false)), .len (.s 10)⟩,
 ⟨(some 12), (some (9, false)), .bin .gtr .int (.s 11) (.c (.int .i64 60))⟩,
 ⟨(some 13), none, .pick (.s 9) (.c (.bool true)) (.s 12)⟩])
 (.cond (.s 13)
 (.seq
 (.region false [
 ⟨(some 14), none, .call (.c (.fn 10 [] [])) [] [] [] [] false⟩,
 ⟨(some 4), none, .mv (.s 14)⟩])
 .ret)
 .skip))
 (.seq
 (.seq
 (.region false [
 ⟨(some 5), none, .mv (.c (.int .i64 0))⟩])
 (.block 0
 (.loop [1, 2, 5] [0]
 (.seq
 (.seq
 (.region false [
 ⟨(some 15), none, .mv (.s 5)⟩,
 ⟨(some 16), none, .mv (.s 1)⟩,
 ⟨(some 17), none, .len (.s 16)⟩,
 ⟨(some 18), none, .bin .lss .int (.s 15) (.s 17)⟩])
 (.cond (.s 18)
 .skip
 (.exit 0)))
 (.seq
 (.block 1
 (.seq
 (.region true [
 ⟨(some 21), none, .load (some 2) (some 0) (.s 2)⟩,
 ⟨(some 22), none, .mv (.s 1)⟩,
 ⟨(some 23), none, .mv (.s 5)⟩,
 ⟨(some 24), none, .iaddrS 6 (.s 22) (.s 23)⟩,
 ⟨(some 25), none, .load (some 6) none (.s 24)⟩,
 ⟨(some 26), none, .call (.c (.fn 20 [] [])) [(.s 21), (.s 25)] [] [] [] false⟩,
 ⟨(some 27), none, .load (some 2) (some 0) (.s 2)⟩,
 ⟨(some 28), none, .mv (.s 1)⟩,
 ⟨(some 29), none, .mv (.s 5)⟩,
 ⟨(some 30), none, .iaddrS 6 (.s 28) (.s 29)⟩,
 ⟨(some 31), none, .load (some 6) none (.s 30)⟩,
 ⟨(some 32), none, .call (.c (.fn 21 [] [])) [(.s 27), (.s 31)] [] [] [] false⟩,
 ⟨(some 33), none, .bin .neq .bool (.s 26) (.s 32)⟩,
 ⟨(some 34), none, .mv (.s 33)⟩,
 ⟨(some 35), (some (34, false)), .mv (.s 1)⟩,
 ⟨(some 36), (some (34, false)), .mv (.s 5)⟩,
 ⟨(some 37), (some (34, false)), .iaddrS 6 (.s 35) (.s 36)⟩,
 ⟨(some 38), (some (34, false)), .load (some 6) none (.s 37)⟩,
 ⟨(some 39), (some (34, false)), .mv (.s 1)⟩,
 ⟨(some 40), (some (34, false)), .iaddrS 6 (.s 39) (.c (.int .i64 0))⟩,
 ⟨(some 41), (some (34, false)), .load (some 6) none (.s 40)⟩,
 ⟨(some 42), (some (34, false)), .call (.c (.fn 9 [] [])) [(.s 38), (.s 41)] [] [] [] false⟩,
 ⟨(some 43), (some (34, false)), .mv (.s 1)⟩,
 ⟨(some 44), (some (34, false)), .mv (.s 5)⟩,
 ⟨(some 45), (some (34, false)), .iaddrS 6 (.s 43) (.s 44)⟩,
 ⟨(some 46), (some (34, false)), .load (some 6) none (.s 45)⟩,
 ⟨(some 47), (some (34, false)), .mv (.s 1)⟩,
 ⟨(some 48), (some (34, false)), .iaddrS 6 (.s 47) (.c (.int .i64 0))⟩,
 ⟨(some 49), (some (34, false)), .load (some 6) none (.s 48)⟩,
 ⟨(some 50), (some (34, false)), .call (.c (.fn 22 [] [])) [(.s 46), (.s 49)] [] [] [] false⟩,
 ⟨(some 51), (some (34, false)), .bin .neq .bool (.s 42) (.s 50)⟩,
 ⟨(some 52), none, .pick (.s 34) (.c (.bool true)) (.s 51)⟩,
 ⟨(some 53), none, .mv (.s 52)⟩,
 ⟨(some 54), (some (53, false)), .mv (.s 1)⟩,
 ⟨(some 55), (some (53, false)), .iaddrS 6 (.s 54) (.c (.int .i64 0))⟩,
 ⟨(some 56), (some (53, false)), .load (some 6) none (.s 55)⟩,
 ⟨(some 57), (some (53, false)), .mv (.s 1)⟩,
 ⟨(some 58), (some (53, false)), .mv (.s 5)⟩,
 ⟨(some 59), (some (53, false)), .iaddrS 6 (.s 57) (.s 58)⟩,
 ⟨(some 60), (some (53, false)), .load (some 6) none (.s 59)⟩,
 ⟨(some 61), (some (53, false)), .call (.c (.fn 9 [] [])) [(.s 56), (.s 60)] [] [] [] false⟩,
 ⟨(some 62), (some (53, false)), .mv (.s 1)⟩,
 ⟨(some 63), (some (53, false)), .iaddrS 6 (.s 62) (.c (.int .i64 0))⟩,
 ⟨(some 64), (some (53, false)), .load (some 6) none (.s 63)⟩,
 ⟨(some 65), (some (53, false)), .mv (.s 1)⟩,
 ⟨(some 66), (some (53, false)), .mv (.s 5)⟩,
 ⟨(some 67), (some (53, false)), .iaddrS 6 (.s 65) (.s 66)⟩,
 ⟨(some 68), (some (53, false)), .load (some 6) none (.s 67)⟩,
 ⟨(some 69), (some (53, false)), .call (.c (.fn 22 [] [])) [(.s 64), (.s 68)] [] [] [] false⟩,
 ⟨(some 70), (some (53, false)), .bin .neq .bool (.s 61) (.s 69)⟩,
 ⟨(some 71), none, .pick (.s 53) (.c (.bool true)) (.s 70)⟩])
 (.cond (.s 71)
 (.seq
 (.region false [
 ⟨(some 4), none, .mv (.c (.bool false))⟩])
 .ret)
 .skip)))
 (.region false [
 ⟨(some 19), none, .mv (.s 5)⟩,
 ⟨(some 20), none, .bin .add .int (.s 19) (.c (.int .i64 1))⟩,
 ⟨(some 5), none, .mv (.s 20)⟩]))))))
 (.seq
 (.region false [
 ⟨(some 72), none, .mv (.s 1)⟩,
 ⟨(some 73), none, .call (.c (.fn 24 [] [])) [(.s 72)] [] [] [] true⟩,
 ⟨(some 74), none, .mv (.s 1)⟩,
 ⟨(some 75), none, .call (.c (.fn 25 [] [])) [(.s 74)] [] [] [] true⟩,
 ⟨(some 76), none, .call (.c (.fn 23 [] [])) [(.s 73), (.s 75)] [] [] [] false⟩,
 ⟨(some 77), none, .mv (.s 76)⟩,
 ⟨(some 78), (some (77, true)), .call (.c (.fn 10 [] [])) [] [] [] [] false⟩,
 ⟨(some 79), none, .pick (.s 77) (.s 78) (.c (.bool false))⟩,
 ⟨(some 4), none, .mv (.s 79)⟩])
 .ret)))) }
/- cuboid/cuboidlaw07.RowSorts -/
def f8 : MFun := { nt := 110, np := 2, no := 1, res := [.slot 4], body :=
 (.seq
 (.region false [
 ⟨(some 4), none, .mv (.c (.bool false))⟩])
 (.seq
 (.seq
 (.region false [
 ⟨(some 12), none, .mv (.s 0)⟩,
 ⟨(some 13), none, .len (.s 12)⟩,
 ⟨(some 14), none, .bin .gtr .int (.s 13) (.c (.int .i64 60))⟩])
 (.cond (.s 14)
 (.seq
 (.region false [
 ⟨(some 15), none, .call (.c (.fn 10 [] [])) [] [] [] [] false⟩,
 ⟨(some 4), none, .mv (.s 15)⟩])
 .ret)
 .skip))
 (.seq
 (.region false [
 ⟨(some 16), none, .mv (.s 0)⟩,
 ⟨(some 17), none, .call (.c (.fn 24 [] [])) [(.s 16)] [] [] [] true⟩,
 ⟨(some 5), none, .mv (.s 17)⟩])
 (.seq
 (.region false [
 ⟨(some 18), none, .mv (.s 1)⟩,
 ⟨(some 19), none, .mv (.s 0)⟩,
 ⟨(some 20), none, .len (.s 19)⟩,
 ⟨(some 21), none, .bin .add .int (.s 20) (.c (.int .i64 1))⟩,
 ⟨(some 22), none, .call (.c (.fn 17 [] [])) [(.s 18), (.s 21)] [] [] [] false⟩,
 ⟨(some 6), none, .mv (.s 22)⟩])
 (.seq
 (.region true [
 ⟨(some 23), none, .lit (some 0) [] 0 6 [.int .u8 0, .int .u8 0, .int .u8 0, .int .u8 0, .int .i64 0, .int .i64 0] []⟩,
 ⟨(some 24), none, .mv (.s 0)⟩,
 ⟨(some 25), none, .mv (.s 6)⟩,
 ⟨(some 26), none, .sliceS 6 (.s 24) (some (.s 25)) none⟩,
 ⟨(some 27), none, .append 24 6 0 none (.s 23) (.s 26)⟩,
 ⟨(some 28), none, .mv (.s 0)⟩,
 ⟨(some 29), none, .mv (.s 6)⟩,
 ⟨(some 30), none, .sliceS 6 (.s 28) none (some (.s 29))⟩,
 ⟨(some 31), none, .append 24 6 0 none (.s 27) (.s 30)⟩,
 ⟨(some 32), none, .call (.c (.fn 24 [] [])) [(.s 31)] [] [0] [] true⟩,
 ⟨(some 7), none, .mv (.s 32)⟩])
 (.seq
 (.seq
 (.region false [
 ⟨(some 33), none, .mv (.s 5)⟩,
 ⟨(some 34), none, .len (.s 33)⟩,
 ⟨(some 35), none, .mv (.s 0)⟩,
 ⟨(some 36), none, .len (.s 35)⟩,
 ⟨(some 37), none, .bin .neq .int (.s 34) (.s 36)⟩,
 ⟨(some 38), none, .mv (.s 37)⟩,
 ⟨(some 39), (some (38, false)), .mv (.s 7)⟩,
 ⟨(some 40), (some (38, false)), .len (.s 39)⟩,
 ⟨(some 41), (some (38, false)), .mv (.s 0)⟩,
 ⟨(some 42), (some (38, false)), .len (.s 41)⟩,
 ⟨(some 43), (some (38, false)), .bin .neq .int (.s 40) (.s 42)⟩,
 ⟨(some 44), none, .pick (.s 38) (.c (.bool true)) (.s 43)⟩])
 (.cond (.s 44)
 (.seq
 (.region false [
 ⟨(some 4), none, .mv (.c (.bool false))⟩])
 .ret)
 .skip))
 (.seq
 (.seq
 (.region false [
 ⟨(some 8), none, .mv (.c (.int .i64 0))⟩])
 (.block 0
 (.loop [0, 5, 7, 8] []
 (.seq
 (.seq
 (.region false [
 ⟨(some 45), none, .mv (.s 8)⟩,
 ⟨(some 46), none, .mv (.s 5)⟩,
 ⟨(some 47), none, .len (.s 46)⟩,
 ⟨(some 48), none, .bin .lss .int (.s 45) (.s 47)⟩])
 (.cond (.s 48)
 .skip
 (.exit 0)))
 (.seq
 (.block 1
 (.seq
 (.region false [
 ⟨(some 9), none, .mv (.c (.int .i64 0))⟩,
 ⟨(some 10), none, .mv (.c (.int .i64 0))⟩])
 (.seq
 (.seq
 (.region false [
 ⟨(some 11), none, .mv (.c (.int .i64 0))⟩])
 (.block 2
 (.loop [0, 5, 7, 8, 9, 10, 11] []
 (.seq
 (.seq
 (.region false [
 ⟨(some 51), none, .mv (.s 11)⟩,
 ⟨(some 52), none, .mv (.s 5)⟩,
 ⟨(some 53), none, .len (.s 52)⟩,
 ⟨(some 54), none, .bin .lss .int (.s 51) (.s 53)⟩])
 (.cond (.s 54)
 .skip
 (.exit 2)))
 (.seq
 (.block 3
 (.seq
 (.seq
 (.region true [
 ⟨(some 57), none, .mv (.s 5)⟩,
 ⟨(some 58), none, .mv (.s 11)⟩,
 ⟨(some 59), none, .iaddrS 6 (.s 57) (.s 58)⟩,
 ⟨(some 60), none, .load (some 6) none (.s 59)⟩,
 ⟨(some 61), none, .mv (.s 5)⟩,
 ⟨(some 62), none, .mv (.s 8)⟩,
 ⟨(some 63), none, .iaddrS 6 (.s 61) (.s 62)⟩,
 ⟨(some 64), none, .load (some 6) none (.s 63)⟩,
 ⟨(some 65), none, .bin .eql (.agg [some .u8, some .u8, some .u8, some .u8, some .i64, some .i64]) (.s 60) (.s 64)⟩])
 (.cond (.s 65)
 (.region false [
 ⟨(some 66), none, .mv (.s 9)⟩,
 ⟨(some 67), none, .bin .add .int (.s 66) (.c (.int .i64 1))⟩,
 ⟨(some 9), none, .mv (.s 67)⟩])
 .skip))
 (.seq
 (.region true [
 ⟨(some 68), none, .mv (.s 0)⟩,
 ⟨(some 69), none, .mv (.s 11)⟩,
 ⟨(some 70), none, .iaddrS 6 (.s 68) (.s 69)⟩,
 ⟨(some 71), none, .load (some 6) none (.s 70)⟩,
 ⟨(some 72), none, .mv (.s 5)⟩,
 ⟨(some 73), none, .mv (.s 8)⟩,
 ⟨(some 74), none, .iaddrS 6 (.s 72) (.s 73)⟩,
 ⟨(some 75), none, .load (some 6) none (.s 74)⟩,
 ⟨(some 76), none, .bin .eql (.agg [some .u8, some .u8, some .u8, some .u8, some .i64, some .i64]) (.s 71) (.s 75)⟩])
 (.cond (.s 76)
 (.region false [
 ⟨(some 77), none, .mv (.s 10)⟩,
 ⟨(some 78), none, .bin .add .int (.s 77) (.c (.int .i64 1))⟩,
 ⟨(some 10), none, .mv (.s 78)⟩])
 .skip))))
 (.region false [
 ⟨(some 55), none, .mv (.s 11)⟩,
 ⟨(some 56), none, .bin .add .int (.s 55) (.c (.int .i64 1))⟩,
 ⟨(some 11), none, .mv (.s 56)⟩]))))))
 (.seq
 (.region true [
 ⟨(some 79), none, .mv (.s 9)⟩,
 ⟨(some 80), none, .mv (.s 10)⟩,
 ⟨(some 81), none, .bin .neq .int (.s 79) (.s 80)⟩,
 ⟨(some 82), none, .mv (.s 81)⟩,
 ⟨(some 83), (some (82, false)), .mv (.s 5)⟩,
 ⟨(some 84), (some (82, false)), .mv (.s 8)⟩,
 ⟨(some 85), (some (82, false)), .iaddrS 6 (.s 83) (.s 84)⟩,
 ⟨(some 86), (some (82, false)), .load (some 6) none (.s 85)⟩,
 ⟨(some 87), (some (82, false)), .mv (.s 7)⟩,
 ⟨(some 88), (some (82, false)), .mv (.s 8)⟩,
 ⟨(some 89), (some (82, false)), .iaddrS 6 (.s 87) (.s 88)⟩,
 ⟨(some 90), (some (82, false)), .load (some 6) none (.s 89)⟩,
 ⟨(some 91), (some (82, false)), .bin .neq (.agg [some .u8, some .u8, some .u8, some .u8, some .i64, some .i64]) (.s 86) (.s 90)⟩,
 ⟨(some 92), none, .pick (.s 82) (.c (.bool true)) (.s 91)⟩,
 ⟨(some 93), none, .mv (.s 92)⟩,
 ⟨(some 94), (some (93, false)), .mv (.s 8)⟩,
 ⟨(some 95), (some (93, false)), .bin .gtr .int (.s 94) (.c (.int .i64 0))⟩,
 ⟨(some 96), (some (93, false)), .mv (.s 95)⟩,
 ⟨(some 97), (some (96, true)), .mv (.s 5)⟩,
 ⟨(some 98), (some (96, true)), .mv (.s 8)⟩,
 ⟨(some 99), (some (96, true)), .iaddrS 6 (.s 97) (.s 98)⟩,
 ⟨(some 100), (some (96, true)), .load (some 6) none (.s 99)⟩,
 ⟨(some 101), (some (96, true)), .mv (.s 5)⟩,
 ⟨(some 102), (some (96, true)), .mv (.s 8)⟩,
 ⟨(some 103), (some (96, true)), .bin .sub .int (.s 102) (.c (.int .i64 1))⟩,
 ⟨(some 104), (some (96, true)), .iaddrS 6 (.s 101) (.s 103)⟩,
 ⟨(some 105), (some (96, true)), .load (some 6) none (.s 104)⟩,
 ⟨(some 106), (some (96, true)), .call (.c (.fn 9 [] [])) [(.s 100), (.s 105)] [] [] [] false⟩,
 ⟨(some 107), (some (93, false)), .pick (.s 96) (.s 106) (.c (.bool false))⟩,
 ⟨(some 108), none, .pick (.s 93) (.c (.bool true)) (.s 107)⟩])
 (.cond (.s 108)
 (.seq
 (.region false [
 ⟨(some 4), none, .mv (.c (.bool false))⟩])
 .ret)
 .skip)))))
 (.region false [
 ⟨(some 49), none, .mv (.s 8)⟩,
 ⟨(some 50), none, .bin .add .int (.s 49) (.c (.int .i64 1))⟩,
 ⟨(some 8), none, .mv (.s 50)⟩]))))))
 (.seq
 (.region false [
 ⟨(some 109), none, .call (.c (.fn 10 [] [])) [] [] [] [] false⟩,
 ⟨(some 4), none, .mv (.s 109)⟩])
 .ret)))))))) }
end Mf
theorem mf50_ok : chkFun Try.prog Mf.f50 Try.f50 = true := by kernel_rfl
theorem mf61_ok : chkFun Try.prog Mf.f61 Try.f61 = true := by kernel_rfl
theorem mf51_ok : chkFun Try.prog Mf.f51 Try.f51 = true := by kernel_rfl
theorem mf52_ok : chkFun Try.prog Mf.f52 Try.f52 = true := by kernel_rfl
theorem mf77_ok : chkFun Try.prog Mf.f77 Try.f77 = true := by kernel_rfl
theorem mf62_ok : chkFun Try.prog Mf.f62 Try.f62 = true := by kernel_rfl
theorem mf53_ok : chkFun Try.prog Mf.f53 Try.f53 = true := by kernel_rfl
theorem mf26_ok : chkFun Try.prog Mf.f26 Try.f26 = true := by kernel_rfl
theorem mf9_ok : chkFun Try.prog Mf.f9 Try.f9 = true := by kernel_rfl
theorem mf27_ok : chkFun Try.prog Mf.f27 Try.f27 = true := by kernel_rfl
theorem mf11_ok : chkFun Try.prog Mf.f11 Try.f11 = true := by kernel_rfl
theorem mf32_ok : chkFun Try.prog Mf.f32 Try.f32 = true := by kernel_rfl
theorem mf33_ok : chkFun Try.prog Mf.f33 Try.f33 = true := by kernel_rfl
theorem mf34_ok : chkFun Try.prog Mf.f34 Try.f34 = true := by kernel_rfl
theorem mf14_ok : chkFun Try.prog Mf.f14 Try.f14 = true := by kernel_rfl
theorem mf37_ok : chkFun Try.prog Mf.f37 Try.f37 = true := by kernel_rfl
theorem mf38_ok : chkFun Try.prog Mf.f38 Try.f38 = true := by kernel_rfl
theorem mf16_ok : chkFun Try.prog Mf.f16 Try.f16 = true := by kernel_rfl
theorem mf63_ok : chkFun Try.prog Mf.f63 Try.f63 = true := by kernel_rfl
theorem mf65_ok : chkFun Try.prog Mf.f65 Try.f65 = true := by kernel_rfl
theorem mf78_ok : chkFun Try.prog Mf.f78 Try.f78 = true := by kernel_rfl
theorem mf64_ok : chkFun Try.prog Mf.f64 Try.f64 = true := by kernel_rfl
theorem mf55_ok : chkFun Try.prog Mf.f55 Try.f55 = true := by kernel_rfl
theorem mf56_ok : chkFun Try.prog Mf.f56 Try.f56 = true := by kernel_rfl
theorem mf42_ok : chkFun Try.prog Mf.f42 Try.f42 = true := by kernel_rfl
theorem mf43_ok : chkFun Try.prog Mf.f43 Try.f43 = true := by kernel_rfl
theorem mf20_ok : chkFun Try.prog Mf.f20 Try.f20 = true := by kernel_rfl
theorem mf10_ok : chkFun Try.prog Mf.f10 Try.f10 = true := by kernel_rfl
theorem mf3_ok : chkFun Try.prog Mf.f3 Try.f3 = true := by kernel_rfl
theorem mf28_ok : chkFun Try.prog Mf.f28 Try.f28 = true := by kernel_rfl
theorem mf12_ok : chkFun Try.prog Mf.f12 Try.f12 = true := by kernel_rfl
theorem mf4_ok : chkFun Try.prog Mf.f4 Try.f4 = true := by kernel_rfl
theorem mf54_ok : chkFun Try.prog Mf.f54 Try.f54 = true := by kernel_rfl
theorem mf29_ok : chkFun Try.prog Mf.f29 Try.f29 = true := by kernel_rfl
theorem mf30_ok : chkFun Try.prog Mf.f30 Try.f30 = true := by kernel_rfl
theorem mf31_ok : chkFun Try.prog Mf.f31 Try.f31 = true := by kernel_rfl
theorem mf13_ok : chkFun Try.prog Mf.f13 Try.f13 = true := by kernel_rfl
theorem mf5_ok : chkFun Try.prog Mf.f5 Try.f5 = true := by kernel_rfl
theorem mf35_ok : chkFun Try.prog Mf.f35 Try.f35 = true := by kernel_rfl
theorem mf36_ok : chkFun Try.prog Mf.f36 Try.f36 = true := by kernel_rfl
theorem mf15_ok : chkFun Try.prog Mf.f15 Try.f15 = true := by kernel_rfl
theorem mf17_ok : chkFun Try.prog Mf.f17 Try.f17 = true := by kernel_rfl
theorem mf39_ok : chkFun Try.prog Mf.f39 Try.f39 = true := by kernel_rfl
theorem mf40_ok : chkFun Try.prog Mf.f40 Try.f40 = true := by kernel_rfl
theorem mf18_ok : chkFun Try.prog Mf.f18 Try.f18 = true := by kernel_rfl
theorem mf6_ok : chkFun Try.prog Mf.f6 Try.f6 = true := by kernel_rfl
theorem mf41_ok : chkFun Try.prog Mf.f41 Try.f41 = true := by kernel_rfl
theorem mf19_ok : chkFun Try.prog Mf.f19 Try.f19 = true := by kernel_rfl
theorem mf66_ok : chkFun Try.prog Mf.f66 Try.f66 = true := by kernel_rfl
theorem mf57_ok : chkFun Try.prog Mf.f57 Try.f57 = true := by kernel_rfl
theorem mf58_ok : chkFun Try.prog Mf.f58 Try.f58 = true := by kernel_rfl
theorem mf44_ok : chkFun Try.prog Mf.f44 Try.f44 = true := by kernel_rfl
theorem mf45_ok : chkFun Try.prog Mf.f45 Try.f45 = true := by kernel_rfl
theorem mf21_ok : chkFun Try.prog Mf.f21 Try.f21 = true := by kernel_rfl
theorem mf46_ok : chkFun Try.prog Mf.f46 Try.f46 = true := by kernel_rfl
theorem mf22_ok : chkFun Try.prog Mf.f22 Try.f22 = true := by kernel_rfl
theorem mf23_ok : chkFun Try.prog Mf.f23 Try.f23 = true := by kernel_rfl
theorem mf47_ok : chkFun Try.prog Mf.f47 Try.f47 = true := by kernel_rfl
theorem mf24_ok : chkFun Try.prog Mf.f24 Try.f24 = true := by kernel_rfl
theorem mf49_ok : chkFun Try.prog Mf.f49 Try.f49 = true := by kernel_rfl
theorem mf25_ok : chkFun Try.prog Mf.f25 Try.f25 = true := by kernel_rfl
theorem mf7_ok : chkFun Try.prog Mf.f7 Try.f7 = true := by kernel_rfl
theorem mf8_ok : chkFun Try.prog Mf.f8 Try.f8 = true := by kernel_rfl
/-SORT 48 slices.SortFunc[[]cuboid/api.Row,cuboid/api.Row]-/
/-OWN 32-/
theorem mf32o_ok : chkFun Try.prog Mf.f32o Try.f32 = true := by kernel_rfl
def fnTab : FuncId → Option MFun
 | 50 => some Mf.f50
 | 61 => some Mf.f61
 | 51 => some Mf.f51
 | 52 => some Mf.f52
 | 77 => some Mf.f77
 | 62 => some Mf.f62
 | 53 => some Mf.f53
 | 26 => some Mf.f26
 | 9 => some Mf.f9
 | 27 => some Mf.f27
 | 11 => some Mf.f11
 | 32 => some Mf.f32
 | 33 => some Mf.f33
 | 34 => some Mf.f34
 | 14 => some Mf.f14
 | 37 => some Mf.f37
 | 38 => some Mf.f38
 | 16 => some Mf.f16
 | 63 => some Mf.f63
 | 65 => some Mf.f65
 | 78 => some Mf.f78
 | 64 => some Mf.f64
 | 55 => some Mf.f55
 | 56 => some Mf.f56
 | 42 => some Mf.f42
 | 43 => some Mf.f43
 | 20 => some Mf.f20
 | 10 => some Mf.f10
 | 3 => some Mf.f3
 | 28 => some Mf.f28
 | 12 => some Mf.f12
 | 4 => some Mf.f4
 | 54 => some Mf.f54
 | 29 => some Mf.f29
 | 30 => some Mf.f30
 | 31 => some Mf.f31
 | 13 => some Mf.f13
 | 5 => some Mf.f5
 | 35 => some Mf.f35
 | 36 => some Mf.f36
 | 15 => some Mf.f15
 | 17 => some Mf.f17
 | 39 => some Mf.f39
 | 40 => some Mf.f40
 | 18 => some Mf.f18
 | 6 => some Mf.f6
 | 41 => some Mf.f41
 | 19 => some Mf.f19
 | 66 => some Mf.f66
 | 57 => some Mf.f57
 | 58 => some Mf.f58
 | 44 => some Mf.f44
 | 45 => some Mf.f45
 | 21 => some Mf.f21
 | 46 => some Mf.f46
 | 22 => some Mf.f22
 | 23 => some Mf.f23
 | 47 => some Mf.f47
 | 24 => some Mf.f24
 | 49 => some Mf.f49
 | 25 => some Mf.f25
 | 7 => some Mf.f7
 | 8 => some Mf.f8
 | _ => none
theorem fnTab_ok : ∀ f mf, fnTab f = some mf → ∃ fn, Try.prog.funcs[f]? = some fn ∧ chkFun Try.prog mf fn = true := by
 intro f mf h
 unfold fnTab at h
 split at h
 · cases h; exact ⟨Try.f50, Try.func50, mf50_ok⟩
 · cases h; exact ⟨Try.f61, Try.func61, mf61_ok⟩
 · cases h; exact ⟨Try.f51, Try.func51, mf51_ok⟩
 · cases h; exact ⟨Try.f52, Try.func52, mf52_ok⟩
 · cases h; exact ⟨Try.f77, Try.func77, mf77_ok⟩
 · cases h; exact ⟨Try.f62, Try.func62, mf62_ok⟩
 · cases h; exact ⟨Try.f53, Try.func53, mf53_ok⟩
 · cases h; exact ⟨Try.f26, Try.func26, mf26_ok⟩
 · cases h; exact ⟨Try.f9, Try.func9, mf9_ok⟩
 · cases h; exact ⟨Try.f27, Try.func27, mf27_ok⟩
 · cases h; exact ⟨Try.f11, Try.func11, mf11_ok⟩
 · cases h; exact ⟨Try.f32, Try.func32, mf32_ok⟩
 · cases h; exact ⟨Try.f33, Try.func33, mf33_ok⟩
 · cases h; exact ⟨Try.f34, Try.func34, mf34_ok⟩
 · cases h; exact ⟨Try.f14, Try.func14, mf14_ok⟩
 · cases h; exact ⟨Try.f37, Try.func37, mf37_ok⟩
 · cases h; exact ⟨Try.f38, Try.func38, mf38_ok⟩
 · cases h; exact ⟨Try.f16, Try.func16, mf16_ok⟩
 · cases h; exact ⟨Try.f63, Try.func63, mf63_ok⟩
 · cases h; exact ⟨Try.f65, Try.func65, mf65_ok⟩
 · cases h; exact ⟨Try.f78, Try.func78, mf78_ok⟩
 · cases h; exact ⟨Try.f64, Try.func64, mf64_ok⟩
 · cases h; exact ⟨Try.f55, Try.func55, mf55_ok⟩
 · cases h; exact ⟨Try.f56, Try.func56, mf56_ok⟩
 · cases h; exact ⟨Try.f42, Try.func42, mf42_ok⟩
 · cases h; exact ⟨Try.f43, Try.func43, mf43_ok⟩
 · cases h; exact ⟨Try.f20, Try.func20, mf20_ok⟩
 · cases h; exact ⟨Try.f10, Try.func10, mf10_ok⟩
 · cases h; exact ⟨Try.f3, Try.func3, mf3_ok⟩
 · cases h; exact ⟨Try.f28, Try.func28, mf28_ok⟩
 · cases h; exact ⟨Try.f12, Try.func12, mf12_ok⟩
 · cases h; exact ⟨Try.f4, Try.func4, mf4_ok⟩
 · cases h; exact ⟨Try.f54, Try.func54, mf54_ok⟩
 · cases h; exact ⟨Try.f29, Try.func29, mf29_ok⟩
 · cases h; exact ⟨Try.f30, Try.func30, mf30_ok⟩
 · cases h; exact ⟨Try.f31, Try.func31, mf31_ok⟩
 · cases h; exact ⟨Try.f13, Try.func13, mf13_ok⟩
 · cases h; exact ⟨Try.f5, Try.func5, mf5_ok⟩
 · cases h; exact ⟨Try.f35, Try.func35, mf35_ok⟩
 · cases h; exact ⟨Try.f36, Try.func36, mf36_ok⟩
 · cases h; exact ⟨Try.f15, Try.func15, mf15_ok⟩
 · cases h; exact ⟨Try.f17, Try.func17, mf17_ok⟩
 · cases h; exact ⟨Try.f39, Try.func39, mf39_ok⟩
 · cases h; exact ⟨Try.f40, Try.func40, mf40_ok⟩
 · cases h; exact ⟨Try.f18, Try.func18, mf18_ok⟩
 · cases h; exact ⟨Try.f6, Try.func6, mf6_ok⟩
 · cases h; exact ⟨Try.f41, Try.func41, mf41_ok⟩
 · cases h; exact ⟨Try.f19, Try.func19, mf19_ok⟩
 · cases h; exact ⟨Try.f66, Try.func66, mf66_ok⟩
 · cases h; exact ⟨Try.f57, Try.func57, mf57_ok⟩
 · cases h; exact ⟨Try.f58, Try.func58, mf58_ok⟩
 · cases h; exact ⟨Try.f44, Try.func44, mf44_ok⟩
 · cases h; exact ⟨Try.f45, Try.func45, mf45_ok⟩
 · cases h; exact ⟨Try.f21, Try.func21, mf21_ok⟩
 · cases h; exact ⟨Try.f46, Try.func46, mf46_ok⟩
 · cases h; exact ⟨Try.f22, Try.func22, mf22_ok⟩
 · cases h; exact ⟨Try.f23, Try.func23, mf23_ok⟩
 · cases h; exact ⟨Try.f47, Try.func47, mf47_ok⟩
 · cases h; exact ⟨Try.f24, Try.func24, mf24_ok⟩
 · cases h; exact ⟨Try.f49, Try.func49, mf49_ok⟩
 · cases h; exact ⟨Try.f25, Try.func25, mf25_ok⟩
 · cases h; exact ⟨Try.f7, Try.func7, mf7_ok⟩
 · cases h; exact ⟨Try.f8, Try.func8, mf8_ok⟩
 · cases h
end Go.Proofs.Ytnlihobhbbopfaa
