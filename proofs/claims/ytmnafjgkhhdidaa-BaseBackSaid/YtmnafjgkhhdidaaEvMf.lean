/- The evaluator's code of each function of this seat, and that it is the loaded one. Printed by a program (gen.py). -/
import Derived.Test.YtmnafjgkhhdidaaChecked
import Derived.KernelRfl
import Derived.Test.YtmnafjgkhhdidaaEvGd
set_option linter.unusedSimpArgs false
set_option linter.unusedVariables false
set_option maxRecDepth 100000
namespace Go.Proofs.Ytmnafjgkhhdidaa
open Go.Ev
namespace Mf
/- cuboid/cuboidkeep.LightDim -/
def f26 : MFun := { nt := 28, np := 1, no := 1, res := [.slot 2], body :=
 (.seq
 (.region false [
 ⟨(some 1), none, .box 0 (.s 0)⟩,
 ⟨(some 2), none, .mv (.c (.bool false))⟩])
 (.seq
 (.seq
 (.region false [
 ⟨(some 4), none, .faddr 0 (.s 1)⟩,
 ⟨(some 5), none, .load none (some 0) (.s 4)⟩,
 ⟨(some 6), none, .len (.s 5)⟩,
 ⟨(some 7), none, .bin .gtr .int (.s 6) (.c (.int .i64 10))⟩,
 ⟨(some 8), none, .mv (.s 7)⟩,
 ⟨(some 9), (some (8, false)), .faddr 1 (.s 1)⟩,
 ⟨(some 10), (some (8, false)), .load none (some 0) (.s 9)⟩,
 ⟨(some 11), (some (8, false)), .len (.s 10)⟩,
 ⟨(some 12), (some (8, false)), .bin .gtr .int (.s 11) (.c (.int .i64 10))⟩,
 ⟨(some 13), none, .pick (.s 8) (.c (.bool true)) (.s 12)⟩])
 (.cond (.s 13)
 (.seq
 (.region false [
 ⟨(some 2), none, .mv (.c (.bool false))⟩])
 .ret)
 .skip))
 (.seq
 (.seq
 (.region false [
 ⟨(some 3), none, .mv (.c (.int .i64 0))⟩])
 (.block 0
 (.loop [1, 3] [0]
 (.seq
 (.seq
 (.region false [
 ⟨(some 14), none, .mv (.s 3)⟩,
 ⟨(some 15), none, .faddr 1 (.s 1)⟩,
 ⟨(some 16), none, .load none (some 0) (.s 15)⟩,
 ⟨(some 17), none, .len (.s 16)⟩,
 ⟨(some 18), none, .bin .lss .int (.s 14) (.s 17)⟩])
 (.cond (.s 18)
 .skip
 (.exit 0)))
 (.seq
 (.block 1
 (.seq
 (.region false [
 ⟨(some 21), none, .faddr 1 (.s 1)⟩,
 ⟨(some 22), none, .load none (some 0) (.s 21)⟩,
 ⟨(some 23), none, .mv (.s 3)⟩,
 ⟨(some 24), none, .iaddrS 1 (.s 22) (.s 23)⟩,
 ⟨(some 25), none, .load none none (.s 24)⟩,
 ⟨(some 26), none, .len (.s 25)⟩,
 ⟨(some 27), none, .bin .gtr .int (.s 26) (.c (.int .i64 60))⟩])
 (.cond (.s 27)
 (.seq
 (.region false [
 ⟨(some 2), none, .mv (.c (.bool false))⟩])
 .ret)
 .skip)))
 (.region false [
 ⟨(some 19), none, .mv (.s 3)⟩,
 ⟨(some 20), none, .bin .add .int (.s 19) (.c (.int .i64 1))⟩,
 ⟨(some 3), none, .mv (.s 20)⟩]))))))
 (.seq
 (.region false [
 ⟨(some 2), none, .mv (.c (.bool true))⟩])
 .ret)))) }
/- cuboid/cuboidkeep.LightCat -/
def f8 : MFun := { nt := 22, np := 1, no := 1, res := [.slot 2], body :=
 (.seq
 (.region false [
 ⟨(some 1), none, .box 0 (.s 0)⟩,
 ⟨(some 2), none, .mv (.c (.bool false))⟩])
 (.seq
 (.seq
 (.region false [
 ⟨(some 4), none, .faddr 0 (.s 1)⟩,
 ⟨(some 5), none, .load none (some 0) (.s 4)⟩,
 ⟨(some 6), none, .len (.s 5)⟩,
 ⟨(some 7), none, .bin .gtr .int (.s 6) (.c (.int .i64 8))⟩])
 (.cond (.s 7)
 (.seq
 (.region false [
 ⟨(some 2), none, .mv (.c (.bool false))⟩])
 .ret)
 .skip))
 (.seq
 (.seq
 (.region false [
 ⟨(some 3), none, .mv (.c (.int .i64 0))⟩])
 (.block 0
 (.loop [1, 3] [0]
 (.seq
 (.seq
 (.region false [
 ⟨(some 8), none, .mv (.s 3)⟩,
 ⟨(some 9), none, .faddr 0 (.s 1)⟩,
 ⟨(some 10), none, .load none (some 0) (.s 9)⟩,
 ⟨(some 11), none, .len (.s 10)⟩,
 ⟨(some 12), none, .bin .lss .int (.s 8) (.s 11)⟩])
 (.cond (.s 12)
 .skip
 (.exit 0)))
 (.seq
 (.block 1
 (.seq
 (.region false [
 ⟨(some 15), none, .faddr 0 (.s 1)⟩,
 ⟨(some 16), none, .load none (some 0) (.s 15)⟩,
 ⟨(some 17), none, .mv (.s 3)⟩,
 ⟨(some 18), none, .iaddrS 2 (.s 16) (.s 17)⟩,
 ⟨(some 19), none, .load (some 2) none (.s 18)⟩,
 ⟨(some 20), none, .call (.c (.fn 26 [] [])) [(.s 19)] [] [] [] false⟩,
 ⟨(some 21), none, .un .not (.s 20)⟩])
 (.cond (.s 21)
 (.seq
 (.region false [
 ⟨(some 2), none, .mv (.c (.bool false))⟩])
 .ret)
 .skip)))
 (.region false [
 ⟨(some 13), none, .mv (.s 3)⟩,
 ⟨(some 14), none, .bin .add .int (.s 13) (.c (.int .i64 1))⟩,
 ⟨(some 3), none, .mv (.s 14)⟩]))))))
 (.seq
 (.region false [
 ⟨(some 2), none, .mv (.c (.bool true))⟩])
 .ret)))) }
/- cuboid/cuboidlaw20.rowOf -/
def f12 : MFun := { nt := 14, np := 2, no := 2, res := [.cell 4 0 (some 6)], body :=
 (.seq
 (.region false [
 ⟨(some 4), none, .alloc 0 [.int .u8 0, .int .u8 0, .int .u8 0, .int .u8 0, .int .i64 0, .int .i64 0]⟩])
 (.seq
 (.region false [
 ⟨(some 6), none, .mv (.s 0)⟩,
 ⟨(some 7), none, .bin .rem .int (.s 6) (.c (.int .u8 4))⟩,
 ⟨(some 8), none, .build [.int .u8 0, .int .u8 0, .int .u8 0, .int .u8 0] [(0, 1, (.s 7))]⟩,
 ⟨(some 9), none, .build [.int .u8 0, .int .u8 0, .int .u8 0, .int .u8 0, .int .i64 0, .int .i64 0] [(0, 4, (.s 8))]⟩,
 ⟨(some 5), none, .alloc 1 [.int .u8 0, .int .u8 0, .int .u8 0, .int .u8 0, .int .i64 0, .int .i64 0]⟩,
 ⟨none, none, .store 6 1 [] (.s 5) (.s 9)⟩])
 (.seq
 (.region false [
 ⟨(some 10), none, .mv (.s 1)⟩,
 ⟨(some 11), none, .faddr 4 (.s 5)⟩,
 ⟨(some 12), none, .iaddrA 2 1 (.s 11) (.c (.int .i64 0))⟩,
 ⟨none, none, .store 1 1 [] (.s 12) (.s 10)⟩])
 (.seq
 (.region false [
 ⟨(some 13), none, .load (some 6) (some 1) (.s 5)⟩,
 ⟨none, none, .store 6 0 [] (.s 4) (.s 13)⟩])
 .ret)))) }
/- cuboid/schema.between -/
def f46 : MFun := { nt := 15, np := 3, no := 0, res := [.slot 6], body :=
 (.seq
 (.region false [
 ⟨(some 6), none, .mv (.c (.bool false))⟩])
 (.seq
 (.region false [
 ⟨(some 7), none, .mv (.s 0)⟩,
 ⟨(some 8), none, .mv (.s 1)⟩,
 ⟨(some 9), none, .bin .geq .int (.s 7) (.s 8)⟩,
 ⟨(some 10), none, .mv (.s 9)⟩,
 ⟨(some 11), (some (10, true)), .mv (.s 0)⟩,
 ⟨(some 12), (some (10, true)), .mv (.s 2)⟩,
 ⟨(some 13), (some (10, true)), .bin .leq .int (.s 11) (.s 12)⟩,
 ⟨(some 14), none, .pick (.s 10) (.s 13) (.c (.bool false))⟩,
 ⟨(some 6), none, .mv (.s 14)⟩])
 .ret)) }
/- cuboid/hier.between -/
def f63 : MFun := { nt := 15, np := 3, no := 0, res := [.slot 6], body :=
 (.seq
 (.region false [
 ⟨(some 6), none, .mv (.c (.bool false))⟩])
 (.seq
 (.region false [
 ⟨(some 7), none, .mv (.s 0)⟩,
 ⟨(some 8), none, .mv (.s 1)⟩,
 ⟨(some 9), none, .bin .geq .int (.s 7) (.s 8)⟩,
 ⟨(some 10), none, .mv (.s 9)⟩,
 ⟨(some 11), (some (10, true)), .mv (.s 0)⟩,
 ⟨(some 12), (some (10, true)), .mv (.s 2)⟩,
 ⟨(some 13), (some (10, true)), .bin .leq .int (.s 11) (.s 12)⟩,
 ⟨(some 14), none, .pick (.s 10) (.s 13) (.c (.bool false))⟩,
 ⟨(some 6), none, .mv (.s 14)⟩])
 .ret)) }
/- cuboid/hier.up -/
def f64 : MFun := { nt := 25, np := 3, no := 0, res := [.slot 6], body :=
 (.seq
 (.region false [
 ⟨(some 6), none, .mv (.c (.bool false))⟩])
 (.seq
 (.seq
 (.region false [
 ⟨(some 9), none, .mv (.s 0)⟩,
 ⟨(some 10), none, .len (.s 9)⟩,
 ⟨(some 11), none, .mv (.s 1)⟩,
 ⟨(some 12), none, .bin .neq .int (.s 10) (.s 11)⟩])
 (.cond (.s 12)
 (.seq
 (.region false [
 ⟨(some 6), none, .mv (.c (.bool false))⟩])
 .ret)
 .skip))
 (.seq
 (.seq
 (.region false [
 ⟨(some 13), none, .mv (.s 0)⟩,
 ⟨(some 14), none, .len (.s 13)⟩,
 ⟨(some 15), none, .mv (.c (.int .i64 0))⟩])
 (.block 0
 (.loop [2, 13, 14, 15] []
 (.seq
 (.region false [
 ⟨(some 16), none, .bin .lss .int (.s 15) (.s 14)⟩])
 (.seq
 (.cond (.s 16)
 .skip
 (.exit 0))
 (.seq
 (.block 1
 (.seq
 (.region false [
 ⟨(some 17), none, .iaddrS 1 (.s 13) (.s 15)⟩,
 ⟨(some 18), none, .load none none (.s 17)⟩,
 ⟨(some 8), none, .mv (.s 18)⟩])
 (.seq
 (.region false [
 ⟨(some 19), none, .mv (.s 8)⟩,
 ⟨(some 20), none, .mv (.s 2)⟩,
 ⟨(some 21), none, .bin .sub .int (.s 20) (.c (.int .i64 1))⟩,
 ⟨(some 22), none, .call (.c (.fn 63 [] [])) [(.s 19), (.c (.int .i64 0)), (.s 21)] [] [] [] false⟩,
 ⟨(some 23), none, .un .not (.s 22)⟩])
 (.cond (.s 23)
 (.seq
 (.region false [
 ⟨(some 6), none, .mv (.c (.bool false))⟩])
 .ret)
 .skip))))
 (.region false [
 ⟨(some 24), none, .bin .add .int (.s 15) (.c (.int .i64 1))⟩,
 ⟨(some 15), none, .mv (.s 24)⟩])))))))
 (.seq
 (.region false [
 ⟨(some 6), none, .mv (.c (.bool true))⟩])
 .ret)))) }
/- cuboid/hier.Good -/
def f47 : MFun := { nt := 57, np := 1, no := 1, res := [.slot 2], body :=
 (.seq
 (.region false [
 ⟨(some 1), none, .box 0 (.s 0)⟩,
 ⟨(some 2), none, .mv (.c (.bool false))⟩])
 (.seq
 (.seq
 (.region false [
 ⟨(some 6), none, .faddr 0 (.s 1)⟩,
 ⟨(some 7), none, .load none (some 0) (.s 6)⟩,
 ⟨(some 8), none, .len (.s 7)⟩,
 ⟨(some 9), none, .call (.c (.fn 63 [] [])) [(.s 8), (.c (.int .i64 1)), (.c (.int .i64 4))] [] [] [] false⟩,
 ⟨(some 10), none, .un .not (.s 9)⟩,
 ⟨(some 11), none, .mv (.s 10)⟩,
 ⟨(some 12), (some (11, false)), .faddr 1 (.s 1)⟩,
 ⟨(some 13), (some (11, false)), .load none (some 0) (.s 12)⟩,
 ⟨(some 14), (some (11, false)), .len (.s 13)⟩,
 ⟨(some 15), (some (11, false)), .faddr 0 (.s 1)⟩,
 ⟨(some 16), (some (11, false)), .load none (some 0) (.s 15)⟩,
 ⟨(some 17), (some (11, false)), .len (.s 16)⟩,
 ⟨(some 18), (some (11, false)), .bin .sub .int (.s 17) (.c (.int .i64 1))⟩,
 ⟨(some 19), (some (11, false)), .bin .neq .int (.s 14) (.s 18)⟩,
 ⟨(some 20), none, .pick (.s 11) (.c (.bool true)) (.s 19)⟩])
 (.cond (.s 20)
 (.seq
 (.region false [
 ⟨(some 2), none, .mv (.c (.bool false))⟩])
 .ret)
 .skip))
 (.seq
 (.seq
 (.region false [
 ⟨(some 21), none, .faddr 0 (.s 1)⟩,
 ⟨(some 22), none, .load none (some 0) (.s 21)⟩,
 ⟨(some 23), none, .len (.s 22)⟩,
 ⟨(some 24), none, .mv (.c (.int .i64 0))⟩])
 (.block 0
 (.loop [1, 22, 23, 24] [0]
 (.seq
 (.region false [
 ⟨(some 25), none, .bin .lss .int (.s 24) (.s 23)⟩])
 (.seq
 (.cond (.s 25)
 .skip
 (.exit 0))
 (.seq
 (.block 1
 (.seq
 (.region false [
 ⟨(some 26), none, .iaddrS 1 (.s 22) (.s 24)⟩,
 ⟨(some 27), none, .load none none (.s 26)⟩,
 ⟨(some 4), none, .mv (.s 27)⟩])
 (.seq
 (.region false [
 ⟨(some 28), none, .mv (.s 4)⟩,
 ⟨(some 29), none, .call (.c (.fn 63 [] [])) [(.s 28), (.c (.int .i64 1)), (.c (.int .i64 40))] [] [] [] false⟩,
 ⟨(some 30), none, .un .not (.s 29)⟩])
 (.cond (.s 30)
 (.seq
 (.region false [
 ⟨(some 2), none, .mv (.c (.bool false))⟩])
 .ret)
 .skip))))
 (.region false [
 ⟨(some 31), none, .bin .add .int (.s 24) (.c (.int .i64 1))⟩,
 ⟨(some 24), none, .mv (.s 31)⟩])))))))
 (.seq
 (.seq
 (.region false [
 ⟨(some 32), none, .faddr 1 (.s 1)⟩,
 ⟨(some 33), none, .load none (some 0) (.s 32)⟩,
 ⟨(some 34), none, .len (.s 33)⟩,
 ⟨(some 35), none, .mv (.c (.int .i64 0))⟩])
 (.block 2
 (.loop [1, 34, 35] [0]
 (.seq
 (.region false [
 ⟨(some 36), none, .bin .lss .int (.s 35) (.s 34)⟩])
 (.seq
 (.cond (.s 36)
 .skip
 (.exit 2))
 (.seq
 (.block 3
 (.seq
 (.region false [
 ⟨(some 37), none, .mv (.s 35)⟩,
 ⟨(some 5), none, .mv (.s 37)⟩])
 (.seq
 (.region true [
 ⟨(some 38), none, .faddr 1 (.s 1)⟩,
 ⟨(some 39), none, .load none (some 0) (.s 38)⟩,
 ⟨(some 40), none, .mv (.s 5)⟩,
 ⟨(some 41), none, .iaddrS 1 (.s 39) (.s 40)⟩,
 ⟨(some 42), none, .load none none (.s 41)⟩,
 ⟨(some 43), none, .faddr 0 (.s 1)⟩,
 ⟨(some 44), none, .load none (some 0) (.s 43)⟩,
 ⟨(some 45), none, .mv (.s 5)⟩,
 ⟨(some 46), none, .iaddrS 1 (.s 44) (.s 45)⟩,
 ⟨(some 47), none, .load none none (.s 46)⟩,
 ⟨(some 48), none, .faddr 0 (.s 1)⟩,
 ⟨(some 49), none, .load none (some 0) (.s 48)⟩,
 ⟨(some 50), none, .mv (.s 5)⟩,
 ⟨(some 51), none, .bin .add .int (.s 50) (.c (.int .i64 1))⟩,
 ⟨(some 52), none, .iaddrS 1 (.s 49) (.s 51)⟩,
 ⟨(some 53), none, .load none none (.s 52)⟩,
 ⟨(some 54), none, .call (.c (.fn 64 [] [])) [(.s 42), (.s 47), (.s 53)] [] [] [] false⟩,
 ⟨(some 55), none, .un .not (.s 54)⟩])
 (.cond (.s 55)
 (.seq
 (.region false [
 ⟨(some 2), none, .mv (.c (.bool false))⟩])
 .ret)
 .skip))))
 (.region false [
 ⟨(some 56), none, .bin .add .int (.s 35) (.c (.int .i64 1))⟩,
 ⟨(some 35), none, .mv (.s 56)⟩])))))))
 (.seq
 (.region false [
 ⟨(some 2), none, .mv (.c (.bool true))⟩])
 .ret))))) }
/- cuboid/schema.Good -/
def f30 : MFun := { nt := 27, np := 1, no := 2, res := [.slot 2], body :=
 (.seq
 (.region false [
 ⟨(some 1), none, .box 0 (.s 0)⟩,
 ⟨(some 2), none, .mv (.c (.bool false))⟩])
 (.seq
 (.seq
 (.region false [
 ⟨(some 5), none, .faddr 0 (.s 1)⟩,
 ⟨(some 6), none, .load none (some 0) (.s 5)⟩,
 ⟨(some 7), none, .len (.s 6)⟩,
 ⟨(some 8), none, .call (.c (.fn 46 [] [])) [(.s 7), (.c (.int .i64 1)), (.c (.int .i64 4))] [] [] [] false⟩,
 ⟨(some 9), none, .un .not (.s 8)⟩,
 ⟨(some 10), none, .mv (.s 9)⟩,
 ⟨(some 11), (some (10, false)), .faddr 1 (.s 1)⟩,
 ⟨(some 12), (some (10, false)), .load none (some 0) (.s 11)⟩,
 ⟨(some 13), (some (10, false)), .call (.c (.fn 46 [] [])) [(.s 12), (.c (.int .i64 1)), (.c (.int .i64 2))] [] [] [] false⟩,
 ⟨(some 14), (some (10, false)), .un .not (.s 13)⟩,
 ⟨(some 15), none, .pick (.s 10) (.c (.bool true)) (.s 14)⟩])
 (.cond (.s 15)
 (.seq
 (.region false [
 ⟨(some 2), none, .mv (.c (.bool false))⟩])
 .ret)
 .skip))
 (.seq
 (.seq
 (.region false [
 ⟨(some 16), none, .faddr 0 (.s 1)⟩,
 ⟨(some 17), none, .load none (some 0) (.s 16)⟩,
 ⟨(some 18), none, .len (.s 17)⟩,
 ⟨(some 19), none, .mv (.c (.int .i64 0))⟩])
 (.block 0
 (.loop [17, 18, 19] []
 (.seq
 (.region false [
 ⟨(some 20), none, .bin .lss .int (.s 19) (.s 18)⟩])
 (.seq
 (.cond (.s 20)
 .skip
 (.exit 0))
 (.seq
 (.block 1
 (.seq
 (.region false [
 ⟨(some 21), none, .iaddrS 2 (.s 17) (.s 19)⟩,
 ⟨(some 22), none, .load (some 2) none (.s 21)⟩,
 ⟨(some 4), none, .alloc 1 [.nilsl, .nilsl]⟩,
 ⟨none, none, .store 2 1 [] (.s 4) (.s 22)⟩])
 (.seq
 (.region false [
 ⟨(some 23), none, .load (some 2) (some 1) (.s 4)⟩,
 ⟨(some 24), none, .call (.c (.fn 47 [] [])) [(.s 23)] [] [] [] false⟩,
 ⟨(some 25), none, .un .not (.s 24)⟩])
 (.cond (.s 25)
 (.seq
 (.region false [
 ⟨(some 2), none, .mv (.c (.bool false))⟩])
 .ret)
 .skip))))
 (.region false [
 ⟨(some 26), none, .bin .add .int (.s 19) (.c (.int .i64 1))⟩,
 ⟨(some 19), none, .mv (.s 26)⟩])))))))
 (.seq
 (.region false [
 ⟨(some 2), none, .mv (.c (.bool true))⟩])
 .ret)))) }
/- cuboid/code.Get -/
def f65 : MFun := { nt := 47, np := 1, no := 0, res := [.slot 2, .slot 3, .slot 4], body :=
 (.seq
 (.region false [
 ⟨(some 2), none, .mv (.c (.int .u64 0))⟩,
 ⟨(some 3), none, .mv (.c (.int .i64 0))⟩,
 ⟨(some 4), none, .mv (.c (.bool false))⟩])
 (.seq
 (.region false [
 ⟨(some 5), none, .mv (.c (.int .u64 0))⟩])
 (.seq
 (.seq
 (.region false [
 ⟨(some 8), none, .mv (.s 0)⟩,
 ⟨(some 9), none, .mv (.s 0)⟩,
 ⟨(some 10), none, .len (.s 9)⟩,
 ⟨(some 11), none, .minmax false [(.s 10), (.c (.int .i64 10))]⟩,
 ⟨(some 12), none, .sliceS 1 (.s 8) none (some (.s 11))⟩,
 ⟨(some 13), none, .len (.s 12)⟩,
 ⟨(some 14), none, .mv (.c (.int .i64 0))⟩])
 (.block 0
 (.loop [5, 12, 13, 14] []
 (.seq
 (.region false [
 ⟨(some 15), none, .bin .lss .int (.s 14) (.s 13)⟩])
 (.seq
 (.cond (.s 15)
 .skip
 (.exit 0))
 (.seq
 (.block 1
 (.seq
 (.region false [
 ⟨(some 16), none, .mv (.s 14)⟩,
 ⟨(some 17), none, .iaddrS 1 (.s 12) (.s 14)⟩,
 ⟨(some 18), none, .load none none (.s 17)⟩,
 ⟨(some 6), none, .mv (.s 16)⟩,
 ⟨(some 7), none, .mv (.s 18)⟩])
 (.seq
 (.region false [
 ⟨(some 19), none, .mv (.s 5)⟩,
 ⟨(some 20), none, .mv (.s 7)⟩,
 ⟨(some 21), none, .bin .and .int (.s 20) (.c (.int .u8 127))⟩,
 ⟨(some 22), none, .conv .u64 (.s 21)⟩,
 ⟨(some 23), none, .mv (.s 6)⟩,
 ⟨(some 24), none, .bin .mul .int (.c (.int .i64 7)) (.s 23)⟩,
 ⟨(some 25), none, .bin .shl .int (.s 22) (.s 24)⟩,
 ⟨(some 26), none, .bin .or .int (.s 19) (.s 25)⟩,
 ⟨(some 5), none, .mv (.s 26)⟩])
 (.seq
 (.seq
 (.region false [
 ⟨(some 27), none, .mv (.s 7)⟩,
 ⟨(some 28), none, .bin .geq .int (.s 27) (.c (.int .u8 128))⟩])
 (.cond (.s 28)
 (.exit 1)
 .skip))
 (.seq
 (.seq
 (.region false [
 ⟨(some 29), none, .mv (.s 6)⟩,
 ⟨(some 30), none, .bin .eql .int (.s 29) (.c (.int .i64 9))⟩,
 ⟨(some 31), none, .mv (.s 30)⟩,
 ⟨(some 32), (some (31, true)), .mv (.s 7)⟩,
 ⟨(some 33), (some (31, true)), .bin .gtr .int (.s 32) (.c (.int .u8 1))⟩,
 ⟨(some 34), none, .pick (.s 31) (.s 33) (.c (.bool false))⟩,
 ⟨(some 35), none, .mv (.s 34)⟩,
 ⟨(some 36), (some (35, false)), .mv (.s 6)⟩,
 ⟨(some 37), (some (35, false)), .bin .gtr .int (.s 36) (.c (.int .i64 0))⟩,
 ⟨(some 38), (some (35, false)), .mv (.s 37)⟩,
 ⟨(some 39), (some (38, true)), .mv (.s 7)⟩,
 ⟨(some 40), (some (38, true)), .bin .eql .int (.s 39) (.c (.int .u8 0))⟩,
 ⟨(some 41), (some (35, false)), .pick (.s 38) (.s 40) (.c (.bool false))⟩,
 ⟨(some 42), none, .pick (.s 35) (.c (.bool true)) (.s 41)⟩])
 (.cond (.s 42)
 (.seq
 (.region false [
 ⟨(some 2), none, .mv (.c (.int .u64 0))⟩,
 ⟨(some 3), none, .mv (.c (.int .i64 0))⟩,
 ⟨(some 4), none, .mv (.c (.bool false))⟩])
 .ret)
 .skip))
 (.seq
 (.region false [
 ⟨(some 43), none, .mv (.s 5)⟩,
 ⟨(some 44), none, .mv (.s 6)⟩,
 ⟨(some 45), none, .bin .add .int (.s 44) (.c (.int .i64 1))⟩,
 ⟨(some 2), none, .mv (.s 43)⟩,
 ⟨(some 3), none, .mv (.s 45)⟩,
 ⟨(some 4), none, .mv (.c (.bool true))⟩])
 .ret))))))
 (.region false [
 ⟨(some 46), none, .bin .add .int (.s 14) (.c (.int .i64 1))⟩,
 ⟨(some 14), none, .mv (.s 46)⟩])))))))
 (.seq
 (.region false [
 ⟨(some 2), none, .mv (.c (.int .u64 0))⟩,
 ⟨(some 3), none, .mv (.c (.int .i64 0))⟩,
 ⟨(some 4), none, .mv (.c (.bool false))⟩])
 .ret)))) }
/- (*cuboid/schema.reader).num -/
def f48 : MFun := { nt := 49, np := 2, no := 0, res := [.slot 4], body :=
 (.seq
 (.region false [
 ⟨(some 4), none, .mv (.c (.int .i64 0))⟩])
 (.seq
 (.region false [
 ⟨(some 9), none, .mv (.s 0)⟩,
 ⟨(some 10), none, .nilchk (.s 9)⟩,
 ⟨(some 11), none, .faddr 0 (.s 10)⟩,
 ⟨(some 12), none, .load none (some 0) (.s 11)⟩,
 ⟨(some 13), none, .call (.c (.fn 65 [] [])) [(.s 12)] [] [] [] false⟩,
 ⟨(some 8), none, .mv (.s 13)⟩,
 ⟨(some 14), none, .extract (.s 8) 0⟩,
 ⟨(some 15), none, .extract (.s 8) 1⟩,
 ⟨(some 16), none, .extract (.s 8) 2⟩,
 ⟨(some 5), none, .mv (.s 14)⟩,
 ⟨(some 6), none, .mv (.s 15)⟩,
 ⟨(some 7), none, .mv (.s 16)⟩])
 (.seq
 (.seq
 (.region false [
 ⟨(some 17), none, .mv (.s 0)⟩,
 ⟨(some 18), none, .mv (.s 0)⟩,
 ⟨(some 19), none, .nilchk (.s 18)⟩,
 ⟨(some 20), none, .faddr 1 (.s 19)⟩,
 ⟨(some 21), none, .load none (some 0) (.s 20)⟩,
 ⟨(some 22), none, .mv (.s 21)⟩,
 ⟨(some 23), (some (22, false)), .mv (.s 7)⟩,
 ⟨(some 24), (some (22, false)), .un .not (.s 23)⟩,
 ⟨(some 25), none, .pick (.s 22) (.c (.bool true)) (.s 24)⟩,
 ⟨(some 26), none, .mv (.s 25)⟩,
 ⟨(some 27), (some (26, false)), .mv (.s 5)⟩,
 ⟨(some 28), (some (26, false)), .mv (.s 1)⟩,
 ⟨(some 29), (some (26, false)), .conv .u64 (.s 28)⟩,
 ⟨(some 30), (some (26, false)), .bin .gtr .int (.s 27) (.s 29)⟩,
 ⟨(some 31), none, .pick (.s 26) (.c (.bool true)) (.s 30)⟩,
 ⟨(some 32), none, .nilchk (.s 17)⟩,
 ⟨(some 33), none, .faddr 1 (.s 32)⟩,
 ⟨none, none, .store 1 0 [] (.s 33) (.s 31)⟩])
 (.seq
 (.region false [
 ⟨(some 34), none, .mv (.s 0)⟩,
 ⟨(some 35), none, .nilchk (.s 34)⟩,
 ⟨(some 36), none, .faddr 1 (.s 35)⟩,
 ⟨(some 37), none, .load none (some 0) (.s 36)⟩])
 (.cond (.s 37)
 (.seq
 (.region false [
 ⟨(some 4), none, .mv (.c (.int .i64 0))⟩])
 .ret)
 .skip)))
 (.seq
 (.region false [
 ⟨(some 38), none, .mv (.s 0)⟩,
 ⟨(some 39), none, .mv (.s 0)⟩,
 ⟨(some 40), none, .nilchk (.s 39)⟩,
 ⟨(some 41), none, .faddr 0 (.s 40)⟩,
 ⟨(some 42), none, .load none (some 0) (.s 41)⟩,
 ⟨(some 43), none, .mv (.s 6)⟩,
 ⟨(some 44), none, .sliceS 1 (.s 42) (some (.s 43)) none⟩,
 ⟨(some 45), none, .nilchk (.s 38)⟩,
 ⟨(some 46), none, .faddr 0 (.s 45)⟩,
 ⟨none, none, .store 1 0 [] (.s 46) (.s 44)⟩])
 (.seq
 (.region false [
 ⟨(some 47), none, .mv (.s 5)⟩,
 ⟨(some 48), none, .conv .i64 (.s 47)⟩,
 ⟨(some 4), none, .mv (.s 48)⟩])
 .ret))))) }
/- (*cuboid/schema.reader).list -/
def f66 : MFun := { nt := 19, np := 3, no := 1, res := [.slot 6], body :=
 (.seq
 (.region false [
 ⟨(some 6), none, .mv (.c .nilsl)⟩])
 (.seq
 (.region false [
 ⟨(some 7), none, .vnil 1 1⟩])
 (.seq
 (.seq
 (.region false [
 ⟨(some 8), none, .mv (.s 1)⟩,
 ⟨(some 9), none, .mv (.c (.int .i64 0))⟩])
 (.block 0
 (.loop [0, 2, 7, 8, 9] [1]
 (.seq
 (.region false [
 ⟨(some 10), none, .bin .lss .int (.s 9) (.s 8)⟩])
 (.seq
 (.cond (.s 10)
 .skip
 (.exit 0))
 (.seq
 (.block 1
 (.region false [
 ⟨(some 11), none, .mv (.s 7)⟩,
 ⟨(some 12), none, .mv (.s 0)⟩,
 ⟨(some 13), none, .mv (.s 2)⟩,
 ⟨(some 14), none, .call (.c (.fn 48 [] [])) [(.s 12), (.s 13)] [0] [] [] true⟩,
 ⟨(some 15), none, .lit none [] 1 1 [.int .i64 0] [(0, 1, (.s 14))]⟩,
 ⟨(some 16), none, .append 8 1 1 none (.s 11) (.s 15)⟩,
 ⟨(some 7), none, .mv (.s 16)⟩]))
 (.region false [
 ⟨(some 17), none, .bin .add .int (.s 9) (.c (.int .i64 1))⟩,
 ⟨(some 9), none, .mv (.s 17)⟩])))))))
 (.seq
 (.region false [
 ⟨(some 18), none, .mv (.s 7)⟩,
 ⟨(some 6), none, .mv (.s 18)⟩])
 .ret)))) }
/- (*cuboid/schema.reader).dim -/
def f49 : MFun := { nt := 31, np := 1, no := 3, res := [.cell 2 1 (some 2)], body :=
 (.seq
 (.region false [
 ⟨(some 2), none, .alloc 1 [.nilsl, .nilsl]⟩])
 (.seq
 (.region false [
 ⟨(some 5), none, .mv (.s 0)⟩,
 ⟨(some 6), none, .mv (.s 0)⟩,
 ⟨(some 7), none, .call (.c (.fn 48 [] [])) [(.s 6), (.c (.int .i64 4))] [0] [] [] true⟩,
 ⟨(some 8), none, .call (.c (.fn 66 [] [])) [(.s 5), (.s 7), (.c (.int .i64 40))] [0] [] [] true⟩,
 ⟨(some 9), none, .build [.nilsl, .nilsl] [(0, 1, (.s 8))]⟩,
 ⟨(some 3), none, .alloc 2 [.nilsl, .nilsl]⟩,
 ⟨none, none, .store 2 2 [] (.s 3) (.s 9)⟩])
 (.seq
 (.seq
 (.region false [
 ⟨(some 10), none, .faddr 0 (.s 3)⟩,
 ⟨(some 11), none, .load none (some 2) (.s 10)⟩,
 ⟨(some 12), none, .len (.s 11)⟩,
 ⟨(some 13), none, .bin .sub .int (.s 12) (.c (.int .i64 1))⟩,
 ⟨(some 14), none, .mv (.c (.int .i64 0))⟩])
 (.block 0
 (.loop [0, 2, 3, 13, 14] [1, 2, 3]
 (.seq
 (.region false [
 ⟨(some 15), none, .bin .lss .int (.s 14) (.s 13)⟩])
 (.seq
 (.cond (.s 15)
 .skip
 (.exit 0))
 (.seq
 (.block 1
 (.seq
 (.region false [
 ⟨(some 16), none, .mv (.s 14)⟩,
 ⟨(some 4), none, .mv (.s 16)⟩])
 (.region true [
 ⟨(some 17), none, .faddr 1 (.s 3)⟩,
 ⟨(some 18), none, .load none (some 2) (.s 17)⟩,
 ⟨(some 19), none, .mv (.s 0)⟩,
 ⟨(some 20), none, .faddr 0 (.s 3)⟩,
 ⟨(some 21), none, .load none (some 2) (.s 20)⟩,
 ⟨(some 22), none, .mv (.s 4)⟩,
 ⟨(some 23), none, .iaddrS 1 (.s 21) (.s 22)⟩,
 ⟨(some 24), none, .load none none (.s 23)⟩,
 ⟨(some 25), none, .call (.c (.fn 66 [] [])) [(.s 19), (.s 24), (.c (.int .i64 40))] [0] [] [] true⟩,
 ⟨(some 26), none, .lit none [] 1 1 [.nilsl] [(0, 1, (.s 25))]⟩,
 ⟨(some 27), none, .append 24 1 3 none (.s 18) (.s 26)⟩,
 ⟨(some 28), none, .faddr 1 (.s 3)⟩,
 ⟨none, none, .store 1 2 [] (.s 28) (.s 27)⟩])))
 (.region false [
 ⟨(some 29), none, .bin .add .int (.s 14) (.c (.int .i64 1))⟩,
 ⟨(some 14), none, .mv (.s 29)⟩])))))))
 (.seq
 (.region false [
 ⟨(some 30), none, .load (some 2) (some 2) (.s 3)⟩,
 ⟨none, none, .store 2 1 [] (.s 2) (.s 30)⟩])
 .ret)))) }
/- cuboid/schema.Read -/
def f31 : MFun := { nt := 43, np := 1, no := 4, res := [.cell 2 0 (some 2), .slot 3], body :=
 (.seq
 (.region false [
 ⟨(some 2), none, .alloc 0 [.nilsl, .int .i64 0]⟩,
 ⟨(some 3), none, .mv (.c (.bool false))⟩])
 (.seq
 (.region false [
 ⟨(some 6), none, .mv (.s 0)⟩,
 ⟨(some 7), none, .build [.nilsl, .bool false] [(0, 1, (.s 6))]⟩,
 ⟨(some 8), none, .box 1 (.s 7)⟩,
 ⟨(some 4), none, .mv (.s 8)⟩])
 (.seq
 (.region false [
 ⟨(some 9), none, .mv (.s 4)⟩,
 ⟨(some 10), none, .call (.c (.fn 48 [] [])) [(.s 9), (.c (.int .i64 2))] [1] [] [] true⟩,
 ⟨(some 11), none, .build [.nilsl, .int .i64 0] [(1, 1, (.s 10))]⟩,
 ⟨(some 5), none, .alloc 2 [.nilsl, .int .i64 0]⟩,
 ⟨none, none, .store 2 2 [] (.s 5) (.s 11)⟩])
 (.seq
 (.seq
 (.region false [
 ⟨(some 12), none, .mv (.s 4)⟩,
 ⟨(some 13), none, .call (.c (.fn 48 [] [])) [(.s 12), (.c (.int .i64 4))] [1] [] [] true⟩,
 ⟨(some 14), none, .mv (.c (.int .i64 0))⟩])
 (.block 0
 (.loop [2, 4, 5, 13, 14] [0, 1, 2, 3]
 (.seq
 (.region false [
 ⟨(some 15), none, .bin .lss .int (.s 14) (.s 13)⟩])
 (.seq
 (.cond (.s 15)
 .skip
 (.exit 0))
 (.seq
 (.block 1
 (.region true [
 ⟨(some 16), none, .faddr 0 (.s 5)⟩,
 ⟨(some 17), none, .load none (some 2) (.s 16)⟩,
 ⟨(some 18), none, .mv (.s 4)⟩,
 ⟨(some 19), none, .call (.c (.fn 49 [] [])) [(.s 18)] [1] [] [] true⟩,
 ⟨(some 20), none, .lit none [] 1 2 [.nilsl, .nilsl] [(0, 2, (.s 19))]⟩,
 ⟨(some 21), none, .append 48 2 3 none (.s 17) (.s 20)⟩,
 ⟨(some 22), none, .faddr 0 (.s 5)⟩,
 ⟨none, none, .store 1 2 [] (.s 22) (.s 21)⟩]))
 (.region false [
 ⟨(some 23), none, .bin .add .int (.s 14) (.c (.int .i64 1))⟩,
 ⟨(some 14), none, .mv (.s 23)⟩])))))))
 (.seq
 (.seq
 (.region false [
 ⟨(some 24), none, .mv (.s 4)⟩,
 ⟨(some 25), none, .nilchk (.s 24)⟩,
 ⟨(some 26), none, .faddr 1 (.s 25)⟩,
 ⟨(some 27), none, .load none (some 1) (.s 26)⟩,
 ⟨(some 28), none, .mv (.s 27)⟩,
 ⟨(some 29), (some (28, false)), .mv (.s 4)⟩,
 ⟨(some 30), (some (28, false)), .nilchk (.s 29)⟩,
 ⟨(some 31), (some (28, false)), .faddr 0 (.s 30)⟩,
 ⟨(some 32), (some (28, false)), .load none (some 1) (.s 31)⟩,
 ⟨(some 33), (some (28, false)), .len (.s 32)⟩,
 ⟨(some 34), (some (28, false)), .bin .gtr .int (.s 33) (.c (.int .i64 0))⟩,
 ⟨(some 35), none, .pick (.s 28) (.c (.bool true)) (.s 34)⟩,
 ⟨(some 36), none, .mv (.s 35)⟩,
 ⟨(some 37), (some (36, false)), .load (some 2) (some 2) (.s 5)⟩,
 ⟨(some 38), (some (36, false)), .call (.c (.fn 30 [] [])) [(.s 37)] [] [3] [] false⟩,
 ⟨(some 39), (some (36, false)), .un .not (.s 38)⟩,
 ⟨(some 40), none, .pick (.s 36) (.c (.bool true)) (.s 39)⟩])
 (.cond (.s 40)
 (.seq
 (.region false [
 ⟨(some 41), none, .build [.nilsl, .int .i64 0] []⟩,
 ⟨none, none, .store 2 0 [] (.s 2) (.s 41)⟩,
 ⟨(some 3), none, .mv (.c (.bool false))⟩])
 .ret)
 .skip))
 (.seq
 (.region false [
 ⟨(some 42), none, .load (some 2) (some 2) (.s 5)⟩,
 ⟨none, none, .store 2 0 [] (.s 2) (.s 42)⟩,
 ⟨(some 3), none, .mv (.c (.bool true))⟩])
 .ret)))))) }
/- slices.Clone[[]byte,byte] -/
def f76 : MFun := { nt := 8, np := 1, no := 1, res := [.slot 2], body :=
 (.seq
 (.region false [
 ⟨(some 2), none, .mv (.c .nilsl)⟩])
 (.seq
 (.seq
 (.region false [
 ⟨(some 3), none, .mv (.s 0)⟩,
 ⟨(some 4), none, .bin .eql .sl (.s 3) (.c .nilsl)⟩])
 (.cond (.s 4)
 (.seq
 (.region false [
 ⟨(some 2), none, .mv (.c .nilsl)⟩])
 .ret)
 .skip))
 (.seq
 (.region false [
 ⟨(some 5), none, .lit (some 0) [] 0 1 [.int .u8 0] []⟩,
 ⟨(some 6), none, .mv (.s 0)⟩,
 ⟨(some 7), none, .append 1 1 0 none (.s 5) (.s 6)⟩,
 ⟨(some 2), none, .mv (.s 7)⟩])
 .ret))) }
/- cuboid/code.Put -/
def f67 : MFun := { nt := 23, np := 2, no := 1, res := [.slot 4], body :=
 (.seq
 (.region false [
 ⟨(some 4), none, .mv (.c .nilsl)⟩])
 (.seq
 (.region false [
 ⟨(some 6), none, .mv (.s 0)⟩,
 ⟨(some 7), none, .call (.c (.fn 76 [] [])) [(.s 6)] [] [] [(0, 0)] true⟩,
 ⟨(some 5), none, .mv (.s 7)⟩])
 (.seq
 (.block 0
 (.loop [1, 5] [0]
 (.seq
 (.seq
 (.region false [
 ⟨(some 8), none, .mv (.s 1)⟩,
 ⟨(some 9), none, .bin .geq .int (.s 8) (.c (.int .u64 128))⟩])
 (.cond (.s 9)
 .skip
 (.exit 0)))
 (.block 1
 (.seq
 (.region false [
 ⟨(some 10), none, .mv (.s 5)⟩,
 ⟨(some 11), none, .mv (.s 1)⟩,
 ⟨(some 12), none, .conv .u8 (.s 11)⟩,
 ⟨(some 13), none, .bin .or .int (.s 12) (.c (.int .u8 128))⟩,
 ⟨(some 14), none, .lit none [] 1 1 [.int .u8 0] [(0, 1, (.s 13))]⟩,
 ⟨(some 15), none, .append 1 1 0 none (.s 10) (.s 14)⟩,
 ⟨(some 5), none, .mv (.s 15)⟩])
 (.region false [
 ⟨(some 16), none, .mv (.s 1)⟩,
 ⟨(some 17), none, .bin .shr .int (.s 16) (.c (.int .u64 7))⟩,
 ⟨(some 1), none, .mv (.s 17)⟩]))))))
 (.seq
 (.region false [
 ⟨(some 18), none, .mv (.s 5)⟩,
 ⟨(some 19), none, .mv (.s 1)⟩,
 ⟨(some 20), none, .conv .u8 (.s 19)⟩,
 ⟨(some 21), none, .lit none [] 1 1 [.int .u8 0] [(0, 1, (.s 20))]⟩,
 ⟨(some 22), none, .append 1 1 0 none (.s 18) (.s 21)⟩,
 ⟨(some 4), none, .mv (.s 22)⟩])
 .ret)))) }
/- (*cuboid/schema.writer).put -/
def f50 : MFun := { nt := 23, np := 2, no := 0, res := [], body :=
 (.seq
 (.region false [
 ⟨(some 6), none, .mv (.s 1)⟩,
 ⟨(some 7), none, .len (.s 6)⟩,
 ⟨(some 8), none, .mv (.c (.int .i64 0))⟩])
 (.block 0
 (.loop [0, 6, 7, 8] []
 (.seq
 (.region false [
 ⟨(some 9), none, .bin .lss .int (.s 8) (.s 7)⟩])
 (.seq
 (.cond (.s 9)
 .skip
 (.exit 0))
 (.seq
 (.block 1
 (.seq
 (.region false [
 ⟨(some 10), none, .iaddrS 1 (.s 6) (.s 8)⟩,
 ⟨(some 11), none, .load none none (.s 10)⟩,
 ⟨(some 5), none, .mv (.s 11)⟩])
 (.region false [
 ⟨(some 12), none, .mv (.s 0)⟩,
 ⟨(some 13), none, .mv (.s 0)⟩,
 ⟨(some 14), none, .nilchk (.s 13)⟩,
 ⟨(some 15), none, .faddr 0 (.s 14)⟩,
 ⟨(some 16), none, .load none (some 0) (.s 15)⟩,
 ⟨(some 17), none, .mv (.s 5)⟩,
 ⟨(some 18), none, .conv .u64 (.s 17)⟩,
 ⟨(some 19), none, .call (.c (.fn 67 [] [])) [(.s 16), (.s 18)] [] [] [] true⟩,
 ⟨(some 20), none, .nilchk (.s 12)⟩,
 ⟨(some 21), none, .faddr 0 (.s 20)⟩,
 ⟨none, none, .store 1 0 [] (.s 21) (.s 19)⟩])))
 (.region false [
 ⟨(some 22), none, .bin .add .int (.s 8) (.c (.int .i64 1))⟩,
 ⟨(some 8), none, .mv (.s 22)⟩]))))))) }
/- cuboid/schema.Bytes -/
def f32 : MFun := { nt := 46, np := 1, no := 3, res := [.slot 2], body :=
 (.seq
 (.region false [
 ⟨(some 1), none, .box 0 (.s 0)⟩,
 ⟨(some 2), none, .mv (.c .nilsl)⟩])
 (.seq
 (.seq
 (.region false [
 ⟨(some 8), none, .load (some 2) (some 0) (.s 1)⟩,
 ⟨(some 9), none, .call (.c (.fn 30 [] [])) [(.s 8)] [] [] [] false⟩,
 ⟨(some 10), none, .un .not (.s 9)⟩])
 (.cond (.s 10)
 (.seq
 (.region false [
 ⟨(some 2), none, .mv (.c .nilsl)⟩])
 .ret)
 .skip))
 (.seq
 (.region false [
 ⟨(some 3), none, .alloc 1 [.nilsl]⟩])
 (.seq
 (.region false [
 ⟨(some 11), none, .faddr 1 (.s 1)⟩,
 ⟨(some 12), none, .load none (some 0) (.s 11)⟩,
 ⟨(some 13), none, .faddr 0 (.s 1)⟩,
 ⟨(some 14), none, .load none (some 0) (.s 13)⟩,
 ⟨(some 15), none, .len (.s 14)⟩,
 ⟨(some 16), none, .lit none [] 2 1 [.int .i64 0] [(0, 1, (.s 12)), (1, 1, (.s 15))]⟩,
 ⟨(some 17), none, .call (.c (.fn 50 [] [])) [(.s 3), (.s 16)] [1] [] [] true⟩])
 (.seq
 (.seq
 (.region false [
 ⟨(some 18), none, .faddr 0 (.s 1)⟩,
 ⟨(some 19), none, .load none (some 0) (.s 18)⟩,
 ⟨(some 20), none, .len (.s 19)⟩,
 ⟨(some 21), none, .mv (.c (.int .i64 0))⟩])
 (.block 0
 (.loop [3, 19, 20, 21] [1]
 (.seq
 (.region false [
 ⟨(some 22), none, .bin .lss .int (.s 21) (.s 20)⟩])
 (.seq
 (.cond (.s 22)
 .skip
 (.exit 0))
 (.seq
 (.block 1
 (.seq
 (.region false [
 ⟨(some 23), none, .iaddrS 2 (.s 19) (.s 21)⟩,
 ⟨(some 24), none, .load (some 2) none (.s 23)⟩,
 ⟨(some 5), none, .alloc 2 [.nilsl, .nilsl]⟩,
 ⟨none, none, .store 2 2 [] (.s 5) (.s 24)⟩])
 (.seq
 (.region false [
 ⟨(some 25), none, .faddr 0 (.s 5)⟩,
 ⟨(some 26), none, .load none (some 2) (.s 25)⟩,
 ⟨(some 27), none, .len (.s 26)⟩,
 ⟨(some 28), none, .lit none [] 1 1 [.int .i64 0] [(0, 1, (.s 27))]⟩,
 ⟨(some 29), none, .call (.c (.fn 50 [] [])) [(.s 3), (.s 28)] [1] [] [] true⟩])
 (.seq
 (.region false [
 ⟨(some 30), none, .faddr 0 (.s 5)⟩,
 ⟨(some 31), none, .load none (some 2) (.s 30)⟩,
 ⟨(some 32), none, .call (.c (.fn 50 [] [])) [(.s 3), (.s 31)] [1] [] [] true⟩])
 (.seq
 (.region false [
 ⟨(some 33), none, .faddr 1 (.s 5)⟩,
 ⟨(some 34), none, .load none (some 2) (.s 33)⟩,
 ⟨(some 35), none, .len (.s 34)⟩,
 ⟨(some 36), none, .mv (.c (.int .i64 0))⟩])
 (.block 2
 (.loop [3, 19, 20, 21, 34, 35, 36] [1]
 (.seq
 (.region false [
 ⟨(some 37), none, .bin .lss .int (.s 36) (.s 35)⟩])
 (.seq
 (.cond (.s 37)
 .skip
 (.exit 2))
 (.seq
 (.block 3
 (.seq
 (.region false [
 ⟨(some 38), none, .iaddrS 1 (.s 34) (.s 36)⟩,
 ⟨(some 39), none, .load none none (.s 38)⟩,
 ⟨(some 7), none, .mv (.s 39)⟩])
 (.region false [
 ⟨(some 40), none, .mv (.s 7)⟩,
 ⟨(some 41), none, .call (.c (.fn 50 [] [])) [(.s 3), (.s 40)] [1] [] [] true⟩])))
 (.region false [
 ⟨(some 42), none, .bin .add .int (.s 36) (.c (.int .i64 1))⟩,
 ⟨(some 36), none, .mv (.s 42)⟩])))))))))))
 (.region false [
 ⟨(some 43), none, .bin .add .int (.s 21) (.c (.int .i64 1))⟩,
 ⟨(some 21), none, .mv (.s 43)⟩])))))))
 (.seq
 (.region false [
 ⟨(some 44), none, .faddr 0 (.s 3)⟩,
 ⟨(some 45), none, .load none (some 1) (.s 44)⟩,
 ⟨(some 2), none, .mv (.s 45)⟩])
 .ret)))))) }
/- cuboid/base.New -/
def f14 : MFun := { nt := 16, np := 1, no := 3, res := [.slot 2], body :=
 (.seq
 (.region false [
 ⟨(some 1), none, .box 0 (.s 0)⟩,
 ⟨(some 2), none, .mv (.c .nilptr)⟩])
 (.seq
 (.seq
 (.region false [
 ⟨(some 3), none, .load (some 2) (some 0) (.s 1)⟩,
 ⟨(some 4), none, .call (.c (.fn 30 [] [])) [(.s 3)] [] [] [] false⟩,
 ⟨(some 5), none, .un .not (.s 4)⟩])
 (.cond (.s 5)
 (.seq
 (.region false [
 ⟨(some 2), none, .mv (.c .nilptr)⟩])
 .ret)
 .skip))
 (.seq
 (.region false [
 ⟨(some 7), none, .load (some 2) (some 0) (.s 1)⟩,
 ⟨(some 8), none, .call (.c (.fn 32 [] [])) [(.s 7)] [] [] [] true⟩,
 ⟨(some 9), none, .call (.c (.fn 31 [] [])) [(.s 8)] [] [] [] true⟩,
 ⟨(some 6), none, .mv (.s 9)⟩,
 ⟨(some 10), none, .extract (.s 6) 0⟩,
 ⟨(some 11), none, .extract (.s 6) 1⟩,
 ⟨none, none, .store 2 0 [] (.s 1) (.s 10)⟩])
 (.seq
 (.region false [
 ⟨(some 12), none, .load (some 2) (some 0) (.s 1)⟩,
 ⟨(some 13), none, .mapmk 1⟩,
 ⟨(some 14), none, .build [.nilsl, .int .i64 0, .nilmp, .int .i64 0, .int .i64 0, .int .i64 0] [(0, 2, (.s 12)), (2, 1, (.s 13))]⟩,
 ⟨(some 15), none, .box 2 (.s 14)⟩,
 ⟨(some 2), none, .mv (.s 15)⟩])
 .ret)))) }
/- math/bits.Mul32 -/
def f68 : MFun := { nt := 17, np := 2, no := 0, res := [.slot 4, .slot 5], body :=
 (.seq
 (.region false [
 ⟨(some 4), none, .mv (.c (.int .u32 0))⟩,
 ⟨(some 5), none, .mv (.c (.int .u32 0))⟩])
 (.seq
 (.region false [
 ⟨(some 7), none, .mv (.s 0)⟩,
 ⟨(some 8), none, .conv .u64 (.s 7)⟩,
 ⟨(some 9), none, .mv (.s 1)⟩,
 ⟨(some 10), none, .conv .u64 (.s 9)⟩,
 ⟨(some 11), none, .bin .mul .int (.s 8) (.s 10)⟩,
 ⟨(some 6), none, .mv (.s 11)⟩])
 (.seq
 (.region false [
 ⟨(some 12), none, .mv (.s 6)⟩,
 ⟨(some 13), none, .bin .shr .int (.s 12) (.c (.int .u64 32))⟩,
 ⟨(some 14), none, .conv .u32 (.s 13)⟩,
 ⟨(some 15), none, .mv (.s 6)⟩,
 ⟨(some 16), none, .conv .u32 (.s 15)⟩,
 ⟨(some 4), none, .mv (.s 14)⟩,
 ⟨(some 5), none, .mv (.s 16)⟩])
 .ret))) }
/- math/bits.Mul64 -/
def f69 : MFun := { nt := 51, np := 2, no := 0, res := [.slot 4, .slot 5], body :=
 (.seq
 (.region false [
 ⟨(some 4), none, .mv (.c (.int .u64 0))⟩,
 ⟨(some 5), none, .mv (.c (.int .u64 0))⟩])
 (.seq
 (.region false [
 ⟨(some 14), none, .mv (.s 0)⟩,
 ⟨(some 15), none, .bin .and .int (.s 14) (.c (.int .u64 4294967295))⟩,
 ⟨(some 6), none, .mv (.s 15)⟩])
 (.seq
 (.region false [
 ⟨(some 16), none, .mv (.s 0)⟩,
 ⟨(some 17), none, .bin .shr .int (.s 16) (.c (.int .u64 32))⟩,
 ⟨(some 7), none, .mv (.s 17)⟩])
 (.seq
 (.region false [
 ⟨(some 18), none, .mv (.s 1)⟩,
 ⟨(some 19), none, .bin .and .int (.s 18) (.c (.int .u64 4294967295))⟩,
 ⟨(some 8), none, .mv (.s 19)⟩])
 (.seq
 (.region false [
 ⟨(some 20), none, .mv (.s 1)⟩,
 ⟨(some 21), none, .bin .shr .int (.s 20) (.c (.int .u64 32))⟩,
 ⟨(some 9), none, .mv (.s 21)⟩])
 (.seq
 (.region false [
 ⟨(some 22), none, .mv (.s 6)⟩,
 ⟨(some 23), none, .mv (.s 8)⟩,
 ⟨(some 24), none, .bin .mul .int (.s 22) (.s 23)⟩,
 ⟨(some 10), none, .mv (.s 24)⟩])
 (.seq
 (.region false [
 ⟨(some 25), none, .mv (.s 7)⟩,
 ⟨(some 26), none, .mv (.s 8)⟩,
 ⟨(some 27), none, .bin .mul .int (.s 25) (.s 26)⟩,
 ⟨(some 28), none, .mv (.s 10)⟩,
 ⟨(some 29), none, .bin .shr .int (.s 28) (.c (.int .u64 32))⟩,
 ⟨(some 30), none, .bin .add .int (.s 27) (.s 29)⟩,
 ⟨(some 11), none, .mv (.s 30)⟩])
 (.seq
 (.region false [
 ⟨(some 31), none, .mv (.s 11)⟩,
 ⟨(some 32), none, .bin .and .int (.s 31) (.c (.int .u64 4294967295))⟩,
 ⟨(some 12), none, .mv (.s 32)⟩])
 (.seq
 (.region false [
 ⟨(some 33), none, .mv (.s 11)⟩,
 ⟨(some 34), none, .bin .shr .int (.s 33) (.c (.int .u64 32))⟩,
 ⟨(some 13), none, .mv (.s 34)⟩])
 (.seq
 (.region false [
 ⟨(some 35), none, .mv (.s 12)⟩,
 ⟨(some 36), none, .mv (.s 6)⟩,
 ⟨(some 37), none, .mv (.s 9)⟩,
 ⟨(some 38), none, .bin .mul .int (.s 36) (.s 37)⟩,
 ⟨(some 39), none, .bin .add .int (.s 35) (.s 38)⟩,
 ⟨(some 12), none, .mv (.s 39)⟩])
 (.seq
 (.region false [
 ⟨(some 40), none, .mv (.s 7)⟩,
 ⟨(some 41), none, .mv (.s 9)⟩,
 ⟨(some 42), none, .bin .mul .int (.s 40) (.s 41)⟩,
 ⟨(some 43), none, .mv (.s 13)⟩,
 ⟨(some 44), none, .bin .add .int (.s 42) (.s 43)⟩,
 ⟨(some 45), none, .mv (.s 12)⟩,
 ⟨(some 46), none, .bin .shr .int (.s 45) (.c (.int .u64 32))⟩,
 ⟨(some 47), none, .bin .add .int (.s 44) (.s 46)⟩,
 ⟨(some 4), none, .mv (.s 47)⟩])
 (.seq
 (.region false [
 ⟨(some 48), none, .mv (.s 0)⟩,
 ⟨(some 49), none, .mv (.s 1)⟩,
 ⟨(some 50), none, .bin .mul .int (.s 48) (.s 49)⟩,
 ⟨(some 5), none, .mv (.s 50)⟩])
 .ret)))))))))))) }
/- math/bits.Mul -/
def f51 : MFun := { nt := 30, np := 2, no := 0, res := [.slot 4, .slot 5], body :=
 (.seq
 (.region false [
 ⟨(some 4), none, .mv (.c (.int .u64 0))⟩,
 ⟨(some 5), none, .mv (.c (.int .u64 0))⟩])
 (.seq
 (.cond (.c (.bool false))
 (.seq
 (.region false [
 ⟨(some 11), none, .mv (.s 0)⟩,
 ⟨(some 12), none, .conv .u32 (.s 11)⟩,
 ⟨(some 13), none, .mv (.s 1)⟩,
 ⟨(some 14), none, .conv .u32 (.s 13)⟩,
 ⟨(some 15), none, .call (.c (.fn 68 [] [])) [(.s 12), (.s 14)] [] [] [] false⟩,
 ⟨(some 10), none, .mv (.s 15)⟩,
 ⟨(some 16), none, .extract (.s 10) 0⟩,
 ⟨(some 17), none, .extract (.s 10) 1⟩,
 ⟨(some 6), none, .mv (.s 16)⟩,
 ⟨(some 7), none, .mv (.s 17)⟩])
 (.seq
 (.region false [
 ⟨(some 18), none, .mv (.s 6)⟩,
 ⟨(some 19), none, .conv .u64 (.s 18)⟩,
 ⟨(some 20), none, .mv (.s 7)⟩,
 ⟨(some 21), none, .conv .u64 (.s 20)⟩,
 ⟨(some 4), none, .mv (.s 19)⟩,
 ⟨(some 5), none, .mv (.s 21)⟩])
 .ret))
 .skip)
 (.seq
 (.region false [
 ⟨(some 23), none, .mv (.s 0)⟩,
 ⟨(some 24), none, .mv (.s 1)⟩,
 ⟨(some 25), none, .call (.c (.fn 69 [] [])) [(.s 23), (.s 24)] [] [] [] false⟩,
 ⟨(some 22), none, .mv (.s 25)⟩,
 ⟨(some 26), none, .extract (.s 22) 0⟩,
 ⟨(some 27), none, .extract (.s 22) 1⟩,
 ⟨(some 8), none, .mv (.s 26)⟩,
 ⟨(some 9), none, .mv (.s 27)⟩])
 (.seq
 (.region false [
 ⟨(some 28), none, .mv (.s 8)⟩,
 ⟨(some 29), none, .mv (.s 9)⟩,
 ⟨(some 4), none, .mv (.s 28)⟩,
 ⟨(some 5), none, .mv (.s 29)⟩])
 .ret)))) }
/- slices.Repeat[[]cuboid/api.Row,cuboid/api.Row] -/
def f33 : MFun := { nt := 48, np := 2, no := 1, res := [.slot 4], body :=
 (.seq
 (.region false [
 ⟨(some 4), none, .mv (.c .nilsl)⟩])
 (.seq
 (.seq
 (.region false [
 ⟨(some 9), none, .mv (.s 1)⟩,
 ⟨(some 10), none, .bin .lss .int (.s 9) (.c (.int .i64 0))⟩])
 (.cond (.s 10)
 (.region false [
 ⟨(some 11), none, .stop⟩,
 ⟨none, none, .stop⟩])
 .skip))
 (.seq
 (.region false [
 ⟨(some 13), none, .mv (.s 0)⟩,
 ⟨(some 14), none, .len (.s 13)⟩,
 ⟨(some 15), none, .conv .u64 (.s 14)⟩,
 ⟨(some 16), none, .mv (.s 1)⟩,
 ⟨(some 17), none, .conv .u64 (.s 16)⟩,
 ⟨(some 18), none, .call (.c (.fn 51 [] [])) [(.s 15), (.s 17)] [] [] [] false⟩,
 ⟨(some 12), none, .mv (.s 18)⟩,
 ⟨(some 19), none, .extract (.s 12) 0⟩,
 ⟨(some 20), none, .extract (.s 12) 1⟩,
 ⟨(some 5), none, .mv (.s 19)⟩,
 ⟨(some 6), none, .mv (.s 20)⟩])
 (.seq
 (.seq
 (.region false [
 ⟨(some 21), none, .mv (.s 5)⟩,
 ⟨(some 22), none, .bin .gtr .int (.s 21) (.c (.int .u64 0))⟩,
 ⟨(some 23), none, .mv (.s 22)⟩,
 ⟨(some 24), (some (23, false)), .mv (.s 6)⟩,
 ⟨(some 25), (some (23, false)), .bin .gtr .int (.s 24) (.c (.int .u64 9223372036854775807))⟩,
 ⟨(some 26), none, .pick (.s 23) (.c (.bool true)) (.s 25)⟩])
 (.cond (.s 26)
 (.region false [
 ⟨(some 27), none, .stop⟩,
 ⟨none, none, .stop⟩])
 .skip))
 (.seq
 (.region false [
 ⟨(some 28), none, .mv (.s 6)⟩,
 ⟨(some 29), none, .conv .i64 (.s 28)⟩,
 ⟨(some 30), none, .make 0 24 6 [.int .u8 0, .int .u8 0, .int .u8 0, .int .u8 0, .int .i64 0, .int .i64 0] (.s 29) (.s 29)⟩,
 ⟨(some 7), none, .mv (.s 30)⟩])
 (.seq
 (.region false [
 ⟨(some 31), none, .mv (.s 7)⟩,
 ⟨(some 32), none, .mv (.s 0)⟩,
 ⟨(some 33), none, .copy 6 0 none (.s 31) (.s 32)⟩,
 ⟨(some 8), none, .mv (.s 33)⟩])
 (.seq
 (.block 0
 (.loop [7, 8] [0]
 (.seq
 (.seq
 (.region false [
 ⟨(some 34), none, .mv (.s 8)⟩,
 ⟨(some 35), none, .mv (.s 7)⟩,
 ⟨(some 36), none, .len (.s 35)⟩,
 ⟨(some 37), none, .bin .lss .int (.s 34) (.s 36)⟩])
 (.cond (.s 37)
 .skip
 (.exit 0)))
 (.block 1
 (.region true [
 ⟨(some 38), none, .mv (.s 8)⟩,
 ⟨(some 39), none, .mv (.s 7)⟩,
 ⟨(some 40), none, .mv (.s 8)⟩,
 ⟨(some 41), none, .sliceS 6 (.s 39) (some (.s 40)) none⟩,
 ⟨(some 42), none, .mv (.s 7)⟩,
 ⟨(some 43), none, .mv (.s 8)⟩,
 ⟨(some 44), none, .sliceS 6 (.s 42) none (some (.s 43))⟩,
 ⟨(some 45), none, .copy 6 0 (some 0) (.s 41) (.s 44)⟩,
 ⟨(some 46), none, .bin .add .int (.s 38) (.s 45)⟩,
 ⟨(some 8), none, .mv (.s 46)⟩])))))
 (.seq
 (.region false [
 ⟨(some 47), none, .mv (.s 7)⟩,
 ⟨(some 4), none, .mv (.s 47)⟩])
 .ret)))))))) }
/- cmp.Or[int] -/
def f55 : MFun := { nt := 18, np := 1, no := 0, res := [.slot 2], body :=
 (.seq
 (.region false [
 ⟨(some 2), none, .mv (.c (.int .i64 0))⟩])
 (.seq
 (.region false [
 ⟨(some 3), none, .mv (.c (.int .i64 0))⟩])
 (.seq
 (.seq
 (.region false [
 ⟨(some 6), none, .mv (.s 0)⟩,
 ⟨(some 7), none, .len (.s 6)⟩,
 ⟨(some 8), none, .mv (.c (.int .i64 0))⟩])
 (.block 0
 (.loop [3, 6, 7, 8] []
 (.seq
 (.region false [
 ⟨(some 9), none, .bin .lss .int (.s 8) (.s 7)⟩])
 (.seq
 (.cond (.s 9)
 .skip
 (.exit 0))
 (.seq
 (.block 1
 (.seq
 (.region false [
 ⟨(some 10), none, .iaddrS 1 (.s 6) (.s 8)⟩,
 ⟨(some 11), none, .load none none (.s 10)⟩,
 ⟨(some 5), none, .mv (.s 11)⟩])
 (.seq
 (.region false [
 ⟨(some 12), none, .mv (.s 5)⟩,
 ⟨(some 13), none, .mv (.s 3)⟩,
 ⟨(some 14), none, .bin .neq .int (.s 12) (.s 13)⟩])
 (.cond (.s 14)
 (.seq
 (.region false [
 ⟨(some 15), none, .mv (.s 5)⟩,
 ⟨(some 2), none, .mv (.s 15)⟩])
 .ret)
 .skip))))
 (.region false [
 ⟨(some 16), none, .bin .add .int (.s 8) (.c (.int .i64 1))⟩,
 ⟨(some 8), none, .mv (.s 16)⟩])))))))
 (.seq
 (.region false [
 ⟨(some 17), none, .mv (.s 3)⟩,
 ⟨(some 2), none, .mv (.s 17)⟩])
 .ret)))) }
/- cmp.isNaN[uint32] -/
def f72 : MFun := { nt := 6, np := 1, no := 0, res := [.slot 2], body :=
 (.seq
 (.region false [
 ⟨(some 2), none, .mv (.c (.bool false))⟩])
 (.seq
 (.region false [
 ⟨(some 3), none, .mv (.s 0)⟩,
 ⟨(some 4), none, .mv (.s 0)⟩,
 ⟨(some 5), none, .bin .neq .int (.s 3) (.s 4)⟩,
 ⟨(some 2), none, .mv (.s 5)⟩])
 .ret)) }
/- cmp.Compare[uint32] -/
def f56 : MFun := { nt := 20, np := 2, no := 0, res := [.slot 4], body :=
 (.seq
 (.region false [
 ⟨(some 4), none, .mv (.c (.int .i64 0))⟩])
 (.seq
 (.region false [
 ⟨(some 7), none, .mv (.s 0)⟩,
 ⟨(some 8), none, .call (.c (.fn 72 [] [])) [(.s 7)] [] [] [] false⟩,
 ⟨(some 5), none, .mv (.s 8)⟩])
 (.seq
 (.region false [
 ⟨(some 9), none, .mv (.s 1)⟩,
 ⟨(some 10), none, .call (.c (.fn 72 [] [])) [(.s 9)] [] [] [] false⟩,
 ⟨(some 6), none, .mv (.s 10)⟩])
 (.seq
 (.seq
 (.region false [
 ⟨(some 11), none, .mv (.s 5)⟩])
 (.cond (.s 11)
 (.seq
 (.seq
 (.region false [
 ⟨(some 12), none, .mv (.s 6)⟩])
 (.cond (.s 12)
 (.seq
 (.region false [
 ⟨(some 4), none, .mv (.c (.int .i64 0))⟩])
 .ret)
 .skip))
 (.seq
 (.region false [
 ⟨(some 4), none, .mv (.c (.int .i64 (-1)))⟩])
 .ret))
 .skip))
 (.seq
 (.seq
 (.region false [
 ⟨(some 13), none, .mv (.s 6)⟩])
 (.cond (.s 13)
 (.seq
 (.region false [
 ⟨(some 4), none, .mv (.c (.int .i64 1))⟩])
 .ret)
 .skip))
 (.seq
 (.seq
 (.region false [
 ⟨(some 14), none, .mv (.s 0)⟩,
 ⟨(some 15), none, .mv (.s 1)⟩,
 ⟨(some 16), none, .bin .lss .int (.s 14) (.s 15)⟩])
 (.cond (.s 16)
 (.seq
 (.region false [
 ⟨(some 4), none, .mv (.c (.int .i64 (-1)))⟩])
 .ret)
 .skip))
 (.seq
 (.seq
 (.region false [
 ⟨(some 17), none, .mv (.s 0)⟩,
 ⟨(some 18), none, .mv (.s 1)⟩,
 ⟨(some 19), none, .bin .gtr .int (.s 17) (.s 18)⟩])
 (.cond (.s 19)
 (.seq
 (.region false [
 ⟨(some 4), none, .mv (.c (.int .i64 1))⟩])
 .ret)
 .skip))
 (.seq
 (.region false [
 ⟨(some 4), none, .mv (.c (.int .i64 0))⟩])
 .ret)))))))) }
/- cuboid/code.Key -/
def f57 : MFun := { nt := 17, np := 1, no := 1, res := [.slot 2], body :=
 (.seq
 (.region false [
 ⟨(some 1), none, .box 0 (.s 0)⟩,
 ⟨(some 2), none, .mv (.c (.int .u32 0))⟩])
 (.seq
 (.region false [
 ⟨(some 3), none, .mv (.c (.int .u32 0))⟩])
 (.seq
 (.seq
 (.region false [
 ⟨(some 6), none, .load (some 4) (some 0) (.s 1)⟩,
 ⟨(some 7), none, .mv (.c (.int .i64 0))⟩])
 (.block 0
 (.loop [3, 6, 7] []
 (.seq
 (.region false [
 ⟨(some 8), none, .bin .lss .int (.s 7) (.c (.int .i64 4))⟩])
 (.seq
 (.cond (.s 8)
 .skip
 (.exit 0))
 (.seq
 (.block 1
 (.seq
 (.region false [
 ⟨(some 9), none, .index 4 1 false (.s 6) (.s 7)⟩,
 ⟨(some 5), none, .mv (.s 9)⟩])
 (.region false [
 ⟨(some 10), none, .mv (.s 3)⟩,
 ⟨(some 11), none, .bin .shl .int (.s 10) (.c (.int .u64 8))⟩,
 ⟨(some 12), none, .mv (.s 5)⟩,
 ⟨(some 13), none, .conv .u32 (.s 12)⟩,
 ⟨(some 14), none, .bin .or .int (.s 11) (.s 13)⟩,
 ⟨(some 3), none, .mv (.s 14)⟩])))
 (.region false [
 ⟨(some 15), none, .bin .add .int (.s 7) (.c (.int .i64 1))⟩,
 ⟨(some 7), none, .mv (.s 15)⟩])))))))
 (.seq
 (.region false [
 ⟨(some 16), none, .mv (.s 3)⟩,
 ⟨(some 2), none, .mv (.s 16)⟩])
 .ret)))) }
/- cmp.isNaN[int64] -/
def f87 : MFun := { nt := 6, np := 1, no := 0, res := [.slot 2], body :=
 (.seq
 (.region false [
 ⟨(some 2), none, .mv (.c (.bool false))⟩])
 (.seq
 (.region false [
 ⟨(some 3), none, .mv (.s 0)⟩,
 ⟨(some 4), none, .mv (.s 0)⟩,
 ⟨(some 5), none, .bin .neq .int (.s 3) (.s 4)⟩,
 ⟨(some 2), none, .mv (.s 5)⟩])
 .ret)) }
/- cmp.Compare[int64] -/
def f73 : MFun := { nt := 20, np := 2, no := 0, res := [.slot 4], body :=
 (.seq
 (.region false [
 ⟨(some 4), none, .mv (.c (.int .i64 0))⟩])
 (.seq
 (.region false [
 ⟨(some 7), none, .mv (.s 0)⟩,
 ⟨(some 8), none, .call (.c (.fn 87 [] [])) [(.s 7)] [] [] [] false⟩,
 ⟨(some 5), none, .mv (.s 8)⟩])
 (.seq
 (.region false [
 ⟨(some 9), none, .mv (.s 1)⟩,
 ⟨(some 10), none, .call (.c (.fn 87 [] [])) [(.s 9)] [] [] [] false⟩,
 ⟨(some 6), none, .mv (.s 10)⟩])
 (.seq
 (.seq
 (.region false [
 ⟨(some 11), none, .mv (.s 5)⟩])
 (.cond (.s 11)
 (.seq
 (.seq
 (.region false [
 ⟨(some 12), none, .mv (.s 6)⟩])
 (.cond (.s 12)
 (.seq
 (.region false [
 ⟨(some 4), none, .mv (.c (.int .i64 0))⟩])
 .ret)
 .skip))
 (.seq
 (.region false [
 ⟨(some 4), none, .mv (.c (.int .i64 (-1)))⟩])
 .ret))
 .skip))
 (.seq
 (.seq
 (.region false [
 ⟨(some 13), none, .mv (.s 6)⟩])
 (.cond (.s 13)
 (.seq
 (.region false [
 ⟨(some 4), none, .mv (.c (.int .i64 1))⟩])
 .ret)
 .skip))
 (.seq
 (.seq
 (.region false [
 ⟨(some 14), none, .mv (.s 0)⟩,
 ⟨(some 15), none, .mv (.s 1)⟩,
 ⟨(some 16), none, .bin .lss .int (.s 14) (.s 15)⟩])
 (.cond (.s 16)
 (.seq
 (.region false [
 ⟨(some 4), none, .mv (.c (.int .i64 (-1)))⟩])
 .ret)
 .skip))
 (.seq
 (.seq
 (.region false [
 ⟨(some 17), none, .mv (.s 0)⟩,
 ⟨(some 18), none, .mv (.s 1)⟩,
 ⟨(some 19), none, .bin .gtr .int (.s 17) (.s 18)⟩])
 (.cond (.s 19)
 (.seq
 (.region false [
 ⟨(some 4), none, .mv (.c (.int .i64 1))⟩])
 .ret)
 .skip))
 (.seq
 (.region false [
 ⟨(some 4), none, .mv (.c (.int .i64 0))⟩])
 .ret)))))))) }
/- slices.Compare[[]int64,int64] -/
def f58 : MFun := { nt := 36, np := 2, no := 0, res := [.slot 4], body :=
 (.seq
 (.region false [
 ⟨(some 4), none, .mv (.c (.int .i64 0))⟩])
 (.seq
 (.seq
 (.region false [
 ⟨(some 9), none, .mv (.s 0)⟩,
 ⟨(some 10), none, .len (.s 9)⟩,
 ⟨(some 11), none, .mv (.c (.int .i64 0))⟩])
 (.block 0
 (.loop [0, 1, 9, 10, 11] []
 (.seq
 (.region false [
 ⟨(some 12), none, .bin .lss .int (.s 11) (.s 10)⟩])
 (.seq
 (.cond (.s 12)
 .skip
 (.exit 0))
 (.seq
 (.block 1
 (.seq
 (.region false [
 ⟨(some 13), none, .mv (.s 11)⟩,
 ⟨(some 14), none, .iaddrS 1 (.s 9) (.s 11)⟩,
 ⟨(some 15), none, .load none none (.s 14)⟩,
 ⟨(some 5), none, .mv (.s 13)⟩,
 ⟨(some 6), none, .mv (.s 15)⟩])
 (.seq
 (.seq
 (.region false [
 ⟨(some 16), none, .mv (.s 5)⟩,
 ⟨(some 17), none, .mv (.s 1)⟩,
 ⟨(some 18), none, .len (.s 17)⟩,
 ⟨(some 19), none, .bin .geq .int (.s 16) (.s 18)⟩])
 (.cond (.s 19)
 (.seq
 (.region false [
 ⟨(some 4), none, .mv (.c (.int .i64 1))⟩])
 .ret)
 .skip))
 (.seq
 (.region false [
 ⟨(some 20), none, .mv (.s 1)⟩,
 ⟨(some 21), none, .mv (.s 5)⟩,
 ⟨(some 22), none, .iaddrS 1 (.s 20) (.s 21)⟩,
 ⟨(some 23), none, .load none none (.s 22)⟩,
 ⟨(some 7), none, .mv (.s 23)⟩])
 (.seq
 (.region false [
 ⟨(some 24), none, .mv (.s 6)⟩,
 ⟨(some 25), none, .mv (.s 7)⟩,
 ⟨(some 26), none, .call (.c (.fn 73 [] [])) [(.s 24), (.s 25)] [] [] [] false⟩,
 ⟨(some 8), none, .mv (.s 26)⟩])
 (.seq
 (.region false [
 ⟨(some 27), none, .mv (.s 8)⟩,
 ⟨(some 28), none, .bin .neq .int (.s 27) (.c (.int .i64 0))⟩])
 (.cond (.s 28)
 (.seq
 (.region false [
 ⟨(some 29), none, .mv (.s 8)⟩,
 ⟨(some 4), none, .mv (.s 29)⟩])
 .ret)
 .skip)))))))
 (.region false [
 ⟨(some 30), none, .bin .add .int (.s 11) (.c (.int .i64 1))⟩,
 ⟨(some 11), none, .mv (.s 30)⟩])))))))
 (.seq
 (.seq
 (.region false [
 ⟨(some 31), none, .mv (.s 0)⟩,
 ⟨(some 32), none, .len (.s 31)⟩,
 ⟨(some 33), none, .mv (.s 1)⟩,
 ⟨(some 34), none, .len (.s 33)⟩,
 ⟨(some 35), none, .bin .lss .int (.s 32) (.s 34)⟩])
 (.cond (.s 35)
 (.seq
 (.region false [
 ⟨(some 4), none, .mv (.c (.int .i64 (-1)))⟩])
 .ret)
 .skip))
 (.seq
 (.region false [
 ⟨(some 4), none, .mv (.c (.int .i64 0))⟩])
 .ret)))) }
/- cuboid/row.compare -/
def f39 : MFun := { nt := 19, np := 2, no := 2, res := [.slot 4], body :=
 (.seq
 (.region false [
 ⟨(some 2), none, .box 0 (.s 0)⟩,
 ⟨(some 3), none, .box 1 (.s 1)⟩,
 ⟨(some 4), none, .mv (.c (.int .i64 0))⟩])
 (.seq
 (.region true [
 ⟨(some 5), none, .faddr 0 (.s 2)⟩,
 ⟨(some 6), none, .load (some 4) (some 0) (.s 5)⟩,
 ⟨(some 7), none, .call (.c (.fn 57 [] [])) [(.s 6)] [] [] [] false⟩,
 ⟨(some 8), none, .faddr 0 (.s 3)⟩,
 ⟨(some 9), none, .load (some 4) (some 1) (.s 8)⟩,
 ⟨(some 10), none, .call (.c (.fn 57 [] [])) [(.s 9)] [] [] [] false⟩,
 ⟨(some 11), none, .call (.c (.fn 56 [] [])) [(.s 7), (.s 10)] [] [] [] false⟩,
 ⟨(some 12), none, .faddr 4 (.s 2)⟩,
 ⟨(some 13), none, .sliceA 2 1 (some 0) (.s 12) none none⟩,
 ⟨(some 14), none, .faddr 4 (.s 3)⟩,
 ⟨(some 15), none, .sliceA 2 1 (some 1) (.s 14) none none⟩,
 ⟨(some 16), none, .call (.c (.fn 58 [] [])) [(.s 13), (.s 15)] [] [0, 1] [] false⟩,
 ⟨(some 17), none, .lit none [] 2 1 [.int .i64 0] [(0, 1, (.s 11)), (1, 1, (.s 16))]⟩,
 ⟨(some 18), none, .call (.c (.fn 55 [] [])) [(.s 17)] [] [] [] false⟩,
 ⟨(some 4), none, .mv (.s 18)⟩])
 .ret)) }
/- slices.Clone[[]cuboid/api.Row,cuboid/api.Row] -/
def f52 : MFun := { nt := 8, np := 1, no := 1, res := [.slot 2], body :=
 (.seq
 (.region false [
 ⟨(some 2), none, .mv (.c .nilsl)⟩])
 (.seq
 (.seq
 (.region false [
 ⟨(some 3), none, .mv (.s 0)⟩,
 ⟨(some 4), none, .bin .eql .sl (.s 3) (.c .nilsl)⟩])
 (.cond (.s 4)
 (.seq
 (.region false [
 ⟨(some 2), none, .mv (.c .nilsl)⟩])
 .ret)
 .skip))
 (.seq
 (.region false [
 ⟨(some 5), none, .lit (some 0) [] 0 6 [.int .u8 0, .int .u8 0, .int .u8 0, .int .u8 0, .int .i64 0, .int .i64 0] []⟩,
 ⟨(some 6), none, .mv (.s 0)⟩,
 ⟨(some 7), none, .append 24 6 0 none (.s 5) (.s 6)⟩,
 ⟨(some 2), none, .mv (.s 7)⟩])
 .ret))) }
/- cuboid/row.Sort -/
def f34 : MFun := { nt := 9, np := 1, no := 1, res := [.slot 2], body :=
 (.seq
 (.region false [
 ⟨(some 2), none, .mv (.c .nilsl)⟩])
 (.seq
 (.region false [
 ⟨(some 4), none, .mv (.s 0)⟩,
 ⟨(some 5), none, .call (.c (.fn 52 [] [])) [(.s 4)] [] [] [(0, 0)] true⟩,
 ⟨(some 3), none, .mv (.s 5)⟩])
 (.seq
 (.region false [
 ⟨(some 6), none, .mv (.s 3)⟩,
 ⟨(some 7), none, .call (.c (.fn 53 [] [])) [(.s 6), (.c (.fn 39 [] []))] [0] [] [] false⟩])
 (.seq
 (.region false [
 ⟨(some 8), none, .mv (.s 3)⟩,
 ⟨(some 2), none, .mv (.s 8)⟩])
 .ret)))) }
/- (*cuboid/base.Base).Rows -/
def f15 : MFun := { nt := 26, np := 1, no := 3, res := [.slot 2], body :=
 (.seq
 (.region false [
 ⟨(some 2), none, .mv (.c .nilsl)⟩])
 (.seq
 (.seq
 (.region false [
 ⟨(some 6), none, .mv (.s 0)⟩,
 ⟨(some 7), none, .bin .eql .ptr (.s 6) (.c .nilptr)⟩])
 (.cond (.s 7)
 (.seq
 (.region false [
 ⟨(some 2), none, .mv (.c .nilsl)⟩])
 .ret)
 .skip))
 (.seq
 (.region false [
 ⟨(some 3), none, .vnil 2 6⟩])
 (.seq
 (.seq
 (.region false [
 ⟨(some 8), none, .mv (.s 0)⟩,
 ⟨(some 9), none, .nilchk (.s 8)⟩,
 ⟨(some 10), none, .faddr 2 (.s 9)⟩,
 ⟨(some 11), none, .load none (some 0) (.s 10)⟩,
 ⟨(some 12), none, .rng 3 (.s 11)⟩])
 (.block 0
 (.loop [3, 12] [2, 3]
 (.seq
 (.region false [
 ⟨(some 13), none, .nxt (.s 12)⟩,
 ⟨(some 14), none, .extract (.s 13) 0⟩])
 (.seq
 (.cond (.s 14)
 .skip
 (.exit 0))
 (.block 1
 (.seq
 (.region false [
 ⟨(some 15), none, .ent (.s 12)⟩,
 ⟨(some 16), none, .extract (.s 15) 0⟩,
 ⟨(some 17), none, .extract (.s 15) 1⟩,
 ⟨(some 4), none, .alloc 4 [.int .u8 0, .int .u8 0, .int .u8 0, .int .u8 0, .int .i64 0, .int .i64 0]⟩,
 ⟨none, none, .store 6 4 [] (.s 4) (.s 16)⟩,
 ⟨(some 5), none, .mv (.s 17)⟩])
 (.region false [
 ⟨(some 18), none, .mv (.s 3)⟩,
 ⟨(some 19), none, .load (some 6) (some 4) (.s 4)⟩,
 ⟨(some 20), none, .lit none [] 1 6 [.int .u8 0, .int .u8 0, .int .u8 0, .int .u8 0, .int .i64 0, .int .i64 0] [(0, 6, (.s 19))]⟩,
 ⟨(some 21), none, .mv (.s 5)⟩,
 ⟨(some 22), none, .call (.c (.fn 33 [] [])) [(.s 20), (.s 21)] [] [] [] true⟩,
 ⟨(some 23), none, .append 24 6 2 none (.s 18) (.s 22)⟩,
 ⟨(some 3), none, .mv (.s 23)⟩]))))))))
 (.seq
 (.region false [
 ⟨(some 24), none, .mv (.s 3)⟩,
 ⟨(some 25), none, .call (.c (.fn 34 [] [])) [(.s 24)] [] [2] [] true⟩,
 ⟨(some 2), none, .mv (.s 25)⟩])
 .ret))))) }
/- cuboid/hier.Size -/
def f54 : MFun := { nt := 28, np := 2, no := 1, res := [.slot 4], body :=
 (.seq
 (.region false [
 ⟨(some 2), none, .box 0 (.s 0)⟩,
 ⟨(some 4), none, .mv (.c (.int .i64 0))⟩])
 (.seq
 (.block 0
 (.seq
 (.region false [
 ⟨(some 6), none, .load (some 2) (some 0) (.s 2)⟩,
 ⟨(some 7), none, .call (.c (.fn 47 [] [])) [(.s 6)] [] [] [] false⟩,
 ⟨(some 8), none, .un .not (.s 7)⟩,
 ⟨(some 9), none, .mv (.s 8)⟩,
 ⟨(some 10), (some (9, false)), .mv (.s 1)⟩,
 ⟨(some 11), (some (9, false)), .faddr 0 (.s 2)⟩,
 ⟨(some 12), (some (9, false)), .load none (some 0) (.s 11)⟩,
 ⟨(some 13), (some (9, false)), .len (.s 12)⟩,
 ⟨(some 14), (some (9, false)), .call (.c (.fn 63 [] [])) [(.s 10), (.c (.int .i64 0)), (.s 13)] [] [] [] false⟩,
 ⟨(some 15), (some (9, false)), .un .not (.s 14)⟩,
 ⟨(some 16), none, .pick (.s 9) (.c (.bool true)) (.s 15)⟩,
 ⟨(some 5), none, .mv (.s 16)⟩])
 (.cond (.s 5)
 (.seq
 (.region false [
 ⟨(some 4), none, .mv (.c (.int .i64 0))⟩])
 .ret)
 (.seq
 (.region false [
 ⟨(some 18), none, .mv (.s 1)⟩,
 ⟨(some 19), none, .faddr 0 (.s 2)⟩,
 ⟨(some 20), none, .load none (some 0) (.s 19)⟩,
 ⟨(some 21), none, .len (.s 20)⟩,
 ⟨(some 22), none, .bin .eql .int (.s 18) (.s 21)⟩,
 ⟨(some 17), none, .mv (.s 22)⟩])
 (.cond (.s 17)
 (.seq
 (.region false [
 ⟨(some 4), none, .mv (.c (.int .i64 1))⟩])
 .ret)
 .skip)))))
 (.seq
 (.region false [
 ⟨(some 23), none, .faddr 0 (.s 2)⟩,
 ⟨(some 24), none, .load none (some 0) (.s 23)⟩,
 ⟨(some 25), none, .mv (.s 1)⟩,
 ⟨(some 26), none, .iaddrS 1 (.s 24) (.s 25)⟩,
 ⟨(some 27), none, .load none none (.s 26)⟩,
 ⟨(some 4), none, .mv (.s 27)⟩])
 .ret))) }
/- cuboid/schema.Right -/
def f37 : MFun := { nt := 45, np := 3, no := 3, res := [.slot 6], body :=
 (.seq
 (.region false [
 ⟨(some 3), none, .box 0 (.s 0)⟩,
 ⟨(some 4), none, .box 1 (.s 1)⟩,
 ⟨(some 5), none, .box 2 (.s 2)⟩,
 ⟨(some 6), none, .mv (.c (.bool false))⟩])
 (.seq
 (.seq
 (.region false [
 ⟨(some 8), none, .load (some 2) (some 0) (.s 3)⟩,
 ⟨(some 9), none, .call (.c (.fn 30 [] [])) [(.s 8)] [] [] [] false⟩,
 ⟨(some 10), none, .un .not (.s 9)⟩])
 (.cond (.s 10)
 (.seq
 (.region false [
 ⟨(some 6), none, .mv (.c (.bool false))⟩])
 .ret)
 .skip))
 (.seq
 (.seq
 (.region false [
 ⟨(some 11), none, .mv (.c (.int .i64 0))⟩])
 (.block 0
 (.loop [3, 4, 5, 11] [0, 1, 2]
 (.seq
 (.region false [
 ⟨(some 12), none, .bin .lss .int (.s 11) (.c (.int .i64 4))⟩])
 (.seq
 (.cond (.s 12)
 .skip
 (.exit 0))
 (.seq
 (.block 1
 (.seq
 (.region false [
 ⟨(some 13), none, .mv (.s 11)⟩,
 ⟨(some 7), none, .mv (.s 13)⟩])
 (.seq
 (.seq
 (.region false [
 ⟨(some 14), none, .mv (.s 7)⟩,
 ⟨(some 15), none, .faddr 0 (.s 3)⟩,
 ⟨(some 16), none, .load none (some 0) (.s 15)⟩,
 ⟨(some 17), none, .len (.s 16)⟩,
 ⟨(some 18), none, .bin .geq .int (.s 14) (.s 17)⟩])
 (.cond (.s 18)
 (.seq
 (.seq
 (.region false [
 ⟨(some 19), none, .mv (.s 7)⟩,
 ⟨(some 20), none, .iaddrA 4 1 (.s 4) (.s 19)⟩,
 ⟨(some 21), none, .load none (some 1) (.s 20)⟩,
 ⟨(some 22), none, .bin .neq .int (.s 21) (.c (.int .u8 0))⟩,
 ⟨(some 23), none, .mv (.s 22)⟩,
 ⟨(some 24), (some (23, false)), .mv (.s 7)⟩,
 ⟨(some 25), (some (23, false)), .iaddrA 4 1 (.s 5) (.s 24)⟩,
 ⟨(some 26), (some (23, false)), .load none (some 2) (.s 25)⟩,
 ⟨(some 27), (some (23, false)), .bin .neq .int (.s 26) (.c (.int .u8 0))⟩,
 ⟨(some 28), none, .pick (.s 23) (.c (.bool true)) (.s 27)⟩])
 (.cond (.s 28)
 (.seq
 (.region false [
 ⟨(some 6), none, .mv (.c (.bool false))⟩])
 .ret)
 .skip))
 (.exit 1))
 .skip))
 (.seq
 (.region true [
 ⟨(some 29), none, .mv (.s 7)⟩,
 ⟨(some 30), none, .iaddrA 4 1 (.s 5) (.s 29)⟩,
 ⟨(some 31), none, .load none (some 2) (.s 30)⟩,
 ⟨(some 32), none, .conv .i64 (.s 31)⟩,
 ⟨(some 33), none, .faddr 0 (.s 3)⟩,
 ⟨(some 34), none, .load none (some 0) (.s 33)⟩,
 ⟨(some 35), none, .mv (.s 7)⟩,
 ⟨(some 36), none, .iaddrS 2 (.s 34) (.s 35)⟩,
 ⟨(some 37), none, .load (some 2) none (.s 36)⟩,
 ⟨(some 38), none, .mv (.s 7)⟩,
 ⟨(some 39), none, .iaddrA 4 1 (.s 4) (.s 38)⟩,
 ⟨(some 40), none, .load none (some 1) (.s 39)⟩,
 ⟨(some 41), none, .conv .i64 (.s 40)⟩,
 ⟨(some 42), none, .call (.c (.fn 54 [] [])) [(.s 37), (.s 41)] [] [] [] false⟩,
 ⟨(some 43), none, .bin .geq .int (.s 32) (.s 42)⟩])
 (.cond (.s 43)
 (.seq
 (.region false [
 ⟨(some 6), none, .mv (.c (.bool false))⟩])
 .ret)
 .skip)))))
 (.region false [
 ⟨(some 44), none, .bin .add .int (.s 11) (.c (.int .i64 1))⟩,
 ⟨(some 11), none, .mv (.s 44)⟩])))))))
 (.seq
 (.region false [
 ⟨(some 6), none, .mv (.c (.bool true))⟩])
 .ret)))) }
/- cuboid/lattice.Base -/
def f38 : MFun := { nt := 2, np := 0, no := 1, res := [.cell 0 0 (some 4)], body :=
 (.seq
 (.region false [
 ⟨(some 0), none, .alloc 0 [.int .u8 0, .int .u8 0, .int .u8 0, .int .u8 0]⟩])
 (.seq
 (.region false [
 ⟨(some 1), none, .build [.int .u8 0, .int .u8 0, .int .u8 0, .int .u8 0] []⟩,
 ⟨none, none, .store 4 0 [] (.s 0) (.s 1)⟩])
 .ret)) }
/- cuboid/row.Good -/
def f24 : MFun := { nt := 25, np := 2, no := 2, res := [.slot 4], body :=
 (.seq
 (.region false [
 ⟨(some 2), none, .box 0 (.s 0)⟩,
 ⟨(some 3), none, .box 1 (.s 1)⟩,
 ⟨(some 4), none, .mv (.c (.bool false))⟩])
 (.seq
 (.seq
 (.region true [
 ⟨(some 7), none, .load (some 2) (some 0) (.s 2)⟩,
 ⟨(some 8), none, .call (.c (.fn 38 [] [])) [] [] [] [] false⟩,
 ⟨(some 9), none, .faddr 0 (.s 3)⟩,
 ⟨(some 10), none, .load (some 4) (some 1) (.s 9)⟩,
 ⟨(some 11), none, .call (.c (.fn 37 [] [])) [(.s 7), (.s 8), (.s 10)] [] [] [] false⟩,
 ⟨(some 12), none, .un .not (.s 11)⟩])
 (.cond (.s 12)
 (.seq
 (.region false [
 ⟨(some 4), none, .mv (.c (.bool false))⟩])
 .ret)
 .skip))
 (.seq
 (.seq
 (.region false [
 ⟨(some 13), none, .faddr 4 (.s 3)⟩,
 ⟨(some 14), none, .faddr 1 (.s 2)⟩,
 ⟨(some 15), none, .load none (some 0) (.s 14)⟩,
 ⟨(some 16), none, .sliceA 2 1 (some 1) (.s 13) (some (.s 15)) none⟩,
 ⟨(some 17), none, .len (.s 16)⟩,
 ⟨(some 18), none, .mv (.c (.int .i64 0))⟩])
 (.block 0
 (.loop [16, 17, 18] [1]
 (.seq
 (.region false [
 ⟨(some 19), none, .bin .lss .int (.s 18) (.s 17)⟩])
 (.seq
 (.cond (.s 19)
 .skip
 (.exit 0))
 (.seq
 (.block 1
 (.seq
 (.region false [
 ⟨(some 20), none, .iaddrS 1 (.s 16) (.s 18)⟩,
 ⟨(some 21), none, .load none (some 1) (.s 20)⟩,
 ⟨(some 6), none, .mv (.s 21)⟩])
 (.seq
 (.region false [
 ⟨(some 22), none, .mv (.s 6)⟩,
 ⟨(some 23), none, .bin .neq .int (.s 22) (.c (.int .i64 0))⟩])
 (.cond (.s 23)
 (.seq
 (.region false [
 ⟨(some 4), none, .mv (.c (.bool false))⟩])
 .ret)
 .skip))))
 (.region false [
 ⟨(some 24), none, .bin .add .int (.s 18) (.c (.int .i64 1))⟩,
 ⟨(some 18), none, .mv (.s 24)⟩])))))))
 (.seq
 (.region false [
 ⟨(some 4), none, .mv (.c (.bool true))⟩])
 .ret)))) }
/- cuboid/calc.Size -/
def f36 : MFun := { nt := 10, np := 1, no := 0, res := [.slot 2], body :=
 (.seq
 (.region false [
 ⟨(some 2), none, .mv (.c (.int .u64 0))⟩])
 (.seq
 (.seq
 (.region false [
 ⟨(some 3), none, .mv (.s 0)⟩,
 ⟨(some 4), none, .bin .lss .int (.s 3) (.c (.int .i64 0))⟩])
 (.cond (.s 4)
 (.seq
 (.region false [
 ⟨(some 5), none, .mv (.s 0)⟩,
 ⟨(some 6), none, .conv .u64 (.s 5)⟩,
 ⟨(some 7), none, .un .neg (.s 6)⟩,
 ⟨(some 2), none, .mv (.s 7)⟩])
 .ret)
 .skip))
 (.seq
 (.region false [
 ⟨(some 8), none, .mv (.s 0)⟩,
 ⟨(some 9), none, .conv .u64 (.s 8)⟩,
 ⟨(some 2), none, .mv (.s 9)⟩])
 .ret))) }
/- (*cuboid/base.Base).weigh -/
def f35 : MFun := { nt := 43, np := 3, no := 3, res := [.cell 6 3 (some 2), .slot 7], body :=
 (.seq
 (.region false [
 ⟨(some 4), none, .box 2 (.s 1)⟩,
 ⟨(some 6), none, .alloc 3 [.int .i64 0, .int .i64 0]⟩,
 ⟨(some 7), none, .mv (.c (.bool false))⟩])
 (.seq
 (.region false [
 ⟨(some 12), none, .mv (.s 0)⟩,
 ⟨(some 13), none, .nilchk (.s 12)⟩,
 ⟨(some 14), none, .faddr 4 (.s 13)⟩,
 ⟨(some 15), none, .load (some 2) (some 0) (.s 14)⟩,
 ⟨(some 8), none, .alloc 4 [.int .i64 0, .int .i64 0]⟩,
 ⟨none, none, .store 2 4 [] (.s 8) (.s 15)⟩])
 (.seq
 (.seq
 (.region false [
 ⟨(some 16), none, .faddr 4 (.s 4)⟩,
 ⟨(some 17), none, .load (some 2) (some 2) (.s 16)⟩,
 ⟨(some 18), none, .mv (.c (.int .i64 0))⟩])
 (.block 0
 (.loop [2, 6, 8, 17, 18] [3, 4]
 (.seq
 (.region false [
 ⟨(some 19), none, .bin .lss .int (.s 18) (.c (.int .i64 2))⟩])
 (.seq
 (.cond (.s 19)
 .skip
 (.exit 0))
 (.seq
 (.block 1
 (.seq
 (.region false [
 ⟨(some 20), none, .mv (.s 18)⟩,
 ⟨(some 21), none, .index 2 1 false (.s 17) (.s 18)⟩,
 ⟨(some 9), none, .mv (.s 20)⟩,
 ⟨(some 10), none, .mv (.s 21)⟩])
 (.seq
 (.region false [
 ⟨(some 22), none, .mv (.s 10)⟩,
 ⟨(some 23), none, .call (.c (.fn 36 [] [])) [(.s 22)] [] [] [] false⟩,
 ⟨(some 11), none, .mv (.s 23)⟩])
 (.seq
 (.seq
 (.region false [
 ⟨(some 24), none, .mv (.s 11)⟩,
 ⟨(some 25), none, .bin .gtr .int (.s 24) (.c (.int .u64 2305843009213693952))⟩])
 (.cond (.s 25)
 (.seq
 (.region false [
 ⟨(some 26), none, .load (some 2) (some 4) (.s 8)⟩,
 ⟨none, none, .store 2 3 [] (.s 6) (.s 26)⟩,
 ⟨(some 7), none, .mv (.c (.bool false))⟩])
 .ret)
 .skip))
 (.seq
 (.region false [
 ⟨(some 27), none, .mv (.s 9)⟩,
 ⟨(some 28), none, .iaddrA 2 1 (.s 8) (.s 27)⟩,
 ⟨(some 29), none, .load none (some 4) (.s 28)⟩,
 ⟨(some 30), none, .mv (.s 2)⟩,
 ⟨(some 31), none, .mv (.s 11)⟩,
 ⟨(some 32), none, .conv .i64 (.s 31)⟩,
 ⟨(some 33), none, .bin .mul .int (.s 30) (.s 32)⟩,
 ⟨(some 34), none, .bin .add .int (.s 29) (.s 33)⟩,
 ⟨(some 35), none, .iaddrA 2 1 (.s 8) (.s 27)⟩,
 ⟨none, none, .store 1 4 [] (.s 35) (.s 34)⟩])
 (.seq
 (.region false [
 ⟨(some 36), none, .mv (.s 9)⟩,
 ⟨(some 37), none, .iaddrA 2 1 (.s 8) (.s 36)⟩,
 ⟨(some 38), none, .load none (some 4) (.s 37)⟩,
 ⟨(some 39), none, .bin .gtr .int (.s 38) (.c (.int .i64 2305843009213693952))⟩])
 (.cond (.s 39)
 (.seq
 (.region false [
 ⟨(some 40), none, .load (some 2) (some 4) (.s 8)⟩,
 ⟨none, none, .store 2 3 [] (.s 6) (.s 40)⟩,
 ⟨(some 7), none, .mv (.c (.bool false))⟩])
 .ret)
 .skip)))))))
 (.region false [
 ⟨(some 41), none, .bin .add .int (.s 18) (.c (.int .i64 1))⟩,
 ⟨(some 18), none, .mv (.s 41)⟩])))))))
 (.seq
 (.region false [
 ⟨(some 42), none, .load (some 2) (some 4) (.s 8)⟩,
 ⟨none, none, .store 2 3 [] (.s 6) (.s 42)⟩,
 ⟨(some 7), none, .mv (.c (.bool true))⟩])
 .ret)))) }
/- (*cuboid/base.Base).Do -/
def f16 : MFun := { nt := 82, np := 2, no := 2, res := [.slot 4], body :=
 (.seq
 (.region false [
 ⟨(some 3), none, .box 2 (.s 1)⟩,
 ⟨(some 4), none, .mv (.c (.int .i64 0))⟩])
 (.seq
 (.block 0
 (.seq
 (.region false [
 ⟨(some 9), none, .mv (.s 0)⟩,
 ⟨(some 10), none, .bin .eql .ptr (.s 9) (.c .nilptr)⟩,
 ⟨(some 8), none, .mv (.s 10)⟩])
 (.cond (.s 8)
 (.seq
 (.region false [
 ⟨(some 4), none, .mv (.c (.int .i64 1))⟩])
 .ret)
 (.seq
 (.region true [
 ⟨(some 12), none, .mv (.s 0)⟩,
 ⟨(some 13), none, .nilchk (.s 12)⟩,
 ⟨(some 14), none, .faddr 0 (.s 13)⟩,
 ⟨(some 15), none, .load (some 2) (some 0) (.s 14)⟩,
 ⟨(some 16), none, .faddr 1 (.s 3)⟩,
 ⟨(some 17), none, .load (some 6) (some 2) (.s 16)⟩,
 ⟨(some 18), none, .call (.c (.fn 24 [] [])) [(.s 15), (.s 17)] [] [] [] false⟩,
 ⟨(some 19), none, .un .not (.s 18)⟩,
 ⟨(some 11), none, .mv (.s 19)⟩])
 (.cond (.s 11)
 (.seq
 (.region false [
 ⟨(some 4), none, .mv (.c (.int .i64 7))⟩])
 .ret)
 (.seq
 (.region true [
 ⟨(some 21), none, .faddr 0 (.s 3)⟩,
 ⟨(some 22), none, .load none (some 2) (.s 21)⟩,
 ⟨(some 23), none, .mv (.s 22)⟩,
 ⟨(some 24), (some (23, true)), .mv (.s 0)⟩,
 ⟨(some 25), (some (23, true)), .nilchk (.s 24)⟩,
 ⟨(some 26), (some (23, true)), .faddr 2 (.s 25)⟩,
 ⟨(some 27), (some (23, true)), .load none (some 0) (.s 26)⟩,
 ⟨(some 28), (some (23, true)), .faddr 1 (.s 3)⟩,
 ⟨(some 29), (some (23, true)), .load (some 6) (some 2) (.s 28)⟩,
 ⟨(some 30), (some (23, true)), .maplk 1 [some .u8, some .u8, some .u8, some .u8, some .i64, some .i64] false (.s 27) (.s 29)⟩,
 ⟨(some 31), (some (23, true)), .bin .eql .int (.s 30) (.c (.int .i64 0))⟩,
 ⟨(some 32), none, .pick (.s 23) (.s 31) (.c (.bool false))⟩,
 ⟨(some 20), none, .mv (.s 32)⟩])
 (.cond (.s 20)
 (.seq
 (.region false [
 ⟨(some 4), none, .mv (.c (.int .i64 8))⟩])
 .ret)
 .skip)))))))
 (.seq
 (.region false [
 ⟨(some 5), none, .mv (.c (.int .i64 1))⟩])
 (.seq
 (.seq
 (.region false [
 ⟨(some 33), none, .faddr 0 (.s 3)⟩,
 ⟨(some 34), none, .load none (some 2) (.s 33)⟩])
 (.cond (.s 34)
 (.region false [
 ⟨(some 5), none, .mv (.c (.int .i64 (-1)))⟩])
 .skip))
 (.seq
 (.region false [
 ⟨(some 36), none, .mv (.s 0)⟩,
 ⟨(some 37), none, .faddr 1 (.s 3)⟩,
 ⟨(some 38), none, .load (some 6) (some 2) (.s 37)⟩,
 ⟨(some 39), none, .mv (.s 5)⟩,
 ⟨(some 40), none, .call (.c (.fn 35 [] [])) [(.s 36), (.s 38), (.s 39)] [0, 1] [] [] true⟩,
 ⟨(some 35), none, .mv (.s 40)⟩,
 ⟨(some 41), none, .extract (.s 35) 0⟩,
 ⟨(some 42), none, .extract (.s 35) 1⟩,
 ⟨(some 6), none, .alloc 3 [.int .i64 0, .int .i64 0]⟩,
 ⟨none, none, .store 2 3 [] (.s 6) (.s 41)⟩,
 ⟨(some 7), none, .mv (.s 42)⟩])
 (.seq
 (.seq
 (.region false [
 ⟨(some 43), none, .mv (.s 7)⟩,
 ⟨(some 44), none, .un .not (.s 43)⟩])
 (.cond (.s 44)
 (.seq
 (.region false [
 ⟨(some 4), none, .mv (.c (.int .i64 9))⟩])
 .ret)
 .skip))
 (.seq
 (.region false [
 ⟨(some 45), none, .mv (.s 0)⟩,
 ⟨(some 46), none, .load (some 2) (some 3) (.s 6)⟩,
 ⟨(some 47), none, .nilchk (.s 45)⟩,
 ⟨(some 48), none, .faddr 4 (.s 47)⟩,
 ⟨none, none, .store 2 0 [] (.s 48) (.s 46)⟩])
 (.seq
 (.region false [
 ⟨(some 49), none, .mv (.s 0)⟩,
 ⟨(some 50), none, .nilchk (.s 49)⟩,
 ⟨(some 51), none, .faddr 3 (.s 50)⟩,
 ⟨(some 52), none, .load none (some 0) (.s 51)⟩,
 ⟨(some 53), none, .mv (.s 5)⟩,
 ⟨(some 54), none, .bin .add .int (.s 52) (.s 53)⟩,
 ⟨(some 55), none, .nilchk (.s 49)⟩,
 ⟨(some 56), none, .faddr 3 (.s 55)⟩,
 ⟨none, none, .store 1 0 [] (.s 56) (.s 54)⟩])
 (.seq
 (.region true [
 ⟨(some 57), none, .mv (.s 0)⟩,
 ⟨(some 58), none, .nilchk (.s 57)⟩,
 ⟨(some 59), none, .faddr 2 (.s 58)⟩,
 ⟨(some 60), none, .load none (some 0) (.s 59)⟩,
 ⟨(some 61), none, .faddr 1 (.s 3)⟩,
 ⟨(some 62), none, .load (some 6) (some 2) (.s 61)⟩,
 ⟨(some 63), none, .maplk 1 [some .u8, some .u8, some .u8, some .u8, some .i64, some .i64] false (.s 60) (.s 62)⟩,
 ⟨(some 64), none, .mv (.s 5)⟩,
 ⟨(some 65), none, .bin .add .int (.s 63) (.s 64)⟩,
 ⟨(some 66), none, .mapen 1 [some .u8, some .u8, some .u8, some .u8, some .i64, some .i64] (.s 60) (.s 62)⟩,
 ⟨(some 67), none, .extract (.s 66) 1⟩,
 ⟨none, none, .mapst 1 (.s 60) (.s 67) (.s 65)⟩])
 (.seq
 (.seq
 (.region true [
 ⟨(some 68), none, .mv (.s 0)⟩,
 ⟨(some 69), none, .nilchk (.s 68)⟩,
 ⟨(some 70), none, .faddr 2 (.s 69)⟩,
 ⟨(some 71), none, .load none (some 0) (.s 70)⟩,
 ⟨(some 72), none, .faddr 1 (.s 3)⟩,
 ⟨(some 73), none, .load (some 6) (some 2) (.s 72)⟩,
 ⟨(some 74), none, .maplk 1 [some .u8, some .u8, some .u8, some .u8, some .i64, some .i64] false (.s 71) (.s 73)⟩,
 ⟨(some 75), none, .bin .eql .int (.s 74) (.c (.int .i64 0))⟩])
 (.cond (.s 75)
 (.region true [
 ⟨(some 76), none, .mv (.s 0)⟩,
 ⟨(some 77), none, .nilchk (.s 76)⟩,
 ⟨(some 78), none, .faddr 2 (.s 77)⟩,
 ⟨(some 79), none, .load none (some 0) (.s 78)⟩,
 ⟨(some 80), none, .faddr 1 (.s 3)⟩,
 ⟨(some 81), none, .load (some 6) (some 2) (.s 80)⟩,
 ⟨none, none, .mapdl 1 [some .u8, some .u8, some .u8, some .u8, some .i64, some .i64] (.s 79) (.s 81)⟩])
 .skip))
 (.seq
 (.region false [
 ⟨(some 4), none, .mv (.c (.int .i64 0))⟩])
 .ret))))))))))) }
/- (*cuboid/base.Base).Undo -/
def f18 : MFun := { nt := 13, np := 2, no := 1, res := [.slot 4], body :=
 (.seq
 (.region false [
 ⟨(some 3), none, .box 2 (.s 1)⟩,
 ⟨(some 4), none, .mv (.c (.bool false))⟩])
 (.seq
 (.region false [
 ⟨(some 5), none, .faddr 0 (.s 3)⟩,
 ⟨(some 6), none, .load none (some 2) (.s 5)⟩,
 ⟨(some 7), none, .un .not (.s 6)⟩,
 ⟨(some 8), none, .faddr 0 (.s 3)⟩,
 ⟨none, none, .store 1 2 [] (.s 8) (.s 7)⟩])
 (.seq
 (.region false [
 ⟨(some 9), none, .mv (.s 0)⟩,
 ⟨(some 10), none, .load (some 7) (some 2) (.s 3)⟩,
 ⟨(some 11), none, .call (.c (.fn 16 [] [])) [(.s 9), (.s 10)] [0, 1] [] [] true⟩,
 ⟨(some 12), none, .bin .eql .int (.s 11) (.c (.int .i64 0))⟩,
 ⟨(some 4), none, .mv (.s 12)⟩])
 .ret))) }
/- (*cuboid/base.Base).Len -/
def f19 : MFun := { nt := 9, np := 1, no := 0, res := [.slot 2], body :=
 (.seq
 (.region false [
 ⟨(some 2), none, .mv (.c (.int .i64 0))⟩])
 (.seq
 (.seq
 (.region false [
 ⟨(some 3), none, .mv (.s 0)⟩,
 ⟨(some 4), none, .bin .eql .ptr (.s 3) (.c .nilptr)⟩])
 (.cond (.s 4)
 (.seq
 (.region false [
 ⟨(some 2), none, .mv (.c (.int .i64 0))⟩])
 .ret)
 .skip))
 (.seq
 (.region false [
 ⟨(some 5), none, .mv (.s 0)⟩,
 ⟨(some 6), none, .nilchk (.s 5)⟩,
 ⟨(some 7), none, .faddr 3 (.s 6)⟩,
 ⟨(some 8), none, .load none (some 0) (.s 7)⟩,
 ⟨(some 2), none, .mv (.s 8)⟩])
 .ret))) }
/- (*cuboid/base.Base).Mass -/
def f20 : MFun := { nt := 10, np := 1, no := 1, res := [.cell 2 2 (some 2)], body :=
 (.seq
 (.region false [
 ⟨(some 2), none, .alloc 2 [.int .i64 0, .int .i64 0]⟩])
 (.seq
 (.seq
 (.region false [
 ⟨(some 3), none, .mv (.s 0)⟩,
 ⟨(some 4), none, .bin .eql .ptr (.s 3) (.c .nilptr)⟩])
 (.cond (.s 4)
 (.seq
 (.region false [
 ⟨(some 5), none, .build [.int .i64 0, .int .i64 0] []⟩,
 ⟨none, none, .store 2 2 [] (.s 2) (.s 5)⟩])
 .ret)
 .skip))
 (.seq
 (.region false [
 ⟨(some 6), none, .mv (.s 0)⟩,
 ⟨(some 7), none, .nilchk (.s 6)⟩,
 ⟨(some 8), none, .faddr 4 (.s 7)⟩,
 ⟨(some 9), none, .load (some 2) (some 0) (.s 8)⟩,
 ⟨none, none, .store 2 2 [] (.s 2) (.s 9)⟩])
 .ret))) }
/- cuboid/cuboidlaw20.some -/
def f21 : MFun := { nt := 5, np := 0, no := 1, res := [.cell 0 0 (some 2)], body :=
 (.seq
 (.region false [
 ⟨(some 0), none, .alloc 0 [.nilsl, .int .i64 0]⟩])
 (.seq
 (.region false [
 ⟨(some 1), none, .lit none [] 1 1 [.int .i64 0] [(0, 1, (.c (.int .i64 4)))]⟩,
 ⟨(some 2), none, .build [.nilsl, .nilsl] [(0, 1, (.s 1))]⟩,
 ⟨(some 3), none, .lit none [] 1 2 [.nilsl, .nilsl] [(0, 2, (.s 2))]⟩,
 ⟨(some 4), none, .build [.nilsl, .int .i64 0] [(0, 1, (.s 3)), (1, 1, (.c (.int .i64 1)))]⟩,
 ⟨none, none, .store 2 0 [] (.s 0) (.s 4)⟩])
 .ret)) }
/- (*cuboid/base.Base).Has -/
def f22 : MFun := { nt := 13, np := 2, no := 1, res := [.slot 4], body :=
 (.seq
 (.region false [
 ⟨(some 3), none, .box 2 (.s 1)⟩,
 ⟨(some 4), none, .mv (.c (.int .i64 0))⟩])
 (.seq
 (.seq
 (.region false [
 ⟨(some 5), none, .mv (.s 0)⟩,
 ⟨(some 6), none, .bin .eql .ptr (.s 5) (.c .nilptr)⟩])
 (.cond (.s 6)
 (.seq
 (.region false [
 ⟨(some 4), none, .mv (.c (.int .i64 0))⟩])
 .ret)
 .skip))
 (.seq
 (.region true [
 ⟨(some 7), none, .mv (.s 0)⟩,
 ⟨(some 8), none, .nilchk (.s 7)⟩,
 ⟨(some 9), none, .faddr 2 (.s 8)⟩,
 ⟨(some 10), none, .load none (some 0) (.s 9)⟩,
 ⟨(some 11), none, .load (some 6) (some 2) (.s 3)⟩,
 ⟨(some 12), none, .maplk 1 [some .u8, some .u8, some .u8, some .u8, some .i64, some .i64] false (.s 10) (.s 11)⟩,
 ⟨(some 4), none, .mv (.s 12)⟩])
 .ret))) }
/- cuboid/cuboidlaw20.wakes -/
def f9 : MFun := { nt := 83, np := 0, no := 2, res := [.slot 0], body :=
 (.seq
 (.region false [
 ⟨(some 0), none, .mv (.c (.bool false))⟩])
 (.seq
 (.region false [
 ⟨(some 7), none, .call (.c (.fn 21 [] [])) [] [] [] [] true⟩,
 ⟨(some 8), none, .call (.c (.fn 14 [] [])) [(.s 7)] [] [] [(2, 0), (1, 1)] true⟩,
 ⟨(some 1), none, .mv (.s 8)⟩])
 (.seq
 (.region false [
 ⟨(some 9), none, .mv (.s 1)⟩,
 ⟨(some 10), none, .call (.c (.fn 12 [] [])) [(.c (.int .u8 1)), (.c (.int .i64 1152921504606846976))] [] [] [] false⟩,
 ⟨(some 11), none, .build [.bool false, .int .u8 0, .int .u8 0, .int .u8 0, .int .u8 0, .int .i64 0, .int .i64 0] [(1, 6, (.s 10))]⟩,
 ⟨(some 12), none, .call (.c (.fn 16 [] [])) [(.s 9), (.s 11)] [0, 1] [] [] true⟩,
 ⟨(some 2), none, .mv (.s 12)⟩])
 (.seq
 (.region false [
 ⟨(some 13), none, .mv (.s 1)⟩,
 ⟨(some 14), none, .call (.c (.fn 12 [] [])) [(.c (.int .u8 2)), (.c (.int .i64 1152921504606846976))] [] [] [] false⟩,
 ⟨(some 15), none, .build [.bool false, .int .u8 0, .int .u8 0, .int .u8 0, .int .u8 0, .int .i64 0, .int .i64 0] [(1, 6, (.s 14))]⟩,
 ⟨(some 16), none, .call (.c (.fn 16 [] [])) [(.s 13), (.s 15)] [0, 1] [] [] true⟩,
 ⟨(some 3), none, .mv (.s 16)⟩])
 (.seq
 (.region false [
 ⟨(some 17), none, .mv (.s 1)⟩,
 ⟨(some 18), none, .call (.c (.fn 12 [] [])) [(.c (.int .u8 0)), (.c (.int .i64 1))] [] [] [] false⟩,
 ⟨(some 19), none, .build [.bool false, .int .u8 0, .int .u8 0, .int .u8 0, .int .u8 0, .int .i64 0, .int .i64 0] [(1, 6, (.s 18))]⟩,
 ⟨(some 20), none, .call (.c (.fn 16 [] [])) [(.s 17), (.s 19)] [0, 1] [] [] true⟩,
 ⟨(some 4), none, .mv (.s 20)⟩])
 (.seq
 (.region false [
 ⟨(some 21), none, .mv (.s 1)⟩,
 ⟨(some 22), none, .call (.c (.fn 12 [] [])) [(.c (.int .u8 0)), (.c (.int .i64 1))] [] [] [] false⟩,
 ⟨(some 23), none, .build [.bool false, .int .u8 0, .int .u8 0, .int .u8 0, .int .u8 0, .int .i64 0, .int .i64 0] [(0, 1, (.c (.bool true))), (1, 6, (.s 22))]⟩,
 ⟨(some 24), none, .call (.c (.fn 16 [] [])) [(.s 21), (.s 23)] [0, 1] [] [] true⟩,
 ⟨(some 5), none, .mv (.s 24)⟩])
 (.seq
 (.region false [
 ⟨(some 25), none, .mv (.s 1)⟩,
 ⟨(some 26), none, .call (.c (.fn 15 [] [])) [(.s 25)] [0, 1] [] [] true⟩,
 ⟨(some 6), none, .mv (.s 26)⟩])
 (.seq
 (.region true [
 ⟨(some 27), none, .mv (.s 2)⟩,
 ⟨(some 28), none, .bin .eql .int (.s 27) (.c (.int .i64 0))⟩,
 ⟨(some 29), none, .mv (.s 28)⟩,
 ⟨(some 30), (some (29, true)), .mv (.s 3)⟩,
 ⟨(some 31), (some (29, true)), .bin .eql .int (.s 30) (.c (.int .i64 0))⟩,
 ⟨(some 32), none, .pick (.s 29) (.s 31) (.c (.bool false))⟩,
 ⟨(some 33), none, .mv (.s 32)⟩,
 ⟨(some 34), (some (33, true)), .mv (.s 4)⟩,
 ⟨(some 35), (some (33, true)), .bin .eql .int (.s 34) (.c (.int .i64 9))⟩,
 ⟨(some 36), none, .pick (.s 33) (.s 35) (.c (.bool false))⟩,
 ⟨(some 37), none, .mv (.s 36)⟩,
 ⟨(some 38), (some (37, true)), .mv (.s 5)⟩,
 ⟨(some 39), (some (37, true)), .bin .eql .int (.s 38) (.c (.int .i64 8))⟩,
 ⟨(some 40), none, .pick (.s 37) (.s 39) (.c (.bool false))⟩,
 ⟨(some 41), none, .mv (.s 40)⟩,
 ⟨(some 42), (some (41, true)), .mv (.s 6)⟩,
 ⟨(some 43), (some (41, true)), .len (.s 42)⟩,
 ⟨(some 44), (some (41, true)), .bin .eql .int (.s 43) (.c (.int .i64 2))⟩,
 ⟨(some 45), none, .pick (.s 41) (.s 44) (.c (.bool false))⟩,
 ⟨(some 46), none, .mv (.s 45)⟩,
 ⟨(some 47), (some (46, true)), .mv (.s 6)⟩,
 ⟨(some 48), (some (46, true)), .iaddrS 6 (.s 47) (.c (.int .i64 1))⟩,
 ⟨(some 49), (some (46, true)), .load (some 6) none (.s 48)⟩,
 ⟨(some 50), (some (46, true)), .call (.c (.fn 12 [] [])) [(.c (.int .u8 2)), (.c (.int .i64 1152921504606846976))] [] [] [] false⟩,
 ⟨(some 51), (some (46, true)), .bin .eql (.agg [some .u8, some .u8, some .u8, some .u8, some .i64, some .i64]) (.s 49) (.s 50)⟩,
 ⟨(some 52), none, .pick (.s 46) (.s 51) (.c (.bool false))⟩,
 ⟨(some 53), none, .mv (.s 52)⟩,
 ⟨(some 54), (some (53, true)), .mv (.s 1)⟩,
 ⟨(some 55), (some (53, true)), .call (.c (.fn 19 [] [])) [(.s 54)] [0, 1] [] [] true⟩,
 ⟨(some 56), (some (53, true)), .bin .eql .int (.s 55) (.c (.int .i64 2))⟩,
 ⟨(some 57), none, .pick (.s 53) (.s 56) (.c (.bool false))⟩,
 ⟨(some 58), none, .mv (.s 57)⟩,
 ⟨(some 59), (some (58, true)), .mv (.s 1)⟩,
 ⟨(some 60), (some (58, true)), .mv (.s 6)⟩,
 ⟨(some 61), (some (58, true)), .iaddrS 6 (.s 60) (.c (.int .i64 0))⟩,
 ⟨(some 62), (some (58, true)), .load (some 6) none (.s 61)⟩,
 ⟨(some 63), (some (58, true)), .call (.c (.fn 22 [] [])) [(.s 59), (.s 62)] [0, 1] [] [] true⟩,
 ⟨(some 64), (some (58, true)), .bin .eql .int (.s 63) (.c (.int .i64 1))⟩,
 ⟨(some 65), none, .pick (.s 58) (.s 64) (.c (.bool false))⟩,
 ⟨(some 66), none, .mv (.s 65)⟩,
 ⟨(some 67), (some (66, true)), .mv (.s 1)⟩,
 ⟨(some 68), (some (66, true)), .call (.c (.fn 20 [] [])) [(.s 67)] [0, 1] [] [] true⟩,
 ⟨(some 69), (some (66, true)), .index 2 1 false (.s 68) (.c (.int .i64 0))⟩,
 ⟨(some 70), (some (66, true)), .bin .eql .int (.s 69) (.c (.int .i64 2305843009213693952))⟩,
 ⟨(some 71), none, .pick (.s 66) (.s 70) (.c (.bool false))⟩,
 ⟨(some 72), none, .mv (.s 71)⟩,
 ⟨(some 73), (some (72, true)), .mv (.s 1)⟩,
 ⟨(some 74), (some (72, true)), .call (.c (.fn 12 [] [])) [(.c (.int .u8 1)), (.c (.int .i64 1152921504606846976))] [] [] [] false⟩,
 ⟨(some 75), (some (72, true)), .build [.bool false, .int .u8 0, .int .u8 0, .int .u8 0, .int .u8 0, .int .i64 0, .int .i64 0] [(1, 6, (.s 74))]⟩,
 ⟨(some 76), (some (72, true)), .call (.c (.fn 18 [] [])) [(.s 73), (.s 75)] [0, 1] [] [] true⟩,
 ⟨(some 77), none, .pick (.s 72) (.s 76) (.c (.bool false))⟩,
 ⟨(some 78), none, .mv (.s 77)⟩,
 ⟨(some 79), (some (78, true)), .mv (.s 1)⟩,
 ⟨(some 80), (some (78, true)), .call (.c (.fn 19 [] [])) [(.s 79)] [0, 1] [] [] true⟩,
 ⟨(some 81), (some (78, true)), .bin .eql .int (.s 80) (.c (.int .i64 1))⟩,
 ⟨(some 82), none, .pick (.s 78) (.s 81) (.c (.bool false))⟩,
 ⟨(some 0), none, .mv (.s 82)⟩])
 .ret)))))))) }
/- cuboid/cuboidref03.Good -/
def f45 : MFun := { nt := 97, np := 1, no := 1, res := [.slot 2], body :=
 (.seq
 (.region false [
 ⟨(some 1), none, .box 0 (.s 0)⟩,
 ⟨(some 2), none, .mv (.c (.bool false))⟩])
 (.seq
 (.region false [
 ⟨(some 7), none, .faddr 0 (.s 1)⟩,
 ⟨(some 8), none, .load none (some 0) (.s 7)⟩,
 ⟨(some 9), none, .len (.s 8)⟩,
 ⟨(some 3), none, .mv (.s 9)⟩])
 (.seq
 (.seq
 (.region false [
 ⟨(some 10), none, .mv (.s 3)⟩,
 ⟨(some 11), none, .bin .lss .int (.s 10) (.c (.int .i64 1))⟩,
 ⟨(some 12), none, .mv (.s 11)⟩,
 ⟨(some 13), (some (12, false)), .mv (.s 3)⟩,
 ⟨(some 14), (some (12, false)), .bin .gtr .int (.s 13) (.c (.int .i64 4))⟩,
 ⟨(some 15), none, .pick (.s 12) (.c (.bool true)) (.s 14)⟩,
 ⟨(some 16), none, .mv (.s 15)⟩,
 ⟨(some 17), (some (16, false)), .faddr 1 (.s 1)⟩,
 ⟨(some 18), (some (16, false)), .load none (some 0) (.s 17)⟩,
 ⟨(some 19), (some (16, false)), .len (.s 18)⟩,
 ⟨(some 20), (some (16, false)), .mv (.s 3)⟩,
 ⟨(some 21), (some (16, false)), .bin .sub .int (.s 20) (.c (.int .i64 1))⟩,
 ⟨(some 22), (some (16, false)), .bin .neq .int (.s 19) (.s 21)⟩,
 ⟨(some 23), none, .pick (.s 16) (.c (.bool true)) (.s 22)⟩])
 (.cond (.s 23)
 (.seq
 (.region false [
 ⟨(some 2), none, .mv (.c (.bool false))⟩])
 .ret)
 .skip))
 (.seq
 (.seq
 (.region false [
 ⟨(some 4), none, .mv (.c (.int .i64 0))⟩])
 (.block 0
 (.loop [1, 3, 4] [0]
 (.seq
 (.seq
 (.region false [
 ⟨(some 24), none, .mv (.s 4)⟩,
 ⟨(some 25), none, .mv (.s 3)⟩,
 ⟨(some 26), none, .bin .lss .int (.s 24) (.s 25)⟩])
 (.cond (.s 26)
 .skip
 (.exit 0)))
 (.seq
 (.block 1
 (.seq
 (.region false [
 ⟨(some 29), none, .faddr 0 (.s 1)⟩,
 ⟨(some 30), none, .load none (some 0) (.s 29)⟩,
 ⟨(some 31), none, .mv (.s 4)⟩,
 ⟨(some 32), none, .iaddrS 1 (.s 30) (.s 31)⟩,
 ⟨(some 33), none, .load none none (.s 32)⟩,
 ⟨(some 34), none, .bin .lss .int (.s 33) (.c (.int .i64 1))⟩,
 ⟨(some 35), none, .mv (.s 34)⟩,
 ⟨(some 36), (some (35, false)), .faddr 0 (.s 1)⟩,
 ⟨(some 37), (some (35, false)), .load none (some 0) (.s 36)⟩,
 ⟨(some 38), (some (35, false)), .mv (.s 4)⟩,
 ⟨(some 39), (some (35, false)), .iaddrS 1 (.s 37) (.s 38)⟩,
 ⟨(some 40), (some (35, false)), .load none none (.s 39)⟩,
 ⟨(some 41), (some (35, false)), .bin .gtr .int (.s 40) (.c (.int .i64 40))⟩,
 ⟨(some 42), none, .pick (.s 35) (.c (.bool true)) (.s 41)⟩])
 (.cond (.s 42)
 (.seq
 (.region false [
 ⟨(some 2), none, .mv (.c (.bool false))⟩])
 .ret)
 .skip)))
 (.region false [
 ⟨(some 27), none, .mv (.s 4)⟩,
 ⟨(some 28), none, .bin .add .int (.s 27) (.c (.int .i64 1))⟩,
 ⟨(some 4), none, .mv (.s 28)⟩]))))))
 (.seq
 (.seq
 (.region false [
 ⟨(some 5), none, .mv (.c (.int .i64 0))⟩])
 (.block 2
 (.loop [1, 3, 5] [0]
 (.seq
 (.seq
 (.region false [
 ⟨(some 43), none, .mv (.s 5)⟩,
 ⟨(some 44), none, .mv (.s 3)⟩,
 ⟨(some 45), none, .bin .sub .int (.s 44) (.c (.int .i64 1))⟩,
 ⟨(some 46), none, .bin .lss .int (.s 43) (.s 45)⟩])
 (.cond (.s 46)
 .skip
 (.exit 2)))
 (.seq
 (.block 3
 (.seq
 (.seq
 (.region true [
 ⟨(some 49), none, .faddr 1 (.s 1)⟩,
 ⟨(some 50), none, .load none (some 0) (.s 49)⟩,
 ⟨(some 51), none, .mv (.s 5)⟩,
 ⟨(some 52), none, .iaddrS 1 (.s 50) (.s 51)⟩,
 ⟨(some 53), none, .load none none (.s 52)⟩,
 ⟨(some 54), none, .len (.s 53)⟩,
 ⟨(some 55), none, .faddr 0 (.s 1)⟩,
 ⟨(some 56), none, .load none (some 0) (.s 55)⟩,
 ⟨(some 57), none, .mv (.s 5)⟩,
 ⟨(some 58), none, .iaddrS 1 (.s 56) (.s 57)⟩,
 ⟨(some 59), none, .load none none (.s 58)⟩,
 ⟨(some 60), none, .bin .neq .int (.s 54) (.s 59)⟩])
 (.cond (.s 60)
 (.seq
 (.region false [
 ⟨(some 2), none, .mv (.c (.bool false))⟩])
 .ret)
 .skip))
 (.seq
 (.region false [
 ⟨(some 6), none, .mv (.c (.int .i64 0))⟩])
 (.block 4
 (.loop [1, 3, 5, 6] [0]
 (.seq
 (.seq
 (.region false [
 ⟨(some 61), none, .mv (.s 6)⟩,
 ⟨(some 62), none, .faddr 1 (.s 1)⟩,
 ⟨(some 63), none, .load none (some 0) (.s 62)⟩,
 ⟨(some 64), none, .mv (.s 5)⟩,
 ⟨(some 65), none, .iaddrS 1 (.s 63) (.s 64)⟩,
 ⟨(some 66), none, .load none none (.s 65)⟩,
 ⟨(some 67), none, .len (.s 66)⟩,
 ⟨(some 68), none, .bin .lss .int (.s 61) (.s 67)⟩])
 (.cond (.s 68)
 .skip
 (.exit 4)))
 (.seq
 (.block 5
 (.seq
 (.region true [
 ⟨(some 71), none, .faddr 1 (.s 1)⟩,
 ⟨(some 72), none, .load none (some 0) (.s 71)⟩,
 ⟨(some 73), none, .mv (.s 5)⟩,
 ⟨(some 74), none, .iaddrS 1 (.s 72) (.s 73)⟩,
 ⟨(some 75), none, .load none none (.s 74)⟩,
 ⟨(some 76), none, .mv (.s 6)⟩,
 ⟨(some 77), none, .iaddrS 1 (.s 75) (.s 76)⟩,
 ⟨(some 78), none, .load none none (.s 77)⟩,
 ⟨(some 79), none, .bin .lss .int (.s 78) (.c (.int .i64 0))⟩,
 ⟨(some 80), none, .mv (.s 79)⟩,
 ⟨(some 81), (some (80, false)), .faddr 1 (.s 1)⟩,
 ⟨(some 82), (some (80, false)), .load none (some 0) (.s 81)⟩,
 ⟨(some 83), (some (80, false)), .mv (.s 5)⟩,
 ⟨(some 84), (some (80, false)), .iaddrS 1 (.s 82) (.s 83)⟩,
 ⟨(some 85), (some (80, false)), .load none none (.s 84)⟩,
 ⟨(some 86), (some (80, false)), .mv (.s 6)⟩,
 ⟨(some 87), (some (80, false)), .iaddrS 1 (.s 85) (.s 86)⟩,
 ⟨(some 88), (some (80, false)), .load none none (.s 87)⟩,
 ⟨(some 89), (some (80, false)), .faddr 0 (.s 1)⟩,
 ⟨(some 90), (some (80, false)), .load none (some 0) (.s 89)⟩,
 ⟨(some 91), (some (80, false)), .mv (.s 5)⟩,
 ⟨(some 92), (some (80, false)), .bin .add .int (.s 91) (.c (.int .i64 1))⟩,
 ⟨(some 93), (some (80, false)), .iaddrS 1 (.s 90) (.s 92)⟩,
 ⟨(some 94), (some (80, false)), .load none none (.s 93)⟩,
 ⟨(some 95), (some (80, false)), .bin .geq .int (.s 88) (.s 94)⟩,
 ⟨(some 96), none, .pick (.s 80) (.c (.bool true)) (.s 95)⟩])
 (.cond (.s 96)
 (.seq
 (.region false [
 ⟨(some 2), none, .mv (.c (.bool false))⟩])
 .ret)
 .skip)))
 (.region false [
 ⟨(some 69), none, .mv (.s 6)⟩,
 ⟨(some 70), none, .bin .add .int (.s 69) (.c (.int .i64 1))⟩,
 ⟨(some 6), none, .mv (.s 70)⟩]))))))))
 (.region false [
 ⟨(some 47), none, .mv (.s 5)⟩,
 ⟨(some 48), none, .bin .add .int (.s 47) (.c (.int .i64 1))⟩,
 ⟨(some 5), none, .mv (.s 48)⟩]))))))
 (.seq
 (.region false [
 ⟨(some 2), none, .mv (.c (.bool true))⟩])
 .ret)))))) }
/- cuboid/cuboidref04.Good -/
def f29 : MFun := { nt := 38, np := 1, no := 1, res := [.slot 2], body :=
 (.seq
 (.region false [
 ⟨(some 1), none, .box 0 (.s 0)⟩,
 ⟨(some 2), none, .mv (.c (.bool false))⟩])
 (.seq
 (.seq
 (.region false [
 ⟨(some 4), none, .faddr 0 (.s 1)⟩,
 ⟨(some 5), none, .load none (some 0) (.s 4)⟩,
 ⟨(some 6), none, .len (.s 5)⟩,
 ⟨(some 7), none, .bin .lss .int (.s 6) (.c (.int .i64 1))⟩,
 ⟨(some 8), none, .mv (.s 7)⟩,
 ⟨(some 9), (some (8, false)), .faddr 0 (.s 1)⟩,
 ⟨(some 10), (some (8, false)), .load none (some 0) (.s 9)⟩,
 ⟨(some 11), (some (8, false)), .len (.s 10)⟩,
 ⟨(some 12), (some (8, false)), .bin .gtr .int (.s 11) (.c (.int .i64 4))⟩,
 ⟨(some 13), none, .pick (.s 8) (.c (.bool true)) (.s 12)⟩,
 ⟨(some 14), none, .mv (.s 13)⟩,
 ⟨(some 15), (some (14, false)), .faddr 1 (.s 1)⟩,
 ⟨(some 16), (some (14, false)), .load none (some 0) (.s 15)⟩,
 ⟨(some 17), (some (14, false)), .bin .lss .int (.s 16) (.c (.int .i64 1))⟩,
 ⟨(some 18), none, .pick (.s 14) (.c (.bool true)) (.s 17)⟩,
 ⟨(some 19), none, .mv (.s 18)⟩,
 ⟨(some 20), (some (19, false)), .faddr 1 (.s 1)⟩,
 ⟨(some 21), (some (19, false)), .load none (some 0) (.s 20)⟩,
 ⟨(some 22), (some (19, false)), .bin .gtr .int (.s 21) (.c (.int .i64 2))⟩,
 ⟨(some 23), none, .pick (.s 19) (.c (.bool true)) (.s 22)⟩])
 (.cond (.s 23)
 (.seq
 (.region false [
 ⟨(some 2), none, .mv (.c (.bool false))⟩])
 .ret)
 .skip))
 (.seq
 (.seq
 (.region false [
 ⟨(some 3), none, .mv (.c (.int .i64 0))⟩])
 (.block 0
 (.loop [1, 3] [0]
 (.seq
 (.seq
 (.region false [
 ⟨(some 24), none, .mv (.s 3)⟩,
 ⟨(some 25), none, .faddr 0 (.s 1)⟩,
 ⟨(some 26), none, .load none (some 0) (.s 25)⟩,
 ⟨(some 27), none, .len (.s 26)⟩,
 ⟨(some 28), none, .bin .lss .int (.s 24) (.s 27)⟩])
 (.cond (.s 28)
 .skip
 (.exit 0)))
 (.seq
 (.block 1
 (.seq
 (.region false [
 ⟨(some 31), none, .faddr 0 (.s 1)⟩,
 ⟨(some 32), none, .load none (some 0) (.s 31)⟩,
 ⟨(some 33), none, .mv (.s 3)⟩,
 ⟨(some 34), none, .iaddrS 2 (.s 32) (.s 33)⟩,
 ⟨(some 35), none, .load (some 2) none (.s 34)⟩,
 ⟨(some 36), none, .call (.c (.fn 45 [] [])) [(.s 35)] [] [] [] false⟩,
 ⟨(some 37), none, .un .not (.s 36)⟩])
 (.cond (.s 37)
 (.seq
 (.region false [
 ⟨(some 2), none, .mv (.c (.bool false))⟩])
 .ret)
 .skip)))
 (.region false [
 ⟨(some 29), none, .mv (.s 3)⟩,
 ⟨(some 30), none, .bin .add .int (.s 29) (.c (.int .i64 1))⟩,
 ⟨(some 3), none, .mv (.s 30)⟩]))))))
 (.seq
 (.region false [
 ⟨(some 2), none, .mv (.c (.bool true))⟩])
 .ret)))) }
/- cuboid/cuboidref20.Good -/
def f13 : MFun := { nt := 5, np := 1, no := 1, res := [.slot 2], body :=
 (.seq
 (.region false [
 ⟨(some 1), none, .box 0 (.s 0)⟩,
 ⟨(some 2), none, .mv (.c (.bool false))⟩])
 (.seq
 (.region false [
 ⟨(some 3), none, .load (some 2) (some 0) (.s 1)⟩,
 ⟨(some 4), none, .call (.c (.fn 29 [] [])) [(.s 3)] [] [] [] false⟩,
 ⟨(some 2), none, .mv (.s 4)⟩])
 .ret)) }
/- cuboid/cuboidref03.Size -/
def f74 : MFun := { nt := 31, np := 2, no := 1, res := [.slot 4], body :=
 (.seq
 (.region false [
 ⟨(some 2), none, .box 0 (.s 0)⟩,
 ⟨(some 4), none, .mv (.c (.int .i64 0))⟩])
 (.seq
 (.block 0
 (.seq
 (.region false [
 ⟨(some 6), none, .load (some 2) (some 0) (.s 2)⟩,
 ⟨(some 7), none, .call (.c (.fn 45 [] [])) [(.s 6)] [] [] [] false⟩,
 ⟨(some 8), none, .un .not (.s 7)⟩,
 ⟨(some 9), none, .mv (.s 8)⟩,
 ⟨(some 10), (some (9, false)), .mv (.s 1)⟩,
 ⟨(some 11), (some (9, false)), .bin .lss .int (.s 10) (.c (.int .i64 0))⟩,
 ⟨(some 12), none, .pick (.s 9) (.c (.bool true)) (.s 11)⟩,
 ⟨(some 13), none, .mv (.s 12)⟩,
 ⟨(some 14), (some (13, false)), .mv (.s 1)⟩,
 ⟨(some 15), (some (13, false)), .faddr 0 (.s 2)⟩,
 ⟨(some 16), (some (13, false)), .load none (some 0) (.s 15)⟩,
 ⟨(some 17), (some (13, false)), .len (.s 16)⟩,
 ⟨(some 18), (some (13, false)), .bin .gtr .int (.s 14) (.s 17)⟩,
 ⟨(some 19), none, .pick (.s 13) (.c (.bool true)) (.s 18)⟩,
 ⟨(some 5), none, .mv (.s 19)⟩])
 (.cond (.s 5)
 (.seq
 (.region false [
 ⟨(some 4), none, .mv (.c (.int .i64 0))⟩])
 .ret)
 (.seq
 (.region false [
 ⟨(some 21), none, .mv (.s 1)⟩,
 ⟨(some 22), none, .faddr 0 (.s 2)⟩,
 ⟨(some 23), none, .load none (some 0) (.s 22)⟩,
 ⟨(some 24), none, .len (.s 23)⟩,
 ⟨(some 25), none, .bin .eql .int (.s 21) (.s 24)⟩,
 ⟨(some 20), none, .mv (.s 25)⟩])
 (.cond (.s 20)
 (.seq
 (.region false [
 ⟨(some 4), none, .mv (.c (.int .i64 1))⟩])
 .ret)
 .skip)))))
 (.seq
 (.region false [
 ⟨(some 26), none, .faddr 0 (.s 2)⟩,
 ⟨(some 27), none, .load none (some 0) (.s 26)⟩,
 ⟨(some 28), none, .mv (.s 1)⟩,
 ⟨(some 29), none, .iaddrS 1 (.s 27) (.s 28)⟩,
 ⟨(some 30), none, .load none none (.s 29)⟩,
 ⟨(some 4), none, .mv (.s 30)⟩])
 .ret))) }
/- cuboid/cuboidref04.Right -/
def f59 : MFun := { nt := 45, np := 3, no := 3, res := [.slot 6], body :=
 (.seq
 (.region false [
 ⟨(some 3), none, .box 0 (.s 0)⟩,
 ⟨(some 4), none, .box 1 (.s 1)⟩,
 ⟨(some 5), none, .box 2 (.s 2)⟩,
 ⟨(some 6), none, .mv (.c (.bool false))⟩])
 (.seq
 (.seq
 (.region false [
 ⟨(some 8), none, .load (some 2) (some 0) (.s 3)⟩,
 ⟨(some 9), none, .call (.c (.fn 29 [] [])) [(.s 8)] [] [] [] false⟩,
 ⟨(some 10), none, .un .not (.s 9)⟩])
 (.cond (.s 10)
 (.seq
 (.region false [
 ⟨(some 6), none, .mv (.c (.bool false))⟩])
 .ret)
 .skip))
 (.seq
 (.seq
 (.region false [
 ⟨(some 7), none, .mv (.c (.int .i64 0))⟩])
 (.block 0
 (.loop [3, 4, 5, 7] [0, 1, 2]
 (.seq
 (.seq
 (.region false [
 ⟨(some 11), none, .mv (.s 7)⟩,
 ⟨(some 12), none, .bin .lss .int (.s 11) (.c (.int .i64 4))⟩])
 (.cond (.s 12)
 .skip
 (.exit 0)))
 (.seq
 (.block 1
 (.seq
 (.region false [
 ⟨(some 15), none, .mv (.s 7)⟩,
 ⟨(some 16), none, .faddr 0 (.s 3)⟩,
 ⟨(some 17), none, .load none (some 0) (.s 16)⟩,
 ⟨(some 18), none, .len (.s 17)⟩,
 ⟨(some 19), none, .bin .geq .int (.s 15) (.s 18)⟩])
 (.cond (.s 19)
 (.seq
 (.region false [
 ⟨(some 20), none, .mv (.s 7)⟩,
 ⟨(some 21), none, .iaddrA 4 1 (.s 4) (.s 20)⟩,
 ⟨(some 22), none, .load none (some 1) (.s 21)⟩,
 ⟨(some 23), none, .bin .neq .int (.s 22) (.c (.int .u8 0))⟩,
 ⟨(some 24), none, .mv (.s 23)⟩,
 ⟨(some 25), (some (24, false)), .mv (.s 7)⟩,
 ⟨(some 26), (some (24, false)), .iaddrA 4 1 (.s 5) (.s 25)⟩,
 ⟨(some 27), (some (24, false)), .load none (some 2) (.s 26)⟩,
 ⟨(some 28), (some (24, false)), .bin .neq .int (.s 27) (.c (.int .u8 0))⟩,
 ⟨(some 29), none, .pick (.s 24) (.c (.bool true)) (.s 28)⟩])
 (.cond (.s 29)
 (.seq
 (.region false [
 ⟨(some 6), none, .mv (.c (.bool false))⟩])
 .ret)
 .skip))
 (.seq
 (.region true [
 ⟨(some 30), none, .mv (.s 7)⟩,
 ⟨(some 31), none, .iaddrA 4 1 (.s 5) (.s 30)⟩,
 ⟨(some 32), none, .load none (some 2) (.s 31)⟩,
 ⟨(some 33), none, .conv .i64 (.s 32)⟩,
 ⟨(some 34), none, .faddr 0 (.s 3)⟩,
 ⟨(some 35), none, .load none (some 0) (.s 34)⟩,
 ⟨(some 36), none, .mv (.s 7)⟩,
 ⟨(some 37), none, .iaddrS 2 (.s 35) (.s 36)⟩,
 ⟨(some 38), none, .load (some 2) none (.s 37)⟩,
 ⟨(some 39), none, .mv (.s 7)⟩,
 ⟨(some 40), none, .iaddrA 4 1 (.s 4) (.s 39)⟩,
 ⟨(some 41), none, .load none (some 1) (.s 40)⟩,
 ⟨(some 42), none, .conv .i64 (.s 41)⟩,
 ⟨(some 43), none, .call (.c (.fn 74 [] [])) [(.s 38), (.s 42)] [] [] [] false⟩,
 ⟨(some 44), none, .bin .geq .int (.s 33) (.s 43)⟩])
 (.cond (.s 44)
 (.seq
 (.region false [
 ⟨(some 6), none, .mv (.c (.bool false))⟩])
 .ret)
 .skip)))))
 (.region false [
 ⟨(some 13), none, .mv (.s 7)⟩,
 ⟨(some 14), none, .bin .add .int (.s 13) (.c (.int .i64 1))⟩,
 ⟨(some 7), none, .mv (.s 14)⟩]))))))
 (.seq
 (.region false [
 ⟨(some 6), none, .mv (.c (.bool true))⟩])
 .ret)))) }
/- cuboid/cuboidref05.Good -/
def f60 : MFun := { nt := 9, np := 2, no := 2, res := [.slot 4], body :=
 (.seq
 (.region false [
 ⟨(some 2), none, .box 0 (.s 0)⟩,
 ⟨(some 3), none, .box 1 (.s 1)⟩,
 ⟨(some 4), none, .mv (.c (.bool false))⟩])
 (.seq
 (.region false [
 ⟨(some 5), none, .load (some 2) (some 0) (.s 2)⟩,
 ⟨(some 6), none, .load (some 4) (some 1) (.s 3)⟩,
 ⟨(some 7), none, .build [.int .u8 0, .int .u8 0, .int .u8 0, .int .u8 0] []⟩,
 ⟨(some 8), none, .call (.c (.fn 59 [] [])) [(.s 5), (.s 6), (.s 7)] [] [] [] false⟩,
 ⟨(some 4), none, .mv (.s 8)⟩])
 .ret)) }
/- cuboid/cuboidref07.Good -/
def f40 : MFun := { nt := 29, np := 2, no := 2, res := [.slot 4], body :=
 (.seq
 (.region false [
 ⟨(some 2), none, .box 0 (.s 0)⟩,
 ⟨(some 3), none, .box 1 (.s 1)⟩,
 ⟨(some 4), none, .mv (.c (.bool false))⟩])
 (.seq
 (.seq
 (.region false [
 ⟨(some 6), none, .load (some 2) (some 0) (.s 2)⟩,
 ⟨(some 7), none, .build [.int .u8 0, .int .u8 0, .int .u8 0, .int .u8 0] []⟩,
 ⟨(some 8), none, .faddr 0 (.s 3)⟩,
 ⟨(some 9), none, .load (some 4) (some 1) (.s 8)⟩,
 ⟨(some 10), none, .call (.c (.fn 59 [] [])) [(.s 6), (.s 7), (.s 9)] [] [] [] false⟩,
 ⟨(some 11), none, .un .not (.s 10)⟩,
 ⟨(some 12), none, .mv (.s 11)⟩,
 ⟨(some 13), (some (12, false)), .load (some 2) (some 0) (.s 2)⟩,
 ⟨(some 14), (some (12, false)), .build [.int .u8 0, .int .u8 0, .int .u8 0, .int .u8 0] []⟩,
 ⟨(some 15), (some (12, false)), .call (.c (.fn 60 [] [])) [(.s 13), (.s 14)] [] [] [] false⟩,
 ⟨(some 16), (some (12, false)), .un .not (.s 15)⟩,
 ⟨(some 17), none, .pick (.s 12) (.c (.bool true)) (.s 16)⟩])
 (.cond (.s 17)
 (.seq
 (.region false [
 ⟨(some 4), none, .mv (.c (.bool false))⟩])
 .ret)
 .skip))
 (.seq
 (.seq
 (.region false [
 ⟨(some 18), none, .faddr 1 (.s 2)⟩,
 ⟨(some 19), none, .load none (some 0) (.s 18)⟩,
 ⟨(some 5), none, .mv (.s 19)⟩])
 (.block 0
 (.loop [3, 5] [1]
 (.seq
 (.seq
 (.region false [
 ⟨(some 20), none, .mv (.s 5)⟩,
 ⟨(some 21), none, .bin .lss .int (.s 20) (.c (.int .i64 2))⟩])
 (.cond (.s 21)
 .skip
 (.exit 0)))
 (.seq
 (.block 1
 (.seq
 (.region false [
 ⟨(some 24), none, .mv (.s 5)⟩,
 ⟨(some 25), none, .faddr 4 (.s 3)⟩,
 ⟨(some 26), none, .iaddrA 2 1 (.s 25) (.s 24)⟩,
 ⟨(some 27), none, .load none (some 1) (.s 26)⟩,
 ⟨(some 28), none, .bin .neq .int (.s 27) (.c (.int .i64 0))⟩])
 (.cond (.s 28)
 (.seq
 (.region false [
 ⟨(some 4), none, .mv (.c (.bool false))⟩])
 .ret)
 .skip)))
 (.region false [
 ⟨(some 22), none, .mv (.s 5)⟩,
 ⟨(some 23), none, .bin .add .int (.s 22) (.c (.int .i64 1))⟩,
 ⟨(some 5), none, .mv (.s 23)⟩]))))))
 (.seq
 (.region false [
 ⟨(some 4), none, .mv (.c (.bool true))⟩])
 .ret)))) }
/- (*cuboid/cuboidref20.Base).find -/
def f41 : MFun := { nt := 25, np := 2, no := 1, res := [.slot 4], body :=
 (.seq
 (.region false [
 ⟨(some 3), none, .box 1 (.s 1)⟩,
 ⟨(some 4), none, .mv (.c (.int .i64 0))⟩])
 (.seq
 (.seq
 (.region false [
 ⟨(some 5), none, .mv (.c (.int .i64 0))⟩])
 (.block 0
 (.loop [0, 3, 5] [1]
 (.seq
 (.seq
 (.region false [
 ⟨(some 6), none, .mv (.s 5)⟩,
 ⟨(some 7), none, .mv (.s 0)⟩,
 ⟨(some 8), none, .nilchk (.s 7)⟩,
 ⟨(some 9), none, .faddr 2 (.s 8)⟩,
 ⟨(some 10), none, .load none (some 0) (.s 9)⟩,
 ⟨(some 11), none, .len (.s 10)⟩,
 ⟨(some 12), none, .bin .lss .int (.s 6) (.s 11)⟩])
 (.cond (.s 12)
 .skip
 (.exit 0)))
 (.seq
 (.block 1
 (.seq
 (.region true [
 ⟨(some 15), none, .mv (.s 0)⟩,
 ⟨(some 16), none, .nilchk (.s 15)⟩,
 ⟨(some 17), none, .faddr 2 (.s 16)⟩,
 ⟨(some 18), none, .load none (some 0) (.s 17)⟩,
 ⟨(some 19), none, .mv (.s 5)⟩,
 ⟨(some 20), none, .iaddrS 6 (.s 18) (.s 19)⟩,
 ⟨(some 21), none, .load (some 6) none (.s 20)⟩,
 ⟨(some 22), none, .load (some 6) (some 1) (.s 3)⟩,
 ⟨(some 23), none, .bin .eql (.agg [some .u8, some .u8, some .u8, some .u8, some .i64, some .i64]) (.s 21) (.s 22)⟩])
 (.cond (.s 23)
 (.seq
 (.region false [
 ⟨(some 24), none, .mv (.s 5)⟩,
 ⟨(some 4), none, .mv (.s 24)⟩])
 .ret)
 .skip)))
 (.region false [
 ⟨(some 13), none, .mv (.s 5)⟩,
 ⟨(some 14), none, .bin .add .int (.s 13) (.c (.int .i64 1))⟩,
 ⟨(some 5), none, .mv (.s 14)⟩]))))))
 (.seq
 (.region false [
 ⟨(some 4), none, .mv (.c (.int .i64 (-1)))⟩])
 .ret))) }
/- cuboid/cuboidref02.Key -/
def f75 : MFun := { nt := 17, np := 1, no := 1, res := [.slot 2], body :=
 (.seq
 (.region false [
 ⟨(some 1), none, .box 0 (.s 0)⟩,
 ⟨(some 2), none, .mv (.c (.int .u32 0))⟩])
 (.seq
 (.region false [
 ⟨(some 3), none, .mv (.c (.int .u32 0))⟩])
 (.seq
 (.seq
 (.region false [
 ⟨(some 4), none, .mv (.c (.int .i64 0))⟩])
 (.block 0
 (.loop [1, 3, 4] [0]
 (.seq
 (.seq
 (.region false [
 ⟨(some 5), none, .mv (.s 4)⟩,
 ⟨(some 6), none, .bin .lss .int (.s 5) (.c (.int .i64 4))⟩])
 (.cond (.s 6)
 .skip
 (.exit 0)))
 (.seq
 (.block 1
 (.region false [
 ⟨(some 9), none, .mv (.s 3)⟩,
 ⟨(some 10), none, .bin .mul .int (.s 9) (.c (.int .u32 256))⟩,
 ⟨(some 11), none, .mv (.s 4)⟩,
 ⟨(some 12), none, .iaddrA 4 1 (.s 1) (.s 11)⟩,
 ⟨(some 13), none, .load none (some 0) (.s 12)⟩,
 ⟨(some 14), none, .conv .u32 (.s 13)⟩,
 ⟨(some 15), none, .bin .add .int (.s 10) (.s 14)⟩,
 ⟨(some 3), none, .mv (.s 15)⟩]))
 (.region false [
 ⟨(some 7), none, .mv (.s 4)⟩,
 ⟨(some 8), none, .bin .add .int (.s 7) (.c (.int .i64 1))⟩,
 ⟨(some 4), none, .mv (.s 8)⟩]))))))
 (.seq
 (.region false [
 ⟨(some 16), none, .mv (.s 3)⟩,
 ⟨(some 2), none, .mv (.s 16)⟩])
 .ret)))) }
/- cuboid/cuboidref07.Less -/
def f61 : MFun := { nt := 40, np := 2, no := 2, res := [.slot 4], body :=
 (.seq
 (.region false [
 ⟨(some 2), none, .box 0 (.s 0)⟩,
 ⟨(some 3), none, .box 1 (.s 1)⟩,
 ⟨(some 4), none, .mv (.c (.bool false))⟩])
 (.seq
 (.seq
 (.region false [
 ⟨(some 6), none, .faddr 0 (.s 2)⟩,
 ⟨(some 7), none, .load (some 4) (some 0) (.s 6)⟩,
 ⟨(some 8), none, .faddr 0 (.s 3)⟩,
 ⟨(some 9), none, .load (some 4) (some 1) (.s 8)⟩,
 ⟨(some 10), none, .bin .neq (.agg [some .u8, some .u8, some .u8, some .u8]) (.s 7) (.s 9)⟩])
 (.cond (.s 10)
 (.seq
 (.region true [
 ⟨(some 11), none, .faddr 0 (.s 2)⟩,
 ⟨(some 12), none, .load (some 4) (some 0) (.s 11)⟩,
 ⟨(some 13), none, .call (.c (.fn 75 [] [])) [(.s 12)] [] [] [] false⟩,
 ⟨(some 14), none, .faddr 0 (.s 3)⟩,
 ⟨(some 15), none, .load (some 4) (some 1) (.s 14)⟩,
 ⟨(some 16), none, .call (.c (.fn 75 [] [])) [(.s 15)] [] [] [] false⟩,
 ⟨(some 17), none, .bin .lss .int (.s 13) (.s 16)⟩,
 ⟨(some 4), none, .mv (.s 17)⟩])
 .ret)
 .skip))
 (.seq
 (.seq
 (.region false [
 ⟨(some 5), none, .mv (.c (.int .i64 0))⟩])
 (.block 0
 (.loop [2, 3, 5] [0, 1]
 (.seq
 (.seq
 (.region false [
 ⟨(some 18), none, .mv (.s 5)⟩,
 ⟨(some 19), none, .bin .lss .int (.s 18) (.c (.int .i64 2))⟩])
 (.cond (.s 19)
 .skip
 (.exit 0)))
 (.seq
 (.block 1
 (.seq
 (.region true [
 ⟨(some 22), none, .mv (.s 5)⟩,
 ⟨(some 23), none, .faddr 4 (.s 2)⟩,
 ⟨(some 24), none, .iaddrA 2 1 (.s 23) (.s 22)⟩,
 ⟨(some 25), none, .load none (some 0) (.s 24)⟩,
 ⟨(some 26), none, .mv (.s 5)⟩,
 ⟨(some 27), none, .faddr 4 (.s 3)⟩,
 ⟨(some 28), none, .iaddrA 2 1 (.s 27) (.s 26)⟩,
 ⟨(some 29), none, .load none (some 1) (.s 28)⟩,
 ⟨(some 30), none, .bin .neq .int (.s 25) (.s 29)⟩])
 (.cond (.s 30)
 (.seq
 (.region true [
 ⟨(some 31), none, .mv (.s 5)⟩,
 ⟨(some 32), none, .faddr 4 (.s 2)⟩,
 ⟨(some 33), none, .iaddrA 2 1 (.s 32) (.s 31)⟩,
 ⟨(some 34), none, .load none (some 0) (.s 33)⟩,
 ⟨(some 35), none, .mv (.s 5)⟩,
 ⟨(some 36), none, .faddr 4 (.s 3)⟩,
 ⟨(some 37), none, .iaddrA 2 1 (.s 36) (.s 35)⟩,
 ⟨(some 38), none, .load none (some 1) (.s 37)⟩,
 ⟨(some 39), none, .bin .lss .int (.s 34) (.s 38)⟩,
 ⟨(some 4), none, .mv (.s 39)⟩])
 .ret)
 .skip)))
 (.region false [
 ⟨(some 20), none, .mv (.s 5)⟩,
 ⟨(some 21), none, .bin .add .int (.s 20) (.c (.int .i64 1))⟩,
 ⟨(some 5), none, .mv (.s 21)⟩]))))))
 (.seq
 (.region false [
 ⟨(some 4), none, .mv (.c (.bool false))⟩])
 .ret)))) }
/- cuboid/cuboidref07.Insert -/
def f42 : MFun := { nt := 33, np := 2, no := 2, res := [.slot 4], body :=
 (.seq
 (.region false [
 ⟨(some 3), none, .box 0 (.s 1)⟩,
 ⟨(some 4), none, .mv (.c .nilsl)⟩])
 (.seq
 (.region false [
 ⟨(some 5), none, .mv (.c (.int .i64 0))⟩])
 (.seq
 (.block 0
 (.loop [0, 3, 5] [0]
 (.seq
 (.seq
 (.region true [
 ⟨(some 6), none, .mv (.s 5)⟩,
 ⟨(some 7), none, .mv (.s 0)⟩,
 ⟨(some 8), none, .len (.s 7)⟩,
 ⟨(some 9), none, .bin .lss .int (.s 6) (.s 8)⟩,
 ⟨(some 10), none, .mv (.s 9)⟩,
 ⟨(some 11), (some (10, true)), .load (some 6) (some 0) (.s 3)⟩,
 ⟨(some 12), (some (10, true)), .mv (.s 0)⟩,
 ⟨(some 13), (some (10, true)), .mv (.s 5)⟩,
 ⟨(some 14), (some (10, true)), .iaddrS 6 (.s 12) (.s 13)⟩,
 ⟨(some 15), (some (10, true)), .load (some 6) none (.s 14)⟩,
 ⟨(some 16), (some (10, true)), .call (.c (.fn 61 [] [])) [(.s 11), (.s 15)] [] [] [] false⟩,
 ⟨(some 17), (some (10, true)), .un .not (.s 16)⟩,
 ⟨(some 18), none, .pick (.s 10) (.s 17) (.c (.bool false))⟩])
 (.cond (.s 18)
 .skip
 (.exit 0)))
 (.block 1
 (.region false [
 ⟨(some 19), none, .mv (.s 5)⟩,
 ⟨(some 20), none, .bin .add .int (.s 19) (.c (.int .i64 1))⟩,
 ⟨(some 5), none, .mv (.s 20)⟩])))))
 (.seq
 (.region true [
 ⟨(some 21), none, .lit (some 1) [] 0 6 [.int .u8 0, .int .u8 0, .int .u8 0, .int .u8 0, .int .i64 0, .int .i64 0] []⟩,
 ⟨(some 22), none, .mv (.s 0)⟩,
 ⟨(some 23), none, .mv (.s 5)⟩,
 ⟨(some 24), none, .sliceS 6 (.s 22) none (some (.s 23))⟩,
 ⟨(some 25), none, .append 24 6 1 none (.s 21) (.s 24)⟩,
 ⟨(some 26), none, .load (some 6) (some 0) (.s 3)⟩,
 ⟨(some 27), none, .lit none [] 1 6 [.int .u8 0, .int .u8 0, .int .u8 0, .int .u8 0, .int .i64 0, .int .i64 0] [(0, 6, (.s 26))]⟩,
 ⟨(some 28), none, .append 24 6 1 none (.s 25) (.s 27)⟩,
 ⟨(some 29), none, .mv (.s 0)⟩,
 ⟨(some 30), none, .mv (.s 5)⟩,
 ⟨(some 31), none, .sliceS 6 (.s 29) (some (.s 30)) none⟩,
 ⟨(some 32), none, .append 24 6 1 none (.s 28) (.s 31)⟩,
 ⟨(some 4), none, .mv (.s 32)⟩])
 .ret)))) }
/- cuboid/cuboidref01.Size -/
def f62 : MFun := { nt := 12, np := 1, no := 0, res := [.slot 2], body :=
 (.seq
 (.region false [
 ⟨(some 2), none, .mv (.c (.int .u64 0))⟩])
 (.seq
 (.seq
 (.region false [
 ⟨(some 3), none, .mv (.s 0)⟩,
 ⟨(some 4), none, .bin .lss .int (.s 3) (.c (.int .i64 0))⟩])
 (.cond (.s 4)
 (.seq
 (.region false [
 ⟨(some 5), none, .mv (.s 0)⟩,
 ⟨(some 6), none, .bin .add .int (.s 5) (.c (.int .i64 1))⟩,
 ⟨(some 7), none, .un .neg (.s 6)⟩,
 ⟨(some 8), none, .conv .u64 (.s 7)⟩,
 ⟨(some 9), none, .bin .add .int (.s 8) (.c (.int .u64 1))⟩,
 ⟨(some 2), none, .mv (.s 9)⟩])
 .ret)
 .skip))
 (.seq
 (.region false [
 ⟨(some 10), none, .mv (.s 0)⟩,
 ⟨(some 11), none, .conv .u64 (.s 10)⟩,
 ⟨(some 2), none, .mv (.s 11)⟩])
 .ret))) }
/- cuboid/cuboidref07.Mass -/
def f43 : MFun := { nt := 45, np := 1, no := 2, res := [.cell 2 0 (some 3)], body :=
 (.seq
 (.region false [
 ⟨(some 2), none, .alloc 0 [.int .i64 0, .int .i64 0, .bool false]⟩])
 (.seq
 (.region false [
 ⟨(some 3), none, .alloc 1 [.int .i64 0, .int .i64 0, .bool false]⟩])
 (.seq
 (.seq
 (.region false [
 ⟨(some 4), none, .mv (.c (.int .i64 0))⟩])
 (.block 0
 (.loop [0, 2, 3, 4] [0, 1]
 (.seq
 (.seq
 (.region false [
 ⟨(some 7), none, .mv (.s 4)⟩,
 ⟨(some 8), none, .mv (.s 0)⟩,
 ⟨(some 9), none, .len (.s 8)⟩,
 ⟨(some 10), none, .bin .lss .int (.s 7) (.s 9)⟩])
 (.cond (.s 10)
 .skip
 (.exit 0)))
 (.seq
 (.block 1
 (.seq
 (.region false [
 ⟨(some 5), none, .mv (.c (.int .i64 0))⟩])
 (.block 2
 (.loop [0, 2, 3, 4, 5] [0, 1]
 (.seq
 (.seq
 (.region false [
 ⟨(some 13), none, .mv (.s 5)⟩,
 ⟨(some 14), none, .bin .lss .int (.s 13) (.c (.int .i64 2))⟩])
 (.cond (.s 14)
 .skip
 (.exit 2)))
 (.seq
 (.block 3
 (.seq
 (.region false [
 ⟨(some 17), none, .mv (.s 0)⟩,
 ⟨(some 18), none, .mv (.s 4)⟩,
 ⟨(some 19), none, .mv (.s 5)⟩,
 ⟨(some 20), none, .iaddrS 6 (.s 17) (.s 18)⟩,
 ⟨(some 21), none, .faddr 4 (.s 20)⟩,
 ⟨(some 22), none, .iaddrA 2 1 (.s 21) (.s 19)⟩,
 ⟨(some 23), none, .load none none (.s 22)⟩,
 ⟨(some 24), none, .call (.c (.fn 62 [] [])) [(.s 23)] [] [] [] false⟩,
 ⟨(some 6), none, .mv (.s 24)⟩])
 (.seq
 (.seq
 (.region false [
 ⟨(some 25), none, .mv (.s 6)⟩,
 ⟨(some 26), none, .mv (.s 5)⟩,
 ⟨(some 27), none, .faddr 0 (.s 3)⟩,
 ⟨(some 28), none, .iaddrA 2 1 (.s 27) (.s 26)⟩,
 ⟨(some 29), none, .load none (some 1) (.s 28)⟩,
 ⟨(some 30), none, .bin .sub .int (.c (.int .i64 2305843009213693952)) (.s 29)⟩,
 ⟨(some 31), none, .conv .u64 (.s 30)⟩,
 ⟨(some 32), none, .bin .gtr .int (.s 25) (.s 31)⟩])
 (.cond (.s 32)
 (.seq
 (.region false [
 ⟨(some 33), none, .build [.int .i64 0, .int .i64 0, .bool false] []⟩,
 ⟨none, none, .store 3 0 [] (.s 2) (.s 33)⟩])
 .ret)
 .skip))
 (.region false [
 ⟨(some 34), none, .mv (.s 5)⟩,
 ⟨(some 35), none, .faddr 0 (.s 3)⟩,
 ⟨(some 36), none, .iaddrA 2 1 (.s 35) (.s 34)⟩,
 ⟨(some 37), none, .load none (some 1) (.s 36)⟩,
 ⟨(some 38), none, .mv (.s 6)⟩,
 ⟨(some 39), none, .conv .i64 (.s 38)⟩,
 ⟨(some 40), none, .bin .add .int (.s 37) (.s 39)⟩,
 ⟨(some 41), none, .faddr 0 (.s 3)⟩,
 ⟨(some 42), none, .iaddrA 2 1 (.s 41) (.s 34)⟩,
 ⟨none, none, .store 1 1 [] (.s 42) (.s 40)⟩]))))
 (.region false [
 ⟨(some 15), none, .mv (.s 5)⟩,
 ⟨(some 16), none, .bin .add .int (.s 15) (.c (.int .i64 1))⟩,
 ⟨(some 5), none, .mv (.s 16)⟩])))))))
 (.region false [
 ⟨(some 11), none, .mv (.s 4)⟩,
 ⟨(some 12), none, .bin .add .int (.s 11) (.c (.int .i64 1))⟩,
 ⟨(some 4), none, .mv (.s 12)⟩]))))))
 (.seq
 (.region false [
 ⟨(some 43), none, .faddr 2 (.s 3)⟩,
 ⟨none, none, .store 1 1 [] (.s 43) (.c (.bool true))⟩])
 (.seq
 (.region false [
 ⟨(some 44), none, .load (some 3) (some 1) (.s 3)⟩,
 ⟨none, none, .store 3 0 [] (.s 2) (.s 44)⟩])
 .ret))))) }
/- (*cuboid/cuboidref20.Base).Do -/
def f27 : MFun := { nt := 57, np := 2, no := 2, res := [.slot 4], body :=
 (.seq
 (.region false [
 ⟨(some 3), none, .box 1 (.s 1)⟩,
 ⟨(some 4), none, .mv (.c (.int .i64 0))⟩])
 (.seq
 (.seq
 (.region true [
 ⟨(some 7), none, .mv (.s 0)⟩,
 ⟨(some 8), none, .nilchk (.s 7)⟩,
 ⟨(some 9), none, .faddr 0 (.s 8)⟩,
 ⟨(some 10), none, .load (some 2) (some 0) (.s 9)⟩,
 ⟨(some 11), none, .faddr 1 (.s 3)⟩,
 ⟨(some 12), none, .load (some 6) (some 1) (.s 11)⟩,
 ⟨(some 13), none, .call (.c (.fn 40 [] [])) [(.s 10), (.s 12)] [] [] [] false⟩,
 ⟨(some 14), none, .un .not (.s 13)⟩])
 (.cond (.s 14)
 (.seq
 (.region false [
 ⟨(some 4), none, .mv (.c (.int .i64 7))⟩])
 .ret)
 .skip))
 (.seq
 (.region false [
 ⟨(some 15), none, .mv (.s 0)⟩,
 ⟨(some 16), none, .faddr 1 (.s 3)⟩,
 ⟨(some 17), none, .load (some 6) (some 1) (.s 16)⟩,
 ⟨(some 18), none, .call (.c (.fn 41 [] [])) [(.s 15), (.s 17)] [0] [2] [] true⟩,
 ⟨(some 5), none, .mv (.s 18)⟩])
 (.seq
 (.seq
 (.region false [
 ⟨(some 19), none, .faddr 0 (.s 3)⟩,
 ⟨(some 20), none, .load none (some 1) (.s 19)⟩])
 (.cond (.s 20)
 (.seq
 (.seq
 (.region false [
 ⟨(some 21), none, .mv (.s 5)⟩,
 ⟨(some 22), none, .bin .lss .int (.s 21) (.c (.int .i64 0))⟩])
 (.cond (.s 22)
 (.seq
 (.region false [
 ⟨(some 4), none, .mv (.c (.int .i64 8))⟩])
 .ret)
 .skip))
 (.seq
 (.region true [
 ⟨(some 23), none, .mv (.s 0)⟩,
 ⟨(some 24), none, .lit (some 2) [] 0 6 [.int .u8 0, .int .u8 0, .int .u8 0, .int .u8 0, .int .i64 0, .int .i64 0] []⟩,
 ⟨(some 25), none, .mv (.s 0)⟩,
 ⟨(some 26), none, .nilchk (.s 25)⟩,
 ⟨(some 27), none, .faddr 2 (.s 26)⟩,
 ⟨(some 28), none, .load none (some 0) (.s 27)⟩,
 ⟨(some 29), none, .mv (.s 5)⟩,
 ⟨(some 30), none, .sliceS 6 (.s 28) none (some (.s 29))⟩,
 ⟨(some 31), none, .append 24 6 2 (some 2) (.s 24) (.s 30)⟩,
 ⟨(some 32), none, .mv (.s 0)⟩,
 ⟨(some 33), none, .nilchk (.s 32)⟩,
 ⟨(some 34), none, .faddr 2 (.s 33)⟩,
 ⟨(some 35), none, .load none (some 0) (.s 34)⟩,
 ⟨(some 36), none, .mv (.s 5)⟩,
 ⟨(some 37), none, .bin .add .int (.s 36) (.c (.int .i64 1))⟩,
 ⟨(some 38), none, .sliceS 6 (.s 35) (some (.s 37)) none⟩,
 ⟨(some 39), none, .append 24 6 2 (some 2) (.s 31) (.s 38)⟩,
 ⟨(some 40), none, .nilchk (.s 23)⟩,
 ⟨(some 41), none, .faddr 2 (.s 40)⟩,
 ⟨none, none, .store 1 0 [] (.s 41) (.s 39)⟩])
 (.seq
 (.region false [
 ⟨(some 4), none, .mv (.c (.int .i64 0))⟩])
 .ret)))
 .skip))
 (.seq
 (.region true [
 ⟨(some 42), none, .mv (.s 0)⟩,
 ⟨(some 43), none, .nilchk (.s 42)⟩,
 ⟨(some 44), none, .faddr 2 (.s 43)⟩,
 ⟨(some 45), none, .load none (some 0) (.s 44)⟩,
 ⟨(some 46), none, .faddr 1 (.s 3)⟩,
 ⟨(some 47), none, .load (some 6) (some 1) (.s 46)⟩,
 ⟨(some 48), none, .call (.c (.fn 42 [] [])) [(.s 45), (.s 47)] [] [2] [] true⟩,
 ⟨(some 6), none, .mv (.s 48)⟩])
 (.seq
 (.seq
 (.region false [
 ⟨(some 49), none, .mv (.s 6)⟩,
 ⟨(some 50), none, .call (.c (.fn 43 [] [])) [(.s 49)] [] [] [] false⟩,
 ⟨(some 51), none, .field 2 none (.s 50)⟩,
 ⟨(some 52), none, .un .not (.s 51)⟩])
 (.cond (.s 52)
 (.seq
 (.region false [
 ⟨(some 4), none, .mv (.c (.int .i64 9))⟩])
 .ret)
 .skip))
 (.seq
 (.region false [
 ⟨(some 53), none, .mv (.s 0)⟩,
 ⟨(some 54), none, .mv (.s 6)⟩,
 ⟨(some 55), none, .nilchk (.s 53)⟩,
 ⟨(some 56), none, .faddr 2 (.s 55)⟩,
 ⟨none, none, .store 1 0 [] (.s 56) (.s 54)⟩])
 (.seq
 (.region false [
 ⟨(some 4), none, .mv (.c (.int .i64 0))⟩])
 .ret)))))))) }
/- cuboid/cuboidref07.Same -/
def f17 : MFun := { nt := 26, np := 2, no := 0, res := [.slot 4], body :=
 (.seq
 (.region false [
 ⟨(some 4), none, .mv (.c (.bool false))⟩])
 (.seq
 (.seq
 (.region false [
 ⟨(some 6), none, .mv (.s 0)⟩,
 ⟨(some 7), none, .len (.s 6)⟩,
 ⟨(some 8), none, .mv (.s 1)⟩,
 ⟨(some 9), none, .len (.s 8)⟩,
 ⟨(some 10), none, .bin .neq .int (.s 7) (.s 9)⟩])
 (.cond (.s 10)
 (.seq
 (.region false [
 ⟨(some 4), none, .mv (.c (.bool false))⟩])
 .ret)
 .skip))
 (.seq
 (.seq
 (.region false [
 ⟨(some 5), none, .mv (.c (.int .i64 0))⟩])
 (.block 0
 (.loop [0, 1, 5] []
 (.seq
 (.seq
 (.region false [
 ⟨(some 11), none, .mv (.s 5)⟩,
 ⟨(some 12), none, .mv (.s 0)⟩,
 ⟨(some 13), none, .len (.s 12)⟩,
 ⟨(some 14), none, .bin .lss .int (.s 11) (.s 13)⟩])
 (.cond (.s 14)
 .skip
 (.exit 0)))
 (.seq
 (.block 1
 (.seq
 (.region true [
 ⟨(some 17), none, .mv (.s 0)⟩,
 ⟨(some 18), none, .mv (.s 5)⟩,
 ⟨(some 19), none, .iaddrS 6 (.s 17) (.s 18)⟩,
 ⟨(some 20), none, .load (some 6) none (.s 19)⟩,
 ⟨(some 21), none, .mv (.s 1)⟩,
 ⟨(some 22), none, .mv (.s 5)⟩,
 ⟨(some 23), none, .iaddrS 6 (.s 21) (.s 22)⟩,
 ⟨(some 24), none, .load (some 6) none (.s 23)⟩,
 ⟨(some 25), none, .bin .neq (.agg [some .u8, some .u8, some .u8, some .u8, some .i64, some .i64]) (.s 20) (.s 24)⟩])
 (.cond (.s 25)
 (.seq
 (.region false [
 ⟨(some 4), none, .mv (.c (.bool false))⟩])
 .ret)
 .skip)))
 (.region false [
 ⟨(some 15), none, .mv (.s 5)⟩,
 ⟨(some 16), none, .bin .add .int (.s 15) (.c (.int .i64 1))⟩,
 ⟨(some 5), none, .mv (.s 16)⟩]))))))
 (.seq
 (.region false [
 ⟨(some 4), none, .mv (.c (.bool true))⟩])
 .ret)))) }
/- (*cuboid/cuboidref20.Base).Has -/
def f44 : MFun := { nt := 28, np := 2, no := 1, res := [.slot 4], body :=
 (.seq
 (.region false [
 ⟨(some 3), none, .box 1 (.s 1)⟩,
 ⟨(some 4), none, .mv (.c (.int .i64 0))⟩])
 (.seq
 (.region false [
 ⟨(some 5), none, .mv (.c (.int .i64 0))⟩])
 (.seq
 (.seq
 (.region false [
 ⟨(some 6), none, .mv (.c (.int .i64 0))⟩])
 (.block 0
 (.loop [0, 3, 5, 6] [1]
 (.seq
 (.seq
 (.region false [
 ⟨(some 7), none, .mv (.s 6)⟩,
 ⟨(some 8), none, .mv (.s 0)⟩,
 ⟨(some 9), none, .nilchk (.s 8)⟩,
 ⟨(some 10), none, .faddr 2 (.s 9)⟩,
 ⟨(some 11), none, .load none (some 0) (.s 10)⟩,
 ⟨(some 12), none, .len (.s 11)⟩,
 ⟨(some 13), none, .bin .lss .int (.s 7) (.s 12)⟩])
 (.cond (.s 13)
 .skip
 (.exit 0)))
 (.seq
 (.block 1
 (.seq
 (.region true [
 ⟨(some 16), none, .mv (.s 0)⟩,
 ⟨(some 17), none, .nilchk (.s 16)⟩,
 ⟨(some 18), none, .faddr 2 (.s 17)⟩,
 ⟨(some 19), none, .load none (some 0) (.s 18)⟩,
 ⟨(some 20), none, .mv (.s 6)⟩,
 ⟨(some 21), none, .iaddrS 6 (.s 19) (.s 20)⟩,
 ⟨(some 22), none, .load (some 6) none (.s 21)⟩,
 ⟨(some 23), none, .load (some 6) (some 1) (.s 3)⟩,
 ⟨(some 24), none, .bin .eql (.agg [some .u8, some .u8, some .u8, some .u8, some .i64, some .i64]) (.s 22) (.s 23)⟩])
 (.cond (.s 24)
 (.region false [
 ⟨(some 25), none, .mv (.s 5)⟩,
 ⟨(some 26), none, .bin .add .int (.s 25) (.c (.int .i64 1))⟩,
 ⟨(some 5), none, .mv (.s 26)⟩])
 .skip)))
 (.region false [
 ⟨(some 14), none, .mv (.s 6)⟩,
 ⟨(some 15), none, .bin .add .int (.s 14) (.c (.int .i64 1))⟩,
 ⟨(some 6), none, .mv (.s 15)⟩]))))))
 (.seq
 (.region false [
 ⟨(some 27), none, .mv (.s 5)⟩,
 ⟨(some 4), none, .mv (.s 27)⟩])
 .ret)))) }
/- cuboid/cuboidlaw20.told -/
def f28 : MFun := { nt := 50, np := 3, no := 2, res := [.slot 6], body :=
 (.seq
 (.region false [
 ⟨(some 5), none, .box 3 (.s 2)⟩,
 ⟨(some 6), none, .mv (.c (.bool false))⟩])
 (.seq
 (.region false [
 ⟨(some 8), none, .mv (.s 1)⟩,
 ⟨(some 9), none, .nilchk (.s 8)⟩,
 ⟨(some 10), none, .faddr 2 (.s 9)⟩,
 ⟨(some 11), none, .load none (some 2) (.s 10)⟩,
 ⟨(some 12), none, .call (.c (.fn 43 [] [])) [(.s 11)] [] [] [] false⟩,
 ⟨(some 7), none, .alloc 4 [.int .i64 0, .int .i64 0, .bool false]⟩,
 ⟨none, none, .store 3 4 [] (.s 7) (.s 12)⟩])
 (.seq
 (.region true [
 ⟨(some 13), none, .mv (.s 0)⟩,
 ⟨(some 14), none, .load (some 6) (some 3) (.s 5)⟩,
 ⟨(some 15), none, .call (.c (.fn 22 [] [])) [(.s 13), (.s 14)] [0, 1] [] [] true⟩,
 ⟨(some 16), none, .mv (.s 1)⟩,
 ⟨(some 17), none, .load (some 6) (some 3) (.s 5)⟩,
 ⟨(some 18), none, .call (.c (.fn 44 [] [])) [(.s 16), (.s 17)] [2] [] [] true⟩,
 ⟨(some 19), none, .bin .eql .int (.s 15) (.s 18)⟩,
 ⟨(some 20), none, .mv (.s 19)⟩,
 ⟨(some 21), (some (20, true)), .mv (.s 0)⟩,
 ⟨(some 22), (some (20, true)), .call (.c (.fn 19 [] [])) [(.s 21)] [0, 1] [] [] true⟩,
 ⟨(some 23), (some (20, true)), .mv (.s 1)⟩,
 ⟨(some 24), (some (20, true)), .nilchk (.s 23)⟩,
 ⟨(some 25), (some (20, true)), .faddr 2 (.s 24)⟩,
 ⟨(some 26), (some (20, true)), .load none (some 2) (.s 25)⟩,
 ⟨(some 27), (some (20, true)), .len (.s 26)⟩,
 ⟨(some 28), (some (20, true)), .bin .eql .int (.s 22) (.s 27)⟩,
 ⟨(some 29), none, .pick (.s 20) (.s 28) (.c (.bool false))⟩,
 ⟨(some 30), none, .mv (.s 29)⟩,
 ⟨(some 31), (some (30, true)), .mv (.s 0)⟩,
 ⟨(some 32), (some (30, true)), .call (.c (.fn 15 [] [])) [(.s 31)] [0, 1] [] [] true⟩,
 ⟨(some 33), (some (30, true)), .mv (.s 1)⟩,
 ⟨(some 34), (some (30, true)), .nilchk (.s 33)⟩,
 ⟨(some 35), (some (30, true)), .faddr 2 (.s 34)⟩,
 ⟨(some 36), (some (30, true)), .load none (some 2) (.s 35)⟩,
 ⟨(some 37), (some (30, true)), .call (.c (.fn 17 [] [])) [(.s 32), (.s 36)] [] [] [] false⟩,
 ⟨(some 38), none, .pick (.s 30) (.s 37) (.c (.bool false))⟩,
 ⟨(some 39), none, .mv (.s 38)⟩,
 ⟨(some 40), (some (39, true)), .faddr 2 (.s 7)⟩,
 ⟨(some 41), (some (39, true)), .load none (some 4) (.s 40)⟩,
 ⟨(some 42), none, .pick (.s 39) (.s 41) (.c (.bool false))⟩,
 ⟨(some 43), none, .mv (.s 42)⟩,
 ⟨(some 44), (some (43, true)), .mv (.s 0)⟩,
 ⟨(some 45), (some (43, true)), .call (.c (.fn 20 [] [])) [(.s 44)] [0, 1] [] [] true⟩,
 ⟨(some 46), (some (43, true)), .faddr 0 (.s 7)⟩,
 ⟨(some 47), (some (43, true)), .load (some 2) (some 4) (.s 46)⟩,
 ⟨(some 48), (some (43, true)), .bin .eql (.agg [some .i64, some .i64]) (.s 45) (.s 47)⟩,
 ⟨(some 49), none, .pick (.s 43) (.s 48) (.c (.bool false))⟩,
 ⟨(some 6), none, .mv (.s 49)⟩])
 .ret))) }
/- cuboid/cuboidlaw20.plays -/
def f10 : MFun := { nt := 84, np := 3, no := 4, res := [.slot 6], body :=
 (.seq
 (.region false [
 ⟨(some 3), none, .box 0 (.s 0)⟩,
 ⟨(some 6), none, .mv (.c (.bool false))⟩])
 (.seq
 (.region false [
 ⟨(some 11), none, .load (some 2) (some 0) (.s 3)⟩,
 ⟨(some 12), none, .call (.c (.fn 14 [] [])) [(.s 11)] [] [] [(2, 1), (1, 2)] true⟩,
 ⟨(some 7), none, .mv (.s 12)⟩])
 (.seq
 (.seq
 (.region false [
 ⟨(some 13), none, .mv (.s 7)⟩,
 ⟨(some 14), none, .bin .neq .ptr (.s 13) (.c .nilptr)⟩,
 ⟨(some 15), none, .load (some 2) (some 0) (.s 3)⟩,
 ⟨(some 16), none, .call (.c (.fn 13 [] [])) [(.s 15)] [] [] [] false⟩,
 ⟨(some 17), none, .bin .neq .bool (.s 14) (.s 16)⟩])
 (.cond (.s 17)
 (.seq
 (.region false [
 ⟨(some 6), none, .mv (.c (.bool false))⟩])
 .ret)
 .skip))
 (.seq
 (.seq
 (.region false [
 ⟨(some 18), none, .mv (.s 7)⟩,
 ⟨(some 19), none, .bin .eql .ptr (.s 18) (.c .nilptr)⟩])
 (.cond (.s 19)
 (.seq
 (.region false [
 ⟨(some 6), none, .mv (.c (.bool true))⟩])
 .ret)
 .skip))
 (.seq
 (.region false [
 ⟨(some 20), none, .load (some 2) (some 0) (.s 3)⟩,
 ⟨(some 21), none, .build [.nilsl, .int .i64 0, .nilsl] [(0, 2, (.s 20))]⟩,
 ⟨(some 22), none, .box 3 (.s 21)⟩,
 ⟨(some 8), none, .mv (.s 22)⟩])
 (.seq
 (.seq
 (.region false [
 ⟨(some 9), none, .mv (.c (.int .i64 0))⟩])
 (.block 0
 (.loop [1, 2, 7, 8, 9] [1, 2, 3]
 (.seq
 (.seq
 (.region false [
 ⟨(some 23), none, .mv (.s 9)⟩,
 ⟨(some 24), none, .mv (.s 1)⟩,
 ⟨(some 25), none, .len (.s 24)⟩,
 ⟨(some 26), none, .bin .lss .int (.s 23) (.s 25)⟩])
 (.cond (.s 26)
 .skip
 (.exit 0)))
 (.seq
 (.block 1
 (.seq
 (.seq
 (.region false [
 ⟨(some 29), none, .mv (.s 9)⟩,
 ⟨(some 30), none, .mv (.s 2)⟩,
 ⟨(some 31), none, .len (.s 30)⟩,
 ⟨(some 32), none, .bin .lss .int (.s 29) (.s 31)⟩,
 ⟨(some 33), none, .mv (.s 32)⟩,
 ⟨(some 34), (some (33, true)), .mv (.s 2)⟩,
 ⟨(some 35), (some (33, true)), .mv (.s 9)⟩,
 ⟨(some 36), (some (33, true)), .iaddrS 1 (.s 34) (.s 35)⟩,
 ⟨(some 37), (some (33, true)), .load none none (.s 36)⟩,
 ⟨(some 38), none, .pick (.s 33) (.s 37) (.c (.bool false))⟩])
 (.cond (.s 38)
 (.seq
 (.region true [
 ⟨(some 39), none, .mv (.s 8)⟩,
 ⟨(some 40), none, .mv (.s 1)⟩,
 ⟨(some 41), none, .mv (.s 9)⟩,
 ⟨(some 42), none, .iaddrS 7 (.s 40) (.s 41)⟩,
 ⟨(some 43), none, .faddr 0 (.s 42)⟩,
 ⟨(some 44), none, .load none none (.s 43)⟩,
 ⟨(some 45), none, .un .not (.s 44)⟩,
 ⟨(some 46), none, .mv (.s 1)⟩,
 ⟨(some 47), none, .mv (.s 9)⟩,
 ⟨(some 48), none, .iaddrS 7 (.s 46) (.s 47)⟩,
 ⟨(some 49), none, .faddr 1 (.s 48)⟩,
 ⟨(some 50), none, .load (some 6) none (.s 49)⟩,
 ⟨(some 51), none, .build [.bool false, .int .u8 0, .int .u8 0, .int .u8 0, .int .u8 0, .int .i64 0, .int .i64 0] [(0, 1, (.s 45)), (1, 6, (.s 50))]⟩,
 ⟨(some 52), none, .call (.c (.fn 27 [] [])) [(.s 39), (.s 51)] [3] [] [] true⟩,
 ⟨(some 10), none, .mv (.s 52)⟩])
 (.seq
 (.region false [
 ⟨(some 53), none, .mv (.s 7)⟩,
 ⟨(some 54), none, .mv (.s 1)⟩,
 ⟨(some 55), none, .mv (.s 9)⟩,
 ⟨(some 56), none, .iaddrS 7 (.s 54) (.s 55)⟩,
 ⟨(some 57), none, .load (some 7) none (.s 56)⟩,
 ⟨(some 58), none, .call (.c (.fn 18 [] [])) [(.s 53), (.s 57)] [1, 2] [] [] true⟩,
 ⟨(some 59), none, .mv (.s 10)⟩,
 ⟨(some 60), none, .bin .eql .int (.s 59) (.c (.int .i64 0))⟩,
 ⟨(some 61), none, .bin .neq .bool (.s 58) (.s 60)⟩])
 (.cond (.s 61)
 (.seq
 (.region false [
 ⟨(some 6), none, .mv (.c (.bool false))⟩])
 .ret)
 .skip)))
 (.seq
 (.region true [
 ⟨(some 62), none, .mv (.s 7)⟩,
 ⟨(some 63), none, .mv (.s 1)⟩,
 ⟨(some 64), none, .mv (.s 9)⟩,
 ⟨(some 65), none, .iaddrS 7 (.s 63) (.s 64)⟩,
 ⟨(some 66), none, .load (some 7) none (.s 65)⟩,
 ⟨(some 67), none, .call (.c (.fn 16 [] [])) [(.s 62), (.s 66)] [1, 2] [] [] true⟩,
 ⟨(some 68), none, .mv (.s 8)⟩,
 ⟨(some 69), none, .mv (.s 1)⟩,
 ⟨(some 70), none, .mv (.s 9)⟩,
 ⟨(some 71), none, .iaddrS 7 (.s 69) (.s 70)⟩,
 ⟨(some 72), none, .load (some 7) none (.s 71)⟩,
 ⟨(some 73), none, .call (.c (.fn 27 [] [])) [(.s 68), (.s 72)] [3] [] [] true⟩,
 ⟨(some 74), none, .bin .neq .int (.s 67) (.s 73)⟩])
 (.cond (.s 74)
 (.seq
 (.region false [
 ⟨(some 6), none, .mv (.c (.bool false))⟩])
 .ret)
 .skip))))
 (.seq
 (.region false [
 ⟨(some 75), none, .mv (.s 7)⟩,
 ⟨(some 76), none, .mv (.s 8)⟩,
 ⟨(some 77), none, .mv (.s 1)⟩,
 ⟨(some 78), none, .mv (.s 9)⟩,
 ⟨(some 79), none, .iaddrS 7 (.s 77) (.s 78)⟩,
 ⟨(some 80), none, .faddr 1 (.s 79)⟩,
 ⟨(some 81), none, .load (some 6) none (.s 80)⟩,
 ⟨(some 82), none, .call (.c (.fn 28 [] [])) [(.s 75), (.s 76), (.s 81)] [1, 2, 3] [] [] true⟩,
 ⟨(some 83), none, .un .not (.s 82)⟩])
 (.cond (.s 83)
 (.seq
 (.region false [
 ⟨(some 6), none, .mv (.c (.bool false))⟩])
 .ret)
 .skip))))
 (.region false [
 ⟨(some 27), none, .mv (.s 9)⟩,
 ⟨(some 28), none, .bin .add .int (.s 27) (.c (.int .i64 1))⟩,
 ⟨(some 9), none, .mv (.s 28)⟩]))))))
 (.seq
 (.region false [
 ⟨(some 6), none, .mv (.c (.bool true))⟩])
 .ret))))))) }
/- cuboid/cuboidlaw20.none -/
def f11 : MFun := { nt := 38, np := 1, no := 13, res := [.slot 2], body :=
 (.seq
 (.region false [
 ⟨(some 1), none, .box 0 (.s 0)⟩,
 ⟨(some 2), none, .mv (.c (.bool false))⟩])
 (.seq
 (.region false [
 ⟨(some 3), none, .mv (.c .nilptr)⟩])
 (.seq
 (.region false [
 ⟨(some 4), none, .mv (.s 3)⟩,
 ⟨(some 5), none, .load (some 7) (some 0) (.s 1)⟩,
 ⟨(some 6), none, .call (.c (.fn 16 [] [])) [(.s 4), (.s 5)] [1, 2] [] [] false⟩,
 ⟨(some 7), none, .bin .eql .int (.s 6) (.c (.int .i64 1))⟩,
 ⟨(some 8), none, .mv (.s 7)⟩,
 ⟨(some 9), (some (8, true)), .mv (.s 3)⟩,
 ⟨(some 10), (some (8, true)), .load (some 7) (some 0) (.s 1)⟩,
 ⟨(some 11), (some (8, true)), .call (.c (.fn 18 [] [])) [(.s 9), (.s 10)] [3, 4] [] [] false⟩,
 ⟨(some 12), (some (8, true)), .un .not (.s 11)⟩,
 ⟨(some 13), none, .pick (.s 8) (.s 12) (.c (.bool false))⟩,
 ⟨(some 14), none, .mv (.s 13)⟩,
 ⟨(some 15), (some (14, true)), .mv (.s 3)⟩,
 ⟨(some 16), (some (14, true)), .faddr 1 (.s 1)⟩,
 ⟨(some 17), (some (14, true)), .load (some 6) (some 0) (.s 16)⟩,
 ⟨(some 18), (some (14, true)), .call (.c (.fn 22 [] [])) [(.s 15), (.s 17)] [5, 6] [] [] false⟩,
 ⟨(some 19), (some (14, true)), .bin .eql .int (.s 18) (.c (.int .i64 0))⟩,
 ⟨(some 20), none, .pick (.s 14) (.s 19) (.c (.bool false))⟩,
 ⟨(some 21), none, .mv (.s 20)⟩,
 ⟨(some 22), (some (21, true)), .mv (.s 3)⟩,
 ⟨(some 23), (some (21, true)), .call (.c (.fn 19 [] [])) [(.s 22)] [7, 8] [] [] false⟩,
 ⟨(some 24), (some (21, true)), .bin .eql .int (.s 23) (.c (.int .i64 0))⟩,
 ⟨(some 25), none, .pick (.s 21) (.s 24) (.c (.bool false))⟩,
 ⟨(some 26), none, .mv (.s 25)⟩,
 ⟨(some 27), (some (26, true)), .mv (.s 3)⟩,
 ⟨(some 28), (some (26, true)), .call (.c (.fn 15 [] [])) [(.s 27)] [9, 10] [] [] true⟩,
 ⟨(some 29), (some (26, true)), .len (.s 28)⟩,
 ⟨(some 30), (some (26, true)), .bin .eql .int (.s 29) (.c (.int .i64 0))⟩,
 ⟨(some 31), none, .pick (.s 26) (.s 30) (.c (.bool false))⟩,
 ⟨(some 32), none, .mv (.s 31)⟩,
 ⟨(some 33), (some (32, true)), .mv (.s 3)⟩,
 ⟨(some 34), (some (32, true)), .call (.c (.fn 20 [] [])) [(.s 33)] [11, 12] [] [] false⟩,
 ⟨(some 35), (some (32, true)), .build [.int .i64 0, .int .i64 0] []⟩,
 ⟨(some 36), (some (32, true)), .bin .eql (.agg [some .i64, some .i64]) (.s 34) (.s 35)⟩,
 ⟨(some 37), none, .pick (.s 32) (.s 36) (.c (.bool false))⟩,
 ⟨(some 2), none, .mv (.s 37)⟩])
 .ret))) }
/- cuboid/cuboidlaw20.BasePlays -/
def f3 : MFun := { nt := 36, np := 1, no := 1, res := [.slot 2], body :=
 (.seq
 (.region false [
 ⟨(some 1), none, .box 0 (.s 0)⟩,
 ⟨(some 2), none, .mv (.c (.bool false))⟩])
 (.seq
 (.seq
 (.region false [
 ⟨(some 3), none, .faddr 0 (.s 1)⟩,
 ⟨(some 4), none, .load (some 2) (some 0) (.s 3)⟩,
 ⟨(some 5), none, .call (.c (.fn 8 [] [])) [(.s 4)] [] [] [] false⟩,
 ⟨(some 6), none, .un .not (.s 5)⟩,
 ⟨(some 7), none, .mv (.s 6)⟩,
 ⟨(some 8), (some (7, false)), .faddr 2 (.s 1)⟩,
 ⟨(some 9), (some (7, false)), .load none (some 0) (.s 8)⟩,
 ⟨(some 10), (some (7, false)), .len (.s 9)⟩,
 ⟨(some 11), (some (7, false)), .bin .gtr .int (.s 10) (.c (.int .i64 60))⟩,
 ⟨(some 12), none, .pick (.s 7) (.c (.bool true)) (.s 11)⟩])
 (.cond (.s 12)
 (.seq
 (.region false [
 ⟨(some 13), none, .call (.c (.fn 9 [] [])) [] [] [] [] false⟩,
 ⟨(some 2), none, .mv (.s 13)⟩])
 .ret)
 .skip))
 (.seq
 (.region false [
 ⟨(some 14), none, .faddr 0 (.s 1)⟩,
 ⟨(some 15), none, .load (some 2) (some 0) (.s 14)⟩,
 ⟨(some 16), none, .faddr 2 (.s 1)⟩,
 ⟨(some 17), none, .load none (some 0) (.s 16)⟩,
 ⟨(some 18), none, .faddr 3 (.s 1)⟩,
 ⟨(some 19), none, .load none (some 0) (.s 18)⟩,
 ⟨(some 20), none, .call (.c (.fn 10 [] [])) [(.s 15), (.s 17), (.s 19)] [] [] [] false⟩,
 ⟨(some 21), none, .mv (.s 20)⟩,
 ⟨(some 22), (some (21, true)), .faddr 0 (.s 1)⟩,
 ⟨(some 23), (some (21, true)), .load (some 2) (some 0) (.s 22)⟩,
 ⟨(some 24), (some (21, true)), .faddr 2 (.s 1)⟩,
 ⟨(some 25), (some (21, true)), .load none (some 0) (.s 24)⟩,
 ⟨(some 26), (some (21, true)), .call (.c (.fn 10 [] [])) [(.s 23), (.s 25), (.c .nilsl)] [] [] [] false⟩,
 ⟨(some 27), none, .pick (.s 21) (.s 26) (.c (.bool false))⟩,
 ⟨(some 28), none, .mv (.s 27)⟩,
 ⟨(some 29), (some (28, true)), .call (.c (.fn 12 [] [])) [(.c (.int .u8 1)), (.c (.int .i64 1))] [] [] [] false⟩,
 ⟨(some 30), (some (28, true)), .build [.bool false, .int .u8 0, .int .u8 0, .int .u8 0, .int .u8 0, .int .i64 0, .int .i64 0] [(1, 6, (.s 29))]⟩,
 ⟨(some 31), (some (28, true)), .call (.c (.fn 11 [] [])) [(.s 30)] [] [] [] false⟩,
 ⟨(some 32), none, .pick (.s 28) (.s 31) (.c (.bool false))⟩,
 ⟨(some 33), none, .mv (.s 32)⟩,
 ⟨(some 34), (some (33, true)), .call (.c (.fn 9 [] [])) [] [] [] [] false⟩,
 ⟨(some 35), none, .pick (.s 33) (.s 34) (.c (.bool false))⟩,
 ⟨(some 2), none, .mv (.s 35)⟩])
 .ret))) }
/- cuboid/cuboidlaw20.BaseBack -/
def f4 : MFun := { nt := 94, np := 2, no := 5, res := [.slot 4], body :=
 (.seq
 (.region false [
 ⟨(some 2), none, .box 0 (.s 0)⟩,
 ⟨(some 4), none, .mv (.c (.bool false))⟩])
 (.seq
 (.seq
 (.region false [
 ⟨(some 11), none, .load (some 2) (some 0) (.s 2)⟩,
 ⟨(some 12), none, .call (.c (.fn 8 [] [])) [(.s 11)] [] [] [] false⟩,
 ⟨(some 13), none, .un .not (.s 12)⟩,
 ⟨(some 14), none, .mv (.s 13)⟩,
 ⟨(some 15), (some (14, false)), .mv (.s 1)⟩,
 ⟨(some 16), (some (14, false)), .len (.s 15)⟩,
 ⟨(some 17), (some (14, false)), .bin .gtr .int (.s 16) (.c (.int .i64 60))⟩,
 ⟨(some 18), none, .pick (.s 14) (.c (.bool true)) (.s 17)⟩,
 ⟨(some 19), none, .mv (.s 18)⟩,
 ⟨(some 20), (some (19, false)), .load (some 2) (some 0) (.s 2)⟩,
 ⟨(some 21), (some (19, false)), .call (.c (.fn 13 [] [])) [(.s 20)] [] [] [] false⟩,
 ⟨(some 22), (some (19, false)), .un .not (.s 21)⟩,
 ⟨(some 23), none, .pick (.s 19) (.c (.bool true)) (.s 22)⟩])
 (.cond (.s 23)
 (.seq
 (.region false [
 ⟨(some 24), none, .call (.c (.fn 9 [] [])) [] [] [] [] false⟩,
 ⟨(some 4), none, .mv (.s 24)⟩])
 .ret)
 .skip))
 (.seq
 (.region false [
 ⟨(some 25), none, .load (some 2) (some 0) (.s 2)⟩,
 ⟨(some 26), none, .call (.c (.fn 14 [] [])) [(.s 25)] [] [] [(2, 1), (1, 2)] true⟩,
 ⟨(some 5), none, .mv (.s 26)⟩])
 (.seq
 (.region false [
 ⟨(some 6), none, .vnil 3 7⟩])
 (.seq
 (.region false [
 ⟨(some 7), none, .vnil 4 1⟩])
 (.seq
 (.seq
 (.region false [
 ⟨(some 8), none, .mv (.c (.int .i64 0))⟩])
 (.block 0
 (.loop [1, 5, 6, 7, 8] [1, 2, 3, 4]
 (.seq
 (.seq
 (.region false [
 ⟨(some 27), none, .mv (.s 8)⟩,
 ⟨(some 28), none, .mv (.s 1)⟩,
 ⟨(some 29), none, .len (.s 28)⟩,
 ⟨(some 30), none, .bin .lss .int (.s 27) (.s 29)⟩])
 (.cond (.s 30)
 .skip
 (.exit 0)))
 (.seq
 (.block 1
 (.seq
 (.region false [
 ⟨(some 33), none, .mv (.s 5)⟩,
 ⟨(some 34), none, .call (.c (.fn 15 [] [])) [(.s 33)] [1, 2] [] [] true⟩,
 ⟨(some 9), none, .mv (.s 34)⟩])
 (.seq
 (.region false [
 ⟨(some 35), none, .mv (.s 5)⟩,
 ⟨(some 36), none, .mv (.s 1)⟩,
 ⟨(some 37), none, .mv (.s 8)⟩,
 ⟨(some 38), none, .iaddrS 7 (.s 36) (.s 37)⟩,
 ⟨(some 39), none, .load (some 7) none (.s 38)⟩,
 ⟨(some 40), none, .call (.c (.fn 16 [] [])) [(.s 35), (.s 39)] [1, 2] [] [] true⟩,
 ⟨(some 41), none, .bin .eql .int (.s 40) (.c (.int .i64 0))⟩])
 (.cond (.s 41)
 (.region false [
 ⟨(some 42), none, .mv (.s 6)⟩,
 ⟨(some 43), none, .mv (.s 1)⟩,
 ⟨(some 44), none, .mv (.s 8)⟩,
 ⟨(some 45), none, .iaddrS 7 (.s 43) (.s 44)⟩,
 ⟨(some 46), none, .load (some 7) none (.s 45)⟩,
 ⟨(some 47), none, .lit none [] 1 7 [.bool false, .int .u8 0, .int .u8 0, .int .u8 0, .int .u8 0, .int .i64 0, .int .i64 0] [(0, 7, (.s 46))]⟩,
 ⟨(some 48), none, .append 32 7 3 none (.s 42) (.s 47)⟩,
 ⟨(some 49), none, .mv (.s 7)⟩,
 ⟨(some 50), none, .mv (.s 9)⟩,
 ⟨(some 51), none, .lit none [] 1 1 [.nilsl] [(0, 1, (.s 50))]⟩,
 ⟨(some 52), none, .append 24 1 4 none (.s 49) (.s 51)⟩,
 ⟨(some 6), none, .mv (.s 48)⟩,
 ⟨(some 7), none, .mv (.s 52)⟩])
 (.seq
 (.region false [
 ⟨(some 53), none, .mv (.s 5)⟩,
 ⟨(some 54), none, .call (.c (.fn 15 [] [])) [(.s 53)] [1, 2] [] [] true⟩,
 ⟨(some 55), none, .mv (.s 9)⟩,
 ⟨(some 56), none, .call (.c (.fn 17 [] [])) [(.s 54), (.s 55)] [] [] [] false⟩,
 ⟨(some 57), none, .un .not (.s 56)⟩])
 (.cond (.s 57)
 (.seq
 (.region false [
 ⟨(some 4), none, .mv (.c (.bool false))⟩])
 .ret)
 .skip))))))
 (.region false [
 ⟨(some 31), none, .mv (.s 8)⟩,
 ⟨(some 32), none, .bin .add .int (.s 31) (.c (.int .i64 1))⟩,
 ⟨(some 8), none, .mv (.s 32)⟩]))))))
 (.seq
 (.seq
 (.region false [
 ⟨(some 58), none, .mv (.s 6)⟩,
 ⟨(some 59), none, .len (.s 58)⟩,
 ⟨(some 60), none, .bin .sub .int (.s 59) (.c (.int .i64 1))⟩,
 ⟨(some 10), none, .mv (.s 60)⟩])
 (.block 2
 (.loop [5, 6, 7, 10] [1, 2, 3, 4]
 (.seq
 (.seq
 (.region false [
 ⟨(some 61), none, .mv (.s 10)⟩,
 ⟨(some 62), none, .bin .geq .int (.s 61) (.c (.int .i64 0))⟩])
 (.cond (.s 62)
 .skip
 (.exit 2)))
 (.seq
 (.block 3
 (.seq
 (.region true [
 ⟨(some 65), none, .mv (.s 5)⟩,
 ⟨(some 66), none, .mv (.s 6)⟩,
 ⟨(some 67), none, .mv (.s 10)⟩,
 ⟨(some 68), none, .iaddrS 7 (.s 66) (.s 67)⟩,
 ⟨(some 69), none, .load (some 7) (some 3) (.s 68)⟩,
 ⟨(some 70), none, .call (.c (.fn 18 [] [])) [(.s 65), (.s 69)] [1, 2] [] [] true⟩,
 ⟨(some 71), none, .un .not (.s 70)⟩,
 ⟨(some 72), none, .mv (.s 71)⟩,
 ⟨(some 73), (some (72, false)), .mv (.s 5)⟩,
 ⟨(some 74), (some (72, false)), .call (.c (.fn 15 [] [])) [(.s 73)] [1, 2] [] [] true⟩,
 ⟨(some 75), (some (72, false)), .mv (.s 7)⟩,
 ⟨(some 76), (some (72, false)), .mv (.s 10)⟩,
 ⟨(some 77), (some (72, false)), .iaddrS 1 (.s 75) (.s 76)⟩,
 ⟨(some 78), (some (72, false)), .load none (some 4) (.s 77)⟩,
 ⟨(some 79), (some (72, false)), .call (.c (.fn 17 [] [])) [(.s 74), (.s 78)] [] [] [] false⟩,
 ⟨(some 80), (some (72, false)), .un .not (.s 79)⟩,
 ⟨(some 81), none, .pick (.s 72) (.c (.bool true)) (.s 80)⟩])
 (.cond (.s 81)
 (.seq
 (.region false [
 ⟨(some 4), none, .mv (.c (.bool false))⟩])
 .ret)
 .skip)))
 (.region false [
 ⟨(some 63), none, .mv (.s 10)⟩,
 ⟨(some 64), none, .bin .sub .int (.s 63) (.c (.int .i64 1))⟩,
 ⟨(some 10), none, .mv (.s 64)⟩]))))))
 (.seq
 (.region false [
 ⟨(some 82), none, .mv (.s 5)⟩,
 ⟨(some 83), none, .call (.c (.fn 19 [] [])) [(.s 82)] [1, 2] [] [] true⟩,
 ⟨(some 84), none, .bin .eql .int (.s 83) (.c (.int .i64 0))⟩,
 ⟨(some 85), none, .mv (.s 84)⟩,
 ⟨(some 86), (some (85, true)), .mv (.s 5)⟩,
 ⟨(some 87), (some (85, true)), .call (.c (.fn 20 [] [])) [(.s 86)] [1, 2] [] [] true⟩,
 ⟨(some 88), (some (85, true)), .build [.int .i64 0, .int .i64 0] []⟩,
 ⟨(some 89), (some (85, true)), .bin .eql (.agg [some .i64, some .i64]) (.s 87) (.s 88)⟩,
 ⟨(some 90), none, .pick (.s 85) (.s 89) (.c (.bool false))⟩,
 ⟨(some 91), none, .mv (.s 90)⟩,
 ⟨(some 92), (some (91, true)), .call (.c (.fn 9 [] [])) [] [] [] [] false⟩,
 ⟨(some 93), none, .pick (.s 91) (.s 92) (.c (.bool false))⟩,
 ⟨(some 4), none, .mv (.s 93)⟩])
 .ret)))))))) }
/- cuboid/cuboidlaw20.BaseBound -/
def f5 : MFun := { nt := 96, np := 3, no := 3, res := [.slot 6], body :=
 (.seq
 (.region false [
 ⟨(some 4), none, .box 0 (.s 1)⟩,
 ⟨(some 6), none, .mv (.c (.bool false))⟩])
 (.seq
 (.region false [
 ⟨(some 12), none, .mv (.s 0)⟩,
 ⟨(some 13), none, .bin .rem .int (.s 12) (.c (.int .u64 2305843009213693953))⟩,
 ⟨(some 14), none, .conv .i64 (.s 13)⟩,
 ⟨(some 7), none, .mv (.s 14)⟩])
 (.seq
 (.region false [
 ⟨(some 15), none, .mv (.s 7)⟩,
 ⟨(some 16), none, .bin .sub .int (.c (.int .i64 2305843009213693952)) (.s 15)⟩,
 ⟨(some 8), none, .mv (.s 16)⟩])
 (.seq
 (.region false [
 ⟨(some 17), none, .mv (.s 7)⟩,
 ⟨(some 18), none, .mv (.s 8)⟩,
 ⟨(some 9), none, .mv (.s 17)⟩,
 ⟨(some 10), none, .mv (.s 18)⟩])
 (.seq
 (.seq
 (.region false [
 ⟨(some 19), none, .iaddrA 2 1 (.s 4) (.c (.int .i64 0))⟩,
 ⟨(some 20), none, .load none (some 0) (.s 19)⟩])
 (.cond (.s 20)
 (.region false [
 ⟨(some 21), none, .mv (.s 7)⟩,
 ⟨(some 22), none, .un .neg (.s 21)⟩,
 ⟨(some 9), none, .mv (.s 22)⟩])
 .skip))
 (.seq
 (.seq
 (.region false [
 ⟨(some 23), none, .iaddrA 2 1 (.s 4) (.c (.int .i64 1))⟩,
 ⟨(some 24), none, .load none (some 0) (.s 23)⟩])
 (.cond (.s 24)
 (.region false [
 ⟨(some 25), none, .mv (.s 8)⟩,
 ⟨(some 26), none, .un .neg (.s 25)⟩,
 ⟨(some 10), none, .mv (.s 26)⟩])
 .skip))
 (.seq
 (.region false [
 ⟨(some 27), none, .call (.c (.fn 21 [] [])) [] [] [] [] true⟩,
 ⟨(some 28), none, .call (.c (.fn 14 [] [])) [(.s 27)] [] [] [(2, 1), (1, 2)] true⟩,
 ⟨(some 11), none, .mv (.s 28)⟩])
 (.seq
 (.seq
 (.region false [
 ⟨(some 29), none, .mv (.s 11)⟩,
 ⟨(some 30), none, .mv (.s 2)⟩,
 ⟨(some 31), none, .mv (.s 9)⟩,
 ⟨(some 32), none, .call (.c (.fn 12 [] [])) [(.s 30), (.s 31)] [] [] [] false⟩,
 ⟨(some 33), none, .build [.bool false, .int .u8 0, .int .u8 0, .int .u8 0, .int .u8 0, .int .i64 0, .int .i64 0] [(1, 6, (.s 32))]⟩,
 ⟨(some 34), none, .call (.c (.fn 16 [] [])) [(.s 29), (.s 33)] [1, 2] [] [] true⟩,
 ⟨(some 35), none, .bin .neq .int (.s 34) (.c (.int .i64 0))⟩,
 ⟨(some 36), none, .mv (.s 35)⟩,
 ⟨(some 37), (some (36, false)), .mv (.s 11)⟩,
 ⟨(some 38), (some (36, false)), .mv (.s 2)⟩,
 ⟨(some 39), (some (36, false)), .bin .add .int (.s 38) (.c (.int .u8 1))⟩,
 ⟨(some 40), (some (36, false)), .mv (.s 10)⟩,
 ⟨(some 41), (some (36, false)), .call (.c (.fn 12 [] [])) [(.s 39), (.s 40)] [] [] [] false⟩,
 ⟨(some 42), (some (36, false)), .build [.bool false, .int .u8 0, .int .u8 0, .int .u8 0, .int .u8 0, .int .i64 0, .int .i64 0] [(1, 6, (.s 41))]⟩,
 ⟨(some 43), (some (36, false)), .call (.c (.fn 16 [] [])) [(.s 37), (.s 42)] [1, 2] [] [] true⟩,
 ⟨(some 44), (some (36, false)), .bin .neq .int (.s 43) (.c (.int .i64 0))⟩,
 ⟨(some 45), none, .pick (.s 36) (.c (.bool true)) (.s 44)⟩,
 ⟨(some 46), none, .mv (.s 45)⟩,
 ⟨(some 47), (some (46, false)), .mv (.s 11)⟩,
 ⟨(some 48), (some (46, false)), .call (.c (.fn 20 [] [])) [(.s 47)] [1, 2] [] [] true⟩,
 ⟨(some 49), (some (46, false)), .index 2 1 false (.s 48) (.c (.int .i64 0))⟩,
 ⟨(some 50), (some (46, false)), .bin .neq .int (.s 49) (.c (.int .i64 2305843009213693952))⟩,
 ⟨(some 51), none, .pick (.s 46) (.c (.bool true)) (.s 50)⟩])
 (.cond (.s 51)
 (.seq
 (.region false [
 ⟨(some 6), none, .mv (.c (.bool false))⟩])
 .ret)
 .skip))
 (.seq
 (.seq
 (.region false [
 ⟨(some 52), none, .mv (.s 11)⟩,
 ⟨(some 53), none, .call (.c (.fn 12 [] [])) [(.c (.int .u8 2)), (.c (.int .i64 1))] [] [] [] false⟩,
 ⟨(some 54), none, .build [.bool false, .int .u8 0, .int .u8 0, .int .u8 0, .int .u8 0, .int .i64 0, .int .i64 0] [(1, 6, (.s 53))]⟩,
 ⟨(some 55), none, .call (.c (.fn 16 [] [])) [(.s 52), (.s 54)] [1, 2] [] [] true⟩,
 ⟨(some 56), none, .bin .neq .int (.s 55) (.c (.int .i64 9))⟩,
 ⟨(some 57), none, .mv (.s 56)⟩,
 ⟨(some 58), (some (57, false)), .mv (.s 11)⟩,
 ⟨(some 59), (some (57, false)), .call (.c (.fn 12 [] [])) [(.c (.int .u8 2)), (.c (.int .i64 (-1)))] [] [] [] false⟩,
 ⟨(some 60), (some (57, false)), .build [.bool false, .int .u8 0, .int .u8 0, .int .u8 0, .int .u8 0, .int .i64 0, .int .i64 0] [(1, 6, (.s 59))]⟩,
 ⟨(some 61), (some (57, false)), .call (.c (.fn 16 [] [])) [(.s 58), (.s 60)] [1, 2] [] [] true⟩,
 ⟨(some 62), (some (57, false)), .bin .neq .int (.s 61) (.c (.int .i64 9))⟩,
 ⟨(some 63), none, .pick (.s 57) (.c (.bool true)) (.s 62)⟩,
 ⟨(some 64), none, .mv (.s 63)⟩,
 ⟨(some 65), (some (64, false)), .mv (.s 11)⟩,
 ⟨(some 66), (some (64, false)), .call (.c (.fn 12 [] [])) [(.c (.int .u8 2)), (.c (.int .i64 (-9223372036854775808)))] [] [] [] false⟩,
 ⟨(some 67), (some (64, false)), .build [.bool false, .int .u8 0, .int .u8 0, .int .u8 0, .int .u8 0, .int .i64 0, .int .i64 0] [(1, 6, (.s 66))]⟩,
 ⟨(some 68), (some (64, false)), .call (.c (.fn 16 [] [])) [(.s 65), (.s 67)] [1, 2] [] [] true⟩,
 ⟨(some 69), (some (64, false)), .bin .neq .int (.s 68) (.c (.int .i64 9))⟩,
 ⟨(some 70), none, .pick (.s 64) (.c (.bool true)) (.s 69)⟩,
 ⟨(some 71), none, .mv (.s 70)⟩,
 ⟨(some 72), (some (71, false)), .mv (.s 11)⟩,
 ⟨(some 73), (some (71, false)), .call (.c (.fn 12 [] [])) [(.c (.int .u8 2)), (.c (.int .i64 0))] [] [] [] false⟩,
 ⟨(some 74), (some (71, false)), .build [.bool false, .int .u8 0, .int .u8 0, .int .u8 0, .int .u8 0, .int .i64 0, .int .i64 0] [(1, 6, (.s 73))]⟩,
 ⟨(some 75), (some (71, false)), .call (.c (.fn 16 [] [])) [(.s 72), (.s 74)] [1, 2] [] [] true⟩,
 ⟨(some 76), (some (71, false)), .bin .neq .int (.s 75) (.c (.int .i64 0))⟩,
 ⟨(some 77), none, .pick (.s 71) (.c (.bool true)) (.s 76)⟩])
 (.cond (.s 77)
 (.seq
 (.region false [
 ⟨(some 6), none, .mv (.c (.bool false))⟩])
 .ret)
 .skip))
 (.seq
 (.seq
 (.region false [
 ⟨(some 78), none, .mv (.s 11)⟩,
 ⟨(some 79), none, .mv (.s 2)⟩,
 ⟨(some 80), none, .mv (.s 9)⟩,
 ⟨(some 81), none, .call (.c (.fn 12 [] [])) [(.s 79), (.s 80)] [] [] [] false⟩,
 ⟨(some 82), none, .build [.bool false, .int .u8 0, .int .u8 0, .int .u8 0, .int .u8 0, .int .i64 0, .int .i64 0] [(0, 1, (.c (.bool true))), (1, 6, (.s 81))]⟩,
 ⟨(some 83), none, .call (.c (.fn 16 [] [])) [(.s 78), (.s 82)] [1, 2] [] [] true⟩,
 ⟨(some 84), none, .bin .neq .int (.s 83) (.c (.int .i64 0))⟩])
 (.cond (.s 84)
 (.seq
 (.region false [
 ⟨(some 6), none, .mv (.c (.bool false))⟩])
 .ret)
 .skip))
 (.seq
 (.region false [
 ⟨(some 85), none, .mv (.s 11)⟩,
 ⟨(some 86), none, .call (.c (.fn 12 [] [])) [(.c (.int .u8 3)), (.c (.int .i64 1))] [] [] [] false⟩,
 ⟨(some 87), none, .build [.bool false, .int .u8 0, .int .u8 0, .int .u8 0, .int .u8 0, .int .i64 0, .int .i64 0] [(1, 6, (.s 86))]⟩,
 ⟨(some 88), none, .call (.c (.fn 16 [] [])) [(.s 85), (.s 87)] [1, 2] [] [] true⟩,
 ⟨(some 89), none, .bin .eql .int (.s 88) (.c (.int .i64 0))⟩,
 ⟨(some 90), none, .mv (.s 7)⟩,
 ⟨(some 91), none, .bin .gtr .int (.s 90) (.c (.int .i64 0))⟩,
 ⟨(some 92), none, .bin .eql .bool (.s 89) (.s 91)⟩,
 ⟨(some 93), none, .mv (.s 92)⟩,
 ⟨(some 94), (some (93, true)), .call (.c (.fn 9 [] [])) [] [] [] [] false⟩,
 ⟨(some 95), none, .pick (.s 93) (.s 94) (.c (.bool false))⟩,
 ⟨(some 6), none, .mv (.s 95)⟩])
 .ret))))))))))) }
/- cuboid/cuboidlaw20.BaseMany -/
def f6 : MFun := { nt := 118, np := 3, no := 4, res := [.slot 6], body :=
 (.seq
 (.region false [
 ⟨(some 6), none, .mv (.c (.bool false))⟩])
 (.seq
 (.region false [
 ⟨(some 13), none, .call (.c (.fn 21 [] [])) [] [] [] [] true⟩,
 ⟨(some 14), none, .call (.c (.fn 14 [] [])) [(.s 13)] [] [] [(2, 0), (1, 1)] true⟩,
 ⟨(some 7), none, .mv (.s 14)⟩])
 (.seq
 (.region false [
 ⟨(some 15), none, .mv (.s 0)⟩,
 ⟨(some 16), none, .bin .rem .int (.s 15) (.c (.int .u8 40))⟩,
 ⟨(some 17), none, .conv .i64 (.s 16)⟩,
 ⟨(some 8), none, .mv (.s 17)⟩])
 (.seq
 (.region false [
 ⟨(some 18), none, .mv (.s 2)⟩,
 ⟨(some 19), none, .mv (.s 1)⟩,
 ⟨(some 20), none, .conv .i64 (.s 19)⟩,
 ⟨(some 21), none, .call (.c (.fn 12 [] [])) [(.s 18), (.s 20)] [] [] [] false⟩,
 ⟨(some 22), none, .mv (.s 2)⟩,
 ⟨(some 23), none, .mv (.s 1)⟩,
 ⟨(some 24), none, .conv .i64 (.s 23)⟩,
 ⟨(some 25), none, .bin .add .int (.s 24) (.c (.int .i64 1))⟩,
 ⟨(some 26), none, .call (.c (.fn 12 [] [])) [(.s 22), (.s 25)] [] [] [] false⟩,
 ⟨(some 9), none, .alloc 2 [.int .u8 0, .int .u8 0, .int .u8 0, .int .u8 0, .int .i64 0, .int .i64 0]⟩,
 ⟨(some 10), none, .alloc 3 [.int .u8 0, .int .u8 0, .int .u8 0, .int .u8 0, .int .i64 0, .int .i64 0]⟩,
 ⟨none, none, .store 6 2 [] (.s 9) (.s 21)⟩,
 ⟨none, none, .store 6 3 [] (.s 10) (.s 26)⟩])
 (.seq
 (.seq
 (.region false [
 ⟨(some 27), none, .mv (.s 7)⟩,
 ⟨(some 28), none, .load (some 6) (some 3) (.s 10)⟩,
 ⟨(some 29), none, .build [.bool false, .int .u8 0, .int .u8 0, .int .u8 0, .int .u8 0, .int .i64 0, .int .i64 0] [(1, 6, (.s 28))]⟩,
 ⟨(some 30), none, .call (.c (.fn 16 [] [])) [(.s 27), (.s 29)] [0, 1] [] [] true⟩,
 ⟨(some 31), none, .bin .neq .int (.s 30) (.c (.int .i64 0))⟩])
 (.cond (.s 31)
 (.seq
 (.region false [
 ⟨(some 6), none, .mv (.c (.bool false))⟩])
 .ret)
 .skip))
 (.seq
 (.seq
 (.region false [
 ⟨(some 11), none, .mv (.c (.int .i64 0))⟩])
 (.block 0
 (.loop [7, 8, 9, 10, 11] [0, 1, 2, 3]
 (.seq
 (.seq
 (.region false [
 ⟨(some 32), none, .mv (.s 11)⟩,
 ⟨(some 33), none, .mv (.s 8)⟩,
 ⟨(some 34), none, .bin .lss .int (.s 32) (.s 33)⟩])
 (.cond (.s 34)
 .skip
 (.exit 0)))
 (.seq
 (.block 1
 (.seq
 (.region false [
 ⟨(some 37), none, .mv (.s 7)⟩,
 ⟨(some 38), none, .load (some 6) (some 2) (.s 9)⟩,
 ⟨(some 39), none, .build [.bool false, .int .u8 0, .int .u8 0, .int .u8 0, .int .u8 0, .int .i64 0, .int .i64 0] [(1, 6, (.s 38))]⟩,
 ⟨(some 40), none, .call (.c (.fn 16 [] [])) [(.s 37), (.s 39)] [0, 1] [] [] true⟩,
 ⟨(some 41), none, .bin .neq .int (.s 40) (.c (.int .i64 0))⟩,
 ⟨(some 42), none, .mv (.s 41)⟩,
 ⟨(some 43), (some (42, false)), .mv (.s 7)⟩,
 ⟨(some 44), (some (42, false)), .load (some 6) (some 2) (.s 9)⟩,
 ⟨(some 45), (some (42, false)), .call (.c (.fn 22 [] [])) [(.s 43), (.s 44)] [0, 1] [] [] true⟩,
 ⟨(some 46), (some (42, false)), .mv (.s 11)⟩,
 ⟨(some 47), (some (42, false)), .bin .add .int (.s 46) (.c (.int .i64 1))⟩,
 ⟨(some 48), (some (42, false)), .bin .neq .int (.s 45) (.s 47)⟩,
 ⟨(some 49), none, .pick (.s 42) (.c (.bool true)) (.s 48)⟩,
 ⟨(some 50), none, .mv (.s 49)⟩,
 ⟨(some 51), (some (50, false)), .mv (.s 7)⟩,
 ⟨(some 52), (some (50, false)), .load (some 6) (some 3) (.s 10)⟩,
 ⟨(some 53), (some (50, false)), .call (.c (.fn 22 [] [])) [(.s 51), (.s 52)] [0, 1] [] [] true⟩,
 ⟨(some 54), (some (50, false)), .bin .neq .int (.s 53) (.c (.int .i64 1))⟩,
 ⟨(some 55), none, .pick (.s 50) (.c (.bool true)) (.s 54)⟩,
 ⟨(some 56), none, .mv (.s 55)⟩,
 ⟨(some 57), (some (56, false)), .mv (.s 7)⟩,
 ⟨(some 58), (some (56, false)), .call (.c (.fn 19 [] [])) [(.s 57)] [0, 1] [] [] true⟩,
 ⟨(some 59), (some (56, false)), .mv (.s 11)⟩,
 ⟨(some 60), (some (56, false)), .bin .add .int (.s 59) (.c (.int .i64 2))⟩,
 ⟨(some 61), (some (56, false)), .bin .neq .int (.s 58) (.s 60)⟩,
 ⟨(some 62), none, .pick (.s 56) (.c (.bool true)) (.s 61)⟩])
 (.cond (.s 62)
 (.seq
 (.region false [
 ⟨(some 6), none, .mv (.c (.bool false))⟩])
 .ret)
 .skip)))
 (.region false [
 ⟨(some 35), none, .mv (.s 11)⟩,
 ⟨(some 36), none, .bin .add .int (.s 35) (.c (.int .i64 1))⟩,
 ⟨(some 11), none, .mv (.s 36)⟩]))))))
 (.seq
 (.seq
 (.region false [
 ⟨(some 63), none, .mv (.s 8)⟩,
 ⟨(some 12), none, .mv (.s 63)⟩])
 (.block 2
 (.loop [7, 9, 10, 12] [0, 1, 2, 3]
 (.seq
 (.seq
 (.region false [
 ⟨(some 64), none, .mv (.s 12)⟩,
 ⟨(some 65), none, .bin .gtr .int (.s 64) (.c (.int .i64 0))⟩])
 (.cond (.s 65)
 .skip
 (.exit 2)))
 (.seq
 (.block 3
 (.seq
 (.region false [
 ⟨(some 68), none, .mv (.s 7)⟩,
 ⟨(some 69), none, .load (some 6) (some 2) (.s 9)⟩,
 ⟨(some 70), none, .build [.bool false, .int .u8 0, .int .u8 0, .int .u8 0, .int .u8 0, .int .i64 0, .int .i64 0] [(0, 1, (.c (.bool true))), (1, 6, (.s 69))]⟩,
 ⟨(some 71), none, .call (.c (.fn 16 [] [])) [(.s 68), (.s 70)] [0, 1] [] [] true⟩,
 ⟨(some 72), none, .bin .neq .int (.s 71) (.c (.int .i64 0))⟩,
 ⟨(some 73), none, .mv (.s 72)⟩,
 ⟨(some 74), (some (73, false)), .mv (.s 7)⟩,
 ⟨(some 75), (some (73, false)), .load (some 6) (some 2) (.s 9)⟩,
 ⟨(some 76), (some (73, false)), .call (.c (.fn 22 [] [])) [(.s 74), (.s 75)] [0, 1] [] [] true⟩,
 ⟨(some 77), (some (73, false)), .mv (.s 12)⟩,
 ⟨(some 78), (some (73, false)), .bin .sub .int (.s 77) (.c (.int .i64 1))⟩,
 ⟨(some 79), (some (73, false)), .bin .neq .int (.s 76) (.s 78)⟩,
 ⟨(some 80), none, .pick (.s 73) (.c (.bool true)) (.s 79)⟩,
 ⟨(some 81), none, .mv (.s 80)⟩,
 ⟨(some 82), (some (81, false)), .mv (.s 7)⟩,
 ⟨(some 83), (some (81, false)), .load (some 6) (some 3) (.s 10)⟩,
 ⟨(some 84), (some (81, false)), .call (.c (.fn 22 [] [])) [(.s 82), (.s 83)] [0, 1] [] [] true⟩,
 ⟨(some 85), (some (81, false)), .bin .neq .int (.s 84) (.c (.int .i64 1))⟩,
 ⟨(some 86), none, .pick (.s 81) (.c (.bool true)) (.s 85)⟩])
 (.cond (.s 86)
 (.seq
 (.region false [
 ⟨(some 6), none, .mv (.c (.bool false))⟩])
 .ret)
 .skip)))
 (.region false [
 ⟨(some 66), none, .mv (.s 12)⟩,
 ⟨(some 67), none, .bin .sub .int (.s 66) (.c (.int .i64 1))⟩,
 ⟨(some 12), none, .mv (.s 67)⟩]))))))
 (.seq
 (.region false [
 ⟨(some 87), none, .mv (.s 7)⟩,
 ⟨(some 88), none, .load (some 6) (some 2) (.s 9)⟩,
 ⟨(some 89), none, .build [.bool false, .int .u8 0, .int .u8 0, .int .u8 0, .int .u8 0, .int .i64 0, .int .i64 0] [(0, 1, (.c (.bool true))), (1, 6, (.s 88))]⟩,
 ⟨(some 90), none, .call (.c (.fn 16 [] [])) [(.s 87), (.s 89)] [0, 1] [] [] true⟩,
 ⟨(some 91), none, .bin .eql .int (.s 90) (.c (.int .i64 8))⟩,
 ⟨(some 92), none, .mv (.s 91)⟩,
 ⟨(some 93), (some (92, true)), .mv (.s 7)⟩,
 ⟨(some 94), (some (92, true)), .call (.c (.fn 19 [] [])) [(.s 93)] [0, 1] [] [] true⟩,
 ⟨(some 95), (some (92, true)), .bin .eql .int (.s 94) (.c (.int .i64 1))⟩,
 ⟨(some 96), none, .pick (.s 92) (.s 95) (.c (.bool false))⟩,
 ⟨(some 97), none, .mv (.s 96)⟩,
 ⟨(some 98), (some (97, true)), .mv (.s 7)⟩,
 ⟨(some 99), (some (97, true)), .load (some 6) (some 2) (.s 9)⟩,
 ⟨(some 100), (some (97, true)), .build [.bool false, .int .u8 0, .int .u8 0, .int .u8 0, .int .u8 0, .int .i64 0, .int .i64 0] [(1, 6, (.s 99))]⟩,
 ⟨(some 101), (some (97, true)), .call (.c (.fn 18 [] [])) [(.s 98), (.s 100)] [0, 1] [] [] true⟩,
 ⟨(some 102), (some (97, true)), .un .not (.s 101)⟩,
 ⟨(some 103), none, .pick (.s 97) (.s 102) (.c (.bool false))⟩,
 ⟨(some 104), none, .mv (.s 103)⟩,
 ⟨(some 105), (some (104, true)), .mv (.s 7)⟩,
 ⟨(some 106), (some (104, true)), .load (some 6) (some 3) (.s 10)⟩,
 ⟨(some 107), (some (104, true)), .build [.bool false, .int .u8 0, .int .u8 0, .int .u8 0, .int .u8 0, .int .i64 0, .int .i64 0] [(1, 6, (.s 106))]⟩,
 ⟨(some 108), (some (104, true)), .call (.c (.fn 18 [] [])) [(.s 105), (.s 107)] [0, 1] [] [] true⟩,
 ⟨(some 109), none, .pick (.s 104) (.s 108) (.c (.bool false))⟩,
 ⟨(some 110), none, .mv (.s 109)⟩,
 ⟨(some 111), (some (110, true)), .mv (.s 7)⟩,
 ⟨(some 112), (some (110, true)), .call (.c (.fn 19 [] [])) [(.s 111)] [0, 1] [] [] true⟩,
 ⟨(some 113), (some (110, true)), .bin .eql .int (.s 112) (.c (.int .i64 0))⟩,
 ⟨(some 114), none, .pick (.s 110) (.s 113) (.c (.bool false))⟩,
 ⟨(some 115), none, .mv (.s 114)⟩,
 ⟨(some 116), (some (115, true)), .call (.c (.fn 9 [] [])) [] [] [] [] false⟩,
 ⟨(some 117), none, .pick (.s 115) (.s 116) (.c (.bool false))⟩,
 ⟨(some 6), none, .mv (.s 117)⟩])
 .ret)))))))) }
/- cuboid/row.Mass -/
def f23 : MFun := { nt := 35, np := 1, no := 3, res := [.cell 2 0 (some 2), .slot 3], body :=
 (.seq
 (.region false [
 ⟨(some 2), none, .alloc 0 [.int .i64 0, .int .i64 0]⟩,
 ⟨(some 3), none, .mv (.c (.bool false))⟩])
 (.seq
 (.region false [
 ⟨(some 4), none, .alloc 1 [.int .i64 0, .int .i64 0]⟩])
 (.seq
 (.seq
 (.region false [
 ⟨(some 9), none, .mv (.c (.int .i64 0))⟩])
 (.block 0
 (.loop [0, 2, 4, 9] [0, 1]
 (.seq
 (.region false [
 ⟨(some 10), none, .bin .lss .int (.s 9) (.c (.int .i64 2))⟩])
 (.seq
 (.cond (.s 10)
 .skip
 (.exit 0))
 (.seq
 (.block 1
 (.seq
 (.region false [
 ⟨(some 11), none, .mv (.s 9)⟩,
 ⟨(some 5), none, .mv (.s 11)⟩])
 (.seq
 (.region false [
 ⟨(some 6), none, .mv (.c (.int .u64 0))⟩])
 (.seq
 (.seq
 (.region false [
 ⟨(some 12), none, .mv (.s 0)⟩,
 ⟨(some 13), none, .len (.s 12)⟩,
 ⟨(some 14), none, .mv (.c (.int .i64 0))⟩])
 (.block 2
 (.loop [0, 2, 4, 5, 6, 9, 12, 13, 14] [0, 1]
 (.seq
 (.region false [
 ⟨(some 15), none, .bin .lss .int (.s 14) (.s 13)⟩])
 (.seq
 (.cond (.s 15)
 .skip
 (.exit 2))
 (.seq
 (.block 3
 (.seq
 (.region false [
 ⟨(some 16), none, .iaddrS 6 (.s 12) (.s 14)⟩,
 ⟨(some 17), none, .load (some 6) none (.s 16)⟩,
 ⟨(some 8), none, .alloc 2 [.int .u8 0, .int .u8 0, .int .u8 0, .int .u8 0, .int .i64 0, .int .i64 0]⟩,
 ⟨none, none, .store 6 2 [] (.s 8) (.s 17)⟩])
 (.seq
 (.region false [
 ⟨(some 18), none, .mv (.s 6)⟩,
 ⟨(some 19), none, .mv (.s 5)⟩,
 ⟨(some 20), none, .faddr 4 (.s 8)⟩,
 ⟨(some 21), none, .iaddrA 2 1 (.s 20) (.s 19)⟩,
 ⟨(some 22), none, .load none (some 2) (.s 21)⟩,
 ⟨(some 23), none, .call (.c (.fn 36 [] [])) [(.s 22)] [] [] [] false⟩,
 ⟨(some 24), none, .bin .add .int (.s 18) (.s 23)⟩,
 ⟨(some 6), none, .mv (.s 24)⟩])
 (.seq
 (.region false [
 ⟨(some 25), none, .mv (.s 6)⟩,
 ⟨(some 26), none, .bin .gtr .int (.s 25) (.c (.int .u64 2305843009213693952))⟩])
 (.cond (.s 26)
 (.seq
 (.region false [
 ⟨(some 27), none, .build [.int .i64 0, .int .i64 0] []⟩,
 ⟨none, none, .store 2 0 [] (.s 2) (.s 27)⟩,
 ⟨(some 3), none, .mv (.c (.bool false))⟩])
 .ret)
 .skip)))))
 (.region false [
 ⟨(some 28), none, .bin .add .int (.s 14) (.c (.int .i64 1))⟩,
 ⟨(some 14), none, .mv (.s 28)⟩])))))))
 (.region false [
 ⟨(some 29), none, .mv (.s 5)⟩,
 ⟨(some 30), none, .mv (.s 6)⟩,
 ⟨(some 31), none, .conv .i64 (.s 30)⟩,
 ⟨(some 32), none, .iaddrA 2 1 (.s 4) (.s 29)⟩,
 ⟨none, none, .store 1 1 [] (.s 32) (.s 31)⟩])))))
 (.region false [
 ⟨(some 33), none, .bin .add .int (.s 9) (.c (.int .i64 1))⟩,
 ⟨(some 9), none, .mv (.s 33)⟩])))))))
 (.seq
 (.region false [
 ⟨(some 34), none, .load (some 2) (some 1) (.s 4)⟩,
 ⟨none, none, .store 2 0 [] (.s 2) (.s 34)⟩,
 ⟨(some 3), none, .mv (.c (.bool true))⟩])
 .ret)))) }
/- cuboid/row.Less -/
def f25 : MFun := { nt := 9, np := 2, no := 2, res := [.slot 4], body :=
 (.seq
 (.region false [
 ⟨(some 2), none, .box 0 (.s 0)⟩,
 ⟨(some 3), none, .box 1 (.s 1)⟩,
 ⟨(some 4), none, .mv (.c (.bool false))⟩])
 (.seq
 (.region false [
 ⟨(some 5), none, .load (some 6) (some 0) (.s 2)⟩,
 ⟨(some 6), none, .load (some 6) (some 1) (.s 3)⟩,
 ⟨(some 7), none, .call (.c (.fn 39 [] [])) [(.s 5), (.s 6)] [] [] [] false⟩,
 ⟨(some 8), none, .bin .lss .int (.s 7) (.c (.int .i64 0))⟩,
 ⟨(some 4), none, .mv (.s 8)⟩])
 .ret)) }
/- cuboid/cuboidlaw20.BaseRows -/
def f7 : MFun := { nt := 120, np := 2, no := 4, res := [.slot 4], body :=
 (.seq
 (.region false [
 ⟨(some 2), none, .box 0 (.s 0)⟩,
 ⟨(some 4), none, .mv (.c (.bool false))⟩])
 (.seq
 (.seq
 (.region false [
 ⟨(some 13), none, .load (some 2) (some 0) (.s 2)⟩,
 ⟨(some 14), none, .call (.c (.fn 8 [] [])) [(.s 13)] [] [] [] false⟩,
 ⟨(some 15), none, .un .not (.s 14)⟩,
 ⟨(some 16), none, .mv (.s 15)⟩,
 ⟨(some 17), (some (16, false)), .mv (.s 1)⟩,
 ⟨(some 18), (some (16, false)), .len (.s 17)⟩,
 ⟨(some 19), (some (16, false)), .bin .gtr .int (.s 18) (.c (.int .i64 60))⟩,
 ⟨(some 20), none, .pick (.s 16) (.c (.bool true)) (.s 19)⟩,
 ⟨(some 21), none, .mv (.s 20)⟩,
 ⟨(some 22), (some (21, false)), .load (some 2) (some 0) (.s 2)⟩,
 ⟨(some 23), (some (21, false)), .call (.c (.fn 13 [] [])) [(.s 22)] [] [] [] false⟩,
 ⟨(some 24), (some (21, false)), .un .not (.s 23)⟩,
 ⟨(some 25), none, .pick (.s 21) (.c (.bool true)) (.s 24)⟩])
 (.cond (.s 25)
 (.seq
 (.region false [
 ⟨(some 26), none, .call (.c (.fn 9 [] [])) [] [] [] [] false⟩,
 ⟨(some 4), none, .mv (.s 26)⟩])
 .ret)
 .skip))
 (.seq
 (.region false [
 ⟨(some 27), none, .load (some 2) (some 0) (.s 2)⟩,
 ⟨(some 28), none, .call (.c (.fn 14 [] [])) [(.s 27)] [] [] [(2, 1), (1, 2)] true⟩,
 ⟨(some 5), none, .mv (.s 28)⟩])
 (.seq
 (.seq
 (.region false [
 ⟨(some 6), none, .mv (.c (.int .i64 0))⟩])
 (.block 0
 (.loop [1, 2, 5, 6] [0, 1, 2]
 (.seq
 (.seq
 (.region false [
 ⟨(some 29), none, .mv (.s 6)⟩,
 ⟨(some 30), none, .mv (.s 1)⟩,
 ⟨(some 31), none, .len (.s 30)⟩,
 ⟨(some 32), none, .bin .lss .int (.s 29) (.s 31)⟩])
 (.cond (.s 32)
 .skip
 (.exit 0)))
 (.seq
 (.block 1
 (.region false [
 ⟨(some 35), none, .mv (.s 5)⟩,
 ⟨(some 36), none, .mv (.s 1)⟩,
 ⟨(some 37), none, .mv (.s 6)⟩,
 ⟨(some 38), none, .iaddrS 7 (.s 36) (.s 37)⟩,
 ⟨(some 39), none, .load (some 7) none (.s 38)⟩,
 ⟨(some 40), none, .call (.c (.fn 16 [] [])) [(.s 35), (.s 39)] [1, 2] [] [] true⟩]))
 (.region false [
 ⟨(some 33), none, .mv (.s 6)⟩,
 ⟨(some 34), none, .bin .add .int (.s 33) (.c (.int .i64 1))⟩,
 ⟨(some 6), none, .mv (.s 34)⟩]))))))
 (.seq
 (.region false [
 ⟨(some 41), none, .mv (.s 5)⟩,
 ⟨(some 42), none, .call (.c (.fn 15 [] [])) [(.s 41)] [1, 2] [] [] true⟩,
 ⟨(some 7), none, .mv (.s 42)⟩])
 (.seq
 (.region false [
 ⟨(some 44), none, .mv (.s 7)⟩,
 ⟨(some 45), none, .call (.c (.fn 23 [] [])) [(.s 44)] [] [] [] false⟩,
 ⟨(some 43), none, .mv (.s 45)⟩,
 ⟨(some 46), none, .extract (.s 43) 0⟩,
 ⟨(some 47), none, .extract (.s 43) 1⟩,
 ⟨(some 8), none, .alloc 3 [.int .i64 0, .int .i64 0]⟩,
 ⟨none, none, .store 2 3 [] (.s 8) (.s 46)⟩,
 ⟨(some 9), none, .mv (.s 47)⟩])
 (.seq
 (.seq
 (.region true [
 ⟨(some 48), none, .mv (.s 7)⟩,
 ⟨(some 49), none, .len (.s 48)⟩,
 ⟨(some 50), none, .mv (.s 5)⟩,
 ⟨(some 51), none, .call (.c (.fn 19 [] [])) [(.s 50)] [1, 2] [] [] true⟩,
 ⟨(some 52), none, .bin .neq .int (.s 49) (.s 51)⟩,
 ⟨(some 53), none, .mv (.s 52)⟩,
 ⟨(some 54), (some (53, false)), .mv (.s 9)⟩,
 ⟨(some 55), (some (53, false)), .un .not (.s 54)⟩,
 ⟨(some 56), none, .pick (.s 53) (.c (.bool true)) (.s 55)⟩,
 ⟨(some 57), none, .mv (.s 56)⟩,
 ⟨(some 58), (some (57, false)), .load (some 2) (some 3) (.s 8)⟩,
 ⟨(some 59), (some (57, false)), .mv (.s 5)⟩,
 ⟨(some 60), (some (57, false)), .call (.c (.fn 20 [] [])) [(.s 59)] [1, 2] [] [] true⟩,
 ⟨(some 61), (some (57, false)), .bin .neq (.agg [some .i64, some .i64]) (.s 58) (.s 60)⟩,
 ⟨(some 62), none, .pick (.s 57) (.c (.bool true)) (.s 61)⟩])
 (.cond (.s 62)
 (.seq
 (.region false [
 ⟨(some 4), none, .mv (.c (.bool false))⟩])
 .ret)
 .skip))
 (.seq
 (.seq
 (.region false [
 ⟨(some 10), none, .mv (.c (.int .i64 0))⟩])
 (.block 2
 (.loop [2, 5, 7, 10] [0, 1, 2]
 (.seq
 (.seq
 (.region false [
 ⟨(some 63), none, .mv (.s 10)⟩,
 ⟨(some 64), none, .mv (.s 7)⟩,
 ⟨(some 65), none, .len (.s 64)⟩,
 ⟨(some 66), none, .bin .lss .int (.s 63) (.s 65)⟩])
 (.cond (.s 66)
 .skip
 (.exit 2)))
 (.seq
 (.block 3
 (.seq
 (.region false [
 ⟨(some 11), none, .mv (.c (.int .i64 0))⟩])
 (.seq
 (.seq
 (.region false [
 ⟨(some 12), none, .mv (.c (.int .i64 0))⟩])
 (.block 4
 (.loop [2, 5, 7, 10, 11, 12] [0, 1, 2]
 (.seq
 (.seq
 (.region false [
 ⟨(some 69), none, .mv (.s 12)⟩,
 ⟨(some 70), none, .mv (.s 7)⟩,
 ⟨(some 71), none, .len (.s 70)⟩,
 ⟨(some 72), none, .bin .lss .int (.s 69) (.s 71)⟩])
 (.cond (.s 72)
 .skip
 (.exit 4)))
 (.seq
 (.block 5
 (.seq
 (.region true [
 ⟨(some 75), none, .mv (.s 7)⟩,
 ⟨(some 76), none, .mv (.s 12)⟩,
 ⟨(some 77), none, .iaddrS 6 (.s 75) (.s 76)⟩,
 ⟨(some 78), none, .load (some 6) none (.s 77)⟩,
 ⟨(some 79), none, .mv (.s 7)⟩,
 ⟨(some 80), none, .mv (.s 10)⟩,
 ⟨(some 81), none, .iaddrS 6 (.s 79) (.s 80)⟩,
 ⟨(some 82), none, .load (some 6) none (.s 81)⟩,
 ⟨(some 83), none, .bin .eql (.agg [some .u8, some .u8, some .u8, some .u8, some .i64, some .i64]) (.s 78) (.s 82)⟩])
 (.cond (.s 83)
 (.region false [
 ⟨(some 84), none, .mv (.s 11)⟩,
 ⟨(some 85), none, .bin .add .int (.s 84) (.c (.int .i64 1))⟩,
 ⟨(some 11), none, .mv (.s 85)⟩])
 .skip)))
 (.region false [
 ⟨(some 73), none, .mv (.s 12)⟩,
 ⟨(some 74), none, .bin .add .int (.s 73) (.c (.int .i64 1))⟩,
 ⟨(some 12), none, .mv (.s 74)⟩]))))))
 (.seq
 (.region true [
 ⟨(some 86), none, .mv (.s 5)⟩,
 ⟨(some 87), none, .mv (.s 7)⟩,
 ⟨(some 88), none, .mv (.s 10)⟩,
 ⟨(some 89), none, .iaddrS 6 (.s 87) (.s 88)⟩,
 ⟨(some 90), none, .load (some 6) none (.s 89)⟩,
 ⟨(some 91), none, .call (.c (.fn 22 [] [])) [(.s 86), (.s 90)] [1, 2] [] [] true⟩,
 ⟨(some 92), none, .mv (.s 11)⟩,
 ⟨(some 93), none, .bin .neq .int (.s 91) (.s 92)⟩,
 ⟨(some 94), none, .mv (.s 93)⟩,
 ⟨(some 95), (some (94, false)), .load (some 2) (some 0) (.s 2)⟩,
 ⟨(some 96), (some (94, false)), .mv (.s 7)⟩,
 ⟨(some 97), (some (94, false)), .mv (.s 10)⟩,
 ⟨(some 98), (some (94, false)), .iaddrS 6 (.s 96) (.s 97)⟩,
 ⟨(some 99), (some (94, false)), .load (some 6) none (.s 98)⟩,
 ⟨(some 100), (some (94, false)), .call (.c (.fn 24 [] [])) [(.s 95), (.s 99)] [] [] [] false⟩,
 ⟨(some 101), (some (94, false)), .un .not (.s 100)⟩,
 ⟨(some 102), none, .pick (.s 94) (.c (.bool true)) (.s 101)⟩,
 ⟨(some 103), none, .mv (.s 102)⟩,
 ⟨(some 104), (some (103, false)), .mv (.s 10)⟩,
 ⟨(some 105), (some (103, false)), .bin .gtr .int (.s 104) (.c (.int .i64 0))⟩,
 ⟨(some 106), (some (103, false)), .mv (.s 105)⟩,
 ⟨(some 107), (some (106, true)), .mv (.s 7)⟩,
 ⟨(some 108), (some (106, true)), .mv (.s 10)⟩,
 ⟨(some 109), (some (106, true)), .iaddrS 6 (.s 107) (.s 108)⟩,
 ⟨(some 110), (some (106, true)), .load (some 6) none (.s 109)⟩,
 ⟨(some 111), (some (106, true)), .mv (.s 7)⟩,
 ⟨(some 112), (some (106, true)), .mv (.s 10)⟩,
 ⟨(some 113), (some (106, true)), .bin .sub .int (.s 112) (.c (.int .i64 1))⟩,
 ⟨(some 114), (some (106, true)), .iaddrS 6 (.s 111) (.s 113)⟩,
 ⟨(some 115), (some (106, true)), .load (some 6) none (.s 114)⟩,
 ⟨(some 116), (some (106, true)), .call (.c (.fn 25 [] [])) [(.s 110), (.s 115)] [] [] [] false⟩,
 ⟨(some 117), (some (103, false)), .pick (.s 106) (.s 116) (.c (.bool false))⟩,
 ⟨(some 118), none, .pick (.s 103) (.c (.bool true)) (.s 117)⟩])
 (.cond (.s 118)
 (.seq
 (.region false [
 ⟨(some 4), none, .mv (.c (.bool false))⟩])
 .ret)
 .skip)))))
 (.region false [
 ⟨(some 67), none, .mv (.s 10)⟩,
 ⟨(some 68), none, .bin .add .int (.s 67) (.c (.int .i64 1))⟩,
 ⟨(some 10), none, .mv (.s 68)⟩]))))))
 (.seq
 (.region false [
 ⟨(some 119), none, .call (.c (.fn 9 [] [])) [] [] [] [] false⟩,
 ⟨(some 4), none, .mv (.s 119)⟩])
 .ret))))))))) }
end Mf
theorem mf26_ok : chkFun Try.prog Mf.f26 Try.f26 = true := by kernel_rfl
theorem mf8_ok : chkFun Try.prog Mf.f8 Try.f8 = true := by kernel_rfl
theorem mf12_ok : chkFun Try.prog Mf.f12 Try.f12 = true := by kernel_rfl
theorem mf46_ok : chkFun Try.prog Mf.f46 Try.f46 = true := by kernel_rfl
theorem mf63_ok : chkFun Try.prog Mf.f63 Try.f63 = true := by kernel_rfl
theorem mf64_ok : chkFun Try.prog Mf.f64 Try.f64 = true := by kernel_rfl
theorem mf47_ok : chkFun Try.prog Mf.f47 Try.f47 = true := by kernel_rfl
theorem mf30_ok : chkFun Try.prog Mf.f30 Try.f30 = true := by kernel_rfl
theorem mf65_ok : chkFun Try.prog Mf.f65 Try.f65 = true := by kernel_rfl
theorem mf48_ok : chkFun Try.prog Mf.f48 Try.f48 = true := by kernel_rfl
theorem mf66_ok : chkFun Try.prog Mf.f66 Try.f66 = true := by kernel_rfl
theorem mf49_ok : chkFun Try.prog Mf.f49 Try.f49 = true := by kernel_rfl
theorem mf31_ok : chkFun Try.prog Mf.f31 Try.f31 = true := by kernel_rfl
theorem mf76_ok : chkFun Try.prog Mf.f76 Try.f76 = true := by kernel_rfl
theorem mf67_ok : chkFun Try.prog Mf.f67 Try.f67 = true := by kernel_rfl
theorem mf50_ok : chkFun Try.prog Mf.f50 Try.f50 = true := by kernel_rfl
theorem mf32_ok : chkFun Try.prog Mf.f32 Try.f32 = true := by kernel_rfl
theorem mf14_ok : chkFun Try.prog Mf.f14 Try.f14 = true := by kernel_rfl
theorem mf68_ok : chkFun Try.prog Mf.f68 Try.f68 = true := by kernel_rfl
theorem mf69_ok : chkFun Try.prog Mf.f69 Try.f69 = true := by kernel_rfl
theorem mf51_ok : chkFun Try.prog Mf.f51 Try.f51 = true := by kernel_rfl
theorem mf33_ok : chkFun Try.prog Mf.f33 Try.f33 = true := by kernel_rfl
theorem mf55_ok : chkFun Try.prog Mf.f55 Try.f55 = true := by kernel_rfl
theorem mf72_ok : chkFun Try.prog Mf.f72 Try.f72 = true := by kernel_rfl
theorem mf56_ok : chkFun Try.prog Mf.f56 Try.f56 = true := by kernel_rfl
theorem mf57_ok : chkFun Try.prog Mf.f57 Try.f57 = true := by kernel_rfl
theorem mf87_ok : chkFun Try.prog Mf.f87 Try.f87 = true := by kernel_rfl
theorem mf73_ok : chkFun Try.prog Mf.f73 Try.f73 = true := by kernel_rfl
theorem mf58_ok : chkFun Try.prog Mf.f58 Try.f58 = true := by kernel_rfl
theorem mf39_ok : chkFun Try.prog Mf.f39 Try.f39 = true := by kernel_rfl
theorem mf52_ok : chkFun Try.prog Mf.f52 Try.f52 = true := by kernel_rfl
theorem mf34_ok : chkFun Try.prog Mf.f34 Try.f34 = true := by kernel_rfl
theorem mf15_ok : chkFun Try.prog Mf.f15 Try.f15 = true := by kernel_rfl
theorem mf54_ok : chkFun Try.prog Mf.f54 Try.f54 = true := by kernel_rfl
theorem mf37_ok : chkFun Try.prog Mf.f37 Try.f37 = true := by kernel_rfl
theorem mf38_ok : chkFun Try.prog Mf.f38 Try.f38 = true := by kernel_rfl
theorem mf24_ok : chkFun Try.prog Mf.f24 Try.f24 = true := by kernel_rfl
theorem mf36_ok : chkFun Try.prog Mf.f36 Try.f36 = true := by kernel_rfl
theorem mf35_ok : chkFun Try.prog Mf.f35 Try.f35 = true := by kernel_rfl
theorem mf16_ok : chkFun Try.prog Mf.f16 Try.f16 = true := by kernel_rfl
theorem mf18_ok : chkFun Try.prog Mf.f18 Try.f18 = true := by kernel_rfl
theorem mf19_ok : chkFun Try.prog Mf.f19 Try.f19 = true := by kernel_rfl
theorem mf20_ok : chkFun Try.prog Mf.f20 Try.f20 = true := by kernel_rfl
theorem mf21_ok : chkFun Try.prog Mf.f21 Try.f21 = true := by kernel_rfl
theorem mf22_ok : chkFun Try.prog Mf.f22 Try.f22 = true := by kernel_rfl
theorem mf9_ok : chkFun Try.prog Mf.f9 Try.f9 = true := by kernel_rfl
theorem mf45_ok : chkFun Try.prog Mf.f45 Try.f45 = true := by kernel_rfl
theorem mf29_ok : chkFun Try.prog Mf.f29 Try.f29 = true := by kernel_rfl
theorem mf13_ok : chkFun Try.prog Mf.f13 Try.f13 = true := by kernel_rfl
theorem mf74_ok : chkFun Try.prog Mf.f74 Try.f74 = true := by kernel_rfl
theorem mf59_ok : chkFun Try.prog Mf.f59 Try.f59 = true := by kernel_rfl
theorem mf60_ok : chkFun Try.prog Mf.f60 Try.f60 = true := by kernel_rfl
theorem mf40_ok : chkFun Try.prog Mf.f40 Try.f40 = true := by kernel_rfl
theorem mf41_ok : chkFun Try.prog Mf.f41 Try.f41 = true := by kernel_rfl
theorem mf75_ok : chkFun Try.prog Mf.f75 Try.f75 = true := by kernel_rfl
theorem mf61_ok : chkFun Try.prog Mf.f61 Try.f61 = true := by kernel_rfl
theorem mf42_ok : chkFun Try.prog Mf.f42 Try.f42 = true := by kernel_rfl
theorem mf62_ok : chkFun Try.prog Mf.f62 Try.f62 = true := by kernel_rfl
theorem mf43_ok : chkFun Try.prog Mf.f43 Try.f43 = true := by kernel_rfl
theorem mf27_ok : chkFun Try.prog Mf.f27 Try.f27 = true := by kernel_rfl
theorem mf17_ok : chkFun Try.prog Mf.f17 Try.f17 = true := by kernel_rfl
theorem mf44_ok : chkFun Try.prog Mf.f44 Try.f44 = true := by kernel_rfl
theorem mf28_ok : chkFun Try.prog Mf.f28 Try.f28 = true := by kernel_rfl
theorem mf10_ok : chkFun Try.prog Mf.f10 Try.f10 = true := by kernel_rfl
theorem mf11_ok : chkFun Try.prog Mf.f11 Try.f11 = true := by kernel_rfl
theorem mf3_ok : chkFun Try.prog Mf.f3 Try.f3 = true := by kernel_rfl
theorem mf4_ok : chkFun Try.prog Mf.f4 Try.f4 = true := by kernel_rfl
theorem mf5_ok : chkFun Try.prog Mf.f5 Try.f5 = true := by kernel_rfl
theorem mf6_ok : chkFun Try.prog Mf.f6 Try.f6 = true := by kernel_rfl
theorem mf23_ok : chkFun Try.prog Mf.f23 Try.f23 = true := by kernel_rfl
theorem mf25_ok : chkFun Try.prog Mf.f25 Try.f25 = true := by kernel_rfl
theorem mf7_ok : chkFun Try.prog Mf.f7 Try.f7 = true := by kernel_rfl
/-SORT 53 slices.SortFunc[[]cuboid/api.Row,cuboid/api.Row]-/
def fnTab : FuncId → Option MFun
 | 26 => some Mf.f26
 | 8 => some Mf.f8
 | 12 => some Mf.f12
 | 46 => some Mf.f46
 | 63 => some Mf.f63
 | 64 => some Mf.f64
 | 47 => some Mf.f47
 | 30 => some Mf.f30
 | 65 => some Mf.f65
 | 48 => some Mf.f48
 | 66 => some Mf.f66
 | 49 => some Mf.f49
 | 31 => some Mf.f31
 | 76 => some Mf.f76
 | 67 => some Mf.f67
 | 50 => some Mf.f50
 | 32 => some Mf.f32
 | 14 => some Mf.f14
 | 68 => some Mf.f68
 | 69 => some Mf.f69
 | 51 => some Mf.f51
 | 33 => some Mf.f33
 | 55 => some Mf.f55
 | 72 => some Mf.f72
 | 56 => some Mf.f56
 | 57 => some Mf.f57
 | 87 => some Mf.f87
 | 73 => some Mf.f73
 | 58 => some Mf.f58
 | 39 => some Mf.f39
 | 52 => some Mf.f52
 | 34 => some Mf.f34
 | 54 => some Mf.f54
 | 37 => some Mf.f37
 | 38 => some Mf.f38
 | 24 => some Mf.f24
 | 36 => some Mf.f36
 | 35 => some Mf.f35
 | 16 => some Mf.f16
 | 18 => some Mf.f18
 | 19 => some Mf.f19
 | 20 => some Mf.f20
 | 21 => some Mf.f21
 | 22 => some Mf.f22
 | 9 => some Mf.f9
 | 45 => some Mf.f45
 | 29 => some Mf.f29
 | 13 => some Mf.f13
 | 74 => some Mf.f74
 | 59 => some Mf.f59
 | 60 => some Mf.f60
 | 40 => some Mf.f40
 | 41 => some Mf.f41
 | 75 => some Mf.f75
 | 61 => some Mf.f61
 | 42 => some Mf.f42
 | 62 => some Mf.f62
 | 43 => some Mf.f43
 | 27 => some Mf.f27
 | 17 => some Mf.f17
 | 44 => some Mf.f44
 | 28 => some Mf.f28
 | 10 => some Mf.f10
 | 11 => some Mf.f11
 | 3 => some Mf.f3
 | 4 => some Mf.f4
 | 5 => some Mf.f5
 | 6 => some Mf.f6
 | 23 => some Mf.f23
 | 25 => some Mf.f25
 | 7 => some Mf.f7
 | _ => none
theorem fnTab_ok : ∀ f mf, fnTab f = some mf → ∃ fn, Try.prog.funcs[f]? = some fn ∧ chkFun Try.prog mf fn = true := by
 intro f mf h
 unfold fnTab at h
 split at h
 · cases h; exact ⟨Try.f26, Try.func26, mf26_ok⟩
 · cases h; exact ⟨Try.f8, Try.func8, mf8_ok⟩
 · cases h; exact ⟨Try.f12, Try.func12, mf12_ok⟩
 · cases h; exact ⟨Try.f46, Try.func46, mf46_ok⟩
 · cases h; exact ⟨Try.f63, Try.func63, mf63_ok⟩
 · cases h; exact ⟨Try.f64, Try.func64, mf64_ok⟩
 · cases h; exact ⟨Try.f47, Try.func47, mf47_ok⟩
 · cases h; exact ⟨Try.f30, Try.func30, mf30_ok⟩
 · cases h; exact ⟨Try.f65, Try.func65, mf65_ok⟩
 · cases h; exact ⟨Try.f48, Try.func48, mf48_ok⟩
 · cases h; exact ⟨Try.f66, Try.func66, mf66_ok⟩
 · cases h; exact ⟨Try.f49, Try.func49, mf49_ok⟩
 · cases h; exact ⟨Try.f31, Try.func31, mf31_ok⟩
 · cases h; exact ⟨Try.f76, Try.func76, mf76_ok⟩
 · cases h; exact ⟨Try.f67, Try.func67, mf67_ok⟩
 · cases h; exact ⟨Try.f50, Try.func50, mf50_ok⟩
 · cases h; exact ⟨Try.f32, Try.func32, mf32_ok⟩
 · cases h; exact ⟨Try.f14, Try.func14, mf14_ok⟩
 · cases h; exact ⟨Try.f68, Try.func68, mf68_ok⟩
 · cases h; exact ⟨Try.f69, Try.func69, mf69_ok⟩
 · cases h; exact ⟨Try.f51, Try.func51, mf51_ok⟩
 · cases h; exact ⟨Try.f33, Try.func33, mf33_ok⟩
 · cases h; exact ⟨Try.f55, Try.func55, mf55_ok⟩
 · cases h; exact ⟨Try.f72, Try.func72, mf72_ok⟩
 · cases h; exact ⟨Try.f56, Try.func56, mf56_ok⟩
 · cases h; exact ⟨Try.f57, Try.func57, mf57_ok⟩
 · cases h; exact ⟨Try.f87, Try.func87, mf87_ok⟩
 · cases h; exact ⟨Try.f73, Try.func73, mf73_ok⟩
 · cases h; exact ⟨Try.f58, Try.func58, mf58_ok⟩
 · cases h; exact ⟨Try.f39, Try.func39, mf39_ok⟩
 · cases h; exact ⟨Try.f52, Try.func52, mf52_ok⟩
 · cases h; exact ⟨Try.f34, Try.func34, mf34_ok⟩
 · cases h; exact ⟨Try.f54, Try.func54, mf54_ok⟩
 · cases h; exact ⟨Try.f37, Try.func37, mf37_ok⟩
 · cases h; exact ⟨Try.f38, Try.func38, mf38_ok⟩
 · cases h; exact ⟨Try.f24, Try.func24, mf24_ok⟩
 · cases h; exact ⟨Try.f36, Try.func36, mf36_ok⟩
 · cases h; exact ⟨Try.f35, Try.func35, mf35_ok⟩
 · cases h; exact ⟨Try.f16, Try.func16, mf16_ok⟩
 · cases h; exact ⟨Try.f18, Try.func18, mf18_ok⟩
 · cases h; exact ⟨Try.f19, Try.func19, mf19_ok⟩
 · cases h; exact ⟨Try.f20, Try.func20, mf20_ok⟩
 · cases h; exact ⟨Try.f21, Try.func21, mf21_ok⟩
 · cases h; exact ⟨Try.f22, Try.func22, mf22_ok⟩
 · cases h; exact ⟨Try.f9, Try.func9, mf9_ok⟩
 · cases h; exact ⟨Try.f45, Try.func45, mf45_ok⟩
 · cases h; exact ⟨Try.f29, Try.func29, mf29_ok⟩
 · cases h; exact ⟨Try.f13, Try.func13, mf13_ok⟩
 · cases h; exact ⟨Try.f74, Try.func74, mf74_ok⟩
 · cases h; exact ⟨Try.f59, Try.func59, mf59_ok⟩
 · cases h; exact ⟨Try.f60, Try.func60, mf60_ok⟩
 · cases h; exact ⟨Try.f40, Try.func40, mf40_ok⟩
 · cases h; exact ⟨Try.f41, Try.func41, mf41_ok⟩
 · cases h; exact ⟨Try.f75, Try.func75, mf75_ok⟩
 · cases h; exact ⟨Try.f61, Try.func61, mf61_ok⟩
 · cases h; exact ⟨Try.f42, Try.func42, mf42_ok⟩
 · cases h; exact ⟨Try.f62, Try.func62, mf62_ok⟩
 · cases h; exact ⟨Try.f43, Try.func43, mf43_ok⟩
 · cases h; exact ⟨Try.f27, Try.func27, mf27_ok⟩
 · cases h; exact ⟨Try.f17, Try.func17, mf17_ok⟩
 · cases h; exact ⟨Try.f44, Try.func44, mf44_ok⟩
 · cases h; exact ⟨Try.f28, Try.func28, mf28_ok⟩
 · cases h; exact ⟨Try.f10, Try.func10, mf10_ok⟩
 · cases h; exact ⟨Try.f11, Try.func11, mf11_ok⟩
 · cases h; exact ⟨Try.f3, Try.func3, mf3_ok⟩
 · cases h; exact ⟨Try.f4, Try.func4, mf4_ok⟩
 · cases h; exact ⟨Try.f5, Try.func5, mf5_ok⟩
 · cases h; exact ⟨Try.f6, Try.func6, mf6_ok⟩
 · cases h; exact ⟨Try.f23, Try.func23, mf23_ok⟩
 · cases h; exact ⟨Try.f25, Try.func25, mf25_ok⟩
 · cases h; exact ⟨Try.f7, Try.func7, mf7_ok⟩
 · cases h
end Go.Proofs.Ytmnafjgkhhdidaa
