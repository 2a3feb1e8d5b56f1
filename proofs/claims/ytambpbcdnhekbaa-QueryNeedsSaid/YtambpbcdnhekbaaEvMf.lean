/- The evaluator's code of each function of this seat, and that it is the loaded one. Printed by a program (gen.py). -/
import Derived.Test.YtambpbcdnhekbaaChecked
import Derived.KernelRfl
import Derived.Test.YtambpbcdnhekbaaEvGc
set_option linter.unusedSimpArgs false
set_option linter.unusedVariables false
set_option maxRecDepth 100000
namespace Go.Proofs.Ytambpbcdnhekbaa
open Go.Ev
namespace Mf
/- cuboid/cuboidkeep.LightQuery -/
def f10 : MFun := { nt := 23, np := 1, no := 1, res := [.slot 2], body :=
 (.seq
 (.region false [
 ⟨(some 1), none, .box 0 (.s 0)⟩,
 ⟨(some 2), none, .mv (.c (.bool false))⟩])
 (.seq
 (.seq
 (.region false [
 ⟨(some 4), none, .faddr 4 (.s 1)⟩,
 ⟨(some 5), none, .load none (some 0) (.s 4)⟩,
 ⟨(some 6), none, .len (.s 5)⟩,
 ⟨(some 7), none, .bin .gtr .int (.s 6) (.c (.int .i64 10))⟩])
 (.cond (.s 7)
 (.seq
 (.region false [
 ⟨(some 2), none, .mv (.c (.bool false))⟩])
 .ret)
 .skip))
 (.seq
 (.seq
 (.region false [
 ⟨(some 3), none, .mv (.c (.int .i64 0))⟩])
 (.block 0
 (.loop [1, 3] [0]
 (.seq
 (.seq
 (.region false [
 ⟨(some 8), none, .mv (.s 3)⟩,
 ⟨(some 9), none, .faddr 4 (.s 1)⟩,
 ⟨(some 10), none, .load none (some 0) (.s 9)⟩,
 ⟨(some 11), none, .len (.s 10)⟩,
 ⟨(some 12), none, .bin .lss .int (.s 8) (.s 11)⟩])
 (.cond (.s 12)
 .skip
 (.exit 0)))
 (.seq
 (.block 1
 (.seq
 (.region false [
 ⟨(some 15), none, .faddr 4 (.s 1)⟩,
 ⟨(some 16), none, .load none (some 0) (.s 15)⟩,
 ⟨(some 17), none, .mv (.s 3)⟩,
 ⟨(some 18), none, .iaddrS 3 (.s 16) (.s 17)⟩,
 ⟨(some 19), none, .faddr 2 (.s 18)⟩,
 ⟨(some 20), none, .load none none (.s 19)⟩,
 ⟨(some 21), none, .len (.s 20)⟩,
 ⟨(some 22), none, .bin .gtr .int (.s 21) (.c (.int .i64 60))⟩])
 (.cond (.s 22)
 (.seq
 (.region false [
 ⟨(some 2), none, .mv (.c (.bool false))⟩])
 .ret)
 .skip)))
 (.region false [
 ⟨(some 13), none, .mv (.s 3)⟩,
 ⟨(some 14), none, .bin .add .int (.s 13) (.c (.int .i64 1))⟩,
 ⟨(some 3), none, .mv (.s 14)⟩]))))))
 (.seq
 (.region false [
 ⟨(some 2), none, .mv (.c (.bool true))⟩])
 .ret)))) }
/- cuboid/cuboidkeep.LightDim -/
def f59 : MFun := { nt := 28, np := 1, no := 1, res := [.slot 2], body :=
 (.seq
 (.region false [
 ⟨(some 1), none, .box 0 (.s 0)⟩,
 ⟨(some 2), none, .mv (.c (.bool false))⟩])
 (.seq
 (.seq
 (.region false [
 ⟨(some 4), none, .faddr 0 (.s 1)⟩,
 ⟨(some 5), none, .load none (some 0) (.s 4)⟩,
 ⟨(some 6), none, .len (.s 5)⟩,
 ⟨(some 7), none, .bin .gtr .int (.s 6) (.c (.int .i64 10))⟩,
 ⟨(some 8), none, .mv (.s 7)⟩,
 ⟨(some 9), (some (8, false)), .faddr 1 (.s 1)⟩,
 ⟨(some 10), (some (8, false)), .load none (some 0) (.s 9)⟩,
 ⟨(some 11), (some (8, false)), .len (.s 10)⟩,
 ⟨(some 12), (some (8, false)), .bin .gtr .int (.s 11) (.c (.int .i64 10))⟩,
 ⟨(some 13), none, .pick (.s 8) (.c (.bool true)) (.s 12)⟩])
 (.cond (.s 13)
 (.seq
 (.region false [
 ⟨(some 2), none, .mv (.c (.bool false))⟩])
 .ret)
 .skip))
 (.seq
 (.seq
 (.region false [
 ⟨(some 3), none, .mv (.c (.int .i64 0))⟩])
 (.block 0
 (.loop [1, 3] [0]
 (.seq
 (.seq
 (.region false [
 ⟨(some 14), none, .mv (.s 3)⟩,
 ⟨(some 15), none, .faddr 1 (.s 1)⟩,
 ⟨(some 16), none, .load none (some 0) (.s 15)⟩,
 ⟨(some 17), none, .len (.s 16)⟩,
 ⟨(some 18), none, .bin .lss .int (.s 14) (.s 17)⟩])
 (.cond (.s 18)
 .skip
 (.exit 0)))
 (.seq
 (.block 1
 (.seq
 (.region false [
 ⟨(some 21), none, .faddr 1 (.s 1)⟩,
 ⟨(some 22), none, .load none (some 0) (.s 21)⟩,
 ⟨(some 23), none, .mv (.s 3)⟩,
 ⟨(some 24), none, .iaddrS 1 (.s 22) (.s 23)⟩,
 ⟨(some 25), none, .load none none (.s 24)⟩,
 ⟨(some 26), none, .len (.s 25)⟩,
 ⟨(some 27), none, .bin .gtr .int (.s 26) (.c (.int .i64 60))⟩])
 (.cond (.s 27)
 (.seq
 (.region false [
 ⟨(some 2), none, .mv (.c (.bool false))⟩])
 .ret)
 .skip)))
 (.region false [
 ⟨(some 19), none, .mv (.s 3)⟩,
 ⟨(some 20), none, .bin .add .int (.s 19) (.c (.int .i64 1))⟩,
 ⟨(some 3), none, .mv (.s 20)⟩]))))))
 (.seq
 (.region false [
 ⟨(some 2), none, .mv (.c (.bool true))⟩])
 .ret)))) }
/- cuboid/cuboidkeep.LightCat -/
def f32 : MFun := { nt := 22, np := 1, no := 1, res := [.slot 2], body :=
 (.seq
 (.region false [
 ⟨(some 1), none, .box 0 (.s 0)⟩,
 ⟨(some 2), none, .mv (.c (.bool false))⟩])
 (.seq
 (.seq
 (.region false [
 ⟨(some 4), none, .faddr 0 (.s 1)⟩,
 ⟨(some 5), none, .load none (some 0) (.s 4)⟩,
 ⟨(some 6), none, .len (.s 5)⟩,
 ⟨(some 7), none, .bin .gtr .int (.s 6) (.c (.int .i64 8))⟩])
 (.cond (.s 7)
 (.seq
 (.region false [
 ⟨(some 2), none, .mv (.c (.bool false))⟩])
 .ret)
 .skip))
 (.seq
 (.seq
 (.region false [
 ⟨(some 3), none, .mv (.c (.int .i64 0))⟩])
 (.block 0
 (.loop [1, 3] [0]
 (.seq
 (.seq
 (.region false [
 ⟨(some 8), none, .mv (.s 3)⟩,
 ⟨(some 9), none, .faddr 0 (.s 1)⟩,
 ⟨(some 10), none, .load none (some 0) (.s 9)⟩,
 ⟨(some 11), none, .len (.s 10)⟩,
 ⟨(some 12), none, .bin .lss .int (.s 8) (.s 11)⟩])
 (.cond (.s 12)
 .skip
 (.exit 0)))
 (.seq
 (.block 1
 (.seq
 (.region false [
 ⟨(some 15), none, .faddr 0 (.s 1)⟩,
 ⟨(some 16), none, .load none (some 0) (.s 15)⟩,
 ⟨(some 17), none, .mv (.s 3)⟩,
 ⟨(some 18), none, .iaddrS 2 (.s 16) (.s 17)⟩,
 ⟨(some 19), none, .load (some 2) none (.s 18)⟩,
 ⟨(some 20), none, .call (.c (.fn 59 [] [])) [(.s 19)] [] [] [] false⟩,
 ⟨(some 21), none, .un .not (.s 20)⟩])
 (.cond (.s 21)
 (.seq
 (.region false [
 ⟨(some 2), none, .mv (.c (.bool false))⟩])
 .ret)
 .skip)))
 (.region false [
 ⟨(some 13), none, .mv (.s 3)⟩,
 ⟨(some 14), none, .bin .add .int (.s 13) (.c (.int .i64 1))⟩,
 ⟨(some 3), none, .mv (.s 14)⟩]))))))
 (.seq
 (.region false [
 ⟨(some 2), none, .mv (.c (.bool true))⟩])
 .ret)))) }
/- cuboid/cuboidlaw25.light -/
def f9 : MFun := { nt := 11, np := 1, no := 1, res := [.slot 2], body :=
 (.seq
 (.region false [
 ⟨(some 1), none, .box 0 (.s 0)⟩,
 ⟨(some 2), none, .mv (.c (.bool false))⟩])
 (.seq
 (.region false [
 ⟨(some 3), none, .faddr 0 (.s 1)⟩,
 ⟨(some 4), none, .load (some 2) (some 0) (.s 3)⟩,
 ⟨(some 5), none, .call (.c (.fn 32 [] [])) [(.s 4)] [] [] [] false⟩,
 ⟨(some 6), none, .mv (.s 5)⟩,
 ⟨(some 7), (some (6, true)), .faddr 2 (.s 1)⟩,
 ⟨(some 8), (some (6, true)), .load (some 9) (some 0) (.s 7)⟩,
 ⟨(some 9), (some (6, true)), .call (.c (.fn 10 [] [])) [(.s 8)] [] [] [] false⟩,
 ⟨(some 10), none, .pick (.s 6) (.s 9) (.c (.bool false))⟩,
 ⟨(some 2), none, .mv (.s 10)⟩])
 .ret)) }
/- slices.Clone[[]uint8,uint8] -/
def f40 : MFun := { nt := 8, np := 1, no := 1, res := [.slot 2], body :=
 (.seq
 (.region false [
 ⟨(some 2), none, .mv (.c .nilsl)⟩])
 (.seq
 (.seq
 (.region false [
 ⟨(some 3), none, .mv (.s 0)⟩,
 ⟨(some 4), none, .bin .eql .sl (.s 3) (.c .nilsl)⟩])
 (.cond (.s 4)
 (.seq
 (.region false [
 ⟨(some 2), none, .mv (.c .nilsl)⟩])
 .ret)
 .skip))
 (.seq
 (.region false [
 ⟨(some 5), none, .lit (some 0) [] 0 1 [.int .u8 0] []⟩,
 ⟨(some 6), none, .mv (.s 0)⟩,
 ⟨(some 7), none, .append 1 1 0 none (.s 5) (.s 6)⟩,
 ⟨(some 2), none, .mv (.s 7)⟩])
 .ret))) }
def f40o : MFun := { nt := 8, np := 1, no := 1, res := [.slot 2], body :=
 (.seq
 (.region false [
 ⟨(some 2), none, .mv (.c .nilsl)⟩])
 (.seq
 (.seq
 (.region false [
 ⟨(some 3), none, .mv (.s 0)⟩,
 ⟨(some 4), none, .bin .eql .sl (.s 3) (.c .nilsl)⟩])
 (.cond (.s 4)
 (.seq
 (.region false [
 ⟨(some 2), none, .mv (.c .nilsl)⟩])
 .ret)
 .skip))
 (.seq
 (.region false [
 ⟨(some 5), none, .lit (some 1) [] 0 1 [.int .u8 0] []⟩,
 ⟨(some 6), none, .mv (.s 0)⟩,
 ⟨(some 7), none, .append 1 1 1 (some 0) (.s 5) (.s 6)⟩,
 ⟨(some 2), none, .mv (.s 7)⟩])
 .ret))) }
/- cuboid/query.between -/
def f56 : MFun := { nt := 15, np := 3, no := 0, res := [.slot 6], body :=
 (.seq
 (.region false [
 ⟨(some 6), none, .mv (.c (.bool false))⟩])
 (.seq
 (.region false [
 ⟨(some 7), none, .mv (.s 0)⟩,
 ⟨(some 8), none, .mv (.s 1)⟩,
 ⟨(some 9), none, .bin .geq .int (.s 7) (.s 8)⟩,
 ⟨(some 10), none, .mv (.s 9)⟩,
 ⟨(some 11), (some (10, true)), .mv (.s 0)⟩,
 ⟨(some 12), (some (10, true)), .mv (.s 2)⟩,
 ⟨(some 13), (some (10, true)), .bin .leq .int (.s 11) (.s 12)⟩,
 ⟨(some 14), none, .pick (.s 10) (.s 13) (.c (.bool false))⟩,
 ⟨(some 6), none, .mv (.s 14)⟩])
 .ret)) }
/- cuboid/code.Put -/
def f62 : MFun := { nt := 23, np := 2, no := 1, res := [.slot 4], body :=
 (.seq
 (.region false [
 ⟨(some 4), none, .mv (.c .nilsl)⟩])
 (.seq
 (.region false [
 ⟨(some 6), none, .mv (.s 0)⟩,
 ⟨(some 7), none, .call (.c (.fn 40 [] [])) [(.s 6)] [] [] [(0, 0)] true⟩,
 ⟨(some 5), none, .mv (.s 7)⟩])
 (.seq
 (.block 0
 (.loop [1, 5] [0]
 (.seq
 (.seq
 (.region false [
 ⟨(some 8), none, .mv (.s 1)⟩,
 ⟨(some 9), none, .bin .geq .int (.s 8) (.c (.int .u64 128))⟩])
 (.cond (.s 9)
 .skip
 (.exit 0)))
 (.block 1
 (.seq
 (.region false [
 ⟨(some 10), none, .mv (.s 5)⟩,
 ⟨(some 11), none, .mv (.s 1)⟩,
 ⟨(some 12), none, .conv .u8 (.s 11)⟩,
 ⟨(some 13), none, .bin .or .int (.s 12) (.c (.int .u8 128))⟩,
 ⟨(some 14), none, .lit none [] 1 1 [.int .u8 0] [(0, 1, (.s 13))]⟩,
 ⟨(some 15), none, .append 1 1 0 none (.s 10) (.s 14)⟩,
 ⟨(some 5), none, .mv (.s 15)⟩])
 (.region false [
 ⟨(some 16), none, .mv (.s 1)⟩,
 ⟨(some 17), none, .bin .shr .int (.s 16) (.c (.int .u64 7))⟩,
 ⟨(some 1), none, .mv (.s 17)⟩]))))))
 (.seq
 (.region false [
 ⟨(some 18), none, .mv (.s 5)⟩,
 ⟨(some 19), none, .mv (.s 1)⟩,
 ⟨(some 20), none, .conv .u8 (.s 19)⟩,
 ⟨(some 21), none, .lit none [] 1 1 [.int .u8 0] [(0, 1, (.s 20))]⟩,
 ⟨(some 22), none, .append 1 1 0 none (.s 18) (.s 21)⟩,
 ⟨(some 4), none, .mv (.s 22)⟩])
 .ret)))) }
/- (*cuboid/query.writer).put -/
def f41 : MFun := { nt := 35, np := 2, no := 0, res := [], body :=
 (.seq
 (.region false [
 ⟨(some 6), none, .mv (.s 1)⟩,
 ⟨(some 7), none, .len (.s 6)⟩,
 ⟨(some 8), none, .mv (.c (.int .i64 0))⟩])
 (.block 0
 (.loop [0, 6, 7, 8] []
 (.seq
 (.region false [
 ⟨(some 9), none, .bin .lss .int (.s 8) (.s 7)⟩])
 (.seq
 (.cond (.s 9)
 .skip
 (.exit 0))
 (.seq
 (.block 1
 (.seq
 (.region false [
 ⟨(some 10), none, .iaddrS 1 (.s 6) (.s 8)⟩,
 ⟨(some 11), none, .load none none (.s 10)⟩,
 ⟨(some 5), none, .mv (.s 11)⟩])
 (.seq
 (.region false [
 ⟨(some 12), none, .mv (.s 0)⟩,
 ⟨(some 13), none, .mv (.s 0)⟩,
 ⟨(some 14), none, .nilchk (.s 13)⟩,
 ⟨(some 15), none, .faddr 1 (.s 14)⟩,
 ⟨(some 16), none, .load none (some 0) (.s 15)⟩,
 ⟨(some 17), none, .mv (.s 16)⟩,
 ⟨(some 18), (some (17, false)), .mv (.s 5)⟩,
 ⟨(some 19), (some (17, false)), .call (.c (.fn 56 [] [])) [(.s 18), (.c (.int .i64 0)), (.c (.int .i64 2147483647))] [] [] [] false⟩,
 ⟨(some 20), (some (17, false)), .un .not (.s 19)⟩,
 ⟨(some 21), none, .pick (.s 17) (.c (.bool true)) (.s 20)⟩,
 ⟨(some 22), none, .nilchk (.s 12)⟩,
 ⟨(some 23), none, .faddr 1 (.s 22)⟩,
 ⟨none, none, .store 1 0 [] (.s 23) (.s 21)⟩])
 (.region false [
 ⟨(some 24), none, .mv (.s 0)⟩,
 ⟨(some 25), none, .mv (.s 0)⟩,
 ⟨(some 26), none, .nilchk (.s 25)⟩,
 ⟨(some 27), none, .faddr 0 (.s 26)⟩,
 ⟨(some 28), none, .load none (some 0) (.s 27)⟩,
 ⟨(some 29), none, .mv (.s 5)⟩,
 ⟨(some 30), none, .conv .u64 (.s 29)⟩,
 ⟨(some 31), none, .call (.c (.fn 62 [] [])) [(.s 28), (.s 30)] [] [] [] true⟩,
 ⟨(some 32), none, .nilchk (.s 24)⟩,
 ⟨(some 33), none, .faddr 0 (.s 32)⟩,
 ⟨none, none, .store 1 0 [] (.s 33) (.s 31)⟩]))))
 (.region false [
 ⟨(some 34), none, .bin .add .int (.s 8) (.c (.int .i64 1))⟩,
 ⟨(some 8), none, .mv (.s 34)⟩]))))))) }
/- cuboid/query.Bytes -/
def f16 : MFun := { nt := 59, np := 1, no := 4, res := [.slot 2, .slot 3], body :=
 (.seq
 (.region false [
 ⟨(some 1), none, .box 0 (.s 0)⟩,
 ⟨(some 2), none, .mv (.c .nilsl)⟩,
 ⟨(some 3), none, .mv (.c (.bool false))⟩])
 (.seq
 (.region false [
 ⟨(some 7), none, .faddr 0 (.s 1)⟩,
 ⟨(some 8), none, .sliceA 4 1 (some 0) (.s 7) none none⟩,
 ⟨(some 9), none, .call (.c (.fn 40 [] [])) [(.s 8)] [0] [] [(1, 1)] true⟩,
 ⟨(some 10), none, .build [.nilsl, .bool false] [(0, 1, (.s 9))]⟩,
 ⟨(some 11), none, .box 2 (.s 10)⟩,
 ⟨(some 4), none, .mv (.s 11)⟩])
 (.seq
 (.region false [
 ⟨(some 12), none, .mv (.s 4)⟩,
 ⟨(some 13), none, .faddr 4 (.s 1)⟩,
 ⟨(some 14), none, .load none (some 0) (.s 13)⟩,
 ⟨(some 15), none, .len (.s 14)⟩,
 ⟨(some 16), none, .lit none [] 1 1 [.int .i64 0] [(0, 1, (.s 15))]⟩,
 ⟨(some 17), none, .call (.c (.fn 41 [] [])) [(.s 12), (.s 16)] [2] [1] [] true⟩])
 (.seq
 (.seq
 (.region false [
 ⟨(some 18), none, .faddr 4 (.s 1)⟩,
 ⟨(some 19), none, .load none (some 0) (.s 18)⟩,
 ⟨(some 20), none, .len (.s 19)⟩,
 ⟨(some 21), none, .mv (.c (.int .i64 0))⟩])
 (.block 0
 (.loop [1, 4, 19, 20, 21] [0, 1, 2]
 (.seq
 (.region false [
 ⟨(some 22), none, .bin .lss .int (.s 21) (.s 20)⟩])
 (.seq
 (.cond (.s 22)
 .skip
 (.exit 0))
 (.seq
 (.block 1
 (.seq
 (.region false [
 ⟨(some 23), none, .iaddrS 3 (.s 19) (.s 21)⟩,
 ⟨(some 24), none, .load (some 3) none (.s 23)⟩,
 ⟨(some 6), none, .alloc 3 [.int .i64 0, .int .i64 0, .nilsl]⟩,
 ⟨none, none, .store 3 3 [] (.s 6) (.s 24)⟩])
 (.seq
 (.region false [
 ⟨(some 25), none, .mv (.s 4)⟩,
 ⟨(some 26), none, .faddr 0 (.s 6)⟩,
 ⟨(some 27), none, .load none (some 3) (.s 26)⟩,
 ⟨(some 28), none, .faddr 1 (.s 6)⟩,
 ⟨(some 29), none, .load none (some 3) (.s 28)⟩,
 ⟨(some 30), none, .faddr 2 (.s 6)⟩,
 ⟨(some 31), none, .load none (some 3) (.s 30)⟩,
 ⟨(some 32), none, .len (.s 31)⟩,
 ⟨(some 33), none, .lit none [] 3 1 [.int .i64 0] [(0, 1, (.s 27)), (1, 1, (.s 29)), (2, 1, (.s 32))]⟩,
 ⟨(some 34), none, .call (.c (.fn 41 [] [])) [(.s 25), (.s 33)] [2] [1] [] true⟩])
 (.region false [
 ⟨(some 35), none, .mv (.s 4)⟩,
 ⟨(some 36), none, .faddr 2 (.s 6)⟩,
 ⟨(some 37), none, .load none (some 3) (.s 36)⟩,
 ⟨(some 38), none, .call (.c (.fn 41 [] [])) [(.s 35), (.s 37)] [2] [1] [] true⟩]))))
 (.region false [
 ⟨(some 39), none, .bin .add .int (.s 21) (.c (.int .i64 1))⟩,
 ⟨(some 21), none, .mv (.s 39)⟩])))))))
 (.seq
 (.region false [
 ⟨(some 40), none, .mv (.s 4)⟩,
 ⟨(some 41), none, .faddr 5 (.s 1)⟩,
 ⟨(some 42), none, .load none (some 0) (.s 41)⟩,
 ⟨(some 43), none, .faddr 6 (.s 1)⟩,
 ⟨(some 44), none, .load none (some 0) (.s 43)⟩,
 ⟨(some 45), none, .faddr 7 (.s 1)⟩,
 ⟨(some 46), none, .load none (some 0) (.s 45)⟩,
 ⟨(some 47), none, .faddr 8 (.s 1)⟩,
 ⟨(some 48), none, .load none (some 0) (.s 47)⟩,
 ⟨(some 49), none, .lit none [] 4 1 [.int .i64 0] [(0, 1, (.s 42)), (1, 1, (.s 44)), (2, 1, (.s 46)), (3, 1, (.s 48))]⟩,
 ⟨(some 50), none, .call (.c (.fn 41 [] [])) [(.s 40), (.s 49)] [2] [1] [] true⟩])
 (.seq
 (.seq
 (.region false [
 ⟨(some 51), none, .mv (.s 4)⟩,
 ⟨(some 52), none, .nilchk (.s 51)⟩,
 ⟨(some 53), none, .faddr 1 (.s 52)⟩,
 ⟨(some 54), none, .load none (some 2) (.s 53)⟩])
 (.cond (.s 54)
 (.seq
 (.region false [
 ⟨(some 2), none, .mv (.c .nilsl)⟩,
 ⟨(some 3), none, .mv (.c (.bool false))⟩])
 .ret)
 .skip))
 (.seq
 (.region false [
 ⟨(some 55), none, .mv (.s 4)⟩,
 ⟨(some 56), none, .nilchk (.s 55)⟩,
 ⟨(some 57), none, .faddr 0 (.s 56)⟩,
 ⟨(some 58), none, .load none (some 2) (.s 57)⟩,
 ⟨(some 2), none, .mv (.s 58)⟩,
 ⟨(some 3), none, .mv (.c (.bool true))⟩])
 .ret))))))) }
/- cuboid/code.Get -/
def f63 : MFun := { nt := 47, np := 1, no := 0, res := [.slot 2, .slot 3, .slot 4], body :=
 (.seq
 (.region false [
 ⟨(some 2), none, .mv (.c (.int .u64 0))⟩,
 ⟨(some 3), none, .mv (.c (.int .i64 0))⟩,
 ⟨(some 4), none, .mv (.c (.bool false))⟩])
 (.seq
 (.region false [
 ⟨(some 5), none, .mv (.c (.int .u64 0))⟩])
 (.seq
 (.seq
 (.region false [
 ⟨(some 8), none, .mv (.s 0)⟩,
 ⟨(some 9), none, .mv (.s 0)⟩,
 ⟨(some 10), none, .len (.s 9)⟩,
 ⟨(some 11), none, .minmax false [(.s 10), (.c (.int .i64 10))]⟩,
 ⟨(some 12), none, .sliceS 1 (.s 8) none (some (.s 11))⟩,
 ⟨(some 13), none, .len (.s 12)⟩,
 ⟨(some 14), none, .mv (.c (.int .i64 0))⟩])
 (.block 0
 (.loop [5, 12, 13, 14] []
 (.seq
 (.region false [
 ⟨(some 15), none, .bin .lss .int (.s 14) (.s 13)⟩])
 (.seq
 (.cond (.s 15)
 .skip
 (.exit 0))
 (.seq
 (.block 1
 (.seq
 (.region false [
 ⟨(some 16), none, .mv (.s 14)⟩,
 ⟨(some 17), none, .iaddrS 1 (.s 12) (.s 14)⟩,
 ⟨(some 18), none, .load none none (.s 17)⟩,
 ⟨(some 6), none, .mv (.s 16)⟩,
 ⟨(some 7), none, .mv (.s 18)⟩])
 (.seq
 (.region false [
 ⟨(some 19), none, .mv (.s 5)⟩,
 ⟨(some 20), none, .mv (.s 7)⟩,
 ⟨(some 21), none, .bin .and .int (.s 20) (.c (.int .u8 127))⟩,
 ⟨(some 22), none, .conv .u64 (.s 21)⟩,
 ⟨(some 23), none, .mv (.s 6)⟩,
 ⟨(some 24), none, .bin .mul .int (.c (.int .i64 7)) (.s 23)⟩,
 ⟨(some 25), none, .bin .shl .int (.s 22) (.s 24)⟩,
 ⟨(some 26), none, .bin .or .int (.s 19) (.s 25)⟩,
 ⟨(some 5), none, .mv (.s 26)⟩])
 (.seq
 (.seq
 (.region false [
 ⟨(some 27), none, .mv (.s 7)⟩,
 ⟨(some 28), none, .bin .geq .int (.s 27) (.c (.int .u8 128))⟩])
 (.cond (.s 28)
 (.exit 1)
 .skip))
 (.seq
 (.seq
 (.region false [
 ⟨(some 29), none, .mv (.s 6)⟩,
 ⟨(some 30), none, .bin .eql .int (.s 29) (.c (.int .i64 9))⟩,
 ⟨(some 31), none, .mv (.s 30)⟩,
 ⟨(some 32), (some (31, true)), .mv (.s 7)⟩,
 ⟨(some 33), (some (31, true)), .bin .gtr .int (.s 32) (.c (.int .u8 1))⟩,
 ⟨(some 34), none, .pick (.s 31) (.s 33) (.c (.bool false))⟩,
 ⟨(some 35), none, .mv (.s 34)⟩,
 ⟨(some 36), (some (35, false)), .mv (.s 6)⟩,
 ⟨(some 37), (some (35, false)), .bin .gtr .int (.s 36) (.c (.int .i64 0))⟩,
 ⟨(some 38), (some (35, false)), .mv (.s 37)⟩,
 ⟨(some 39), (some (38, true)), .mv (.s 7)⟩,
 ⟨(some 40), (some (38, true)), .bin .eql .int (.s 39) (.c (.int .u8 0))⟩,
 ⟨(some 41), (some (35, false)), .pick (.s 38) (.s 40) (.c (.bool false))⟩,
 ⟨(some 42), none, .pick (.s 35) (.c (.bool true)) (.s 41)⟩])
 (.cond (.s 42)
 (.seq
 (.region false [
 ⟨(some 2), none, .mv (.c (.int .u64 0))⟩,
 ⟨(some 3), none, .mv (.c (.int .i64 0))⟩,
 ⟨(some 4), none, .mv (.c (.bool false))⟩])
 .ret)
 .skip))
 (.seq
 (.region false [
 ⟨(some 43), none, .mv (.s 5)⟩,
 ⟨(some 44), none, .mv (.s 6)⟩,
 ⟨(some 45), none, .bin .add .int (.s 44) (.c (.int .i64 1))⟩,
 ⟨(some 2), none, .mv (.s 43)⟩,
 ⟨(some 3), none, .mv (.s 45)⟩,
 ⟨(some 4), none, .mv (.c (.bool true))⟩])
 .ret))))))
 (.region false [
 ⟨(some 46), none, .bin .add .int (.s 14) (.c (.int .i64 1))⟩,
 ⟨(some 14), none, .mv (.s 46)⟩])))))))
 (.seq
 (.region false [
 ⟨(some 2), none, .mv (.c (.int .u64 0))⟩,
 ⟨(some 3), none, .mv (.c (.int .i64 0))⟩,
 ⟨(some 4), none, .mv (.c (.bool false))⟩])
 .ret)))) }
/- (*cuboid/query.reader).num -/
def f44 : MFun := { nt := 45, np := 1, no := 0, res := [.slot 2], body :=
 (.seq
 (.region false [
 ⟨(some 2), none, .mv (.c (.int .i64 0))⟩])
 (.seq
 (.region false [
 ⟨(some 7), none, .mv (.s 0)⟩,
 ⟨(some 8), none, .nilchk (.s 7)⟩,
 ⟨(some 9), none, .faddr 0 (.s 8)⟩,
 ⟨(some 10), none, .load none (some 0) (.s 9)⟩,
 ⟨(some 11), none, .call (.c (.fn 63 [] [])) [(.s 10)] [] [] [] false⟩,
 ⟨(some 6), none, .mv (.s 11)⟩,
 ⟨(some 12), none, .extract (.s 6) 0⟩,
 ⟨(some 13), none, .extract (.s 6) 1⟩,
 ⟨(some 14), none, .extract (.s 6) 2⟩,
 ⟨(some 3), none, .mv (.s 12)⟩,
 ⟨(some 4), none, .mv (.s 13)⟩,
 ⟨(some 5), none, .mv (.s 14)⟩])
 (.seq
 (.seq
 (.region false [
 ⟨(some 15), none, .mv (.s 0)⟩,
 ⟨(some 16), none, .mv (.s 0)⟩,
 ⟨(some 17), none, .nilchk (.s 16)⟩,
 ⟨(some 18), none, .faddr 1 (.s 17)⟩,
 ⟨(some 19), none, .load none (some 0) (.s 18)⟩,
 ⟨(some 20), none, .mv (.s 19)⟩,
 ⟨(some 21), (some (20, false)), .mv (.s 5)⟩,
 ⟨(some 22), (some (20, false)), .un .not (.s 21)⟩,
 ⟨(some 23), none, .pick (.s 20) (.c (.bool true)) (.s 22)⟩,
 ⟨(some 24), none, .mv (.s 23)⟩,
 ⟨(some 25), (some (24, false)), .mv (.s 3)⟩,
 ⟨(some 26), (some (24, false)), .bin .gtr .int (.s 25) (.c (.int .u64 2147483647))⟩,
 ⟨(some 27), none, .pick (.s 24) (.c (.bool true)) (.s 26)⟩,
 ⟨(some 28), none, .nilchk (.s 15)⟩,
 ⟨(some 29), none, .faddr 1 (.s 28)⟩,
 ⟨none, none, .store 1 0 [] (.s 29) (.s 27)⟩])
 (.seq
 (.region false [
 ⟨(some 30), none, .mv (.s 0)⟩,
 ⟨(some 31), none, .nilchk (.s 30)⟩,
 ⟨(some 32), none, .faddr 1 (.s 31)⟩,
 ⟨(some 33), none, .load none (some 0) (.s 32)⟩])
 (.cond (.s 33)
 (.seq
 (.region false [
 ⟨(some 2), none, .mv (.c (.int .i64 0))⟩])
 .ret)
 .skip)))
 (.seq
 (.region false [
 ⟨(some 34), none, .mv (.s 0)⟩,
 ⟨(some 35), none, .mv (.s 0)⟩,
 ⟨(some 36), none, .nilchk (.s 35)⟩,
 ⟨(some 37), none, .faddr 0 (.s 36)⟩,
 ⟨(some 38), none, .load none (some 0) (.s 37)⟩,
 ⟨(some 39), none, .mv (.s 4)⟩,
 ⟨(some 40), none, .sliceS 1 (.s 38) (some (.s 39)) none⟩,
 ⟨(some 41), none, .nilchk (.s 34)⟩,
 ⟨(some 42), none, .faddr 0 (.s 41)⟩,
 ⟨none, none, .store 1 0 [] (.s 42) (.s 40)⟩])
 (.seq
 (.region false [
 ⟨(some 43), none, .mv (.s 3)⟩,
 ⟨(some 44), none, .conv .i64 (.s 43)⟩,
 ⟨(some 2), none, .mv (.s 44)⟩])
 .ret))))) }
/- (*cuboid/query.reader).count -/
def f42 : MFun := { nt := 17, np := 1, no := 0, res := [.slot 2], body :=
 (.seq
 (.region false [
 ⟨(some 2), none, .mv (.c (.int .i64 0))⟩])
 (.seq
 (.region false [
 ⟨(some 4), none, .mv (.s 0)⟩,
 ⟨(some 5), none, .call (.c (.fn 44 [] [])) [(.s 4)] [0] [] [] true⟩,
 ⟨(some 3), none, .mv (.s 5)⟩])
 (.seq
 (.seq
 (.region false [
 ⟨(some 6), none, .mv (.s 3)⟩,
 ⟨(some 7), none, .mv (.s 0)⟩,
 ⟨(some 8), none, .nilchk (.s 7)⟩,
 ⟨(some 9), none, .faddr 0 (.s 8)⟩,
 ⟨(some 10), none, .load none (some 0) (.s 9)⟩,
 ⟨(some 11), none, .len (.s 10)⟩,
 ⟨(some 12), none, .bin .gtr .int (.s 6) (.s 11)⟩])
 (.cond (.s 12)
 (.seq
 (.region false [
 ⟨(some 13), none, .mv (.s 0)⟩,
 ⟨(some 14), none, .nilchk (.s 13)⟩,
 ⟨(some 15), none, .faddr 1 (.s 14)⟩,
 ⟨none, none, .store 1 0 [] (.s 15) (.c (.bool true))⟩])
 (.seq
 (.region false [
 ⟨(some 2), none, .mv (.c (.int .i64 0))⟩])
 .ret))
 .skip))
 (.seq
 (.region false [
 ⟨(some 16), none, .mv (.s 3)⟩,
 ⟨(some 2), none, .mv (.s 16)⟩])
 .ret)))) }
/- (*cuboid/query.reader).fix -/
def f43 : MFun := { nt := 22, np := 1, no := 3, res := [.cell 2 1 (some 3)], body :=
 (.seq
 (.region false [
 ⟨(some 2), none, .alloc 1 [.int .i64 0, .int .i64 0, .nilsl]⟩])
 (.seq
 (.region false [
 ⟨(some 4), none, .mv (.s 0)⟩,
 ⟨(some 5), none, .call (.c (.fn 44 [] [])) [(.s 4)] [0] [] [] true⟩,
 ⟨(some 6), none, .mv (.s 0)⟩,
 ⟨(some 7), none, .call (.c (.fn 44 [] [])) [(.s 6)] [0] [] [] true⟩,
 ⟨(some 8), none, .build [.int .i64 0, .int .i64 0, .nilsl] [(0, 1, (.s 5)), (1, 1, (.s 7))]⟩,
 ⟨(some 3), none, .alloc 2 [.int .i64 0, .int .i64 0, .nilsl]⟩,
 ⟨none, none, .store 3 2 [] (.s 3) (.s 8)⟩])
 (.seq
 (.seq
 (.region false [
 ⟨(some 9), none, .mv (.s 0)⟩,
 ⟨(some 10), none, .call (.c (.fn 42 [] [])) [(.s 9)] [0] [] [] true⟩,
 ⟨(some 11), none, .mv (.c (.int .i64 0))⟩])
 (.block 0
 (.loop [0, 2, 3, 10, 11] [1, 2, 3]
 (.seq
 (.region false [
 ⟨(some 12), none, .bin .lss .int (.s 11) (.s 10)⟩])
 (.seq
 (.cond (.s 12)
 .skip
 (.exit 0))
 (.seq
 (.block 1
 (.region true [
 ⟨(some 13), none, .faddr 2 (.s 3)⟩,
 ⟨(some 14), none, .load none (some 2) (.s 13)⟩,
 ⟨(some 15), none, .mv (.s 0)⟩,
 ⟨(some 16), none, .call (.c (.fn 44 [] [])) [(.s 15)] [0] [] [] true⟩,
 ⟨(some 17), none, .lit none [] 1 1 [.int .i64 0] [(0, 1, (.s 16))]⟩,
 ⟨(some 18), none, .append 8 1 3 none (.s 14) (.s 17)⟩,
 ⟨(some 19), none, .faddr 2 (.s 3)⟩,
 ⟨none, none, .store 1 2 [] (.s 19) (.s 18)⟩]))
 (.region false [
 ⟨(some 20), none, .bin .add .int (.s 11) (.c (.int .i64 1))⟩,
 ⟨(some 11), none, .mv (.s 20)⟩])))))))
 (.seq
 (.region false [
 ⟨(some 21), none, .load (some 3) (some 2) (.s 3)⟩,
 ⟨none, none, .store 3 1 [] (.s 2) (.s 21)⟩])
 .ret)))) }
/- cuboid/query.Read -/
def f17 : MFun := { nt := 56, np := 1, no := 4, res := [.cell 2 0 (some 9), .slot 3], body :=
 (.seq
 (.region false [
 ⟨(some 2), none, .alloc 0 [.int .u8 0, .int .u8 0, .int .u8 0, .int .u8 0, .nilsl, .int .i64 0, .int .i64 0, .int .i64 0, .int .i64 0]⟩,
 ⟨(some 3), none, .mv (.c (.bool false))⟩])
 (.seq
 (.region false [
 ⟨(some 4), none, .alloc 1 [.int .u8 0, .int .u8 0, .int .u8 0, .int .u8 0, .nilsl, .int .i64 0, .int .i64 0, .int .i64 0, .int .i64 0]⟩])
 (.seq
 (.seq
 (.region false [
 ⟨(some 6), none, .mv (.s 0)⟩,
 ⟨(some 7), none, .len (.s 6)⟩,
 ⟨(some 8), none, .bin .lss .int (.s 7) (.c (.int .i64 4))⟩])
 (.cond (.s 8)
 (.seq
 (.region false [
 ⟨(some 9), none, .build [.int .u8 0, .int .u8 0, .int .u8 0, .int .u8 0, .nilsl, .int .i64 0, .int .i64 0, .int .i64 0, .int .i64 0] []⟩,
 ⟨none, none, .store 9 0 [] (.s 2) (.s 9)⟩,
 ⟨(some 3), none, .mv (.c (.bool false))⟩])
 .ret)
 .skip))
 (.seq
 (.region false [
 ⟨(some 10), none, .mv (.s 0)⟩,
 ⟨(some 11), none, .faddr 0 (.s 4)⟩,
 ⟨(some 12), none, .sliceA 4 1 (some 1) (.s 11) none none⟩,
 ⟨(some 13), none, .mv (.s 0)⟩,
 ⟨(some 14), none, .copy 1 1 none (.s 12) (.s 13)⟩,
 ⟨(some 15), none, .sliceS 1 (.s 10) (some (.s 14)) none⟩,
 ⟨(some 16), none, .build [.nilsl, .bool false] [(0, 1, (.s 15))]⟩,
 ⟨(some 17), none, .box 2 (.s 16)⟩,
 ⟨(some 5), none, .mv (.s 17)⟩])
 (.seq
 (.seq
 (.region false [
 ⟨(some 18), none, .mv (.s 5)⟩,
 ⟨(some 19), none, .call (.c (.fn 42 [] [])) [(.s 18)] [2] [] [] true⟩,
 ⟨(some 20), none, .mv (.c (.int .i64 0))⟩])
 (.block 0
 (.loop [2, 4, 5, 19, 20] [0, 1, 2, 3]
 (.seq
 (.region false [
 ⟨(some 21), none, .bin .lss .int (.s 20) (.s 19)⟩])
 (.seq
 (.cond (.s 21)
 .skip
 (.exit 0))
 (.seq
 (.block 1
 (.region true [
 ⟨(some 22), none, .faddr 4 (.s 4)⟩,
 ⟨(some 23), none, .load none (some 1) (.s 22)⟩,
 ⟨(some 24), none, .mv (.s 5)⟩,
 ⟨(some 25), none, .call (.c (.fn 43 [] [])) [(.s 24)] [2] [] [] true⟩,
 ⟨(some 26), none, .lit none [] 1 3 [.int .i64 0, .int .i64 0, .nilsl] [(0, 3, (.s 25))]⟩,
 ⟨(some 27), none, .append 40 3 3 none (.s 23) (.s 26)⟩,
 ⟨(some 28), none, .faddr 4 (.s 4)⟩,
 ⟨none, none, .store 1 1 [] (.s 28) (.s 27)⟩]))
 (.region false [
 ⟨(some 29), none, .bin .add .int (.s 20) (.c (.int .i64 1))⟩,
 ⟨(some 20), none, .mv (.s 29)⟩])))))))
 (.seq
 (.region false [
 ⟨(some 30), none, .mv (.s 5)⟩,
 ⟨(some 31), none, .call (.c (.fn 44 [] [])) [(.s 30)] [2] [] [] true⟩,
 ⟨(some 32), none, .mv (.s 5)⟩,
 ⟨(some 33), none, .call (.c (.fn 44 [] [])) [(.s 32)] [2] [] [] true⟩,
 ⟨(some 34), none, .mv (.s 5)⟩,
 ⟨(some 35), none, .call (.c (.fn 44 [] [])) [(.s 34)] [2] [] [] true⟩,
 ⟨(some 36), none, .mv (.s 5)⟩,
 ⟨(some 37), none, .call (.c (.fn 44 [] [])) [(.s 36)] [2] [] [] true⟩,
 ⟨(some 38), none, .faddr 5 (.s 4)⟩,
 ⟨none, none, .store 1 1 [] (.s 38) (.s 31)⟩,
 ⟨(some 39), none, .faddr 6 (.s 4)⟩,
 ⟨none, none, .store 1 1 [] (.s 39) (.s 33)⟩,
 ⟨(some 40), none, .faddr 7 (.s 4)⟩,
 ⟨none, none, .store 1 1 [] (.s 40) (.s 35)⟩,
 ⟨(some 41), none, .faddr 8 (.s 4)⟩,
 ⟨none, none, .store 1 1 [] (.s 41) (.s 37)⟩])
 (.seq
 (.seq
 (.region false [
 ⟨(some 42), none, .mv (.s 5)⟩,
 ⟨(some 43), none, .nilchk (.s 42)⟩,
 ⟨(some 44), none, .faddr 1 (.s 43)⟩,
 ⟨(some 45), none, .load none (some 2) (.s 44)⟩,
 ⟨(some 46), none, .mv (.s 45)⟩,
 ⟨(some 47), (some (46, false)), .mv (.s 5)⟩,
 ⟨(some 48), (some (46, false)), .nilchk (.s 47)⟩,
 ⟨(some 49), (some (46, false)), .faddr 0 (.s 48)⟩,
 ⟨(some 50), (some (46, false)), .load none (some 2) (.s 49)⟩,
 ⟨(some 51), (some (46, false)), .len (.s 50)⟩,
 ⟨(some 52), (some (46, false)), .bin .gtr .int (.s 51) (.c (.int .i64 0))⟩,
 ⟨(some 53), none, .pick (.s 46) (.c (.bool true)) (.s 52)⟩])
 (.cond (.s 53)
 (.seq
 (.region false [
 ⟨(some 54), none, .build [.int .u8 0, .int .u8 0, .int .u8 0, .int .u8 0, .nilsl, .int .i64 0, .int .i64 0, .int .i64 0, .int .i64 0] []⟩,
 ⟨none, none, .store 9 0 [] (.s 2) (.s 54)⟩,
 ⟨(some 3), none, .mv (.c (.bool false))⟩])
 .ret)
 .skip))
 (.seq
 (.region false [
 ⟨(some 55), none, .load (some 9) (some 1) (.s 4)⟩,
 ⟨none, none, .store 9 0 [] (.s 2) (.s 55)⟩,
 ⟨(some 3), none, .mv (.c (.bool true))⟩])
 .ret)))))))) }
/- cuboid/schema.between -/
def f69 : MFun := { nt := 15, np := 3, no := 0, res := [.slot 6], body :=
 (.seq
 (.region false [
 ⟨(some 6), none, .mv (.c (.bool false))⟩])
 (.seq
 (.region false [
 ⟨(some 7), none, .mv (.s 0)⟩,
 ⟨(some 8), none, .mv (.s 1)⟩,
 ⟨(some 9), none, .bin .geq .int (.s 7) (.s 8)⟩,
 ⟨(some 10), none, .mv (.s 9)⟩,
 ⟨(some 11), (some (10, true)), .mv (.s 0)⟩,
 ⟨(some 12), (some (10, true)), .mv (.s 2)⟩,
 ⟨(some 13), (some (10, true)), .bin .leq .int (.s 11) (.s 12)⟩,
 ⟨(some 14), none, .pick (.s 10) (.s 13) (.c (.bool false))⟩,
 ⟨(some 6), none, .mv (.s 14)⟩])
 .ret)) }
/- cuboid/hier.between -/
def f77 : MFun := { nt := 15, np := 3, no := 0, res := [.slot 6], body :=
 (.seq
 (.region false [
 ⟨(some 6), none, .mv (.c (.bool false))⟩])
 (.seq
 (.region false [
 ⟨(some 7), none, .mv (.s 0)⟩,
 ⟨(some 8), none, .mv (.s 1)⟩,
 ⟨(some 9), none, .bin .geq .int (.s 7) (.s 8)⟩,
 ⟨(some 10), none, .mv (.s 9)⟩,
 ⟨(some 11), (some (10, true)), .mv (.s 0)⟩,
 ⟨(some 12), (some (10, true)), .mv (.s 2)⟩,
 ⟨(some 13), (some (10, true)), .bin .leq .int (.s 11) (.s 12)⟩,
 ⟨(some 14), none, .pick (.s 10) (.s 13) (.c (.bool false))⟩,
 ⟨(some 6), none, .mv (.s 14)⟩])
 .ret)) }
/- cuboid/hier.up -/
def f78 : MFun := { nt := 25, np := 3, no := 0, res := [.slot 6], body :=
 (.seq
 (.region false [
 ⟨(some 6), none, .mv (.c (.bool false))⟩])
 (.seq
 (.seq
 (.region false [
 ⟨(some 9), none, .mv (.s 0)⟩,
 ⟨(some 10), none, .len (.s 9)⟩,
 ⟨(some 11), none, .mv (.s 1)⟩,
 ⟨(some 12), none, .bin .neq .int (.s 10) (.s 11)⟩])
 (.cond (.s 12)
 (.seq
 (.region false [
 ⟨(some 6), none, .mv (.c (.bool false))⟩])
 .ret)
 .skip))
 (.seq
 (.seq
 (.region false [
 ⟨(some 13), none, .mv (.s 0)⟩,
 ⟨(some 14), none, .len (.s 13)⟩,
 ⟨(some 15), none, .mv (.c (.int .i64 0))⟩])
 (.block 0
 (.loop [2, 13, 14, 15] []
 (.seq
 (.region false [
 ⟨(some 16), none, .bin .lss .int (.s 15) (.s 14)⟩])
 (.seq
 (.cond (.s 16)
 .skip
 (.exit 0))
 (.seq
 (.block 1
 (.seq
 (.region false [
 ⟨(some 17), none, .iaddrS 1 (.s 13) (.s 15)⟩,
 ⟨(some 18), none, .load none none (.s 17)⟩,
 ⟨(some 8), none, .mv (.s 18)⟩])
 (.seq
 (.region false [
 ⟨(some 19), none, .mv (.s 8)⟩,
 ⟨(some 20), none, .mv (.s 2)⟩,
 ⟨(some 21), none, .bin .sub .int (.s 20) (.c (.int .i64 1))⟩,
 ⟨(some 22), none, .call (.c (.fn 77 [] [])) [(.s 19), (.c (.int .i64 0)), (.s 21)] [] [] [] false⟩,
 ⟨(some 23), none, .un .not (.s 22)⟩])
 (.cond (.s 23)
 (.seq
 (.region false [
 ⟨(some 6), none, .mv (.c (.bool false))⟩])
 .ret)
 .skip))))
 (.region false [
 ⟨(some 24), none, .bin .add .int (.s 15) (.c (.int .i64 1))⟩,
 ⟨(some 15), none, .mv (.s 24)⟩])))))))
 (.seq
 (.region false [
 ⟨(some 6), none, .mv (.c (.bool true))⟩])
 .ret)))) }
/- cuboid/hier.Good -/
def f75 : MFun := { nt := 57, np := 1, no := 1, res := [.slot 2], body :=
 (.seq
 (.region false [
 ⟨(some 1), none, .box 0 (.s 0)⟩,
 ⟨(some 2), none, .mv (.c (.bool false))⟩])
 (.seq
 (.seq
 (.region false [
 ⟨(some 6), none, .faddr 0 (.s 1)⟩,
 ⟨(some 7), none, .load none (some 0) (.s 6)⟩,
 ⟨(some 8), none, .len (.s 7)⟩,
 ⟨(some 9), none, .call (.c (.fn 77 [] [])) [(.s 8), (.c (.int .i64 1)), (.c (.int .i64 4))] [] [] [] false⟩,
 ⟨(some 10), none, .un .not (.s 9)⟩,
 ⟨(some 11), none, .mv (.s 10)⟩,
 ⟨(some 12), (some (11, false)), .faddr 1 (.s 1)⟩,
 ⟨(some 13), (some (11, false)), .load none (some 0) (.s 12)⟩,
 ⟨(some 14), (some (11, false)), .len (.s 13)⟩,
 ⟨(some 15), (some (11, false)), .faddr 0 (.s 1)⟩,
 ⟨(some 16), (some (11, false)), .load none (some 0) (.s 15)⟩,
 ⟨(some 17), (some (11, false)), .len (.s 16)⟩,
 ⟨(some 18), (some (11, false)), .bin .sub .int (.s 17) (.c (.int .i64 1))⟩,
 ⟨(some 19), (some (11, false)), .bin .neq .int (.s 14) (.s 18)⟩,
 ⟨(some 20), none, .pick (.s 11) (.c (.bool true)) (.s 19)⟩])
 (.cond (.s 20)
 (.seq
 (.region false [
 ⟨(some 2), none, .mv (.c (.bool false))⟩])
 .ret)
 .skip))
 (.seq
 (.seq
 (.region false [
 ⟨(some 21), none, .faddr 0 (.s 1)⟩,
 ⟨(some 22), none, .load none (some 0) (.s 21)⟩,
 ⟨(some 23), none, .len (.s 22)⟩,
 ⟨(some 24), none, .mv (.c (.int .i64 0))⟩])
 (.block 0
 (.loop [1, 22, 23, 24] [0]
 (.seq
 (.region false [
 ⟨(some 25), none, .bin .lss .int (.s 24) (.s 23)⟩])
 (.seq
 (.cond (.s 25)
 .skip
 (.exit 0))
 (.seq
 (.block 1
 (.seq
 (.region false [
 ⟨(some 26), none, .iaddrS 1 (.s 22) (.s 24)⟩,
 ⟨(some 27), none, .load none none (.s 26)⟩,
 ⟨(some 4), none, .mv (.s 27)⟩])
 (.seq
 (.region false [
 ⟨(some 28), none, .mv (.s 4)⟩,
 ⟨(some 29), none, .call (.c (.fn 77 [] [])) [(.s 28), (.c (.int .i64 1)), (.c (.int .i64 40))] [] [] [] false⟩,
 ⟨(some 30), none, .un .not (.s 29)⟩])
 (.cond (.s 30)
 (.seq
 (.region false [
 ⟨(some 2), none, .mv (.c (.bool false))⟩])
 .ret)
 .skip))))
 (.region false [
 ⟨(some 31), none, .bin .add .int (.s 24) (.c (.int .i64 1))⟩,
 ⟨(some 24), none, .mv (.s 31)⟩])))))))
 (.seq
 (.seq
 (.region false [
 ⟨(some 32), none, .faddr 1 (.s 1)⟩,
 ⟨(some 33), none, .load none (some 0) (.s 32)⟩,
 ⟨(some 34), none, .len (.s 33)⟩,
 ⟨(some 35), none, .mv (.c (.int .i64 0))⟩])
 (.block 2
 (.loop [1, 34, 35] [0]
 (.seq
 (.region false [
 ⟨(some 36), none, .bin .lss .int (.s 35) (.s 34)⟩])
 (.seq
 (.cond (.s 36)
 .skip
 (.exit 2))
 (.seq
 (.block 3
 (.seq
 (.region false [
 ⟨(some 37), none, .mv (.s 35)⟩,
 ⟨(some 5), none, .mv (.s 37)⟩])
 (.seq
 (.region true [
 ⟨(some 38), none, .faddr 1 (.s 1)⟩,
 ⟨(some 39), none, .load none (some 0) (.s 38)⟩,
 ⟨(some 40), none, .mv (.s 5)⟩,
 ⟨(some 41), none, .iaddrS 1 (.s 39) (.s 40)⟩,
 ⟨(some 42), none, .load none none (.s 41)⟩,
 ⟨(some 43), none, .faddr 0 (.s 1)⟩,
 ⟨(some 44), none, .load none (some 0) (.s 43)⟩,
 ⟨(some 45), none, .mv (.s 5)⟩,
 ⟨(some 46), none, .iaddrS 1 (.s 44) (.s 45)⟩,
 ⟨(some 47), none, .load none none (.s 46)⟩,
 ⟨(some 48), none, .faddr 0 (.s 1)⟩,
 ⟨(some 49), none, .load none (some 0) (.s 48)⟩,
 ⟨(some 50), none, .mv (.s 5)⟩,
 ⟨(some 51), none, .bin .add .int (.s 50) (.c (.int .i64 1))⟩,
 ⟨(some 52), none, .iaddrS 1 (.s 49) (.s 51)⟩,
 ⟨(some 53), none, .load none none (.s 52)⟩,
 ⟨(some 54), none, .call (.c (.fn 78 [] [])) [(.s 42), (.s 47), (.s 53)] [] [] [] false⟩,
 ⟨(some 55), none, .un .not (.s 54)⟩])
 (.cond (.s 55)
 (.seq
 (.region false [
 ⟨(some 2), none, .mv (.c (.bool false))⟩])
 .ret)
 .skip))))
 (.region false [
 ⟨(some 56), none, .bin .add .int (.s 35) (.c (.int .i64 1))⟩,
 ⟨(some 35), none, .mv (.s 56)⟩])))))))
 (.seq
 (.region false [
 ⟨(some 2), none, .mv (.c (.bool true))⟩])
 .ret))))) }
/- cuboid/schema.Good -/
def f68 : MFun := { nt := 27, np := 1, no := 2, res := [.slot 2], body :=
 (.seq
 (.region false [
 ⟨(some 1), none, .box 0 (.s 0)⟩,
 ⟨(some 2), none, .mv (.c (.bool false))⟩])
 (.seq
 (.seq
 (.region false [
 ⟨(some 5), none, .faddr 0 (.s 1)⟩,
 ⟨(some 6), none, .load none (some 0) (.s 5)⟩,
 ⟨(some 7), none, .len (.s 6)⟩,
 ⟨(some 8), none, .call (.c (.fn 69 [] [])) [(.s 7), (.c (.int .i64 1)), (.c (.int .i64 4))] [] [] [] false⟩,
 ⟨(some 9), none, .un .not (.s 8)⟩,
 ⟨(some 10), none, .mv (.s 9)⟩,
 ⟨(some 11), (some (10, false)), .faddr 1 (.s 1)⟩,
 ⟨(some 12), (some (10, false)), .load none (some 0) (.s 11)⟩,
 ⟨(some 13), (some (10, false)), .call (.c (.fn 69 [] [])) [(.s 12), (.c (.int .i64 1)), (.c (.int .i64 2))] [] [] [] false⟩,
 ⟨(some 14), (some (10, false)), .un .not (.s 13)⟩,
 ⟨(some 15), none, .pick (.s 10) (.c (.bool true)) (.s 14)⟩])
 (.cond (.s 15)
 (.seq
 (.region false [
 ⟨(some 2), none, .mv (.c (.bool false))⟩])
 .ret)
 .skip))
 (.seq
 (.seq
 (.region false [
 ⟨(some 16), none, .faddr 0 (.s 1)⟩,
 ⟨(some 17), none, .load none (some 0) (.s 16)⟩,
 ⟨(some 18), none, .len (.s 17)⟩,
 ⟨(some 19), none, .mv (.c (.int .i64 0))⟩])
 (.block 0
 (.loop [17, 18, 19] []
 (.seq
 (.region false [
 ⟨(some 20), none, .bin .lss .int (.s 19) (.s 18)⟩])
 (.seq
 (.cond (.s 20)
 .skip
 (.exit 0))
 (.seq
 (.block 1
 (.seq
 (.region false [
 ⟨(some 21), none, .iaddrS 2 (.s 17) (.s 19)⟩,
 ⟨(some 22), none, .load (some 2) none (.s 21)⟩,
 ⟨(some 4), none, .alloc 1 [.nilsl, .nilsl]⟩,
 ⟨none, none, .store 2 1 [] (.s 4) (.s 22)⟩])
 (.seq
 (.region false [
 ⟨(some 23), none, .load (some 2) (some 1) (.s 4)⟩,
 ⟨(some 24), none, .call (.c (.fn 75 [] [])) [(.s 23)] [] [] [] false⟩,
 ⟨(some 25), none, .un .not (.s 24)⟩])
 (.cond (.s 25)
 (.seq
 (.region false [
 ⟨(some 2), none, .mv (.c (.bool false))⟩])
 .ret)
 .skip))))
 (.region false [
 ⟨(some 26), none, .bin .add .int (.s 19) (.c (.int .i64 1))⟩,
 ⟨(some 19), none, .mv (.s 26)⟩])))))))
 (.seq
 (.region false [
 ⟨(some 2), none, .mv (.c (.bool true))⟩])
 .ret)))) }
/- cuboid/hier.Size -/
def f74 : MFun := { nt := 28, np := 2, no := 1, res := [.slot 4], body :=
 (.seq
 (.region false [
 ⟨(some 2), none, .box 0 (.s 0)⟩,
 ⟨(some 4), none, .mv (.c (.int .i64 0))⟩])
 (.seq
 (.block 0
 (.seq
 (.region false [
 ⟨(some 6), none, .load (some 2) (some 0) (.s 2)⟩,
 ⟨(some 7), none, .call (.c (.fn 75 [] [])) [(.s 6)] [] [] [] false⟩,
 ⟨(some 8), none, .un .not (.s 7)⟩,
 ⟨(some 9), none, .mv (.s 8)⟩,
 ⟨(some 10), (some (9, false)), .mv (.s 1)⟩,
 ⟨(some 11), (some (9, false)), .faddr 0 (.s 2)⟩,
 ⟨(some 12), (some (9, false)), .load none (some 0) (.s 11)⟩,
 ⟨(some 13), (some (9, false)), .len (.s 12)⟩,
 ⟨(some 14), (some (9, false)), .call (.c (.fn 77 [] [])) [(.s 10), (.c (.int .i64 0)), (.s 13)] [] [] [] false⟩,
 ⟨(some 15), (some (9, false)), .un .not (.s 14)⟩,
 ⟨(some 16), none, .pick (.s 9) (.c (.bool true)) (.s 15)⟩,
 ⟨(some 5), none, .mv (.s 16)⟩])
 (.cond (.s 5)
 (.seq
 (.region false [
 ⟨(some 4), none, .mv (.c (.int .i64 0))⟩])
 .ret)
 (.seq
 (.region false [
 ⟨(some 18), none, .mv (.s 1)⟩,
 ⟨(some 19), none, .faddr 0 (.s 2)⟩,
 ⟨(some 20), none, .load none (some 0) (.s 19)⟩,
 ⟨(some 21), none, .len (.s 20)⟩,
 ⟨(some 22), none, .bin .eql .int (.s 18) (.s 21)⟩,
 ⟨(some 17), none, .mv (.s 22)⟩])
 (.cond (.s 17)
 (.seq
 (.region false [
 ⟨(some 4), none, .mv (.c (.int .i64 1))⟩])
 .ret)
 .skip)))))
 (.seq
 (.region false [
 ⟨(some 23), none, .faddr 0 (.s 2)⟩,
 ⟨(some 24), none, .load none (some 0) (.s 23)⟩,
 ⟨(some 25), none, .mv (.s 1)⟩,
 ⟨(some 26), none, .iaddrS 1 (.s 24) (.s 25)⟩,
 ⟨(some 27), none, .load none none (.s 26)⟩,
 ⟨(some 4), none, .mv (.s 27)⟩])
 .ret))) }
/- cuboid/schema.Right -/
def f73 : MFun := { nt := 45, np := 3, no := 3, res := [.slot 6], body :=
 (.seq
 (.region false [
 ⟨(some 3), none, .box 0 (.s 0)⟩,
 ⟨(some 4), none, .box 1 (.s 1)⟩,
 ⟨(some 5), none, .box 2 (.s 2)⟩,
 ⟨(some 6), none, .mv (.c (.bool false))⟩])
 (.seq
 (.seq
 (.region false [
 ⟨(some 8), none, .load (some 2) (some 0) (.s 3)⟩,
 ⟨(some 9), none, .call (.c (.fn 68 [] [])) [(.s 8)] [] [] [] false⟩,
 ⟨(some 10), none, .un .not (.s 9)⟩])
 (.cond (.s 10)
 (.seq
 (.region false [
 ⟨(some 6), none, .mv (.c (.bool false))⟩])
 .ret)
 .skip))
 (.seq
 (.seq
 (.region false [
 ⟨(some 11), none, .mv (.c (.int .i64 0))⟩])
 (.block 0
 (.loop [3, 4, 5, 11] [0, 1, 2]
 (.seq
 (.region false [
 ⟨(some 12), none, .bin .lss .int (.s 11) (.c (.int .i64 4))⟩])
 (.seq
 (.cond (.s 12)
 .skip
 (.exit 0))
 (.seq
 (.block 1
 (.seq
 (.region false [
 ⟨(some 13), none, .mv (.s 11)⟩,
 ⟨(some 7), none, .mv (.s 13)⟩])
 (.seq
 (.seq
 (.region false [
 ⟨(some 14), none, .mv (.s 7)⟩,
 ⟨(some 15), none, .faddr 0 (.s 3)⟩,
 ⟨(some 16), none, .load none (some 0) (.s 15)⟩,
 ⟨(some 17), none, .len (.s 16)⟩,
 ⟨(some 18), none, .bin .geq .int (.s 14) (.s 17)⟩])
 (.cond (.s 18)
 (.seq
 (.seq
 (.region false [
 ⟨(some 19), none, .mv (.s 7)⟩,
 ⟨(some 20), none, .iaddrA 4 1 (.s 4) (.s 19)⟩,
 ⟨(some 21), none, .load none (some 1) (.s 20)⟩,
 ⟨(some 22), none, .bin .neq .int (.s 21) (.c (.int .u8 0))⟩,
 ⟨(some 23), none, .mv (.s 22)⟩,
 ⟨(some 24), (some (23, false)), .mv (.s 7)⟩,
 ⟨(some 25), (some (23, false)), .iaddrA 4 1 (.s 5) (.s 24)⟩,
 ⟨(some 26), (some (23, false)), .load none (some 2) (.s 25)⟩,
 ⟨(some 27), (some (23, false)), .bin .neq .int (.s 26) (.c (.int .u8 0))⟩,
 ⟨(some 28), none, .pick (.s 23) (.c (.bool true)) (.s 27)⟩])
 (.cond (.s 28)
 (.seq
 (.region false [
 ⟨(some 6), none, .mv (.c (.bool false))⟩])
 .ret)
 .skip))
 (.exit 1))
 .skip))
 (.seq
 (.region true [
 ⟨(some 29), none, .mv (.s 7)⟩,
 ⟨(some 30), none, .iaddrA 4 1 (.s 5) (.s 29)⟩,
 ⟨(some 31), none, .load none (some 2) (.s 30)⟩,
 ⟨(some 32), none, .conv .i64 (.s 31)⟩,
 ⟨(some 33), none, .faddr 0 (.s 3)⟩,
 ⟨(some 34), none, .load none (some 0) (.s 33)⟩,
 ⟨(some 35), none, .mv (.s 7)⟩,
 ⟨(some 36), none, .iaddrS 2 (.s 34) (.s 35)⟩,
 ⟨(some 37), none, .load (some 2) none (.s 36)⟩,
 ⟨(some 38), none, .mv (.s 7)⟩,
 ⟨(some 39), none, .iaddrA 4 1 (.s 4) (.s 38)⟩,
 ⟨(some 40), none, .load none (some 1) (.s 39)⟩,
 ⟨(some 41), none, .conv .i64 (.s 40)⟩,
 ⟨(some 42), none, .call (.c (.fn 74 [] [])) [(.s 37), (.s 41)] [] [] [] false⟩,
 ⟨(some 43), none, .bin .geq .int (.s 32) (.s 42)⟩])
 (.cond (.s 43)
 (.seq
 (.region false [
 ⟨(some 6), none, .mv (.c (.bool false))⟩])
 .ret)
 .skip)))))
 (.region false [
 ⟨(some 44), none, .bin .add .int (.s 11) (.c (.int .i64 1))⟩,
 ⟨(some 11), none, .mv (.s 44)⟩])))))))
 (.seq
 (.region false [
 ⟨(some 6), none, .mv (.c (.bool true))⟩])
 .ret)))) }
/- cuboid/lattice.Good -/
def f55 : MFun := { nt := 9, np := 2, no := 2, res := [.slot 4], body :=
 (.seq
 (.region false [
 ⟨(some 2), none, .box 0 (.s 0)⟩,
 ⟨(some 3), none, .box 1 (.s 1)⟩,
 ⟨(some 4), none, .mv (.c (.bool false))⟩])
 (.seq
 (.region false [
 ⟨(some 5), none, .load (some 2) (some 0) (.s 2)⟩,
 ⟨(some 6), none, .load (some 4) (some 1) (.s 3)⟩,
 ⟨(some 7), none, .build [.int .u8 0, .int .u8 0, .int .u8 0, .int .u8 0] []⟩,
 ⟨(some 8), none, .call (.c (.fn 73 [] [])) [(.s 5), (.s 6), (.s 7)] [] [] [] false⟩,
 ⟨(some 4), none, .mv (.s 8)⟩])
 .ret)) }
/- cuboid/query.fix -/
def f57 : MFun := { nt := 59, np := 2, no := 2, res := [.slot 4], body :=
 (.seq
 (.region false [
 ⟨(some 2), none, .box 0 (.s 0)⟩,
 ⟨(some 3), none, .box 1 (.s 1)⟩,
 ⟨(some 4), none, .mv (.c (.bool false))⟩])
 (.seq
 (.seq
 (.region false [
 ⟨(some 8), none, .faddr 0 (.s 3)⟩,
 ⟨(some 9), none, .load none (some 1) (.s 8)⟩,
 ⟨(some 10), none, .faddr 0 (.s 2)⟩,
 ⟨(some 11), none, .load none (some 0) (.s 10)⟩,
 ⟨(some 12), none, .len (.s 11)⟩,
 ⟨(some 13), none, .bin .sub .int (.s 12) (.c (.int .i64 1))⟩,
 ⟨(some 14), none, .call (.c (.fn 56 [] [])) [(.s 9), (.c (.int .i64 0)), (.s 13)] [] [] [] false⟩,
 ⟨(some 15), none, .un .not (.s 14)⟩,
 ⟨(some 16), none, .mv (.s 15)⟩,
 ⟨(some 17), (some (16, false)), .faddr 2 (.s 3)⟩,
 ⟨(some 18), (some (16, false)), .load none (some 1) (.s 17)⟩,
 ⟨(some 19), (some (16, false)), .len (.s 18)⟩,
 ⟨(some 20), (some (16, false)), .bin .eql .int (.s 19) (.c (.int .i64 0))⟩,
 ⟨(some 21), none, .pick (.s 16) (.c (.bool true)) (.s 20)⟩])
 (.cond (.s 21)
 (.seq
 (.region false [
 ⟨(some 4), none, .mv (.c (.bool false))⟩])
 .ret)
 .skip))
 (.seq
 (.region true [
 ⟨(some 22), none, .faddr 0 (.s 2)⟩,
 ⟨(some 23), none, .load none (some 0) (.s 22)⟩,
 ⟨(some 24), none, .faddr 0 (.s 3)⟩,
 ⟨(some 25), none, .load none (some 1) (.s 24)⟩,
 ⟨(some 26), none, .iaddrS 2 (.s 23) (.s 25)⟩,
 ⟨(some 27), none, .load (some 2) none (.s 26)⟩,
 ⟨(some 28), none, .faddr 1 (.s 3)⟩,
 ⟨(some 29), none, .load none (some 1) (.s 28)⟩,
 ⟨(some 30), none, .call (.c (.fn 74 [] [])) [(.s 27), (.s 29)] [] [] [] false⟩,
 ⟨(some 5), none, .mv (.s 30)⟩])
 (.seq
 (.seq
 (.region false [
 ⟨(some 31), none, .faddr 2 (.s 3)⟩,
 ⟨(some 32), none, .load none (some 1) (.s 31)⟩,
 ⟨(some 33), none, .len (.s 32)⟩,
 ⟨(some 34), none, .mv (.c (.int .i64 0))⟩])
 (.block 0
 (.loop [3, 5, 32, 33, 34] [1]
 (.seq
 (.region false [
 ⟨(some 35), none, .bin .lss .int (.s 34) (.s 33)⟩])
 (.seq
 (.cond (.s 35)
 .skip
 (.exit 0))
 (.seq
 (.block 1
 (.seq
 (.region false [
 ⟨(some 36), none, .mv (.s 34)⟩,
 ⟨(some 37), none, .iaddrS 1 (.s 32) (.s 34)⟩,
 ⟨(some 38), none, .load none none (.s 37)⟩,
 ⟨(some 6), none, .mv (.s 36)⟩,
 ⟨(some 7), none, .mv (.s 38)⟩])
 (.seq
 (.region false [
 ⟨(some 39), none, .mv (.s 7)⟩,
 ⟨(some 40), none, .mv (.s 5)⟩,
 ⟨(some 41), none, .bin .sub .int (.s 40) (.c (.int .i64 1))⟩,
 ⟨(some 42), none, .call (.c (.fn 56 [] [])) [(.s 39), (.c (.int .i64 0)), (.s 41)] [] [] [] false⟩,
 ⟨(some 43), none, .un .not (.s 42)⟩,
 ⟨(some 44), none, .mv (.s 43)⟩,
 ⟨(some 45), (some (44, false)), .mv (.s 6)⟩,
 ⟨(some 46), (some (44, false)), .bin .gtr .int (.s 45) (.c (.int .i64 0))⟩,
 ⟨(some 47), (some (44, false)), .mv (.s 46)⟩,
 ⟨(some 48), (some (47, true)), .faddr 2 (.s 3)⟩,
 ⟨(some 49), (some (47, true)), .load none (some 1) (.s 48)⟩,
 ⟨(some 50), (some (47, true)), .mv (.s 6)⟩,
 ⟨(some 51), (some (47, true)), .bin .sub .int (.s 50) (.c (.int .i64 1))⟩,
 ⟨(some 52), (some (47, true)), .iaddrS 1 (.s 49) (.s 51)⟩,
 ⟨(some 53), (some (47, true)), .load none none (.s 52)⟩,
 ⟨(some 54), (some (47, true)), .mv (.s 7)⟩,
 ⟨(some 55), (some (47, true)), .bin .geq .int (.s 53) (.s 54)⟩,
 ⟨(some 56), (some (44, false)), .pick (.s 47) (.s 55) (.c (.bool false))⟩,
 ⟨(some 57), none, .pick (.s 44) (.c (.bool true)) (.s 56)⟩])
 (.cond (.s 57)
 (.seq
 (.region false [
 ⟨(some 4), none, .mv (.c (.bool false))⟩])
 .ret)
 .skip))))
 (.region false [
 ⟨(some 58), none, .bin .add .int (.s 34) (.c (.int .i64 1))⟩,
 ⟨(some 34), none, .mv (.s 58)⟩])))))))
 (.seq
 (.region false [
 ⟨(some 4), none, .mv (.c (.bool true))⟩])
 .ret))))) }
/- cuboid/query.Good -/
def f30 : MFun := { nt := 64, np := 2, no := 3, res := [.slot 4], body :=
 (.seq
 (.region false [
 ⟨(some 2), none, .box 0 (.s 0)⟩,
 ⟨(some 3), none, .box 1 (.s 1)⟩,
 ⟨(some 4), none, .mv (.c (.bool false))⟩])
 (.seq
 (.seq
 (.region false [
 ⟨(some 7), none, .load (some 2) (some 0) (.s 2)⟩,
 ⟨(some 8), none, .faddr 0 (.s 3)⟩,
 ⟨(some 9), none, .load (some 4) (some 1) (.s 8)⟩,
 ⟨(some 10), none, .call (.c (.fn 55 [] [])) [(.s 7), (.s 9)] [] [] [] false⟩,
 ⟨(some 11), none, .un .not (.s 10)⟩,
 ⟨(some 12), none, .mv (.s 11)⟩,
 ⟨(some 13), (some (12, false)), .faddr 4 (.s 3)⟩,
 ⟨(some 14), (some (12, false)), .load none (some 1) (.s 13)⟩,
 ⟨(some 15), (some (12, false)), .len (.s 14)⟩,
 ⟨(some 16), (some (12, false)), .bin .gtr .int (.s 15) (.c (.int .i64 6))⟩,
 ⟨(some 17), none, .pick (.s 12) (.c (.bool true)) (.s 16)⟩,
 ⟨(some 18), none, .mv (.s 17)⟩,
 ⟨(some 19), (some (18, false)), .faddr 5 (.s 3)⟩,
 ⟨(some 20), (some (18, false)), .load none (some 1) (.s 19)⟩,
 ⟨(some 21), (some (18, false)), .call (.c (.fn 56 [] [])) [(.s 20), (.c (.int .i64 0)), (.c (.int .i64 1000))] [] [] [] false⟩,
 ⟨(some 22), (some (18, false)), .un .not (.s 21)⟩,
 ⟨(some 23), none, .pick (.s 18) (.c (.bool true)) (.s 22)⟩,
 ⟨(some 24), none, .mv (.s 23)⟩,
 ⟨(some 25), (some (24, false)), .faddr 8 (.s 3)⟩,
 ⟨(some 26), (some (24, false)), .load none (some 1) (.s 25)⟩,
 ⟨(some 27), (some (24, false)), .call (.c (.fn 56 [] [])) [(.s 26), (.c (.int .i64 0)), (.c (.int .i64 1000))] [] [] [] false⟩,
 ⟨(some 28), (some (24, false)), .un .not (.s 27)⟩,
 ⟨(some 29), none, .pick (.s 24) (.c (.bool true)) (.s 28)⟩])
 (.cond (.s 29)
 (.seq
 (.region false [
 ⟨(some 4), none, .mv (.c (.bool false))⟩])
 .ret)
 .skip))
 (.seq
 (.seq
 (.region false [
 ⟨(some 30), none, .faddr 4 (.s 3)⟩,
 ⟨(some 31), none, .load none (some 1) (.s 30)⟩,
 ⟨(some 32), none, .len (.s 31)⟩,
 ⟨(some 33), none, .mv (.c (.int .i64 0))⟩])
 (.block 0
 (.loop [2, 3, 31, 32, 33] [0, 1]
 (.seq
 (.region false [
 ⟨(some 34), none, .bin .lss .int (.s 33) (.s 32)⟩])
 (.seq
 (.cond (.s 34)
 .skip
 (.exit 0))
 (.seq
 (.block 1
 (.seq
 (.region false [
 ⟨(some 35), none, .iaddrS 3 (.s 31) (.s 33)⟩,
 ⟨(some 36), none, .load (some 3) none (.s 35)⟩,
 ⟨(some 6), none, .alloc 2 [.int .i64 0, .int .i64 0, .nilsl]⟩,
 ⟨none, none, .store 3 2 [] (.s 6) (.s 36)⟩])
 (.seq
 (.region false [
 ⟨(some 37), none, .load (some 2) (some 0) (.s 2)⟩,
 ⟨(some 38), none, .load (some 3) (some 2) (.s 6)⟩,
 ⟨(some 39), none, .call (.c (.fn 57 [] [])) [(.s 37), (.s 38)] [] [] [] false⟩,
 ⟨(some 40), none, .un .not (.s 39)⟩])
 (.cond (.s 40)
 (.seq
 (.region false [
 ⟨(some 4), none, .mv (.c (.bool false))⟩])
 .ret)
 .skip))))
 (.region false [
 ⟨(some 41), none, .bin .add .int (.s 33) (.c (.int .i64 1))⟩,
 ⟨(some 33), none, .mv (.s 41)⟩])))))))
 (.seq
 (.seq
 (.region false [
 ⟨(some 42), none, .faddr 5 (.s 3)⟩,
 ⟨(some 43), none, .load none (some 1) (.s 42)⟩,
 ⟨(some 44), none, .bin .eql .int (.s 43) (.c (.int .i64 0))⟩])
 (.cond (.s 44)
 (.seq
 (.region false [
 ⟨(some 45), none, .faddr 6 (.s 3)⟩,
 ⟨(some 46), none, .load none (some 1) (.s 45)⟩,
 ⟨(some 47), none, .bin .eql .int (.s 46) (.c (.int .i64 0))⟩,
 ⟨(some 48), none, .mv (.s 47)⟩,
 ⟨(some 49), (some (48, true)), .faddr 7 (.s 3)⟩,
 ⟨(some 50), (some (48, true)), .load none (some 1) (.s 49)⟩,
 ⟨(some 51), (some (48, true)), .bin .eql .int (.s 50) (.c (.int .i64 0))⟩,
 ⟨(some 52), none, .pick (.s 48) (.s 51) (.c (.bool false))⟩,
 ⟨(some 4), none, .mv (.s 52)⟩])
 .ret)
 .skip))
 (.seq
 (.region false [
 ⟨(some 53), none, .faddr 6 (.s 3)⟩,
 ⟨(some 54), none, .load none (some 1) (.s 53)⟩,
 ⟨(some 55), none, .faddr 1 (.s 2)⟩,
 ⟨(some 56), none, .load none (some 0) (.s 55)⟩,
 ⟨(some 57), none, .bin .sub .int (.s 56) (.c (.int .i64 1))⟩,
 ⟨(some 58), none, .call (.c (.fn 56 [] [])) [(.s 54), (.c (.int .i64 0)), (.s 57)] [] [] [] false⟩,
 ⟨(some 59), none, .mv (.s 58)⟩,
 ⟨(some 60), (some (59, true)), .faddr 7 (.s 3)⟩,
 ⟨(some 61), (some (59, true)), .load none (some 1) (.s 60)⟩,
 ⟨(some 62), (some (59, true)), .call (.c (.fn 56 [] [])) [(.s 61), (.c (.int .i64 1)), (.c (.int .i64 5))] [] [] [] false⟩,
 ⟨(some 63), none, .pick (.s 59) (.s 62) (.c (.bool false))⟩,
 ⟨(some 4), none, .mv (.s 63)⟩])
 .ret))))) }
/- cuboid/query.has -/
def f48 : MFun := { nt := 18, np := 3, no := 2, res := [.slot 6], body :=
 (.seq
 (.region false [
 ⟨(some 3), none, .box 0 (.s 0)⟩,
 ⟨(some 4), none, .box 1 (.s 1)⟩,
 ⟨(some 6), none, .mv (.c (.bool false))⟩])
 (.seq
 (.region false [
 ⟨(some 7), none, .load (some 2) (some 0) (.s 3)⟩,
 ⟨(some 8), none, .load (some 9) (some 1) (.s 4)⟩,
 ⟨(some 9), none, .call (.c (.fn 30 [] [])) [(.s 7), (.s 8)] [] [] [] false⟩,
 ⟨(some 10), none, .mv (.s 9)⟩,
 ⟨(some 11), (some (10, true)), .mv (.s 2)⟩,
 ⟨(some 12), (some (10, true)), .faddr 0 (.s 3)⟩,
 ⟨(some 13), (some (10, true)), .load none (some 0) (.s 12)⟩,
 ⟨(some 14), (some (10, true)), .len (.s 13)⟩,
 ⟨(some 15), (some (10, true)), .bin .sub .int (.s 14) (.c (.int .i64 1))⟩,
 ⟨(some 16), (some (10, true)), .call (.c (.fn 56 [] [])) [(.s 11), (.c (.int .i64 0)), (.s 15)] [] [] [] false⟩,
 ⟨(some 17), none, .pick (.s 10) (.s 16) (.c (.bool false))⟩,
 ⟨(some 6), none, .mv (.s 17)⟩])
 .ret)) }
/- cuboid/schema.Levels -/
def f49 : MFun := { nt := 25, np := 2, no := 1, res := [.slot 4], body :=
 (.seq
 (.region false [
 ⟨(some 2), none, .box 0 (.s 0)⟩,
 ⟨(some 4), none, .mv (.c (.int .i64 0))⟩])
 (.seq
 (.seq
 (.region false [
 ⟨(some 5), none, .load (some 2) (some 0) (.s 2)⟩,
 ⟨(some 6), none, .call (.c (.fn 68 [] [])) [(.s 5)] [] [] [] false⟩,
 ⟨(some 7), none, .un .not (.s 6)⟩,
 ⟨(some 8), none, .mv (.s 7)⟩,
 ⟨(some 9), (some (8, false)), .mv (.s 1)⟩,
 ⟨(some 10), (some (8, false)), .faddr 0 (.s 2)⟩,
 ⟨(some 11), (some (8, false)), .load none (some 0) (.s 10)⟩,
 ⟨(some 12), (some (8, false)), .len (.s 11)⟩,
 ⟨(some 13), (some (8, false)), .bin .sub .int (.s 12) (.c (.int .i64 1))⟩,
 ⟨(some 14), (some (8, false)), .call (.c (.fn 69 [] [])) [(.s 9), (.c (.int .i64 0)), (.s 13)] [] [] [] false⟩,
 ⟨(some 15), (some (8, false)), .un .not (.s 14)⟩,
 ⟨(some 16), none, .pick (.s 8) (.c (.bool true)) (.s 15)⟩])
 (.cond (.s 16)
 (.seq
 (.region false [
 ⟨(some 4), none, .mv (.c (.int .i64 0))⟩])
 .ret)
 .skip))
 (.seq
 (.region false [
 ⟨(some 17), none, .faddr 0 (.s 2)⟩,
 ⟨(some 18), none, .load none (some 0) (.s 17)⟩,
 ⟨(some 19), none, .mv (.s 1)⟩,
 ⟨(some 20), none, .iaddrS 2 (.s 18) (.s 19)⟩,
 ⟨(some 21), none, .faddr 0 (.s 20)⟩,
 ⟨(some 22), none, .load none none (.s 21)⟩,
 ⟨(some 23), none, .len (.s 22)⟩,
 ⟨(some 24), none, .bin .add .int (.s 23) (.c (.int .i64 1))⟩,
 ⟨(some 4), none, .mv (.s 24)⟩])
 .ret))) }
/- slices.Concat[[]cuboid/api.Fix,cuboid/api.Fix] -/
def f70 : MFun := { nt := 36, np := 1, no := 1, res := [.slot 2], body :=
 (.seq
 (.region false [
 ⟨(some 2), none, .mv (.c .nilsl)⟩])
 (.seq
 (.region false [
 ⟨(some 3), none, .mv (.c (.int .i64 0))⟩])
 (.seq
 (.seq
 (.region false [
 ⟨(some 9), none, .mv (.s 0)⟩,
 ⟨(some 10), none, .len (.s 9)⟩,
 ⟨(some 11), none, .mv (.c (.int .i64 0))⟩])
 (.block 0
 (.loop [0, 3, 9, 10, 11] []
 (.seq
 (.region false [
 ⟨(some 12), none, .bin .lss .int (.s 11) (.s 10)⟩])
 (.seq
 (.cond (.s 12)
 .skip
 (.exit 0))
 (.seq
 (.block 1
 (.seq
 (.region false [
 ⟨(some 13), none, .iaddrS 1 (.s 9) (.s 11)⟩,
 ⟨(some 14), none, .load none none (.s 13)⟩,
 ⟨(some 5), none, .mv (.s 14)⟩])
 (.seq
 (.region false [
 ⟨(some 15), none, .mv (.s 3)⟩,
 ⟨(some 16), none, .mv (.s 5)⟩,
 ⟨(some 17), none, .len (.s 16)⟩,
 ⟨(some 18), none, .bin .add .int (.s 15) (.s 17)⟩,
 ⟨(some 3), none, .mv (.s 18)⟩])
 (.seq
 (.region false [
 ⟨(some 19), none, .mv (.s 3)⟩,
 ⟨(some 20), none, .bin .lss .int (.s 19) (.c (.int .i64 0))⟩])
 (.cond (.s 20)
 (.region false [
 ⟨(some 21), none, .stop⟩,
 ⟨none, none, .stop⟩])
 .skip)))))
 (.region false [
 ⟨(some 22), none, .bin .add .int (.s 11) (.c (.int .i64 1))⟩,
 ⟨(some 11), none, .mv (.s 22)⟩])))))))
 (.seq
 (.region false [
 ⟨(some 23), none, .mv (.s 3)⟩,
 ⟨(some 24), none, .call (.c (.fn 76 [] [])) [(.c .nilsl), (.s 23)] [] [] [(0, 0)] true⟩,
 ⟨(some 6), none, .mv (.s 24)⟩])
 (.seq
 (.seq
 (.region false [
 ⟨(some 25), none, .mv (.s 0)⟩,
 ⟨(some 26), none, .len (.s 25)⟩,
 ⟨(some 27), none, .mv (.c (.int .i64 0))⟩])
 (.block 2
 (.loop [6, 25, 26, 27] [0]
 (.seq
 (.region false [
 ⟨(some 28), none, .bin .lss .int (.s 27) (.s 26)⟩])
 (.seq
 (.cond (.s 28)
 .skip
 (.exit 2))
 (.seq
 (.block 3
 (.seq
 (.region false [
 ⟨(some 29), none, .iaddrS 1 (.s 25) (.s 27)⟩,
 ⟨(some 30), none, .load none none (.s 29)⟩,
 ⟨(some 8), none, .mv (.s 30)⟩])
 (.region false [
 ⟨(some 31), none, .mv (.s 6)⟩,
 ⟨(some 32), none, .mv (.s 8)⟩,
 ⟨(some 33), none, .append 40 3 0 none (.s 31) (.s 32)⟩,
 ⟨(some 6), none, .mv (.s 33)⟩])))
 (.region false [
 ⟨(some 34), none, .bin .add .int (.s 27) (.c (.int .i64 1))⟩,
 ⟨(some 27), none, .mv (.s 34)⟩])))))))
 (.seq
 (.region false [
 ⟨(some 35), none, .mv (.s 6)⟩,
 ⟨(some 2), none, .mv (.s 35)⟩])
 .ret)))))) }
/- slices.Clone[[]int,int] -/
def f71 : MFun := { nt := 8, np := 1, no := 1, res := [.slot 2], body :=
 (.seq
 (.region false [
 ⟨(some 2), none, .mv (.c .nilsl)⟩])
 (.seq
 (.seq
 (.region false [
 ⟨(some 3), none, .mv (.s 0)⟩,
 ⟨(some 4), none, .bin .eql .sl (.s 3) (.c .nilsl)⟩])
 (.cond (.s 4)
 (.seq
 (.region false [
 ⟨(some 2), none, .mv (.c .nilsl)⟩])
 .ret)
 .skip))
 (.seq
 (.region false [
 ⟨(some 5), none, .lit (some 0) [] 0 1 [.int .i64 0] []⟩,
 ⟨(some 6), none, .mv (.s 0)⟩,
 ⟨(some 7), none, .append 8 1 0 none (.s 5) (.s 6)⟩,
 ⟨(some 2), none, .mv (.s 7)⟩])
 .ret))) }
/- cuboid/query.own -/
def f50 : MFun := { nt := 31, np := 2, no := 5, res := [.cell 4 1 (some 9)], body :=
 (.seq
 (.region false [
 ⟨(some 2), none, .box 0 (.s 0)⟩,
 ⟨(some 4), none, .alloc 1 [.int .u8 0, .int .u8 0, .int .u8 0, .int .u8 0, .nilsl, .int .i64 0, .int .i64 0, .int .i64 0, .int .i64 0]⟩])
 (.seq
 (.region false [
 ⟨(some 7), none, .faddr 4 (.s 2)⟩,
 ⟨(some 8), none, .load none (some 0) (.s 7)⟩,
 ⟨(some 9), none, .mv (.s 1)⟩,
 ⟨(some 10), none, .lit none [2] 2 1 [.nilsl] [(0, 1, (.s 8)), (1, 1, (.s 9))]⟩,
 ⟨(some 11), none, .call (.c (.fn 70 [] [])) [(.s 10)] [] [] [(0, 2)] true⟩,
 ⟨(some 12), none, .faddr 4 (.s 2)⟩,
 ⟨none, none, .store 1 0 [] (.s 12) (.s 11)⟩])
 (.seq
 (.seq
 (.region false [
 ⟨(some 13), none, .faddr 4 (.s 2)⟩,
 ⟨(some 14), none, .load none (some 0) (.s 13)⟩,
 ⟨(some 15), none, .len (.s 14)⟩,
 ⟨(some 16), none, .mv (.c (.int .i64 0))⟩])
 (.block 0
 (.loop [2, 4, 14, 15, 16] [0, 1, 2]
 (.seq
 (.region false [
 ⟨(some 17), none, .bin .lss .int (.s 16) (.s 15)⟩])
 (.seq
 (.cond (.s 17)
 .skip
 (.exit 0))
 (.seq
 (.block 1
 (.seq
 (.region false [
 ⟨(some 18), none, .mv (.s 16)⟩,
 ⟨(some 19), none, .iaddrS 3 (.s 14) (.s 16)⟩,
 ⟨(some 20), none, .load (some 3) (some 2) (.s 19)⟩,
 ⟨(some 6), none, .alloc 3 [.int .i64 0, .int .i64 0, .nilsl]⟩,
 ⟨(some 5), none, .mv (.s 18)⟩,
 ⟨none, none, .store 3 3 [] (.s 6) (.s 20)⟩])
 (.region true [
 ⟨(some 21), none, .faddr 4 (.s 2)⟩,
 ⟨(some 22), none, .load none (some 0) (.s 21)⟩,
 ⟨(some 23), none, .mv (.s 5)⟩,
 ⟨(some 24), none, .faddr 2 (.s 6)⟩,
 ⟨(some 25), none, .load none (some 3) (.s 24)⟩,
 ⟨(some 26), none, .call (.c (.fn 71 [] [])) [(.s 25)] [] [] [(0, 4)] true⟩,
 ⟨(some 27), none, .iaddrS 3 (.s 22) (.s 23)⟩,
 ⟨(some 28), none, .faddr 2 (.s 27)⟩,
 ⟨none, none, .store 1 2 [4] (.s 28) (.s 26)⟩])))
 (.region false [
 ⟨(some 29), none, .bin .add .int (.s 16) (.c (.int .i64 1))⟩,
 ⟨(some 16), none, .mv (.s 29)⟩])))))))
 (.seq
 (.region false [
 ⟨(some 30), none, .load (some 9) (some 0) (.s 2)⟩,
 ⟨none, none, .store 9 1 [] (.s 4) (.s 30)⟩])
 .ret)))) }
/- cuboid/query.told -/
def f51 : MFun := { nt := 12, np := 2, no := 3, res := [.cell 4 2 (some 9), .slot 5], body :=
 (.seq
 (.region false [
 ⟨(some 2), none, .box 0 (.s 0)⟩,
 ⟨(some 3), none, .box 1 (.s 1)⟩,
 ⟨(some 4), none, .alloc 2 [.int .u8 0, .int .u8 0, .int .u8 0, .int .u8 0, .nilsl, .int .i64 0, .int .i64 0, .int .i64 0, .int .i64 0]⟩,
 ⟨(some 5), none, .mv (.c (.bool false))⟩])
 (.seq
 (.seq
 (.region false [
 ⟨(some 6), none, .load (some 2) (some 0) (.s 2)⟩,
 ⟨(some 7), none, .load (some 9) (some 1) (.s 3)⟩,
 ⟨(some 8), none, .call (.c (.fn 30 [] [])) [(.s 6), (.s 7)] [] [] [] false⟩,
 ⟨(some 9), none, .un .not (.s 8)⟩])
 (.cond (.s 9)
 (.seq
 (.region false [
 ⟨(some 10), none, .build [.int .u8 0, .int .u8 0, .int .u8 0, .int .u8 0, .nilsl, .int .i64 0, .int .i64 0, .int .i64 0, .int .i64 0] []⟩,
 ⟨none, none, .store 9 2 [] (.s 4) (.s 10)⟩,
 ⟨(some 5), none, .mv (.c (.bool false))⟩])
 .ret)
 .skip))
 (.seq
 (.region false [
 ⟨(some 11), none, .load (some 9) (some 1) (.s 3)⟩,
 ⟨none, none, .store 9 2 [] (.s 4) (.s 11)⟩,
 ⟨(some 5), none, .mv (.c (.bool true))⟩])
 .ret))) }
/- cuboid/query.Rollup -/
def f23 : MFun := { nt := 40, np := 3, no := 3, res := [.cell 6 2 (some 9), .slot 7], body :=
 (.seq
 (.region false [
 ⟨(some 3), none, .box 0 (.s 0)⟩,
 ⟨(some 4), none, .box 1 (.s 1)⟩,
 ⟨(some 6), none, .alloc 2 [.int .u8 0, .int .u8 0, .int .u8 0, .int .u8 0, .nilsl, .int .i64 0, .int .i64 0, .int .i64 0, .int .i64 0]⟩,
 ⟨(some 7), none, .mv (.c (.bool false))⟩])
 (.seq
 (.seq
 (.region true [
 ⟨(some 8), none, .load (some 2) (some 0) (.s 3)⟩,
 ⟨(some 9), none, .load (some 9) (some 1) (.s 4)⟩,
 ⟨(some 10), none, .mv (.s 2)⟩,
 ⟨(some 11), none, .call (.c (.fn 48 [] [])) [(.s 8), (.s 9), (.s 10)] [] [] [] false⟩,
 ⟨(some 12), none, .un .not (.s 11)⟩,
 ⟨(some 13), none, .mv (.s 12)⟩,
 ⟨(some 14), (some (13, false)), .mv (.s 2)⟩,
 ⟨(some 15), (some (13, false)), .faddr 0 (.s 4)⟩,
 ⟨(some 16), (some (13, false)), .iaddrA 4 1 (.s 15) (.s 14)⟩,
 ⟨(some 17), (some (13, false)), .load none (some 1) (.s 16)⟩,
 ⟨(some 18), (some (13, false)), .conv .i64 (.s 17)⟩,
 ⟨(some 19), (some (13, false)), .load (some 2) (some 0) (.s 3)⟩,
 ⟨(some 20), (some (13, false)), .mv (.s 2)⟩,
 ⟨(some 21), (some (13, false)), .call (.c (.fn 49 [] [])) [(.s 19), (.s 20)] [] [] [] false⟩,
 ⟨(some 22), (some (13, false)), .bin .sub .int (.s 21) (.c (.int .i64 1))⟩,
 ⟨(some 23), (some (13, false)), .bin .eql .int (.s 18) (.s 22)⟩,
 ⟨(some 24), none, .pick (.s 13) (.c (.bool true)) (.s 23)⟩])
 (.cond (.s 24)
 (.seq
 (.region false [
 ⟨(some 25), none, .build [.int .u8 0, .int .u8 0, .int .u8 0, .int .u8 0, .nilsl, .int .i64 0, .int .i64 0, .int .i64 0, .int .i64 0] []⟩,
 ⟨none, none, .store 9 2 [] (.s 6) (.s 25)⟩,
 ⟨(some 7), none, .mv (.c (.bool false))⟩])
 .ret)
 .skip))
 (.seq
 (.region false [
 ⟨(some 26), none, .load (some 9) (some 1) (.s 4)⟩,
 ⟨(some 27), none, .call (.c (.fn 50 [] [])) [(.s 26), (.c .nilsl)] [] [] [] true⟩,
 ⟨none, none, .store 9 1 [] (.s 4) (.s 27)⟩])
 (.seq
 (.region false [
 ⟨(some 28), none, .mv (.s 2)⟩,
 ⟨(some 29), none, .faddr 0 (.s 4)⟩,
 ⟨(some 30), none, .iaddrA 4 1 (.s 29) (.s 28)⟩,
 ⟨(some 31), none, .load none (some 1) (.s 30)⟩,
 ⟨(some 32), none, .bin .add .int (.s 31) (.c (.int .u8 1))⟩,
 ⟨(some 33), none, .faddr 0 (.s 4)⟩,
 ⟨(some 34), none, .iaddrA 4 1 (.s 33) (.s 28)⟩,
 ⟨none, none, .store 1 1 [] (.s 34) (.s 32)⟩])
 (.seq
 (.region false [
 ⟨(some 35), none, .load (some 2) (some 0) (.s 3)⟩,
 ⟨(some 36), none, .load (some 9) (some 1) (.s 4)⟩,
 ⟨(some 37), none, .call (.c (.fn 51 [] [])) [(.s 35), (.s 36)] [] [] [] true⟩,
 ⟨(some 38), none, .extract (.s 37) 0⟩,
 ⟨(some 39), none, .extract (.s 37) 1⟩,
 ⟨none, none, .store 9 2 [] (.s 6) (.s 38)⟩,
 ⟨(some 7), none, .mv (.s 39)⟩])
 .ret))))) }
/- cuboid/query.Drill -/
def f24 : MFun := { nt := 35, np := 3, no := 3, res := [.cell 6 2 (some 9), .slot 7], body :=
 (.seq
 (.region false [
 ⟨(some 3), none, .box 0 (.s 0)⟩,
 ⟨(some 4), none, .box 1 (.s 1)⟩,
 ⟨(some 6), none, .alloc 2 [.int .u8 0, .int .u8 0, .int .u8 0, .int .u8 0, .nilsl, .int .i64 0, .int .i64 0, .int .i64 0, .int .i64 0]⟩,
 ⟨(some 7), none, .mv (.c (.bool false))⟩])
 (.seq
 (.seq
 (.region false [
 ⟨(some 8), none, .load (some 2) (some 0) (.s 3)⟩,
 ⟨(some 9), none, .load (some 9) (some 1) (.s 4)⟩,
 ⟨(some 10), none, .mv (.s 2)⟩,
 ⟨(some 11), none, .call (.c (.fn 48 [] [])) [(.s 8), (.s 9), (.s 10)] [] [] [] false⟩,
 ⟨(some 12), none, .un .not (.s 11)⟩,
 ⟨(some 13), none, .mv (.s 12)⟩,
 ⟨(some 14), (some (13, false)), .mv (.s 2)⟩,
 ⟨(some 15), (some (13, false)), .faddr 0 (.s 4)⟩,
 ⟨(some 16), (some (13, false)), .iaddrA 4 1 (.s 15) (.s 14)⟩,
 ⟨(some 17), (some (13, false)), .load none (some 1) (.s 16)⟩,
 ⟨(some 18), (some (13, false)), .bin .eql .int (.s 17) (.c (.int .u8 0))⟩,
 ⟨(some 19), none, .pick (.s 13) (.c (.bool true)) (.s 18)⟩])
 (.cond (.s 19)
 (.seq
 (.region false [
 ⟨(some 20), none, .build [.int .u8 0, .int .u8 0, .int .u8 0, .int .u8 0, .nilsl, .int .i64 0, .int .i64 0, .int .i64 0, .int .i64 0] []⟩,
 ⟨none, none, .store 9 2 [] (.s 6) (.s 20)⟩,
 ⟨(some 7), none, .mv (.c (.bool false))⟩])
 .ret)
 .skip))
 (.seq
 (.region false [
 ⟨(some 21), none, .load (some 9) (some 1) (.s 4)⟩,
 ⟨(some 22), none, .call (.c (.fn 50 [] [])) [(.s 21), (.c .nilsl)] [] [] [] true⟩,
 ⟨none, none, .store 9 1 [] (.s 4) (.s 22)⟩])
 (.seq
 (.region false [
 ⟨(some 23), none, .mv (.s 2)⟩,
 ⟨(some 24), none, .faddr 0 (.s 4)⟩,
 ⟨(some 25), none, .iaddrA 4 1 (.s 24) (.s 23)⟩,
 ⟨(some 26), none, .load none (some 1) (.s 25)⟩,
 ⟨(some 27), none, .bin .sub .int (.s 26) (.c (.int .u8 1))⟩,
 ⟨(some 28), none, .faddr 0 (.s 4)⟩,
 ⟨(some 29), none, .iaddrA 4 1 (.s 28) (.s 23)⟩,
 ⟨none, none, .store 1 1 [] (.s 29) (.s 27)⟩])
 (.seq
 (.region false [
 ⟨(some 30), none, .load (some 2) (some 0) (.s 3)⟩,
 ⟨(some 31), none, .load (some 9) (some 1) (.s 4)⟩,
 ⟨(some 32), none, .call (.c (.fn 51 [] [])) [(.s 30), (.s 31)] [] [] [] true⟩,
 ⟨(some 33), none, .extract (.s 32) 0⟩,
 ⟨(some 34), none, .extract (.s 32) 1⟩,
 ⟨none, none, .store 9 2 [] (.s 6) (.s 33)⟩,
 ⟨(some 7), none, .mv (.s 34)⟩])
 .ret))))) }
/- cuboid/query.rest -/
def f52 : MFun := { nt := 27, np := 1, no := 3, res := [.cell 2 1 (some 8)], body :=
 (.seq
 (.region false [
 ⟨(some 1), none, .box 0 (.s 0)⟩,
 ⟨(some 2), none, .alloc 1 [.int .i64 0, .int .i64 0, .int .i64 0, .int .i64 0, .int .i64 0, .int .i64 0, .int .i64 0, .int .i64 0]⟩])
 (.seq
 (.region false [
 ⟨(some 4), none, .faddr 0 (.s 1)⟩,
 ⟨(some 5), none, .load (some 4) (some 0) (.s 4)⟩,
 ⟨(some 3), none, .alloc 2 [.int .u8 0, .int .u8 0, .int .u8 0, .int .u8 0]⟩,
 ⟨none, none, .store 4 2 [] (.s 3) (.s 5)⟩])
 (.seq
 (.region false [
 ⟨(some 6), none, .iaddrA 4 1 (.s 3) (.c (.int .i64 0))⟩,
 ⟨(some 7), none, .load none (some 2) (.s 6)⟩,
 ⟨(some 8), none, .conv .i64 (.s 7)⟩,
 ⟨(some 9), none, .iaddrA 4 1 (.s 3) (.c (.int .i64 1))⟩,
 ⟨(some 10), none, .load none (some 2) (.s 9)⟩,
 ⟨(some 11), none, .conv .i64 (.s 10)⟩,
 ⟨(some 12), none, .iaddrA 4 1 (.s 3) (.c (.int .i64 2))⟩,
 ⟨(some 13), none, .load none (some 2) (.s 12)⟩,
 ⟨(some 14), none, .conv .i64 (.s 13)⟩,
 ⟨(some 15), none, .iaddrA 4 1 (.s 3) (.c (.int .i64 3))⟩,
 ⟨(some 16), none, .load none (some 2) (.s 15)⟩,
 ⟨(some 17), none, .conv .i64 (.s 16)⟩,
 ⟨(some 18), none, .faddr 5 (.s 1)⟩,
 ⟨(some 19), none, .load none (some 0) (.s 18)⟩,
 ⟨(some 20), none, .faddr 6 (.s 1)⟩,
 ⟨(some 21), none, .load none (some 0) (.s 20)⟩,
 ⟨(some 22), none, .faddr 7 (.s 1)⟩,
 ⟨(some 23), none, .load none (some 0) (.s 22)⟩,
 ⟨(some 24), none, .faddr 8 (.s 1)⟩,
 ⟨(some 25), none, .load none (some 0) (.s 24)⟩,
 ⟨(some 26), none, .build [.int .i64 0, .int .i64 0, .int .i64 0, .int .i64 0, .int .i64 0, .int .i64 0, .int .i64 0, .int .i64 0] [(0, 1, (.s 8)), (1, 1, (.s 11)), (2, 1, (.s 14)), (3, 1, (.s 17)), (4, 1, (.s 19)), (5, 1, (.s 21)), (6, 1, (.s 23)), (7, 1, (.s 25))]⟩,
 ⟨none, none, .store 8 1 [] (.s 2) (.s 26)⟩])
 .ret))) }
/- slices.EqualFunc[[]cuboid/api.Fix,[]cuboid/api.Fix,cuboid/api.Fix,cuboid/api.Fix] -/
def f53 : MFun := { nt := 32, np := 3, no := 2, res := [.slot 6], body :=
 (.seq
 (.region false [
 ⟨(some 6), none, .mv (.c (.bool false))⟩])
 (.seq
 (.seq
 (.region false [
 ⟨(some 10), none, .mv (.s 0)⟩,
 ⟨(some 11), none, .len (.s 10)⟩,
 ⟨(some 12), none, .mv (.s 1)⟩,
 ⟨(some 13), none, .len (.s 12)⟩,
 ⟨(some 14), none, .bin .neq .int (.s 11) (.s 13)⟩])
 (.cond (.s 14)
 (.seq
 (.region false [
 ⟨(some 6), none, .mv (.c (.bool false))⟩])
 .ret)
 .skip))
 (.seq
 (.seq
 (.region false [
 ⟨(some 15), none, .mv (.s 0)⟩,
 ⟨(some 16), none, .len (.s 15)⟩,
 ⟨(some 17), none, .mv (.c (.int .i64 0))⟩])
 (.block 0
 (.loop [1, 2, 15, 16, 17] []
 (.seq
 (.region false [
 ⟨(some 18), none, .bin .lss .int (.s 17) (.s 16)⟩])
 (.seq
 (.cond (.s 18)
 .skip
 (.exit 0))
 (.seq
 (.block 1
 (.seq
 (.region false [
 ⟨(some 19), none, .mv (.s 17)⟩,
 ⟨(some 20), none, .iaddrS 3 (.s 15) (.s 17)⟩,
 ⟨(some 21), none, .load (some 3) none (.s 20)⟩,
 ⟨(some 8), none, .alloc 0 [.int .i64 0, .int .i64 0, .nilsl]⟩,
 ⟨(some 7), none, .mv (.s 19)⟩,
 ⟨none, none, .store 3 0 [] (.s 8) (.s 21)⟩])
 (.seq
 (.region false [
 ⟨(some 22), none, .mv (.s 1)⟩,
 ⟨(some 23), none, .mv (.s 7)⟩,
 ⟨(some 24), none, .iaddrS 3 (.s 22) (.s 23)⟩,
 ⟨(some 25), none, .load (some 3) none (.s 24)⟩,
 ⟨(some 9), none, .alloc 1 [.int .i64 0, .int .i64 0, .nilsl]⟩,
 ⟨none, none, .store 3 1 [] (.s 9) (.s 25)⟩])
 (.seq
 (.region false [
 ⟨(some 26), none, .mv (.s 2)⟩,
 ⟨(some 27), none, .load (some 3) (some 0) (.s 8)⟩,
 ⟨(some 28), none, .load (some 3) (some 1) (.s 9)⟩,
 ⟨(some 29), none, .call (.s 26) [(.s 27), (.s 28)] [] [] [] false⟩,
 ⟨(some 30), none, .un .not (.s 29)⟩])
 (.cond (.s 30)
 (.seq
 (.region false [
 ⟨(some 6), none, .mv (.c (.bool false))⟩])
 .ret)
 .skip)))))
 (.region false [
 ⟨(some 31), none, .bin .add .int (.s 17) (.c (.int .i64 1))⟩,
 ⟨(some 17), none, .mv (.s 31)⟩])))))))
 (.seq
 (.region false [
 ⟨(some 6), none, .mv (.c (.bool true))⟩])
 .ret)))) }
/- slices.Equal[[]int,int] -/
def f72 : MFun := { nt := 26, np := 2, no := 0, res := [.slot 4], body :=
 (.seq
 (.region false [
 ⟨(some 4), none, .mv (.c (.bool false))⟩])
 (.seq
 (.seq
 (.region false [
 ⟨(some 6), none, .mv (.s 0)⟩,
 ⟨(some 7), none, .len (.s 6)⟩,
 ⟨(some 8), none, .mv (.s 1)⟩,
 ⟨(some 9), none, .len (.s 8)⟩,
 ⟨(some 10), none, .bin .neq .int (.s 7) (.s 9)⟩])
 (.cond (.s 10)
 (.seq
 (.region false [
 ⟨(some 4), none, .mv (.c (.bool false))⟩])
 .ret)
 .skip))
 (.seq
 (.seq
 (.region false [
 ⟨(some 11), none, .mv (.s 0)⟩,
 ⟨(some 12), none, .len (.s 11)⟩,
 ⟨(some 13), none, .mv (.c (.int .i64 0))⟩])
 (.block 0
 (.loop [0, 1, 12, 13] []
 (.seq
 (.region false [
 ⟨(some 14), none, .bin .lss .int (.s 13) (.s 12)⟩])
 (.seq
 (.cond (.s 14)
 .skip
 (.exit 0))
 (.seq
 (.block 1
 (.seq
 (.region false [
 ⟨(some 15), none, .mv (.s 13)⟩,
 ⟨(some 5), none, .mv (.s 15)⟩])
 (.seq
 (.region true [
 ⟨(some 16), none, .mv (.s 0)⟩,
 ⟨(some 17), none, .mv (.s 5)⟩,
 ⟨(some 18), none, .iaddrS 1 (.s 16) (.s 17)⟩,
 ⟨(some 19), none, .load none none (.s 18)⟩,
 ⟨(some 20), none, .mv (.s 1)⟩,
 ⟨(some 21), none, .mv (.s 5)⟩,
 ⟨(some 22), none, .iaddrS 1 (.s 20) (.s 21)⟩,
 ⟨(some 23), none, .load none none (.s 22)⟩,
 ⟨(some 24), none, .bin .neq .int (.s 19) (.s 23)⟩])
 (.cond (.s 24)
 (.seq
 (.region false [
 ⟨(some 4), none, .mv (.c (.bool false))⟩])
 .ret)
 .skip))))
 (.region false [
 ⟨(some 25), none, .bin .add .int (.s 13) (.c (.int .i64 1))⟩,
 ⟨(some 13), none, .mv (.s 25)⟩])))))))
 (.seq
 (.region false [
 ⟨(some 4), none, .mv (.c (.bool true))⟩])
 .ret)))) }
/- cuboid/query.same -/
def f54 : MFun := { nt := 24, np := 2, no := 2, res := [.slot 4], body :=
 (.seq
 (.region false [
 ⟨(some 2), none, .box 0 (.s 0)⟩,
 ⟨(some 3), none, .box 1 (.s 1)⟩,
 ⟨(some 4), none, .mv (.c (.bool false))⟩])
 (.seq
 (.region false [
 ⟨(some 5), none, .faddr 0 (.s 2)⟩,
 ⟨(some 6), none, .load none (some 0) (.s 5)⟩,
 ⟨(some 7), none, .faddr 0 (.s 3)⟩,
 ⟨(some 8), none, .load none (some 1) (.s 7)⟩,
 ⟨(some 9), none, .bin .eql .int (.s 6) (.s 8)⟩,
 ⟨(some 10), none, .mv (.s 9)⟩,
 ⟨(some 11), (some (10, true)), .faddr 1 (.s 2)⟩,
 ⟨(some 12), (some (10, true)), .load none (some 0) (.s 11)⟩,
 ⟨(some 13), (some (10, true)), .faddr 1 (.s 3)⟩,
 ⟨(some 14), (some (10, true)), .load none (some 1) (.s 13)⟩,
 ⟨(some 15), (some (10, true)), .bin .eql .int (.s 12) (.s 14)⟩,
 ⟨(some 16), none, .pick (.s 10) (.s 15) (.c (.bool false))⟩,
 ⟨(some 17), none, .mv (.s 16)⟩,
 ⟨(some 18), (some (17, true)), .faddr 2 (.s 2)⟩,
 ⟨(some 19), (some (17, true)), .load none (some 0) (.s 18)⟩,
 ⟨(some 20), (some (17, true)), .faddr 2 (.s 3)⟩,
 ⟨(some 21), (some (17, true)), .load none (some 1) (.s 20)⟩,
 ⟨(some 22), (some (17, true)), .call (.c (.fn 72 [] [])) [(.s 19), (.s 21)] [] [] [] false⟩,
 ⟨(some 23), none, .pick (.s 17) (.s 22) (.c (.bool false))⟩,
 ⟨(some 4), none, .mv (.s 23)⟩])
 .ret)) }
/- cuboid/query.Same -/
def f25 : MFun := { nt := 17, np := 2, no := 2, res := [.slot 4], body :=
 (.seq
 (.region false [
 ⟨(some 2), none, .box 0 (.s 0)⟩,
 ⟨(some 3), none, .box 1 (.s 1)⟩,
 ⟨(some 4), none, .mv (.c (.bool false))⟩])
 (.seq
 (.region true [
 ⟨(some 5), none, .load (some 9) (some 0) (.s 2)⟩,
 ⟨(some 6), none, .call (.c (.fn 52 [] [])) [(.s 5)] [] [] [] false⟩,
 ⟨(some 7), none, .load (some 9) (some 1) (.s 3)⟩,
 ⟨(some 8), none, .call (.c (.fn 52 [] [])) [(.s 7)] [] [] [] false⟩,
 ⟨(some 9), none, .bin .eql (.agg [some .i64, some .i64, some .i64, some .i64, some .i64, some .i64, some .i64, some .i64]) (.s 6) (.s 8)⟩,
 ⟨(some 10), none, .mv (.s 9)⟩,
 ⟨(some 11), (some (10, true)), .faddr 4 (.s 2)⟩,
 ⟨(some 12), (some (10, true)), .load none (some 0) (.s 11)⟩,
 ⟨(some 13), (some (10, true)), .faddr 4 (.s 3)⟩,
 ⟨(some 14), (some (10, true)), .load none (some 1) (.s 13)⟩,
 ⟨(some 15), (some (10, true)), .call (.c (.fn 53 [] [])) [(.s 12), (.s 14), (.c (.fn 54 [] []))] [] [] [] false⟩,
 ⟨(some 16), none, .pick (.s 10) (.s 15) (.c (.bool false))⟩,
 ⟨(some 4), none, .mv (.s 16)⟩])
 .ret)) }
/- cuboid/query.Need -/
def f27 : MFun := { nt := 35, np := 2, no := 5, res := [.cell 4 2 (some 4)], body :=
 (.seq
 (.region false [
 ⟨(some 2), none, .box 0 (.s 0)⟩,
 ⟨(some 3), none, .box 1 (.s 1)⟩,
 ⟨(some 4), none, .alloc 2 [.int .u8 0, .int .u8 0, .int .u8 0, .int .u8 0]⟩])
 (.seq
 (.seq
 (.region false [
 ⟨(some 8), none, .load (some 2) (some 0) (.s 2)⟩,
 ⟨(some 9), none, .load (some 9) (some 1) (.s 3)⟩,
 ⟨(some 10), none, .call (.c (.fn 30 [] [])) [(.s 8), (.s 9)] [] [] [] false⟩,
 ⟨(some 11), none, .un .not (.s 10)⟩])
 (.cond (.s 11)
 (.seq
 (.region false [
 ⟨(some 12), none, .build [.int .u8 0, .int .u8 0, .int .u8 0, .int .u8 0] []⟩,
 ⟨none, none, .store 4 2 [] (.s 4) (.s 12)⟩])
 .ret)
 .skip))
 (.seq
 (.region false [
 ⟨(some 13), none, .faddr 0 (.s 3)⟩,
 ⟨(some 14), none, .load (some 4) (some 1) (.s 13)⟩,
 ⟨(some 5), none, .alloc 3 [.int .u8 0, .int .u8 0, .int .u8 0, .int .u8 0]⟩,
 ⟨none, none, .store 4 3 [] (.s 5) (.s 14)⟩])
 (.seq
 (.seq
 (.region false [
 ⟨(some 15), none, .faddr 4 (.s 3)⟩,
 ⟨(some 16), none, .load none (some 1) (.s 15)⟩,
 ⟨(some 17), none, .len (.s 16)⟩,
 ⟨(some 18), none, .mv (.c (.int .i64 0))⟩])
 (.block 0
 (.loop [4, 5, 16, 17, 18] [2, 3]
 (.seq
 (.region false [
 ⟨(some 19), none, .bin .lss .int (.s 18) (.s 17)⟩])
 (.seq
 (.cond (.s 19)
 .skip
 (.exit 0))
 (.seq
 (.block 1
 (.seq
 (.region false [
 ⟨(some 20), none, .iaddrS 3 (.s 16) (.s 18)⟩,
 ⟨(some 21), none, .load (some 3) none (.s 20)⟩,
 ⟨(some 7), none, .alloc 4 [.int .i64 0, .int .i64 0, .nilsl]⟩,
 ⟨none, none, .store 3 4 [] (.s 7) (.s 21)⟩])
 (.region true [
 ⟨(some 22), none, .faddr 0 (.s 7)⟩,
 ⟨(some 23), none, .load none (some 4) (.s 22)⟩,
 ⟨(some 24), none, .faddr 0 (.s 7)⟩,
 ⟨(some 25), none, .load none (some 4) (.s 24)⟩,
 ⟨(some 26), none, .iaddrA 4 1 (.s 5) (.s 25)⟩,
 ⟨(some 27), none, .load none (some 3) (.s 26)⟩,
 ⟨(some 28), none, .faddr 1 (.s 7)⟩,
 ⟨(some 29), none, .load none (some 4) (.s 28)⟩,
 ⟨(some 30), none, .conv .u8 (.s 29)⟩,
 ⟨(some 31), none, .minmax false [(.s 27), (.s 30)]⟩,
 ⟨(some 32), none, .iaddrA 4 1 (.s 5) (.s 23)⟩,
 ⟨none, none, .store 1 3 [] (.s 32) (.s 31)⟩])))
 (.region false [
 ⟨(some 33), none, .bin .add .int (.s 18) (.c (.int .i64 1))⟩,
 ⟨(some 18), none, .mv (.s 33)⟩])))))))
 (.seq
 (.region false [
 ⟨(some 34), none, .load (some 4) (some 3) (.s 5)⟩,
 ⟨none, none, .store 4 2 [] (.s 4) (.s 34)⟩])
 .ret))))) }
/- cuboid/cuboidlaw25.some -/
def f33 : MFun := { nt := 7, np := 0, no := 1, res := [.cell 0 0 (some 2)], body :=
 (.seq
 (.region false [
 ⟨(some 0), none, .alloc 0 [.nilsl, .int .i64 0]⟩])
 (.seq
 (.region false [
 ⟨(some 1), none, .lit none [] 2 1 [.int .i64 0] [(0, 1, (.c (.int .i64 4))), (1, 1, (.c (.int .i64 2)))]⟩,
 ⟨(some 2), none, .lit none [] 4 1 [.int .i64 0] [(0, 1, (.c (.int .i64 0))), (1, 1, (.c (.int .i64 0))), (2, 1, (.c (.int .i64 1))), (3, 1, (.c (.int .i64 1)))]⟩,
 ⟨(some 3), none, .lit none [] 1 1 [.nilsl] [(0, 1, (.s 2))]⟩,
 ⟨(some 4), none, .build [.nilsl, .nilsl] [(0, 1, (.s 1)), (1, 1, (.s 3))]⟩,
 ⟨(some 5), none, .lit none [] 1 2 [.nilsl, .nilsl] [(0, 2, (.s 4))]⟩,
 ⟨(some 6), none, .build [.nilsl, .int .i64 0] [(0, 1, (.s 5)), (1, 1, (.c (.int .i64 1)))]⟩,
 ⟨none, none, .store 2 0 [] (.s 0) (.s 6)⟩])
 .ret)) }
/- cuboid/query.Dice -/
def f34 : MFun := { nt := 29, np := 5, no := 3, res := [.cell 10 2 (some 9), .slot 11], body :=
 (.seq
 (.region false [
 ⟨(some 5), none, .box 0 (.s 0)⟩,
 ⟨(some 6), none, .box 1 (.s 1)⟩,
 ⟨(some 10), none, .alloc 2 [.int .u8 0, .int .u8 0, .int .u8 0, .int .u8 0, .nilsl, .int .i64 0, .int .i64 0, .int .i64 0, .int .i64 0]⟩,
 ⟨(some 11), none, .mv (.c (.bool false))⟩])
 (.seq
 (.seq
 (.region false [
 ⟨(some 12), none, .load (some 2) (some 0) (.s 5)⟩,
 ⟨(some 13), none, .load (some 9) (some 1) (.s 6)⟩,
 ⟨(some 14), none, .mv (.s 2)⟩,
 ⟨(some 15), none, .call (.c (.fn 48 [] [])) [(.s 12), (.s 13), (.s 14)] [] [] [] false⟩,
 ⟨(some 16), none, .un .not (.s 15)⟩])
 (.cond (.s 16)
 (.seq
 (.region false [
 ⟨(some 17), none, .build [.int .u8 0, .int .u8 0, .int .u8 0, .int .u8 0, .nilsl, .int .i64 0, .int .i64 0, .int .i64 0, .int .i64 0] []⟩,
 ⟨none, none, .store 9 2 [] (.s 10) (.s 17)⟩,
 ⟨(some 11), none, .mv (.c (.bool false))⟩])
 .ret)
 .skip))
 (.seq
 (.region true [
 ⟨(some 18), none, .load (some 2) (some 0) (.s 5)⟩,
 ⟨(some 19), none, .load (some 9) (some 1) (.s 6)⟩,
 ⟨(some 20), none, .mv (.s 2)⟩,
 ⟨(some 21), none, .mv (.s 3)⟩,
 ⟨(some 22), none, .mv (.s 4)⟩,
 ⟨(some 23), none, .build [.int .i64 0, .int .i64 0, .nilsl] [(0, 1, (.s 20)), (1, 1, (.s 21)), (2, 1, (.s 22))]⟩,
 ⟨(some 24), none, .lit none [] 1 3 [.int .i64 0, .int .i64 0, .nilsl] [(0, 3, (.s 23))]⟩,
 ⟨(some 25), none, .call (.c (.fn 50 [] [])) [(.s 19), (.s 24)] [] [] [] true⟩,
 ⟨(some 26), none, .call (.c (.fn 51 [] [])) [(.s 18), (.s 25)] [] [] [] true⟩,
 ⟨(some 27), none, .extract (.s 26) 0⟩,
 ⟨(some 28), none, .extract (.s 26) 1⟩,
 ⟨none, none, .store 9 2 [] (.s 10) (.s 27)⟩,
 ⟨(some 11), none, .mv (.s 28)⟩])
 .ret))) }
/- cuboid/lattice.Whole -/
def f60 : MFun := { nt := 26, np := 1, no := 4, res := [.cell 2 1 (some 4)], body :=
 (.seq
 (.region false [
 ⟨(some 1), none, .box 0 (.s 0)⟩,
 ⟨(some 2), none, .alloc 1 [.int .u8 0, .int .u8 0, .int .u8 0, .int .u8 0]⟩])
 (.seq
 (.region false [
 ⟨(some 3), none, .alloc 2 [.int .u8 0, .int .u8 0, .int .u8 0, .int .u8 0]⟩])
 (.seq
 (.seq
 (.region false [
 ⟨(some 6), none, .load (some 2) (some 0) (.s 1)⟩,
 ⟨(some 7), none, .call (.c (.fn 68 [] [])) [(.s 6)] [] [] [] false⟩,
 ⟨(some 8), none, .un .not (.s 7)⟩])
 (.cond (.s 8)
 (.seq
 (.region false [
 ⟨(some 9), none, .load (some 4) (some 2) (.s 3)⟩,
 ⟨none, none, .store 4 1 [] (.s 2) (.s 9)⟩])
 .ret)
 .skip))
 (.seq
 (.seq
 (.region false [
 ⟨(some 10), none, .faddr 0 (.s 1)⟩,
 ⟨(some 11), none, .load none (some 0) (.s 10)⟩,
 ⟨(some 12), none, .len (.s 11)⟩,
 ⟨(some 13), none, .mv (.c (.int .i64 0))⟩])
 (.block 0
 (.loop [2, 3, 11, 12, 13] [1, 2]
 (.seq
 (.region false [
 ⟨(some 14), none, .bin .lss .int (.s 13) (.s 12)⟩])
 (.seq
 (.cond (.s 14)
 .skip
 (.exit 0))
 (.seq
 (.block 1
 (.seq
 (.region false [
 ⟨(some 15), none, .mv (.s 13)⟩,
 ⟨(some 16), none, .iaddrS 2 (.s 11) (.s 13)⟩,
 ⟨(some 17), none, .load (some 2) none (.s 16)⟩,
 ⟨(some 5), none, .alloc 3 [.nilsl, .nilsl]⟩,
 ⟨(some 4), none, .mv (.s 15)⟩,
 ⟨none, none, .store 2 3 [] (.s 5) (.s 17)⟩])
 (.region false [
 ⟨(some 18), none, .mv (.s 4)⟩,
 ⟨(some 19), none, .faddr 0 (.s 5)⟩,
 ⟨(some 20), none, .load none (some 3) (.s 19)⟩,
 ⟨(some 21), none, .len (.s 20)⟩,
 ⟨(some 22), none, .conv .u8 (.s 21)⟩,
 ⟨(some 23), none, .iaddrA 4 1 (.s 3) (.s 18)⟩,
 ⟨none, none, .store 1 2 [] (.s 23) (.s 22)⟩])))
 (.region false [
 ⟨(some 24), none, .bin .add .int (.s 13) (.c (.int .i64 1))⟩,
 ⟨(some 13), none, .mv (.s 24)⟩])))))))
 (.seq
 (.region false [
 ⟨(some 25), none, .load (some 4) (some 2) (.s 3)⟩,
 ⟨none, none, .store 4 1 [] (.s 2) (.s 25)⟩])
 .ret))))) }
/- cuboid/query.Slice -/
def f35 : MFun := { nt := 38, np := 5, no := 3, res := [.cell 10 2 (some 9), .slot 11], body :=
 (.seq
 (.region false [
 ⟨(some 5), none, .box 0 (.s 0)⟩,
 ⟨(some 6), none, .box 1 (.s 1)⟩,
 ⟨(some 10), none, .alloc 2 [.int .u8 0, .int .u8 0, .int .u8 0, .int .u8 0, .nilsl, .int .i64 0, .int .i64 0, .int .i64 0, .int .i64 0]⟩,
 ⟨(some 11), none, .mv (.c (.bool false))⟩])
 (.seq
 (.region false [
 ⟨(some 14), none, .load (some 2) (some 0) (.s 5)⟩,
 ⟨(some 15), none, .load (some 9) (some 1) (.s 6)⟩,
 ⟨(some 16), none, .mv (.s 2)⟩,
 ⟨(some 17), none, .mv (.s 3)⟩,
 ⟨(some 18), none, .mv (.s 4)⟩,
 ⟨(some 19), none, .lit none [] 1 1 [.int .i64 0] [(0, 1, (.s 18))]⟩,
 ⟨(some 20), none, .call (.c (.fn 34 [] [])) [(.s 14), (.s 15), (.s 16), (.s 17), (.s 19)] [] [] [] true⟩,
 ⟨(some 13), none, .mv (.s 20)⟩,
 ⟨(some 21), none, .extract (.s 13) 0⟩,
 ⟨(some 22), none, .extract (.s 13) 1⟩,
 ⟨none, none, .store 9 1 [] (.s 6) (.s 21)⟩,
 ⟨(some 12), none, .mv (.s 22)⟩])
 (.seq
 (.seq
 (.region false [
 ⟨(some 23), none, .mv (.s 12)⟩,
 ⟨(some 24), none, .un .not (.s 23)⟩])
 (.cond (.s 24)
 (.seq
 (.region false [
 ⟨(some 25), none, .build [.int .u8 0, .int .u8 0, .int .u8 0, .int .u8 0, .nilsl, .int .i64 0, .int .i64 0, .int .i64 0, .int .i64 0] []⟩,
 ⟨none, none, .store 9 2 [] (.s 10) (.s 25)⟩,
 ⟨(some 11), none, .mv (.c (.bool false))⟩])
 .ret)
 .skip))
 (.seq
 (.region false [
 ⟨(some 26), none, .mv (.s 2)⟩,
 ⟨(some 27), none, .load (some 2) (some 0) (.s 5)⟩,
 ⟨(some 28), none, .call (.c (.fn 60 [] [])) [(.s 27)] [] [] [] false⟩,
 ⟨(some 29), none, .mv (.s 2)⟩,
 ⟨(some 30), none, .index 4 1 false (.s 28) (.s 29)⟩,
 ⟨(some 31), none, .faddr 0 (.s 6)⟩,
 ⟨(some 32), none, .iaddrA 4 1 (.s 31) (.s 26)⟩,
 ⟨none, none, .store 1 1 [] (.s 32) (.s 30)⟩])
 (.seq
 (.region false [
 ⟨(some 33), none, .load (some 2) (some 0) (.s 5)⟩,
 ⟨(some 34), none, .load (some 9) (some 1) (.s 6)⟩,
 ⟨(some 35), none, .call (.c (.fn 51 [] [])) [(.s 33), (.s 34)] [] [] [] true⟩,
 ⟨(some 36), none, .extract (.s 35) 0⟩,
 ⟨(some 37), none, .extract (.s 35) 1⟩,
 ⟨none, none, .store 9 2 [] (.s 10) (.s 36)⟩,
 ⟨(some 11), none, .mv (.s 37)⟩])
 .ret))))) }
/- cuboid/cuboidlaw25.wakes -/
def f11 : MFun := { nt := 142, np := 0, no := 8, res := [.slot 0], body :=
 (.seq
 (.region false [
 ⟨(some 0), none, .mv (.c (.bool false))⟩])
 (.seq
 (.region false [
 ⟨(some 17), none, .call (.c (.fn 33 [] [])) [] [] [] [] true⟩,
 ⟨(some 1), none, .alloc 0 [.nilsl, .int .i64 0]⟩,
 ⟨none, none, .store 2 0 [] (.s 1) (.s 17)⟩])
 (.seq
 (.region false [
 ⟨(some 18), none, .build [.int .u8 0, .int .u8 0, .int .u8 0, .int .u8 0] [(0, 1, (.c (.int .u8 1)))]⟩,
 ⟨(some 19), none, .build [.int .u8 0, .int .u8 0, .int .u8 0, .int .u8 0, .nilsl, .int .i64 0, .int .i64 0, .int .i64 0, .int .i64 0] [(0, 4, (.s 18)), (8, 1, (.c (.int .i64 5)))]⟩,
 ⟨(some 2), none, .alloc 1 [.int .u8 0, .int .u8 0, .int .u8 0, .int .u8 0, .nilsl, .int .i64 0, .int .i64 0, .int .i64 0, .int .i64 0]⟩,
 ⟨none, none, .store 9 1 [] (.s 2) (.s 19)⟩])
 (.seq
 (.region false [
 ⟨(some 21), none, .load (some 2) (some 0) (.s 1)⟩,
 ⟨(some 22), none, .load (some 9) (some 1) (.s 2)⟩,
 ⟨(some 23), none, .lit none [] 2 1 [.int .i64 0] [(0, 1, (.c (.int .i64 1))), (1, 1, (.c (.int .i64 3)))]⟩,
 ⟨(some 24), none, .call (.c (.fn 34 [] [])) [(.s 21), (.s 22), (.c (.int .i64 0)), (.c (.int .i64 0)), (.s 23)] [] [] [] true⟩,
 ⟨(some 20), none, .mv (.s 24)⟩,
 ⟨(some 25), none, .extract (.s 20) 0⟩,
 ⟨(some 26), none, .extract (.s 20) 1⟩,
 ⟨(some 3), none, .alloc 2 [.int .u8 0, .int .u8 0, .int .u8 0, .int .u8 0, .nilsl, .int .i64 0, .int .i64 0, .int .i64 0, .int .i64 0]⟩,
 ⟨none, none, .store 9 2 [] (.s 3) (.s 25)⟩,
 ⟨(some 4), none, .mv (.s 26)⟩])
 (.seq
 (.region false [
 ⟨(some 28), none, .load (some 2) (some 0) (.s 1)⟩,
 ⟨(some 29), none, .load (some 9) (some 1) (.s 2)⟩,
 ⟨(some 30), none, .call (.c (.fn 35 [] [])) [(.s 28), (.s 29), (.c (.int .i64 0)), (.c (.int .i64 1)), (.c (.int .i64 1))] [] [] [] true⟩,
 ⟨(some 27), none, .mv (.s 30)⟩,
 ⟨(some 31), none, .extract (.s 27) 0⟩,
 ⟨(some 32), none, .extract (.s 27) 1⟩,
 ⟨(some 5), none, .alloc 3 [.int .u8 0, .int .u8 0, .int .u8 0, .int .u8 0, .nilsl, .int .i64 0, .int .i64 0, .int .i64 0, .int .i64 0]⟩,
 ⟨none, none, .store 9 3 [] (.s 5) (.s 31)⟩,
 ⟨(some 6), none, .mv (.s 32)⟩])
 (.seq
 (.region false [
 ⟨(some 34), none, .load (some 2) (some 0) (.s 1)⟩,
 ⟨(some 35), none, .load (some 9) (some 1) (.s 2)⟩,
 ⟨(some 36), none, .call (.c (.fn 23 [] [])) [(.s 34), (.s 35), (.c (.int .i64 0))] [] [] [] true⟩,
 ⟨(some 33), none, .mv (.s 36)⟩,
 ⟨(some 37), none, .extract (.s 33) 0⟩,
 ⟨(some 38), none, .extract (.s 33) 1⟩,
 ⟨(some 7), none, .alloc 4 [.int .u8 0, .int .u8 0, .int .u8 0, .int .u8 0, .nilsl, .int .i64 0, .int .i64 0, .int .i64 0, .int .i64 0]⟩,
 ⟨none, none, .store 9 4 [] (.s 7) (.s 37)⟩,
 ⟨(some 8), none, .mv (.s 38)⟩])
 (.seq
 (.region false [
 ⟨(some 40), none, .load (some 2) (some 0) (.s 1)⟩,
 ⟨(some 41), none, .load (some 9) (some 4) (.s 7)⟩,
 ⟨(some 42), none, .call (.c (.fn 24 [] [])) [(.s 40), (.s 41), (.c (.int .i64 0))] [] [] [] true⟩,
 ⟨(some 39), none, .mv (.s 42)⟩,
 ⟨(some 43), none, .extract (.s 39) 0⟩,
 ⟨(some 44), none, .extract (.s 39) 1⟩,
 ⟨(some 9), none, .alloc 5 [.int .u8 0, .int .u8 0, .int .u8 0, .int .u8 0, .nilsl, .int .i64 0, .int .i64 0, .int .i64 0, .int .i64 0]⟩,
 ⟨none, none, .store 9 5 [] (.s 9) (.s 43)⟩,
 ⟨(some 10), none, .mv (.s 44)⟩])
 (.seq
 (.region false [
 ⟨(some 46), none, .load (some 9) (some 2) (.s 3)⟩,
 ⟨(some 47), none, .call (.c (.fn 16 [] [])) [(.s 46)] [] [] [] true⟩,
 ⟨(some 45), none, .mv (.s 47)⟩,
 ⟨(some 48), none, .extract (.s 45) 0⟩,
 ⟨(some 49), none, .extract (.s 45) 1⟩,
 ⟨(some 11), none, .mv (.s 48)⟩,
 ⟨(some 12), none, .mv (.s 49)⟩])
 (.seq
 (.region false [
 ⟨(some 51), none, .mv (.s 11)⟩,
 ⟨(some 52), none, .call (.c (.fn 17 [] [])) [(.s 51)] [] [] [] true⟩,
 ⟨(some 50), none, .mv (.s 52)⟩,
 ⟨(some 53), none, .extract (.s 50) 0⟩,
 ⟨(some 54), none, .extract (.s 50) 1⟩,
 ⟨(some 13), none, .alloc 6 [.int .u8 0, .int .u8 0, .int .u8 0, .int .u8 0, .nilsl, .int .i64 0, .int .i64 0, .int .i64 0, .int .i64 0]⟩,
 ⟨none, none, .store 9 6 [] (.s 13) (.s 53)⟩,
 ⟨(some 14), none, .mv (.s 54)⟩])
 (.seq
 (.region false [
 ⟨(some 56), none, .load (some 2) (some 0) (.s 1)⟩,
 ⟨(some 57), none, .load (some 9) (some 1) (.s 2)⟩,
 ⟨(some 58), none, .lit none [] 2 1 [.int .i64 0] [(0, 1, (.c (.int .i64 3))), (1, 1, (.c (.int .i64 1)))]⟩,
 ⟨(some 59), none, .call (.c (.fn 34 [] [])) [(.s 56), (.s 57), (.c (.int .i64 0)), (.c (.int .i64 0)), (.s 58)] [] [] [] true⟩,
 ⟨(some 55), none, .mv (.s 59)⟩,
 ⟨(some 60), none, .extract (.s 55) 0⟩,
 ⟨(some 61), none, .extract (.s 55) 1⟩,
 ⟨(some 15), none, .alloc 7 [.int .u8 0, .int .u8 0, .int .u8 0, .int .u8 0, .nilsl, .int .i64 0, .int .i64 0, .int .i64 0, .int .i64 0]⟩,
 ⟨none, none, .store 9 7 [] (.s 15) (.s 60)⟩,
 ⟨(some 16), none, .mv (.s 61)⟩])
 (.seq
 (.region false [
 ⟨(some 62), none, .load (some 2) (some 0) (.s 1)⟩,
 ⟨(some 63), none, .load (some 9) (some 1) (.s 2)⟩,
 ⟨(some 64), none, .call (.c (.fn 30 [] [])) [(.s 62), (.s 63)] [] [] [] false⟩,
 ⟨(some 65), none, .mv (.s 64)⟩,
 ⟨(some 66), (some (65, true)), .mv (.s 4)⟩,
 ⟨(some 67), none, .pick (.s 65) (.s 66) (.c (.bool false))⟩,
 ⟨(some 68), none, .mv (.s 67)⟩,
 ⟨(some 69), (some (68, true)), .load (some 2) (some 0) (.s 1)⟩,
 ⟨(some 70), (some (68, true)), .load (some 9) (some 2) (.s 3)⟩,
 ⟨(some 71), (some (68, true)), .call (.c (.fn 27 [] [])) [(.s 69), (.s 70)] [] [] [] false⟩,
 ⟨(some 72), (some (68, true)), .build [.int .u8 0, .int .u8 0, .int .u8 0, .int .u8 0] []⟩,
 ⟨(some 73), (some (68, true)), .bin .eql (.agg [some .u8, some .u8, some .u8, some .u8]) (.s 71) (.s 72)⟩,
 ⟨(some 74), none, .pick (.s 68) (.s 73) (.c (.bool false))⟩,
 ⟨(some 75), none, .mv (.s 74)⟩,
 ⟨(some 76), (some (75, true)), .faddr 4 (.s 3)⟩,
 ⟨(some 77), (some (75, true)), .load none (some 2) (.s 76)⟩,
 ⟨(some 78), (some (75, true)), .len (.s 77)⟩,
 ⟨(some 79), (some (75, true)), .bin .eql .int (.s 78) (.c (.int .i64 1))⟩,
 ⟨(some 80), none, .pick (.s 75) (.s 79) (.c (.bool false))⟩,
 ⟨(some 81), none, .mv (.s 80)⟩,
 ⟨(some 82), (some (81, true)), .mv (.s 6)⟩,
 ⟨(some 83), none, .pick (.s 81) (.s 82) (.c (.bool false))⟩,
 ⟨(some 84), none, .mv (.s 83)⟩,
 ⟨(some 85), (some (84, true)), .faddr 0 (.s 5)⟩,
 ⟨(some 86), (some (84, true)), .load (some 4) (some 3) (.s 85)⟩,
 ⟨(some 87), (some (84, true)), .build [.int .u8 0, .int .u8 0, .int .u8 0, .int .u8 0] [(0, 1, (.c (.int .u8 2)))]⟩,
 ⟨(some 88), (some (84, true)), .bin .eql (.agg [some .u8, some .u8, some .u8, some .u8]) (.s 86) (.s 87)⟩,
 ⟨(some 89), none, .pick (.s 84) (.s 88) (.c (.bool false))⟩,
 ⟨(some 90), none, .mv (.s 89)⟩,
 ⟨(some 91), (some (90, true)), .load (some 2) (some 0) (.s 1)⟩,
 ⟨(some 92), (some (90, true)), .load (some 9) (some 3) (.s 5)⟩,
 ⟨(some 93), (some (90, true)), .call (.c (.fn 27 [] [])) [(.s 91), (.s 92)] [] [] [] false⟩,
 ⟨(some 94), (some (90, true)), .build [.int .u8 0, .int .u8 0, .int .u8 0, .int .u8 0] [(0, 1, (.c (.int .u8 1)))]⟩,
 ⟨(some 95), (some (90, true)), .bin .eql (.agg [some .u8, some .u8, some .u8, some .u8]) (.s 93) (.s 94)⟩,
 ⟨(some 96), none, .pick (.s 90) (.s 95) (.c (.bool false))⟩,
 ⟨(some 97), none, .mv (.s 96)⟩,
 ⟨(some 98), (some (97, true)), .mv (.s 8)⟩,
 ⟨(some 99), none, .pick (.s 97) (.s 98) (.c (.bool false))⟩,
 ⟨(some 100), none, .mv (.s 99)⟩,
 ⟨(some 101), (some (100, true)), .faddr 0 (.s 7)⟩,
 ⟨(some 102), (some (100, true)), .load (some 4) (some 4) (.s 101)⟩,
 ⟨(some 103), (some (100, true)), .build [.int .u8 0, .int .u8 0, .int .u8 0, .int .u8 0] [(0, 1, (.c (.int .u8 2)))]⟩,
 ⟨(some 104), (some (100, true)), .bin .eql (.agg [some .u8, some .u8, some .u8, some .u8]) (.s 102) (.s 103)⟩,
 ⟨(some 105), none, .pick (.s 100) (.s 104) (.c (.bool false))⟩,
 ⟨(some 106), none, .mv (.s 105)⟩,
 ⟨(some 107), (some (106, true)), .mv (.s 10)⟩,
 ⟨(some 108), none, .pick (.s 106) (.s 107) (.c (.bool false))⟩,
 ⟨(some 109), none, .mv (.s 108)⟩,
 ⟨(some 110), (some (109, true)), .load (some 9) (some 5) (.s 9)⟩,
 ⟨(some 111), (some (109, true)), .load (some 9) (some 1) (.s 2)⟩,
 ⟨(some 112), (some (109, true)), .call (.c (.fn 25 [] [])) [(.s 110), (.s 111)] [] [] [] false⟩,
 ⟨(some 113), none, .pick (.s 109) (.s 112) (.c (.bool false))⟩,
 ⟨(some 114), none, .mv (.s 113)⟩,
 ⟨(some 115), (some (114, true)), .mv (.s 12)⟩,
 ⟨(some 116), none, .pick (.s 114) (.s 115) (.c (.bool false))⟩,
 ⟨(some 117), none, .mv (.s 116)⟩,
 ⟨(some 118), (some (117, true)), .mv (.s 14)⟩,
 ⟨(some 119), none, .pick (.s 117) (.s 118) (.c (.bool false))⟩,
 ⟨(some 120), none, .mv (.s 119)⟩,
 ⟨(some 121), (some (120, true)), .load (some 9) (some 6) (.s 13)⟩,
 ⟨(some 122), (some (120, true)), .load (some 9) (some 2) (.s 3)⟩,
 ⟨(some 123), (some (120, true)), .call (.c (.fn 25 [] [])) [(.s 121), (.s 122)] [] [] [] false⟩,
 ⟨(some 124), none, .pick (.s 120) (.s 123) (.c (.bool false))⟩,
 ⟨(some 125), none, .mv (.s 124)⟩,
 ⟨(some 126), (some (125, true)), .load (some 9) (some 2) (.s 3)⟩,
 ⟨(some 127), (some (125, true)), .load (some 9) (some 1) (.s 2)⟩,
 ⟨(some 128), (some (125, true)), .call (.c (.fn 25 [] [])) [(.s 126), (.s 127)] [] [] [] false⟩,
 ⟨(some 129), (some (125, true)), .un .not (.s 128)⟩,
 ⟨(some 130), none, .pick (.s 125) (.s 129) (.c (.bool false))⟩,
 ⟨(some 131), none, .mv (.s 130)⟩,
 ⟨(some 132), (some (131, true)), .mv (.s 16)⟩,
 ⟨(some 133), (some (131, true)), .un .not (.s 132)⟩,
 ⟨(some 134), none, .pick (.s 131) (.s 133) (.c (.bool false))⟩,
 ⟨(some 135), none, .mv (.s 134)⟩,
 ⟨(some 136), (some (135, true)), .load (some 2) (some 0) (.s 1)⟩,
 ⟨(some 137), (some (135, true)), .build [.int .u8 0, .int .u8 0, .int .u8 0, .int .u8 0] [(0, 1, (.c (.int .u8 3)))]⟩,
 ⟨(some 138), (some (135, true)), .build [.int .u8 0, .int .u8 0, .int .u8 0, .int .u8 0, .nilsl, .int .i64 0, .int .i64 0, .int .i64 0, .int .i64 0] [(0, 4, (.s 137))]⟩,
 ⟨(some 139), (some (135, true)), .call (.c (.fn 30 [] [])) [(.s 136), (.s 138)] [] [] [] false⟩,
 ⟨(some 140), (some (135, true)), .un .not (.s 139)⟩,
 ⟨(some 141), none, .pick (.s 135) (.s 140) (.c (.bool false))⟩,
 ⟨(some 0), none, .mv (.s 141)⟩])
 .ret))))))))))) }
/- cuboid/cuboidref25.Same -/
def f18 : MFun := { nt := 107, np := 2, no := 4, res := [.slot 4], body :=
 (.seq
 (.region false [
 ⟨(some 2), none, .box 0 (.s 0)⟩,
 ⟨(some 3), none, .box 1 (.s 1)⟩,
 ⟨(some 4), none, .mv (.c (.bool false))⟩])
 (.seq
 (.seq
 (.region false [
 ⟨(some 9), none, .faddr 0 (.s 2)⟩,
 ⟨(some 10), none, .load (some 4) (some 0) (.s 9)⟩,
 ⟨(some 11), none, .faddr 0 (.s 3)⟩,
 ⟨(some 12), none, .load (some 4) (some 1) (.s 11)⟩,
 ⟨(some 13), none, .bin .neq (.agg [some .u8, some .u8, some .u8, some .u8]) (.s 10) (.s 12)⟩,
 ⟨(some 14), none, .mv (.s 13)⟩,
 ⟨(some 15), (some (14, false)), .faddr 5 (.s 2)⟩,
 ⟨(some 16), (some (14, false)), .load none (some 0) (.s 15)⟩,
 ⟨(some 17), (some (14, false)), .faddr 5 (.s 3)⟩,
 ⟨(some 18), (some (14, false)), .load none (some 1) (.s 17)⟩,
 ⟨(some 19), (some (14, false)), .bin .neq .int (.s 16) (.s 18)⟩,
 ⟨(some 20), none, .pick (.s 14) (.c (.bool true)) (.s 19)⟩,
 ⟨(some 21), none, .mv (.s 20)⟩,
 ⟨(some 22), (some (21, false)), .faddr 6 (.s 2)⟩,
 ⟨(some 23), (some (21, false)), .load none (some 0) (.s 22)⟩,
 ⟨(some 24), (some (21, false)), .faddr 6 (.s 3)⟩,
 ⟨(some 25), (some (21, false)), .load none (some 1) (.s 24)⟩,
 ⟨(some 26), (some (21, false)), .bin .neq .int (.s 23) (.s 25)⟩,
 ⟨(some 27), none, .pick (.s 21) (.c (.bool true)) (.s 26)⟩,
 ⟨(some 28), none, .mv (.s 27)⟩,
 ⟨(some 29), (some (28, false)), .faddr 7 (.s 2)⟩,
 ⟨(some 30), (some (28, false)), .load none (some 0) (.s 29)⟩,
 ⟨(some 31), (some (28, false)), .faddr 7 (.s 3)⟩,
 ⟨(some 32), (some (28, false)), .load none (some 1) (.s 31)⟩,
 ⟨(some 33), (some (28, false)), .bin .neq .int (.s 30) (.s 32)⟩,
 ⟨(some 34), none, .pick (.s 28) (.c (.bool true)) (.s 33)⟩,
 ⟨(some 35), none, .mv (.s 34)⟩,
 ⟨(some 36), (some (35, false)), .faddr 8 (.s 2)⟩,
 ⟨(some 37), (some (35, false)), .load none (some 0) (.s 36)⟩,
 ⟨(some 38), (some (35, false)), .faddr 8 (.s 3)⟩,
 ⟨(some 39), (some (35, false)), .load none (some 1) (.s 38)⟩,
 ⟨(some 40), (some (35, false)), .bin .neq .int (.s 37) (.s 39)⟩,
 ⟨(some 41), none, .pick (.s 35) (.c (.bool true)) (.s 40)⟩,
 ⟨(some 42), none, .mv (.s 41)⟩,
 ⟨(some 43), (some (42, false)), .faddr 4 (.s 2)⟩,
 ⟨(some 44), (some (42, false)), .load none (some 0) (.s 43)⟩,
 ⟨(some 45), (some (42, false)), .len (.s 44)⟩,
 ⟨(some 46), (some (42, false)), .faddr 4 (.s 3)⟩,
 ⟨(some 47), (some (42, false)), .load none (some 1) (.s 46)⟩,
 ⟨(some 48), (some (42, false)), .len (.s 47)⟩,
 ⟨(some 49), (some (42, false)), .bin .neq .int (.s 45) (.s 48)⟩,
 ⟨(some 50), none, .pick (.s 42) (.c (.bool true)) (.s 49)⟩])
 (.cond (.s 50)
 (.seq
 (.region false [
 ⟨(some 4), none, .mv (.c (.bool false))⟩])
 .ret)
 .skip))
 (.seq
 (.seq
 (.region false [
 ⟨(some 5), none, .mv (.c (.int .i64 0))⟩])
 (.block 0
 (.loop [2, 3, 5] [0, 1]
 (.seq
 (.seq
 (.region false [
 ⟨(some 51), none, .mv (.s 5)⟩,
 ⟨(some 52), none, .faddr 4 (.s 2)⟩,
 ⟨(some 53), none, .load none (some 0) (.s 52)⟩,
 ⟨(some 54), none, .len (.s 53)⟩,
 ⟨(some 55), none, .bin .lss .int (.s 51) (.s 54)⟩])
 (.cond (.s 55)
 .skip
 (.exit 0)))
 (.seq
 (.block 1
 (.seq
 (.region true [
 ⟨(some 58), none, .faddr 4 (.s 2)⟩,
 ⟨(some 59), none, .load none (some 0) (.s 58)⟩,
 ⟨(some 60), none, .mv (.s 5)⟩,
 ⟨(some 61), none, .iaddrS 3 (.s 59) (.s 60)⟩,
 ⟨(some 62), none, .load (some 3) none (.s 61)⟩,
 ⟨(some 63), none, .faddr 4 (.s 3)⟩,
 ⟨(some 64), none, .load none (some 1) (.s 63)⟩,
 ⟨(some 65), none, .mv (.s 5)⟩,
 ⟨(some 66), none, .iaddrS 3 (.s 64) (.s 65)⟩,
 ⟨(some 67), none, .load (some 3) none (.s 66)⟩,
 ⟨(some 6), none, .alloc 2 [.int .i64 0, .int .i64 0, .nilsl]⟩,
 ⟨(some 7), none, .alloc 3 [.int .i64 0, .int .i64 0, .nilsl]⟩,
 ⟨none, none, .store 3 2 [] (.s 6) (.s 62)⟩,
 ⟨none, none, .store 3 3 [] (.s 7) (.s 67)⟩])
 (.seq
 (.seq
 (.region false [
 ⟨(some 68), none, .faddr 0 (.s 6)⟩,
 ⟨(some 69), none, .load none (some 2) (.s 68)⟩,
 ⟨(some 70), none, .faddr 0 (.s 7)⟩,
 ⟨(some 71), none, .load none (some 3) (.s 70)⟩,
 ⟨(some 72), none, .bin .neq .int (.s 69) (.s 71)⟩,
 ⟨(some 73), none, .mv (.s 72)⟩,
 ⟨(some 74), (some (73, false)), .faddr 1 (.s 6)⟩,
 ⟨(some 75), (some (73, false)), .load none (some 2) (.s 74)⟩,
 ⟨(some 76), (some (73, false)), .faddr 1 (.s 7)⟩,
 ⟨(some 77), (some (73, false)), .load none (some 3) (.s 76)⟩,
 ⟨(some 78), (some (73, false)), .bin .neq .int (.s 75) (.s 77)⟩,
 ⟨(some 79), none, .pick (.s 73) (.c (.bool true)) (.s 78)⟩,
 ⟨(some 80), none, .mv (.s 79)⟩,
 ⟨(some 81), (some (80, false)), .faddr 2 (.s 6)⟩,
 ⟨(some 82), (some (80, false)), .load none (some 2) (.s 81)⟩,
 ⟨(some 83), (some (80, false)), .len (.s 82)⟩,
 ⟨(some 84), (some (80, false)), .faddr 2 (.s 7)⟩,
 ⟨(some 85), (some (80, false)), .load none (some 3) (.s 84)⟩,
 ⟨(some 86), (some (80, false)), .len (.s 85)⟩,
 ⟨(some 87), (some (80, false)), .bin .neq .int (.s 83) (.s 86)⟩,
 ⟨(some 88), none, .pick (.s 80) (.c (.bool true)) (.s 87)⟩])
 (.cond (.s 88)
 (.seq
 (.region false [
 ⟨(some 4), none, .mv (.c (.bool false))⟩])
 .ret)
 .skip))
 (.seq
 (.region false [
 ⟨(some 8), none, .mv (.c (.int .i64 0))⟩])
 (.block 2
 (.loop [2, 3, 5, 6, 7, 8] [0, 1, 2, 3]
 (.seq
 (.seq
 (.region false [
 ⟨(some 89), none, .mv (.s 8)⟩,
 ⟨(some 90), none, .faddr 2 (.s 6)⟩,
 ⟨(some 91), none, .load none (some 2) (.s 90)⟩,
 ⟨(some 92), none, .len (.s 91)⟩,
 ⟨(some 93), none, .bin .lss .int (.s 89) (.s 92)⟩])
 (.cond (.s 93)
 .skip
 (.exit 2)))
 (.seq
 (.block 3
 (.seq
 (.region true [
 ⟨(some 96), none, .faddr 2 (.s 6)⟩,
 ⟨(some 97), none, .load none (some 2) (.s 96)⟩,
 ⟨(some 98), none, .mv (.s 8)⟩,
 ⟨(some 99), none, .iaddrS 1 (.s 97) (.s 98)⟩,
 ⟨(some 100), none, .load none none (.s 99)⟩,
 ⟨(some 101), none, .faddr 2 (.s 7)⟩,
 ⟨(some 102), none, .load none (some 3) (.s 101)⟩,
 ⟨(some 103), none, .mv (.s 8)⟩,
 ⟨(some 104), none, .iaddrS 1 (.s 102) (.s 103)⟩,
 ⟨(some 105), none, .load none none (.s 104)⟩,
 ⟨(some 106), none, .bin .neq .int (.s 100) (.s 105)⟩])
 (.cond (.s 106)
 (.seq
 (.region false [
 ⟨(some 4), none, .mv (.c (.bool false))⟩])
 .ret)
 .skip)))
 (.region false [
 ⟨(some 94), none, .mv (.s 8)⟩,
 ⟨(some 95), none, .bin .add .int (.s 94) (.c (.int .i64 1))⟩,
 ⟨(some 8), none, .mv (.s 95)⟩])))))))))
 (.region false [
 ⟨(some 56), none, .mv (.s 5)⟩,
 ⟨(some 57), none, .bin .add .int (.s 56) (.c (.int .i64 1))⟩,
 ⟨(some 5), none, .mv (.s 57)⟩]))))))
 (.seq
 (.region false [
 ⟨(some 4), none, .mv (.c (.bool true))⟩])
 .ret)))) }
/- cuboid/cuboidref02.Bytes -/
def f64 : MFun := { nt := 10, np := 2, no := 1, res := [.slot 4], body :=
 (.seq
 (.region false [
 ⟨(some 4), none, .mv (.c .nilsl)⟩])
 (.seq
 (.region false [
 ⟨(some 5), none, .lit (some 0) [] 0 1 [.int .u8 0] []⟩,
 ⟨(some 6), none, .mv (.s 0)⟩,
 ⟨(some 7), none, .append 1 1 0 none (.s 5) (.s 6)⟩,
 ⟨(some 8), none, .mv (.s 1)⟩,
 ⟨(some 9), none, .append 1 1 0 none (.s 7) (.s 8)⟩,
 ⟨(some 4), none, .mv (.s 9)⟩])
 .ret)) }
/- cuboid/cuboidref02.Digits -/
def f65 : MFun := { nt := 20, np := 1, no := 1, res := [.slot 2], body :=
 (.seq
 (.region false [
 ⟨(some 2), none, .mv (.c .nilsl)⟩])
 (.seq
 (.region false [
 ⟨(some 3), none, .vnil 0 1⟩])
 (.seq
 (.block 0
 (.loop [0, 3] [0]
 (.seq
 (.seq
 (.region false [
 ⟨(some 4), none, .mv (.s 0)⟩,
 ⟨(some 5), none, .bin .gtr .int (.s 4) (.c (.int .u64 127))⟩])
 (.cond (.s 5)
 .skip
 (.exit 0)))
 (.block 1
 (.seq
 (.region false [
 ⟨(some 6), none, .mv (.s 3)⟩,
 ⟨(some 7), none, .mv (.s 0)⟩,
 ⟨(some 8), none, .bin .rem .int (.s 7) (.c (.int .u64 128))⟩,
 ⟨(some 9), none, .conv .u8 (.s 8)⟩,
 ⟨(some 10), none, .bin .add .int (.s 9) (.c (.int .u8 128))⟩,
 ⟨(some 11), none, .lit none [] 1 1 [.int .u8 0] [(0, 1, (.s 10))]⟩,
 ⟨(some 12), none, .append 1 1 0 none (.s 6) (.s 11)⟩,
 ⟨(some 3), none, .mv (.s 12)⟩])
 (.region false [
 ⟨(some 13), none, .mv (.s 0)⟩,
 ⟨(some 14), none, .bin .quo .int (.s 13) (.c (.int .u64 128))⟩,
 ⟨(some 0), none, .mv (.s 14)⟩]))))))
 (.seq
 (.region false [
 ⟨(some 15), none, .mv (.s 3)⟩,
 ⟨(some 16), none, .mv (.s 0)⟩,
 ⟨(some 17), none, .conv .u8 (.s 16)⟩,
 ⟨(some 18), none, .lit none [] 1 1 [.int .u8 0] [(0, 1, (.s 17))]⟩,
 ⟨(some 19), none, .append 1 1 0 none (.s 15) (.s 18)⟩,
 ⟨(some 2), none, .mv (.s 19)⟩])
 .ret)))) }
/- cuboid/cuboidref25.number -/
def f45 : MFun := { nt := 24, np := 2, no := 2, res := [.cell 4 1 (some 2)], body :=
 (.seq
 (.region false [
 ⟨(some 2), none, .box 0 (.s 0)⟩,
 ⟨(some 4), none, .alloc 1 [.nilsl, .bool false]⟩])
 (.seq
 (.seq
 (.region false [
 ⟨(some 5), none, .faddr 1 (.s 2)⟩,
 ⟨(some 6), none, .load none (some 0) (.s 5)⟩,
 ⟨(some 7), none, .un .not (.s 6)⟩,
 ⟨(some 8), none, .mv (.s 7)⟩,
 ⟨(some 9), (some (8, false)), .mv (.s 1)⟩,
 ⟨(some 10), (some (8, false)), .bin .lss .int (.s 9) (.c (.int .i64 0))⟩,
 ⟨(some 11), none, .pick (.s 8) (.c (.bool true)) (.s 10)⟩,
 ⟨(some 12), none, .mv (.s 11)⟩,
 ⟨(some 13), (some (12, false)), .mv (.s 1)⟩,
 ⟨(some 14), (some (12, false)), .bin .gtr .int (.s 13) (.c (.int .i64 2147483647))⟩,
 ⟨(some 15), none, .pick (.s 12) (.c (.bool true)) (.s 14)⟩])
 (.cond (.s 15)
 (.seq
 (.region false [
 ⟨(some 16), none, .build [.nilsl, .bool false] []⟩,
 ⟨none, none, .store 2 1 [] (.s 4) (.s 16)⟩])
 .ret)
 .skip))
 (.seq
 (.region true [
 ⟨(some 17), none, .faddr 0 (.s 2)⟩,
 ⟨(some 18), none, .load none (some 0) (.s 17)⟩,
 ⟨(some 19), none, .mv (.s 1)⟩,
 ⟨(some 20), none, .conv .u64 (.s 19)⟩,
 ⟨(some 21), none, .call (.c (.fn 65 [] [])) [(.s 20)] [] [] [] true⟩,
 ⟨(some 22), none, .call (.c (.fn 64 [] [])) [(.s 18), (.s 21)] [] [] [] true⟩,
 ⟨(some 23), none, .build [.nilsl, .bool false] [(0, 1, (.s 22)), (1, 1, (.c (.bool true)))]⟩,
 ⟨none, none, .store 2 1 [] (.s 4) (.s 23)⟩])
 .ret))) }
/- cuboid/cuboidref25.Bytes -/
def f19 : MFun := { nt := 77, np := 1, no := 5, res := [.cell 2 1 (some 2)], body :=
 (.seq
 (.region false [
 ⟨(some 1), none, .box 0 (.s 0)⟩,
 ⟨(some 2), none, .alloc 1 [.nilsl, .bool false]⟩])
 (.seq
 (.region false [
 ⟨(some 8), none, .build [.nilsl, .bool false] [(1, 1, (.c (.bool true)))]⟩,
 ⟨(some 3), none, .alloc 2 [.nilsl, .bool false]⟩,
 ⟨none, none, .store 2 2 [] (.s 3) (.s 8)⟩])
 (.seq
 (.seq
 (.region false [
 ⟨(some 4), none, .mv (.c (.int .i64 0))⟩])
 (.block 0
 (.loop [1, 2, 3, 4] [0, 1, 2, 3]
 (.seq
 (.seq
 (.region false [
 ⟨(some 9), none, .mv (.s 4)⟩,
 ⟨(some 10), none, .bin .lss .int (.s 9) (.c (.int .i64 4))⟩])
 (.cond (.s 10)
 .skip
 (.exit 0)))
 (.seq
 (.block 1
 (.region true [
 ⟨(some 13), none, .faddr 0 (.s 3)⟩,
 ⟨(some 14), none, .load none (some 2) (.s 13)⟩,
 ⟨(some 15), none, .mv (.s 4)⟩,
 ⟨(some 16), none, .faddr 0 (.s 1)⟩,
 ⟨(some 17), none, .iaddrA 4 1 (.s 16) (.s 15)⟩,
 ⟨(some 18), none, .load none (some 0) (.s 17)⟩,
 ⟨(some 19), none, .lit none [] 1 1 [.int .u8 0] [(0, 1, (.s 18))]⟩,
 ⟨(some 20), none, .append 1 1 3 none (.s 14) (.s 19)⟩,
 ⟨(some 21), none, .faddr 0 (.s 3)⟩,
 ⟨none, none, .store 1 2 [] (.s 21) (.s 20)⟩]))
 (.region false [
 ⟨(some 11), none, .mv (.s 4)⟩,
 ⟨(some 12), none, .bin .add .int (.s 11) (.c (.int .i64 1))⟩,
 ⟨(some 4), none, .mv (.s 12)⟩]))))))
 (.seq
 (.region false [
 ⟨(some 22), none, .load (some 2) (some 2) (.s 3)⟩,
 ⟨(some 23), none, .faddr 4 (.s 1)⟩,
 ⟨(some 24), none, .load none (some 0) (.s 23)⟩,
 ⟨(some 25), none, .len (.s 24)⟩,
 ⟨(some 26), none, .call (.c (.fn 45 [] [])) [(.s 22), (.s 25)] [] [3] [] true⟩,
 ⟨none, none, .store 2 2 [] (.s 3) (.s 26)⟩])
 (.seq
 (.seq
 (.region false [
 ⟨(some 5), none, .mv (.c (.int .i64 0))⟩])
 (.block 2
 (.loop [1, 2, 3, 5] [0, 1, 2, 3]
 (.seq
 (.seq
 (.region false [
 ⟨(some 27), none, .mv (.s 5)⟩,
 ⟨(some 28), none, .faddr 4 (.s 1)⟩,
 ⟨(some 29), none, .load none (some 0) (.s 28)⟩,
 ⟨(some 30), none, .len (.s 29)⟩,
 ⟨(some 31), none, .bin .lss .int (.s 27) (.s 30)⟩])
 (.cond (.s 31)
 .skip
 (.exit 2)))
 (.seq
 (.block 3
 (.seq
 (.region false [
 ⟨(some 34), none, .faddr 4 (.s 1)⟩,
 ⟨(some 35), none, .load none (some 0) (.s 34)⟩,
 ⟨(some 36), none, .mv (.s 5)⟩,
 ⟨(some 37), none, .iaddrS 3 (.s 35) (.s 36)⟩,
 ⟨(some 38), none, .load (some 3) none (.s 37)⟩,
 ⟨(some 6), none, .alloc 4 [.int .i64 0, .int .i64 0, .nilsl]⟩,
 ⟨none, none, .store 3 4 [] (.s 6) (.s 38)⟩])
 (.seq
 (.region true [
 ⟨(some 39), none, .load (some 2) (some 2) (.s 3)⟩,
 ⟨(some 40), none, .faddr 0 (.s 6)⟩,
 ⟨(some 41), none, .load none (some 4) (.s 40)⟩,
 ⟨(some 42), none, .call (.c (.fn 45 [] [])) [(.s 39), (.s 41)] [] [3] [] true⟩,
 ⟨(some 43), none, .faddr 1 (.s 6)⟩,
 ⟨(some 44), none, .load none (some 4) (.s 43)⟩,
 ⟨(some 45), none, .call (.c (.fn 45 [] [])) [(.s 42), (.s 44)] [] [] [] true⟩,
 ⟨(some 46), none, .faddr 2 (.s 6)⟩,
 ⟨(some 47), none, .load none (some 4) (.s 46)⟩,
 ⟨(some 48), none, .len (.s 47)⟩,
 ⟨(some 49), none, .call (.c (.fn 45 [] [])) [(.s 45), (.s 48)] [] [] [] true⟩,
 ⟨none, none, .store 2 2 [] (.s 3) (.s 49)⟩])
 (.seq
 (.region false [
 ⟨(some 7), none, .mv (.c (.int .i64 0))⟩])
 (.block 4
 (.loop [1, 2, 3, 5, 6, 7] [0, 1, 2, 3, 4]
 (.seq
 (.seq
 (.region false [
 ⟨(some 50), none, .mv (.s 7)⟩,
 ⟨(some 51), none, .faddr 2 (.s 6)⟩,
 ⟨(some 52), none, .load none (some 4) (.s 51)⟩,
 ⟨(some 53), none, .len (.s 52)⟩,
 ⟨(some 54), none, .bin .lss .int (.s 50) (.s 53)⟩])
 (.cond (.s 54)
 .skip
 (.exit 4)))
 (.seq
 (.block 5
 (.region true [
 ⟨(some 57), none, .load (some 2) (some 2) (.s 3)⟩,
 ⟨(some 58), none, .faddr 2 (.s 6)⟩,
 ⟨(some 59), none, .load none (some 4) (.s 58)⟩,
 ⟨(some 60), none, .mv (.s 7)⟩,
 ⟨(some 61), none, .iaddrS 1 (.s 59) (.s 60)⟩,
 ⟨(some 62), none, .load none none (.s 61)⟩,
 ⟨(some 63), none, .call (.c (.fn 45 [] [])) [(.s 57), (.s 62)] [] [3] [] true⟩,
 ⟨none, none, .store 2 2 [] (.s 3) (.s 63)⟩]))
 (.region false [
 ⟨(some 55), none, .mv (.s 7)⟩,
 ⟨(some 56), none, .bin .add .int (.s 55) (.c (.int .i64 1))⟩,
 ⟨(some 7), none, .mv (.s 56)⟩])))))))))
 (.region false [
 ⟨(some 32), none, .mv (.s 5)⟩,
 ⟨(some 33), none, .bin .add .int (.s 32) (.c (.int .i64 1))⟩,
 ⟨(some 5), none, .mv (.s 33)⟩]))))))
 (.seq
 (.region true [
 ⟨(some 64), none, .load (some 2) (some 2) (.s 3)⟩,
 ⟨(some 65), none, .faddr 5 (.s 1)⟩,
 ⟨(some 66), none, .load none (some 0) (.s 65)⟩,
 ⟨(some 67), none, .call (.c (.fn 45 [] [])) [(.s 64), (.s 66)] [] [3] [] true⟩,
 ⟨(some 68), none, .faddr 6 (.s 1)⟩,
 ⟨(some 69), none, .load none (some 0) (.s 68)⟩,
 ⟨(some 70), none, .call (.c (.fn 45 [] [])) [(.s 67), (.s 69)] [] [] [] true⟩,
 ⟨(some 71), none, .faddr 7 (.s 1)⟩,
 ⟨(some 72), none, .load none (some 0) (.s 71)⟩,
 ⟨(some 73), none, .call (.c (.fn 45 [] [])) [(.s 70), (.s 72)] [] [] [] true⟩,
 ⟨(some 74), none, .faddr 8 (.s 1)⟩,
 ⟨(some 75), none, .load none (some 0) (.s 74)⟩,
 ⟨(some 76), none, .call (.c (.fn 45 [] [])) [(.s 73), (.s 75)] [] [] [] true⟩,
 ⟨none, none, .store 2 1 [] (.s 2) (.s 76)⟩])
 .ret)))))) }
/- cuboid/cuboidref03.Good -/
def f61 : MFun := { nt := 97, np := 1, no := 1, res := [.slot 2], body :=
 (.seq
 (.region false [
 ⟨(some 1), none, .box 0 (.s 0)⟩,
 ⟨(some 2), none, .mv (.c (.bool false))⟩])
 (.seq
 (.region false [
 ⟨(some 7), none, .faddr 0 (.s 1)⟩,
 ⟨(some 8), none, .load none (some 0) (.s 7)⟩,
 ⟨(some 9), none, .len (.s 8)⟩,
 ⟨(some 3), none, .mv (.s 9)⟩])
 (.seq
 (.seq
 (.region false [
 ⟨(some 10), none, .mv (.s 3)⟩,
 ⟨(some 11), none, .bin .lss .int (.s 10) (.c (.int .i64 1))⟩,
 ⟨(some 12), none, .mv (.s 11)⟩,
 ⟨(some 13), (some (12, false)), .mv (.s 3)⟩,
 ⟨(some 14), (some (12, false)), .bin .gtr .int (.s 13) (.c (.int .i64 4))⟩,
 ⟨(some 15), none, .pick (.s 12) (.c (.bool true)) (.s 14)⟩,
 ⟨(some 16), none, .mv (.s 15)⟩,
 ⟨(some 17), (some (16, false)), .faddr 1 (.s 1)⟩,
 ⟨(some 18), (some (16, false)), .load none (some 0) (.s 17)⟩,
 ⟨(some 19), (some (16, false)), .len (.s 18)⟩,
 ⟨(some 20), (some (16, false)), .mv (.s 3)⟩,
 ⟨(some 21), (some (16, false)), .bin .sub .int (.s 20) (.c (.int .i64 1))⟩,
 ⟨(some 22), (some (16, false)), .bin .neq .int (.s 19) (.s 21)⟩,
 ⟨(some 23), none, .pick (.s 16) (.c (.bool true)) (.s 22)⟩])
 (.cond (.s 23)
 (.seq
 (.region false [
 ⟨(some 2), none, .mv (.c (.bool false))⟩])
 .ret)
 .skip))
 (.seq
 (.seq
 (.region false [
 ⟨(some 4), none, .mv (.c (.int .i64 0))⟩])
 (.block 0
 (.loop [1, 3, 4] [0]
 (.seq
 (.seq
 (.region false [
 ⟨(some 24), none, .mv (.s 4)⟩,
 ⟨(some 25), none, .mv (.s 3)⟩,
 ⟨(some 26), none, .bin .lss .int (.s 24) (.s 25)⟩])
 (.cond (.s 26)
 .skip
 (.exit 0)))
 (.seq
 (.block 1
 (.seq
 (.region false [
 ⟨(some 29), none, .faddr 0 (.s 1)⟩,
 ⟨(some 30), none, .load none (some 0) (.s 29)⟩,
 ⟨(some 31), none, .mv (.s 4)⟩,
 ⟨(some 32), none, .iaddrS 1 (.s 30) (.s 31)⟩,
 ⟨(some 33), none, .load none none (.s 32)⟩,
 ⟨(some 34), none, .bin .lss .int (.s 33) (.c (.int .i64 1))⟩,
 ⟨(some 35), none, .mv (.s 34)⟩,
 ⟨(some 36), (some (35, false)), .faddr 0 (.s 1)⟩,
 ⟨(some 37), (some (35, false)), .load none (some 0) (.s 36)⟩,
 ⟨(some 38), (some (35, false)), .mv (.s 4)⟩,
 ⟨(some 39), (some (35, false)), .iaddrS 1 (.s 37) (.s 38)⟩,
 ⟨(some 40), (some (35, false)), .load none none (.s 39)⟩,
 ⟨(some 41), (some (35, false)), .bin .gtr .int (.s 40) (.c (.int .i64 40))⟩,
 ⟨(some 42), none, .pick (.s 35) (.c (.bool true)) (.s 41)⟩])
 (.cond (.s 42)
 (.seq
 (.region false [
 ⟨(some 2), none, .mv (.c (.bool false))⟩])
 .ret)
 .skip)))
 (.region false [
 ⟨(some 27), none, .mv (.s 4)⟩,
 ⟨(some 28), none, .bin .add .int (.s 27) (.c (.int .i64 1))⟩,
 ⟨(some 4), none, .mv (.s 28)⟩]))))))
 (.seq
 (.seq
 (.region false [
 ⟨(some 5), none, .mv (.c (.int .i64 0))⟩])
 (.block 2
 (.loop [1, 3, 5] [0]
 (.seq
 (.seq
 (.region false [
 ⟨(some 43), none, .mv (.s 5)⟩,
 ⟨(some 44), none, .mv (.s 3)⟩,
 ⟨(some 45), none, .bin .sub .int (.s 44) (.c (.int .i64 1))⟩,
 ⟨(some 46), none, .bin .lss .int (.s 43) (.s 45)⟩])
 (.cond (.s 46)
 .skip
 (.exit 2)))
 (.seq
 (.block 3
 (.seq
 (.seq
 (.region true [
 ⟨(some 49), none, .faddr 1 (.s 1)⟩,
 ⟨(some 50), none, .load none (some 0) (.s 49)⟩,
 ⟨(some 51), none, .mv (.s 5)⟩,
 ⟨(some 52), none, .iaddrS 1 (.s 50) (.s 51)⟩,
 ⟨(some 53), none, .load none none (.s 52)⟩,
 ⟨(some 54), none, .len (.s 53)⟩,
 ⟨(some 55), none, .faddr 0 (.s 1)⟩,
 ⟨(some 56), none, .load none (some 0) (.s 55)⟩,
 ⟨(some 57), none, .mv (.s 5)⟩,
 ⟨(some 58), none, .iaddrS 1 (.s 56) (.s 57)⟩,
 ⟨(some 59), none, .load none none (.s 58)⟩,
 ⟨(some 60), none, .bin .neq .int (.s 54) (.s 59)⟩])
 (.cond (.s 60)
 (.seq
 (.region false [
 ⟨(some 2), none, .mv (.c (.bool false))⟩])
 .ret)
 .skip))
 (.seq
 (.region false [
 ⟨(some 6), none, .mv (.c (.int .i64 0))⟩])
 (.block 4
 (.loop [1, 3, 5, 6] [0]
 (.seq
 (.seq
 (.region false [
 ⟨(some 61), none, .mv (.s 6)⟩,
 ⟨(some 62), none, .faddr 1 (.s 1)⟩,
 ⟨(some 63), none, .load none (some 0) (.s 62)⟩,
 ⟨(some 64), none, .mv (.s 5)⟩,
 ⟨(some 65), none, .iaddrS 1 (.s 63) (.s 64)⟩,
 ⟨(some 66), none, .load none none (.s 65)⟩,
 ⟨(some 67), none, .len (.s 66)⟩,
 ⟨(some 68), none, .bin .lss .int (.s 61) (.s 67)⟩])
 (.cond (.s 68)
 .skip
 (.exit 4)))
 (.seq
 (.block 5
 (.seq
 (.region true [
 ⟨(some 71), none, .faddr 1 (.s 1)⟩,
 ⟨(some 72), none, .load none (some 0) (.s 71)⟩,
 ⟨(some 73), none, .mv (.s 5)⟩,
 ⟨(some 74), none, .iaddrS 1 (.s 72) (.s 73)⟩,
 ⟨(some 75), none, .load none none (.s 74)⟩,
 ⟨(some 76), none, .mv (.s 6)⟩,
 ⟨(some 77), none, .iaddrS 1 (.s 75) (.s 76)⟩,
 ⟨(some 78), none, .load none none (.s 77)⟩,
 ⟨(some 79), none, .bin .lss .int (.s 78) (.c (.int .i64 0))⟩,
 ⟨(some 80), none, .mv (.s 79)⟩,
 ⟨(some 81), (some (80, false)), .faddr 1 (.s 1)⟩,
 ⟨(some 82), (some (80, false)), .load none (some 0) (.s 81)⟩,
 ⟨(some 83), (some (80, false)), .mv (.s 5)⟩,
 ⟨(some 84), (some (80, false)), .iaddrS 1 (.s 82) (.s 83)⟩,
 ⟨(some 85), (some (80, false)), .load none none (.s 84)⟩,
 ⟨(some 86), (some (80, false)), .mv (.s 6)⟩,
 ⟨(some 87), (some (80, false)), .iaddrS 1 (.s 85) (.s 86)⟩,
 ⟨(some 88), (some (80, false)), .load none none (.s 87)⟩,
 ⟨(some 89), (some (80, false)), .faddr 0 (.s 1)⟩,
 ⟨(some 90), (some (80, false)), .load none (some 0) (.s 89)⟩,
 ⟨(some 91), (some (80, false)), .mv (.s 5)⟩,
 ⟨(some 92), (some (80, false)), .bin .add .int (.s 91) (.c (.int .i64 1))⟩,
 ⟨(some 93), (some (80, false)), .iaddrS 1 (.s 90) (.s 92)⟩,
 ⟨(some 94), (some (80, false)), .load none none (.s 93)⟩,
 ⟨(some 95), (some (80, false)), .bin .geq .int (.s 88) (.s 94)⟩,
 ⟨(some 96), none, .pick (.s 80) (.c (.bool true)) (.s 95)⟩])
 (.cond (.s 96)
 (.seq
 (.region false [
 ⟨(some 2), none, .mv (.c (.bool false))⟩])
 .ret)
 .skip)))
 (.region false [
 ⟨(some 69), none, .mv (.s 6)⟩,
 ⟨(some 70), none, .bin .add .int (.s 69) (.c (.int .i64 1))⟩,
 ⟨(some 6), none, .mv (.s 70)⟩]))))))))
 (.region false [
 ⟨(some 47), none, .mv (.s 5)⟩,
 ⟨(some 48), none, .bin .add .int (.s 47) (.c (.int .i64 1))⟩,
 ⟨(some 5), none, .mv (.s 48)⟩]))))))
 (.seq
 (.region false [
 ⟨(some 2), none, .mv (.c (.bool true))⟩])
 .ret)))))) }
/- cuboid/cuboidref04.Good -/
def f39 : MFun := { nt := 38, np := 1, no := 1, res := [.slot 2], body :=
 (.seq
 (.region false [
 ⟨(some 1), none, .box 0 (.s 0)⟩,
 ⟨(some 2), none, .mv (.c (.bool false))⟩])
 (.seq
 (.seq
 (.region false [
 ⟨(some 4), none, .faddr 0 (.s 1)⟩,
 ⟨(some 5), none, .load none (some 0) (.s 4)⟩,
 ⟨(some 6), none, .len (.s 5)⟩,
 ⟨(some 7), none, .bin .lss .int (.s 6) (.c (.int .i64 1))⟩,
 ⟨(some 8), none, .mv (.s 7)⟩,
 ⟨(some 9), (some (8, false)), .faddr 0 (.s 1)⟩,
 ⟨(some 10), (some (8, false)), .load none (some 0) (.s 9)⟩,
 ⟨(some 11), (some (8, false)), .len (.s 10)⟩,
 ⟨(some 12), (some (8, false)), .bin .gtr .int (.s 11) (.c (.int .i64 4))⟩,
 ⟨(some 13), none, .pick (.s 8) (.c (.bool true)) (.s 12)⟩,
 ⟨(some 14), none, .mv (.s 13)⟩,
 ⟨(some 15), (some (14, false)), .faddr 1 (.s 1)⟩,
 ⟨(some 16), (some (14, false)), .load none (some 0) (.s 15)⟩,
 ⟨(some 17), (some (14, false)), .bin .lss .int (.s 16) (.c (.int .i64 1))⟩,
 ⟨(some 18), none, .pick (.s 14) (.c (.bool true)) (.s 17)⟩,
 ⟨(some 19), none, .mv (.s 18)⟩,
 ⟨(some 20), (some (19, false)), .faddr 1 (.s 1)⟩,
 ⟨(some 21), (some (19, false)), .load none (some 0) (.s 20)⟩,
 ⟨(some 22), (some (19, false)), .bin .gtr .int (.s 21) (.c (.int .i64 2))⟩,
 ⟨(some 23), none, .pick (.s 19) (.c (.bool true)) (.s 22)⟩])
 (.cond (.s 23)
 (.seq
 (.region false [
 ⟨(some 2), none, .mv (.c (.bool false))⟩])
 .ret)
 .skip))
 (.seq
 (.seq
 (.region false [
 ⟨(some 3), none, .mv (.c (.int .i64 0))⟩])
 (.block 0
 (.loop [1, 3] [0]
 (.seq
 (.seq
 (.region false [
 ⟨(some 24), none, .mv (.s 3)⟩,
 ⟨(some 25), none, .faddr 0 (.s 1)⟩,
 ⟨(some 26), none, .load none (some 0) (.s 25)⟩,
 ⟨(some 27), none, .len (.s 26)⟩,
 ⟨(some 28), none, .bin .lss .int (.s 24) (.s 27)⟩])
 (.cond (.s 28)
 .skip
 (.exit 0)))
 (.seq
 (.block 1
 (.seq
 (.region false [
 ⟨(some 31), none, .faddr 0 (.s 1)⟩,
 ⟨(some 32), none, .load none (some 0) (.s 31)⟩,
 ⟨(some 33), none, .mv (.s 3)⟩,
 ⟨(some 34), none, .iaddrS 2 (.s 32) (.s 33)⟩,
 ⟨(some 35), none, .load (some 2) none (.s 34)⟩,
 ⟨(some 36), none, .call (.c (.fn 61 [] [])) [(.s 35)] [] [] [] false⟩,
 ⟨(some 37), none, .un .not (.s 36)⟩])
 (.cond (.s 37)
 (.seq
 (.region false [
 ⟨(some 2), none, .mv (.c (.bool false))⟩])
 .ret)
 .skip)))
 (.region false [
 ⟨(some 29), none, .mv (.s 3)⟩,
 ⟨(some 30), none, .bin .add .int (.s 29) (.c (.int .i64 1))⟩,
 ⟨(some 3), none, .mv (.s 30)⟩]))))))
 (.seq
 (.region false [
 ⟨(some 2), none, .mv (.c (.bool true))⟩])
 .ret)))) }
/- cuboid/cuboidref03.Size -/
def f67 : MFun := { nt := 31, np := 2, no := 1, res := [.slot 4], body :=
 (.seq
 (.region false [
 ⟨(some 2), none, .box 0 (.s 0)⟩,
 ⟨(some 4), none, .mv (.c (.int .i64 0))⟩])
 (.seq
 (.block 0
 (.seq
 (.region false [
 ⟨(some 6), none, .load (some 2) (some 0) (.s 2)⟩,
 ⟨(some 7), none, .call (.c (.fn 61 [] [])) [(.s 6)] [] [] [] false⟩,
 ⟨(some 8), none, .un .not (.s 7)⟩,
 ⟨(some 9), none, .mv (.s 8)⟩,
 ⟨(some 10), (some (9, false)), .mv (.s 1)⟩,
 ⟨(some 11), (some (9, false)), .bin .lss .int (.s 10) (.c (.int .i64 0))⟩,
 ⟨(some 12), none, .pick (.s 9) (.c (.bool true)) (.s 11)⟩,
 ⟨(some 13), none, .mv (.s 12)⟩,
 ⟨(some 14), (some (13, false)), .mv (.s 1)⟩,
 ⟨(some 15), (some (13, false)), .faddr 0 (.s 2)⟩,
 ⟨(some 16), (some (13, false)), .load none (some 0) (.s 15)⟩,
 ⟨(some 17), (some (13, false)), .len (.s 16)⟩,
 ⟨(some 18), (some (13, false)), .bin .gtr .int (.s 14) (.s 17)⟩,
 ⟨(some 19), none, .pick (.s 13) (.c (.bool true)) (.s 18)⟩,
 ⟨(some 5), none, .mv (.s 19)⟩])
 (.cond (.s 5)
 (.seq
 (.region false [
 ⟨(some 4), none, .mv (.c (.int .i64 0))⟩])
 .ret)
 (.seq
 (.region false [
 ⟨(some 21), none, .mv (.s 1)⟩,
 ⟨(some 22), none, .faddr 0 (.s 2)⟩,
 ⟨(some 23), none, .load none (some 0) (.s 22)⟩,
 ⟨(some 24), none, .len (.s 23)⟩,
 ⟨(some 25), none, .bin .eql .int (.s 21) (.s 24)⟩,
 ⟨(some 20), none, .mv (.s 25)⟩])
 (.cond (.s 20)
 (.seq
 (.region false [
 ⟨(some 4), none, .mv (.c (.int .i64 1))⟩])
 .ret)
 .skip)))))
 (.seq
 (.region false [
 ⟨(some 26), none, .faddr 0 (.s 2)⟩,
 ⟨(some 27), none, .load none (some 0) (.s 26)⟩,
 ⟨(some 28), none, .mv (.s 1)⟩,
 ⟨(some 29), none, .iaddrS 1 (.s 27) (.s 28)⟩,
 ⟨(some 30), none, .load none none (.s 29)⟩,
 ⟨(some 4), none, .mv (.s 30)⟩])
 .ret))) }
/- cuboid/cuboidref04.Right -/
def f58 : MFun := { nt := 45, np := 3, no := 3, res := [.slot 6], body :=
 (.seq
 (.region false [
 ⟨(some 3), none, .box 0 (.s 0)⟩,
 ⟨(some 4), none, .box 1 (.s 1)⟩,
 ⟨(some 5), none, .box 2 (.s 2)⟩,
 ⟨(some 6), none, .mv (.c (.bool false))⟩])
 (.seq
 (.seq
 (.region false [
 ⟨(some 8), none, .load (some 2) (some 0) (.s 3)⟩,
 ⟨(some 9), none, .call (.c (.fn 39 [] [])) [(.s 8)] [] [] [] false⟩,
 ⟨(some 10), none, .un .not (.s 9)⟩])
 (.cond (.s 10)
 (.seq
 (.region false [
 ⟨(some 6), none, .mv (.c (.bool false))⟩])
 .ret)
 .skip))
 (.seq
 (.seq
 (.region false [
 ⟨(some 7), none, .mv (.c (.int .i64 0))⟩])
 (.block 0
 (.loop [3, 4, 5, 7] [0, 1, 2]
 (.seq
 (.seq
 (.region false [
 ⟨(some 11), none, .mv (.s 7)⟩,
 ⟨(some 12), none, .bin .lss .int (.s 11) (.c (.int .i64 4))⟩])
 (.cond (.s 12)
 .skip
 (.exit 0)))
 (.seq
 (.block 1
 (.seq
 (.region false [
 ⟨(some 15), none, .mv (.s 7)⟩,
 ⟨(some 16), none, .faddr 0 (.s 3)⟩,
 ⟨(some 17), none, .load none (some 0) (.s 16)⟩,
 ⟨(some 18), none, .len (.s 17)⟩,
 ⟨(some 19), none, .bin .geq .int (.s 15) (.s 18)⟩])
 (.cond (.s 19)
 (.seq
 (.region false [
 ⟨(some 20), none, .mv (.s 7)⟩,
 ⟨(some 21), none, .iaddrA 4 1 (.s 4) (.s 20)⟩,
 ⟨(some 22), none, .load none (some 1) (.s 21)⟩,
 ⟨(some 23), none, .bin .neq .int (.s 22) (.c (.int .u8 0))⟩,
 ⟨(some 24), none, .mv (.s 23)⟩,
 ⟨(some 25), (some (24, false)), .mv (.s 7)⟩,
 ⟨(some 26), (some (24, false)), .iaddrA 4 1 (.s 5) (.s 25)⟩,
 ⟨(some 27), (some (24, false)), .load none (some 2) (.s 26)⟩,
 ⟨(some 28), (some (24, false)), .bin .neq .int (.s 27) (.c (.int .u8 0))⟩,
 ⟨(some 29), none, .pick (.s 24) (.c (.bool true)) (.s 28)⟩])
 (.cond (.s 29)
 (.seq
 (.region false [
 ⟨(some 6), none, .mv (.c (.bool false))⟩])
 .ret)
 .skip))
 (.seq
 (.region true [
 ⟨(some 30), none, .mv (.s 7)⟩,
 ⟨(some 31), none, .iaddrA 4 1 (.s 5) (.s 30)⟩,
 ⟨(some 32), none, .load none (some 2) (.s 31)⟩,
 ⟨(some 33), none, .conv .i64 (.s 32)⟩,
 ⟨(some 34), none, .faddr 0 (.s 3)⟩,
 ⟨(some 35), none, .load none (some 0) (.s 34)⟩,
 ⟨(some 36), none, .mv (.s 7)⟩,
 ⟨(some 37), none, .iaddrS 2 (.s 35) (.s 36)⟩,
 ⟨(some 38), none, .load (some 2) none (.s 37)⟩,
 ⟨(some 39), none, .mv (.s 7)⟩,
 ⟨(some 40), none, .iaddrA 4 1 (.s 4) (.s 39)⟩,
 ⟨(some 41), none, .load none (some 1) (.s 40)⟩,
 ⟨(some 42), none, .conv .i64 (.s 41)⟩,
 ⟨(some 43), none, .call (.c (.fn 67 [] [])) [(.s 38), (.s 42)] [] [] [] false⟩,
 ⟨(some 44), none, .bin .geq .int (.s 33) (.s 43)⟩])
 (.cond (.s 44)
 (.seq
 (.region false [
 ⟨(some 6), none, .mv (.c (.bool false))⟩])
 .ret)
 .skip)))))
 (.region false [
 ⟨(some 13), none, .mv (.s 7)⟩,
 ⟨(some 14), none, .bin .add .int (.s 13) (.c (.int .i64 1))⟩,
 ⟨(some 7), none, .mv (.s 14)⟩]))))))
 (.seq
 (.region false [
 ⟨(some 6), none, .mv (.c (.bool true))⟩])
 .ret)))) }
/- cuboid/cuboidref05.Good -/
def f31 : MFun := { nt := 9, np := 2, no := 2, res := [.slot 4], body :=
 (.seq
 (.region false [
 ⟨(some 2), none, .box 0 (.s 0)⟩,
 ⟨(some 3), none, .box 1 (.s 1)⟩,
 ⟨(some 4), none, .mv (.c (.bool false))⟩])
 (.seq
 (.region false [
 ⟨(some 5), none, .load (some 2) (some 0) (.s 2)⟩,
 ⟨(some 6), none, .load (some 4) (some 1) (.s 3)⟩,
 ⟨(some 7), none, .build [.int .u8 0, .int .u8 0, .int .u8 0, .int .u8 0] []⟩,
 ⟨(some 8), none, .call (.c (.fn 58 [] [])) [(.s 5), (.s 6), (.s 7)] [] [] [] false⟩,
 ⟨(some 4), none, .mv (.s 8)⟩])
 .ret)) }
/- cuboid/cuboidref04.Levels -/
def f15 : MFun := { nt := 27, np := 2, no := 1, res := [.slot 4], body :=
 (.seq
 (.region false [
 ⟨(some 2), none, .box 0 (.s 0)⟩,
 ⟨(some 4), none, .mv (.c (.int .i64 0))⟩])
 (.seq
 (.seq
 (.region false [
 ⟨(some 5), none, .load (some 2) (some 0) (.s 2)⟩,
 ⟨(some 6), none, .call (.c (.fn 39 [] [])) [(.s 5)] [] [] [] false⟩,
 ⟨(some 7), none, .un .not (.s 6)⟩,
 ⟨(some 8), none, .mv (.s 7)⟩,
 ⟨(some 9), (some (8, false)), .mv (.s 1)⟩,
 ⟨(some 10), (some (8, false)), .bin .lss .int (.s 9) (.c (.int .i64 0))⟩,
 ⟨(some 11), none, .pick (.s 8) (.c (.bool true)) (.s 10)⟩,
 ⟨(some 12), none, .mv (.s 11)⟩,
 ⟨(some 13), (some (12, false)), .mv (.s 1)⟩,
 ⟨(some 14), (some (12, false)), .faddr 0 (.s 2)⟩,
 ⟨(some 15), (some (12, false)), .load none (some 0) (.s 14)⟩,
 ⟨(some 16), (some (12, false)), .len (.s 15)⟩,
 ⟨(some 17), (some (12, false)), .bin .geq .int (.s 13) (.s 16)⟩,
 ⟨(some 18), none, .pick (.s 12) (.c (.bool true)) (.s 17)⟩])
 (.cond (.s 18)
 (.seq
 (.region false [
 ⟨(some 4), none, .mv (.c (.int .i64 0))⟩])
 .ret)
 .skip))
 (.seq
 (.region false [
 ⟨(some 19), none, .faddr 0 (.s 2)⟩,
 ⟨(some 20), none, .load none (some 0) (.s 19)⟩,
 ⟨(some 21), none, .mv (.s 1)⟩,
 ⟨(some 22), none, .iaddrS 2 (.s 20) (.s 21)⟩,
 ⟨(some 23), none, .faddr 0 (.s 22)⟩,
 ⟨(some 24), none, .load none none (.s 23)⟩,
 ⟨(some 25), none, .len (.s 24)⟩,
 ⟨(some 26), none, .bin .add .int (.s 25) (.c (.int .i64 1))⟩,
 ⟨(some 4), none, .mv (.s 26)⟩])
 .ret))) }
/- cuboid/cuboidref25.fix -/
def f47 : MFun := { nt := 85, np := 2, no := 2, res := [.slot 4], body :=
 (.seq
 (.region false [
 ⟨(some 2), none, .box 0 (.s 0)⟩,
 ⟨(some 3), none, .box 1 (.s 1)⟩,
 ⟨(some 4), none, .mv (.c (.bool false))⟩])
 (.seq
 (.seq
 (.region true [
 ⟨(some 6), none, .faddr 0 (.s 3)⟩,
 ⟨(some 7), none, .load none (some 1) (.s 6)⟩,
 ⟨(some 8), none, .bin .lss .int (.s 7) (.c (.int .i64 0))⟩,
 ⟨(some 9), none, .mv (.s 8)⟩,
 ⟨(some 10), (some (9, false)), .faddr 0 (.s 3)⟩,
 ⟨(some 11), (some (9, false)), .load none (some 1) (.s 10)⟩,
 ⟨(some 12), (some (9, false)), .faddr 0 (.s 2)⟩,
 ⟨(some 13), (some (9, false)), .load none (some 0) (.s 12)⟩,
 ⟨(some 14), (some (9, false)), .len (.s 13)⟩,
 ⟨(some 15), (some (9, false)), .bin .geq .int (.s 11) (.s 14)⟩,
 ⟨(some 16), none, .pick (.s 9) (.c (.bool true)) (.s 15)⟩,
 ⟨(some 17), none, .mv (.s 16)⟩,
 ⟨(some 18), (some (17, false)), .faddr 1 (.s 3)⟩,
 ⟨(some 19), (some (17, false)), .load none (some 1) (.s 18)⟩,
 ⟨(some 20), (some (17, false)), .bin .lss .int (.s 19) (.c (.int .i64 0))⟩,
 ⟨(some 21), none, .pick (.s 17) (.c (.bool true)) (.s 20)⟩,
 ⟨(some 22), none, .mv (.s 21)⟩,
 ⟨(some 23), (some (22, false)), .faddr 1 (.s 3)⟩,
 ⟨(some 24), (some (22, false)), .load none (some 1) (.s 23)⟩,
 ⟨(some 25), (some (22, false)), .load (some 2) (some 0) (.s 2)⟩,
 ⟨(some 26), (some (22, false)), .faddr 0 (.s 3)⟩,
 ⟨(some 27), (some (22, false)), .load none (some 1) (.s 26)⟩,
 ⟨(some 28), (some (22, false)), .call (.c (.fn 15 [] [])) [(.s 25), (.s 27)] [] [] [] false⟩,
 ⟨(some 29), (some (22, false)), .bin .geq .int (.s 24) (.s 28)⟩,
 ⟨(some 30), none, .pick (.s 22) (.c (.bool true)) (.s 29)⟩,
 ⟨(some 31), none, .mv (.s 30)⟩,
 ⟨(some 32), (some (31, false)), .faddr 2 (.s 3)⟩,
 ⟨(some 33), (some (31, false)), .load none (some 1) (.s 32)⟩,
 ⟨(some 34), (some (31, false)), .len (.s 33)⟩,
 ⟨(some 35), (some (31, false)), .bin .lss .int (.s 34) (.c (.int .i64 1))⟩,
 ⟨(some 36), none, .pick (.s 31) (.c (.bool true)) (.s 35)⟩])
 (.cond (.s 36)
 (.seq
 (.region false [
 ⟨(some 4), none, .mv (.c (.bool false))⟩])
 .ret)
 .skip))
 (.seq
 (.seq
 (.region false [
 ⟨(some 5), none, .mv (.c (.int .i64 0))⟩])
 (.block 0
 (.loop [2, 3, 5] [0, 1]
 (.seq
 (.seq
 (.region false [
 ⟨(some 37), none, .mv (.s 5)⟩,
 ⟨(some 38), none, .faddr 2 (.s 3)⟩,
 ⟨(some 39), none, .load none (some 1) (.s 38)⟩,
 ⟨(some 40), none, .len (.s 39)⟩,
 ⟨(some 41), none, .bin .lss .int (.s 37) (.s 40)⟩])
 (.cond (.s 41)
 .skip
 (.exit 0)))
 (.seq
 (.block 1
 (.seq
 (.region true [
 ⟨(some 44), none, .faddr 2 (.s 3)⟩,
 ⟨(some 45), none, .load none (some 1) (.s 44)⟩,
 ⟨(some 46), none, .mv (.s 5)⟩,
 ⟨(some 47), none, .iaddrS 1 (.s 45) (.s 46)⟩,
 ⟨(some 48), none, .load none none (.s 47)⟩,
 ⟨(some 49), none, .bin .lss .int (.s 48) (.c (.int .i64 0))⟩,
 ⟨(some 50), none, .mv (.s 49)⟩,
 ⟨(some 51), (some (50, false)), .faddr 2 (.s 3)⟩,
 ⟨(some 52), (some (50, false)), .load none (some 1) (.s 51)⟩,
 ⟨(some 53), (some (50, false)), .mv (.s 5)⟩,
 ⟨(some 54), (some (50, false)), .iaddrS 1 (.s 52) (.s 53)⟩,
 ⟨(some 55), (some (50, false)), .load none none (.s 54)⟩,
 ⟨(some 56), (some (50, false)), .faddr 0 (.s 2)⟩,
 ⟨(some 57), (some (50, false)), .load none (some 0) (.s 56)⟩,
 ⟨(some 58), (some (50, false)), .faddr 0 (.s 3)⟩,
 ⟨(some 59), (some (50, false)), .load none (some 1) (.s 58)⟩,
 ⟨(some 60), (some (50, false)), .iaddrS 2 (.s 57) (.s 59)⟩,
 ⟨(some 61), (some (50, false)), .load (some 2) none (.s 60)⟩,
 ⟨(some 62), (some (50, false)), .faddr 1 (.s 3)⟩,
 ⟨(some 63), (some (50, false)), .load none (some 1) (.s 62)⟩,
 ⟨(some 64), (some (50, false)), .call (.c (.fn 67 [] [])) [(.s 61), (.s 63)] [] [] [] false⟩,
 ⟨(some 65), (some (50, false)), .bin .geq .int (.s 55) (.s 64)⟩,
 ⟨(some 66), none, .pick (.s 50) (.c (.bool true)) (.s 65)⟩,
 ⟨(some 67), none, .mv (.s 66)⟩,
 ⟨(some 68), (some (67, false)), .mv (.s 5)⟩,
 ⟨(some 69), (some (67, false)), .bin .gtr .int (.s 68) (.c (.int .i64 0))⟩,
 ⟨(some 70), (some (67, false)), .mv (.s 69)⟩,
 ⟨(some 71), (some (70, true)), .faddr 2 (.s 3)⟩,
 ⟨(some 72), (some (70, true)), .load none (some 1) (.s 71)⟩,
 ⟨(some 73), (some (70, true)), .mv (.s 5)⟩,
 ⟨(some 74), (some (70, true)), .bin .sub .int (.s 73) (.c (.int .i64 1))⟩,
 ⟨(some 75), (some (70, true)), .iaddrS 1 (.s 72) (.s 74)⟩,
 ⟨(some 76), (some (70, true)), .load none none (.s 75)⟩,
 ⟨(some 77), (some (70, true)), .faddr 2 (.s 3)⟩,
 ⟨(some 78), (some (70, true)), .load none (some 1) (.s 77)⟩,
 ⟨(some 79), (some (70, true)), .mv (.s 5)⟩,
 ⟨(some 80), (some (70, true)), .iaddrS 1 (.s 78) (.s 79)⟩,
 ⟨(some 81), (some (70, true)), .load none none (.s 80)⟩,
 ⟨(some 82), (some (70, true)), .bin .geq .int (.s 76) (.s 81)⟩,
 ⟨(some 83), (some (67, false)), .pick (.s 70) (.s 82) (.c (.bool false))⟩,
 ⟨(some 84), none, .pick (.s 67) (.c (.bool true)) (.s 83)⟩])
 (.cond (.s 84)
 (.seq
 (.region false [
 ⟨(some 4), none, .mv (.c (.bool false))⟩])
 .ret)
 .skip)))
 (.region false [
 ⟨(some 42), none, .mv (.s 5)⟩,
 ⟨(some 43), none, .bin .add .int (.s 42) (.c (.int .i64 1))⟩,
 ⟨(some 5), none, .mv (.s 43)⟩]))))))
 (.seq
 (.region false [
 ⟨(some 4), none, .mv (.c (.bool true))⟩])
 .ret)))) }
/- cuboid/cuboidref25.Good -/
def f22 : MFun := { nt := 83, np := 2, no := 2, res := [.slot 4], body :=
 (.seq
 (.region false [
 ⟨(some 2), none, .box 0 (.s 0)⟩,
 ⟨(some 3), none, .box 1 (.s 1)⟩,
 ⟨(some 4), none, .mv (.c (.bool false))⟩])
 (.seq
 (.seq
 (.region false [
 ⟨(some 6), none, .load (some 2) (some 0) (.s 2)⟩,
 ⟨(some 7), none, .faddr 0 (.s 3)⟩,
 ⟨(some 8), none, .load (some 4) (some 1) (.s 7)⟩,
 ⟨(some 9), none, .call (.c (.fn 31 [] [])) [(.s 6), (.s 8)] [] [] [] false⟩,
 ⟨(some 10), none, .un .not (.s 9)⟩,
 ⟨(some 11), none, .mv (.s 10)⟩,
 ⟨(some 12), (some (11, false)), .faddr 4 (.s 3)⟩,
 ⟨(some 13), (some (11, false)), .load none (some 1) (.s 12)⟩,
 ⟨(some 14), (some (11, false)), .len (.s 13)⟩,
 ⟨(some 15), (some (11, false)), .bin .gtr .int (.s 14) (.c (.int .i64 6))⟩,
 ⟨(some 16), none, .pick (.s 11) (.c (.bool true)) (.s 15)⟩,
 ⟨(some 17), none, .mv (.s 16)⟩,
 ⟨(some 18), (some (17, false)), .faddr 5 (.s 3)⟩,
 ⟨(some 19), (some (17, false)), .load none (some 1) (.s 18)⟩,
 ⟨(some 20), (some (17, false)), .bin .lss .int (.s 19) (.c (.int .i64 0))⟩,
 ⟨(some 21), none, .pick (.s 17) (.c (.bool true)) (.s 20)⟩,
 ⟨(some 22), none, .mv (.s 21)⟩,
 ⟨(some 23), (some (22, false)), .faddr 5 (.s 3)⟩,
 ⟨(some 24), (some (22, false)), .load none (some 1) (.s 23)⟩,
 ⟨(some 25), (some (22, false)), .bin .gtr .int (.s 24) (.c (.int .i64 1000))⟩,
 ⟨(some 26), none, .pick (.s 22) (.c (.bool true)) (.s 25)⟩,
 ⟨(some 27), none, .mv (.s 26)⟩,
 ⟨(some 28), (some (27, false)), .faddr 8 (.s 3)⟩,
 ⟨(some 29), (some (27, false)), .load none (some 1) (.s 28)⟩,
 ⟨(some 30), (some (27, false)), .bin .lss .int (.s 29) (.c (.int .i64 0))⟩,
 ⟨(some 31), none, .pick (.s 27) (.c (.bool true)) (.s 30)⟩,
 ⟨(some 32), none, .mv (.s 31)⟩,
 ⟨(some 33), (some (32, false)), .faddr 8 (.s 3)⟩,
 ⟨(some 34), (some (32, false)), .load none (some 1) (.s 33)⟩,
 ⟨(some 35), (some (32, false)), .bin .gtr .int (.s 34) (.c (.int .i64 1000))⟩,
 ⟨(some 36), none, .pick (.s 32) (.c (.bool true)) (.s 35)⟩])
 (.cond (.s 36)
 (.seq
 (.region false [
 ⟨(some 4), none, .mv (.c (.bool false))⟩])
 .ret)
 .skip))
 (.seq
 (.seq
 (.region false [
 ⟨(some 5), none, .mv (.c (.int .i64 0))⟩])
 (.block 0
 (.loop [2, 3, 5] [0, 1]
 (.seq
 (.seq
 (.region false [
 ⟨(some 37), none, .mv (.s 5)⟩,
 ⟨(some 38), none, .faddr 4 (.s 3)⟩,
 ⟨(some 39), none, .load none (some 1) (.s 38)⟩,
 ⟨(some 40), none, .len (.s 39)⟩,
 ⟨(some 41), none, .bin .lss .int (.s 37) (.s 40)⟩])
 (.cond (.s 41)
 .skip
 (.exit 0)))
 (.seq
 (.block 1
 (.seq
 (.region true [
 ⟨(some 44), none, .load (some 2) (some 0) (.s 2)⟩,
 ⟨(some 45), none, .faddr 4 (.s 3)⟩,
 ⟨(some 46), none, .load none (some 1) (.s 45)⟩,
 ⟨(some 47), none, .mv (.s 5)⟩,
 ⟨(some 48), none, .iaddrS 3 (.s 46) (.s 47)⟩,
 ⟨(some 49), none, .load (some 3) none (.s 48)⟩,
 ⟨(some 50), none, .call (.c (.fn 47 [] [])) [(.s 44), (.s 49)] [] [] [] false⟩,
 ⟨(some 51), none, .un .not (.s 50)⟩])
 (.cond (.s 51)
 (.seq
 (.region false [
 ⟨(some 4), none, .mv (.c (.bool false))⟩])
 .ret)
 .skip)))
 (.region false [
 ⟨(some 42), none, .mv (.s 5)⟩,
 ⟨(some 43), none, .bin .add .int (.s 42) (.c (.int .i64 1))⟩,
 ⟨(some 5), none, .mv (.s 43)⟩]))))))
 (.seq
 (.seq
 (.region false [
 ⟨(some 52), none, .faddr 5 (.s 3)⟩,
 ⟨(some 53), none, .load none (some 1) (.s 52)⟩,
 ⟨(some 54), none, .bin .eql .int (.s 53) (.c (.int .i64 0))⟩])
 (.cond (.s 54)
 (.seq
 (.region false [
 ⟨(some 55), none, .faddr 6 (.s 3)⟩,
 ⟨(some 56), none, .load none (some 1) (.s 55)⟩,
 ⟨(some 57), none, .bin .eql .int (.s 56) (.c (.int .i64 0))⟩,
 ⟨(some 58), none, .mv (.s 57)⟩,
 ⟨(some 59), (some (58, true)), .faddr 7 (.s 3)⟩,
 ⟨(some 60), (some (58, true)), .load none (some 1) (.s 59)⟩,
 ⟨(some 61), (some (58, true)), .bin .eql .int (.s 60) (.c (.int .i64 0))⟩,
 ⟨(some 62), none, .pick (.s 58) (.s 61) (.c (.bool false))⟩,
 ⟨(some 4), none, .mv (.s 62)⟩])
 .ret)
 .skip))
 (.seq
 (.region false [
 ⟨(some 63), none, .faddr 6 (.s 3)⟩,
 ⟨(some 64), none, .load none (some 1) (.s 63)⟩,
 ⟨(some 65), none, .bin .geq .int (.s 64) (.c (.int .i64 0))⟩,
 ⟨(some 66), none, .mv (.s 65)⟩,
 ⟨(some 67), (some (66, true)), .faddr 6 (.s 3)⟩,
 ⟨(some 68), (some (66, true)), .load none (some 1) (.s 67)⟩,
 ⟨(some 69), (some (66, true)), .faddr 1 (.s 2)⟩,
 ⟨(some 70), (some (66, true)), .load none (some 0) (.s 69)⟩,
 ⟨(some 71), (some (66, true)), .bin .lss .int (.s 68) (.s 70)⟩,
 ⟨(some 72), none, .pick (.s 66) (.s 71) (.c (.bool false))⟩,
 ⟨(some 73), none, .mv (.s 72)⟩,
 ⟨(some 74), (some (73, true)), .faddr 7 (.s 3)⟩,
 ⟨(some 75), (some (73, true)), .load none (some 1) (.s 74)⟩,
 ⟨(some 76), (some (73, true)), .bin .geq .int (.s 75) (.c (.int .i64 1))⟩,
 ⟨(some 77), none, .pick (.s 73) (.s 76) (.c (.bool false))⟩,
 ⟨(some 78), none, .mv (.s 77)⟩,
 ⟨(some 79), (some (78, true)), .faddr 7 (.s 3)⟩,
 ⟨(some 80), (some (78, true)), .load none (some 1) (.s 79)⟩,
 ⟨(some 81), (some (78, true)), .bin .leq .int (.s 80) (.c (.int .i64 5))⟩,
 ⟨(some 82), none, .pick (.s 78) (.s 81) (.c (.bool false))⟩,
 ⟨(some 4), none, .mv (.s 82)⟩])
 .ret))))) }
/- cuboid/cuboidref25.Need -/
def f36 : MFun := { nt := 42, np := 2, no := 5, res := [.cell 4 2 (some 4)], body :=
 (.seq
 (.region false [
 ⟨(some 2), none, .box 0 (.s 0)⟩,
 ⟨(some 3), none, .box 1 (.s 1)⟩,
 ⟨(some 4), none, .alloc 2 [.int .u8 0, .int .u8 0, .int .u8 0, .int .u8 0]⟩])
 (.seq
 (.seq
 (.region false [
 ⟨(some 8), none, .load (some 2) (some 0) (.s 2)⟩,
 ⟨(some 9), none, .load (some 9) (some 1) (.s 3)⟩,
 ⟨(some 10), none, .call (.c (.fn 22 [] [])) [(.s 8), (.s 9)] [] [] [] false⟩,
 ⟨(some 11), none, .un .not (.s 10)⟩])
 (.cond (.s 11)
 (.seq
 (.region false [
 ⟨(some 12), none, .build [.int .u8 0, .int .u8 0, .int .u8 0, .int .u8 0] []⟩,
 ⟨none, none, .store 4 2 [] (.s 4) (.s 12)⟩])
 .ret)
 .skip))
 (.seq
 (.region false [
 ⟨(some 13), none, .faddr 0 (.s 3)⟩,
 ⟨(some 14), none, .load (some 4) (some 1) (.s 13)⟩,
 ⟨(some 5), none, .alloc 3 [.int .u8 0, .int .u8 0, .int .u8 0, .int .u8 0]⟩,
 ⟨none, none, .store 4 3 [] (.s 5) (.s 14)⟩])
 (.seq
 (.seq
 (.region false [
 ⟨(some 6), none, .mv (.c (.int .i64 0))⟩])
 (.block 0
 (.loop [3, 4, 5, 6] [1, 2, 3]
 (.seq
 (.seq
 (.region false [
 ⟨(some 15), none, .mv (.s 6)⟩,
 ⟨(some 16), none, .faddr 4 (.s 3)⟩,
 ⟨(some 17), none, .load none (some 1) (.s 16)⟩,
 ⟨(some 18), none, .len (.s 17)⟩,
 ⟨(some 19), none, .bin .lss .int (.s 15) (.s 18)⟩])
 (.cond (.s 19)
 .skip
 (.exit 0)))
 (.seq
 (.block 1
 (.seq
 (.region false [
 ⟨(some 22), none, .faddr 4 (.s 3)⟩,
 ⟨(some 23), none, .load none (some 1) (.s 22)⟩,
 ⟨(some 24), none, .mv (.s 6)⟩,
 ⟨(some 25), none, .iaddrS 3 (.s 23) (.s 24)⟩,
 ⟨(some 26), none, .load (some 3) none (.s 25)⟩,
 ⟨(some 7), none, .alloc 4 [.int .i64 0, .int .i64 0, .nilsl]⟩,
 ⟨none, none, .store 3 4 [] (.s 7) (.s 26)⟩])
 (.seq
 (.region true [
 ⟨(some 27), none, .faddr 1 (.s 7)⟩,
 ⟨(some 28), none, .load none (some 4) (.s 27)⟩,
 ⟨(some 29), none, .faddr 0 (.s 7)⟩,
 ⟨(some 30), none, .load none (some 4) (.s 29)⟩,
 ⟨(some 31), none, .iaddrA 4 1 (.s 5) (.s 30)⟩,
 ⟨(some 32), none, .load none (some 3) (.s 31)⟩,
 ⟨(some 33), none, .conv .i64 (.s 32)⟩,
 ⟨(some 34), none, .bin .lss .int (.s 28) (.s 33)⟩])
 (.cond (.s 34)
 (.region false [
 ⟨(some 35), none, .faddr 0 (.s 7)⟩,
 ⟨(some 36), none, .load none (some 4) (.s 35)⟩,
 ⟨(some 37), none, .faddr 1 (.s 7)⟩,
 ⟨(some 38), none, .load none (some 4) (.s 37)⟩,
 ⟨(some 39), none, .conv .u8 (.s 38)⟩,
 ⟨(some 40), none, .iaddrA 4 1 (.s 5) (.s 36)⟩,
 ⟨none, none, .store 1 3 [] (.s 40) (.s 39)⟩])
 .skip))))
 (.region false [
 ⟨(some 20), none, .mv (.s 6)⟩,
 ⟨(some 21), none, .bin .add .int (.s 20) (.c (.int .i64 1))⟩,
 ⟨(some 6), none, .mv (.s 21)⟩]))))))
 (.seq
 (.region false [
 ⟨(some 41), none, .load (some 4) (some 3) (.s 5)⟩,
 ⟨none, none, .store 4 2 [] (.s 4) (.s 41)⟩])
 .ret))))) }
/- cuboid/cuboidlaw25.told -/
def f12 : MFun := { nt := 61, np := 3, no := 4, res := [.slot 6], body :=
 (.seq
 (.region false [
 ⟨(some 3), none, .box 0 (.s 0)⟩,
 ⟨(some 4), none, .box 1 (.s 1)⟩,
 ⟨(some 5), none, .box 2 (.s 2)⟩,
 ⟨(some 6), none, .mv (.c (.bool false))⟩])
 (.seq
 (.region false [
 ⟨(some 11), none, .load (some 9) (some 1) (.s 4)⟩,
 ⟨(some 12), none, .call (.c (.fn 16 [] [])) [(.s 11)] [] [] [] true⟩,
 ⟨(some 10), none, .mv (.s 12)⟩,
 ⟨(some 13), none, .extract (.s 10) 0⟩,
 ⟨(some 14), none, .extract (.s 10) 1⟩,
 ⟨(some 7), none, .mv (.s 13)⟩,
 ⟨(some 8), none, .mv (.s 14)⟩])
 (.seq
 (.region false [
 ⟨(some 15), none, .load (some 9) (some 1) (.s 4)⟩,
 ⟨(some 16), none, .call (.c (.fn 19 [] [])) [(.s 15)] [] [] [] true⟩,
 ⟨(some 9), none, .alloc 3 [.nilsl, .bool false]⟩,
 ⟨none, none, .store 2 3 [] (.s 9) (.s 16)⟩])
 (.seq
 (.region true [
 ⟨(some 17), none, .load (some 2) (some 0) (.s 3)⟩,
 ⟨(some 18), none, .load (some 9) (some 1) (.s 4)⟩,
 ⟨(some 19), none, .call (.c (.fn 30 [] [])) [(.s 17), (.s 18)] [] [] [] false⟩,
 ⟨(some 20), none, .load (some 2) (some 0) (.s 3)⟩,
 ⟨(some 21), none, .load (some 9) (some 1) (.s 4)⟩,
 ⟨(some 22), none, .call (.c (.fn 22 [] [])) [(.s 20), (.s 21)] [] [] [] false⟩,
 ⟨(some 23), none, .bin .eql .bool (.s 19) (.s 22)⟩,
 ⟨(some 24), none, .mv (.s 23)⟩,
 ⟨(some 25), (some (24, true)), .load (some 2) (some 0) (.s 3)⟩,
 ⟨(some 26), (some (24, true)), .load (some 9) (some 1) (.s 4)⟩,
 ⟨(some 27), (some (24, true)), .call (.c (.fn 27 [] [])) [(.s 25), (.s 26)] [] [] [] false⟩,
 ⟨(some 28), (some (24, true)), .load (some 2) (some 0) (.s 3)⟩,
 ⟨(some 29), (some (24, true)), .load (some 9) (some 1) (.s 4)⟩,
 ⟨(some 30), (some (24, true)), .call (.c (.fn 36 [] [])) [(.s 28), (.s 29)] [] [] [] false⟩,
 ⟨(some 31), (some (24, true)), .bin .eql (.agg [some .u8, some .u8, some .u8, some .u8]) (.s 27) (.s 30)⟩,
 ⟨(some 32), none, .pick (.s 24) (.s 31) (.c (.bool false))⟩,
 ⟨(some 33), none, .mv (.s 32)⟩,
 ⟨(some 34), (some (33, true)), .load (some 9) (some 1) (.s 4)⟩,
 ⟨(some 35), (some (33, true)), .load (some 9) (some 2) (.s 5)⟩,
 ⟨(some 36), (some (33, true)), .call (.c (.fn 25 [] [])) [(.s 34), (.s 35)] [] [] [] false⟩,
 ⟨(some 37), (some (33, true)), .load (some 9) (some 1) (.s 4)⟩,
 ⟨(some 38), (some (33, true)), .load (some 9) (some 2) (.s 5)⟩,
 ⟨(some 39), (some (33, true)), .call (.c (.fn 18 [] [])) [(.s 37), (.s 38)] [] [] [] false⟩,
 ⟨(some 40), (some (33, true)), .bin .eql .bool (.s 36) (.s 39)⟩,
 ⟨(some 41), none, .pick (.s 33) (.s 40) (.c (.bool false))⟩,
 ⟨(some 42), none, .mv (.s 41)⟩,
 ⟨(some 43), (some (42, true)), .load (some 9) (some 1) (.s 4)⟩,
 ⟨(some 44), (some (42, true)), .load (some 9) (some 1) (.s 4)⟩,
 ⟨(some 45), (some (42, true)), .call (.c (.fn 25 [] [])) [(.s 43), (.s 44)] [] [] [] false⟩,
 ⟨(some 46), none, .pick (.s 42) (.s 45) (.c (.bool false))⟩,
 ⟨(some 47), none, .mv (.s 46)⟩,
 ⟨(some 48), (some (47, true)), .mv (.s 8)⟩,
 ⟨(some 49), (some (47, true)), .faddr 1 (.s 9)⟩,
 ⟨(some 50), (some (47, true)), .load none (some 3) (.s 49)⟩,
 ⟨(some 51), (some (47, true)), .bin .eql .bool (.s 48) (.s 50)⟩,
 ⟨(some 52), none, .pick (.s 47) (.s 51) (.c (.bool false))⟩,
 ⟨(some 53), none, .mv (.s 52)⟩,
 ⟨(some 54), (some (53, true)), .mv (.s 7)⟩,
 ⟨(some 55), (some (53, true)), .b2s none (.s 54)⟩,
 ⟨(some 56), (some (53, true)), .faddr 0 (.s 9)⟩,
 ⟨(some 57), (some (53, true)), .load none (some 3) (.s 56)⟩,
 ⟨(some 58), (some (53, true)), .b2s none (.s 57)⟩,
 ⟨(some 59), (some (53, true)), .bin .eql .str (.s 55) (.s 58)⟩,
 ⟨(some 60), none, .pick (.s 53) (.s 59) (.c (.bool false))⟩,
 ⟨(some 6), none, .mv (.s 60)⟩])
 .ret)))) }
/- cuboid/cuboidlaw25.QueryTells -/
def f3 : MFun := { nt := 31, np := 2, no := 2, res := [.slot 4], body :=
 (.seq
 (.region false [
 ⟨(some 2), none, .box 0 (.s 0)⟩,
 ⟨(some 3), none, .box 1 (.s 1)⟩,
 ⟨(some 4), none, .mv (.c (.bool false))⟩])
 (.seq
 (.seq
 (.region false [
 ⟨(some 5), none, .load (some 11) (some 0) (.s 2)⟩,
 ⟨(some 6), none, .call (.c (.fn 9 [] [])) [(.s 5)] [] [] [] false⟩,
 ⟨(some 7), none, .un .not (.s 6)⟩,
 ⟨(some 8), none, .mv (.s 7)⟩,
 ⟨(some 9), (some (8, false)), .load (some 9) (some 1) (.s 3)⟩,
 ⟨(some 10), (some (8, false)), .call (.c (.fn 10 [] [])) [(.s 9)] [] [] [] false⟩,
 ⟨(some 11), (some (8, false)), .un .not (.s 10)⟩,
 ⟨(some 12), none, .pick (.s 8) (.c (.bool true)) (.s 11)⟩])
 (.cond (.s 12)
 (.seq
 (.region false [
 ⟨(some 13), none, .call (.c (.fn 11 [] [])) [] [] [] [] false⟩,
 ⟨(some 4), none, .mv (.s 13)⟩])
 .ret)
 .skip))
 (.seq
 (.region false [
 ⟨(some 14), none, .faddr 0 (.s 2)⟩,
 ⟨(some 15), none, .load (some 2) (some 0) (.s 14)⟩,
 ⟨(some 16), none, .faddr 2 (.s 2)⟩,
 ⟨(some 17), none, .load (some 9) (some 0) (.s 16)⟩,
 ⟨(some 18), none, .load (some 9) (some 1) (.s 3)⟩,
 ⟨(some 19), none, .call (.c (.fn 12 [] [])) [(.s 15), (.s 17), (.s 18)] [] [] [] false⟩,
 ⟨(some 20), none, .mv (.s 19)⟩,
 ⟨(some 21), (some (20, true)), .faddr 0 (.s 2)⟩,
 ⟨(some 22), (some (20, true)), .load (some 2) (some 0) (.s 21)⟩,
 ⟨(some 23), (some (20, true)), .load (some 9) (some 1) (.s 3)⟩,
 ⟨(some 24), (some (20, true)), .faddr 2 (.s 2)⟩,
 ⟨(some 25), (some (20, true)), .load (some 9) (some 0) (.s 24)⟩,
 ⟨(some 26), (some (20, true)), .call (.c (.fn 12 [] [])) [(.s 22), (.s 23), (.s 25)] [] [] [] false⟩,
 ⟨(some 27), none, .pick (.s 20) (.s 26) (.c (.bool false))⟩,
 ⟨(some 28), none, .mv (.s 27)⟩,
 ⟨(some 29), (some (28, true)), .call (.c (.fn 11 [] [])) [] [] [] [] false⟩,
 ⟨(some 30), none, .pick (.s 28) (.s 29) (.c (.bool false))⟩,
 ⟨(some 4), none, .mv (.s 30)⟩])
 .ret))) }
/- cuboid/cuboidkeep.Mod -/
def f13 : MFun := { nt := 15, np := 2, no := 0, res := [.slot 4], body :=
 (.seq
 (.region false [
 ⟨(some 4), none, .mv (.c (.int .i64 0))⟩])
 (.seq
 (.region false [
 ⟨(some 6), none, .mv (.s 0)⟩,
 ⟨(some 7), none, .mv (.s 1)⟩,
 ⟨(some 8), none, .bin .rem .int (.s 6) (.s 7)⟩,
 ⟨(some 5), none, .mv (.s 8)⟩])
 (.seq
 (.seq
 (.region false [
 ⟨(some 9), none, .mv (.s 5)⟩,
 ⟨(some 10), none, .bin .lss .int (.s 9) (.c (.int .i64 0))⟩])
 (.cond (.s 10)
 (.region false [
 ⟨(some 11), none, .mv (.s 5)⟩,
 ⟨(some 12), none, .mv (.s 1)⟩,
 ⟨(some 13), none, .bin .add .int (.s 11) (.s 12)⟩,
 ⟨(some 5), none, .mv (.s 13)⟩])
 .skip))
 (.seq
 (.region false [
 ⟨(some 14), none, .mv (.s 5)⟩,
 ⟨(some 4), none, .mv (.s 14)⟩])
 .ret)))) }
/- cuboid/cuboidlaw25.same -/
def f20 : MFun := { nt := 17, np := 3, no := 2, res := [.slot 6], body :=
 (.seq
 (.region false [
 ⟨(some 3), none, .box 0 (.s 0)⟩,
 ⟨(some 5), none, .box 1 (.s 2)⟩,
 ⟨(some 6), none, .mv (.c (.bool false))⟩])
 (.seq
 (.region false [
 ⟨(some 7), none, .mv (.s 1)⟩,
 ⟨(some 8), none, .faddr 9 (.s 5)⟩,
 ⟨(some 9), none, .load none (some 1) (.s 8)⟩,
 ⟨(some 10), none, .bin .eql .bool (.s 7) (.s 9)⟩,
 ⟨(some 11), none, .mv (.s 10)⟩,
 ⟨(some 12), (some (11, true)), .load (some 9) (some 0) (.s 3)⟩,
 ⟨(some 13), (some (11, true)), .faddr 0 (.s 5)⟩,
 ⟨(some 14), (some (11, true)), .load (some 9) (some 1) (.s 13)⟩,
 ⟨(some 15), (some (11, true)), .call (.c (.fn 18 [] [])) [(.s 12), (.s 14)] [] [] [] false⟩,
 ⟨(some 16), none, .pick (.s 11) (.s 15) (.c (.bool false))⟩,
 ⟨(some 6), none, .mv (.s 16)⟩])
 .ret)) }
/- cuboid/cuboidref25.Dice -/
def f37 : MFun := { nt := 54, np := 4, no := 6, res := [.cell 8 3 (some 10)], body :=
 (.seq
 (.region false [
 ⟨(some 4), none, .box 0 (.s 0)⟩,
 ⟨(some 5), none, .box 1 (.s 1)⟩,
 ⟨(some 6), none, .box 2 (.s 2)⟩,
 ⟨(some 8), none, .alloc 3 [.int .u8 0, .int .u8 0, .int .u8 0, .int .u8 0, .nilsl, .int .i64 0, .int .i64 0, .int .i64 0, .int .i64 0, .bool false]⟩])
 (.seq
 (.seq
 (.region false [
 ⟨(some 9), none, .load (some 2) (some 0) (.s 4)⟩,
 ⟨(some 10), none, .load (some 9) (some 1) (.s 5)⟩,
 ⟨(some 11), none, .call (.c (.fn 22 [] [])) [(.s 9), (.s 10)] [] [4] [] false⟩,
 ⟨(some 12), none, .un .not (.s 11)⟩,
 ⟨(some 13), none, .mv (.s 12)⟩,
 ⟨(some 14), (some (13, false)), .load (some 2) (some 0) (.s 4)⟩,
 ⟨(some 15), (some (13, false)), .load (some 3) (some 2) (.s 6)⟩,
 ⟨(some 16), (some (13, false)), .call (.c (.fn 47 [] [])) [(.s 14), (.s 15)] [] [] [] false⟩,
 ⟨(some 17), (some (13, false)), .un .not (.s 16)⟩,
 ⟨(some 18), none, .pick (.s 13) (.c (.bool true)) (.s 17)⟩])
 (.cond (.s 18)
 (.seq
 (.region false [
 ⟨(some 19), none, .build [.int .u8 0, .int .u8 0, .int .u8 0, .int .u8 0, .nilsl, .int .i64 0, .int .i64 0, .int .i64 0, .int .i64 0, .bool false] []⟩,
 ⟨none, none, .store 10 3 [] (.s 8) (.s 19)⟩])
 .ret)
 .skip))
 (.seq
 (.region true [
 ⟨(some 20), none, .lit (some 4) [] 0 3 [.int .i64 0, .int .i64 0, .nilsl] []⟩,
 ⟨(some 21), none, .faddr 4 (.s 5)⟩,
 ⟨(some 22), none, .load none (some 1) (.s 21)⟩,
 ⟨(some 23), none, .append 40 3 4 (some 4) (.s 20) (.s 22)⟩,
 ⟨(some 24), none, .faddr 0 (.s 6)⟩,
 ⟨(some 25), none, .load none (some 2) (.s 24)⟩,
 ⟨(some 26), none, .faddr 1 (.s 6)⟩,
 ⟨(some 27), none, .load none (some 2) (.s 26)⟩,
 ⟨(some 28), none, .lit (some 5) [] 0 1 [.int .i64 0] []⟩,
 ⟨(some 29), none, .faddr 2 (.s 6)⟩,
 ⟨(some 30), none, .load none (some 2) (.s 29)⟩,
 ⟨(some 31), none, .append 8 1 5 none (.s 28) (.s 30)⟩,
 ⟨(some 32), none, .build [.int .i64 0, .int .i64 0, .nilsl] [(0, 1, (.s 25)), (1, 1, (.s 27)), (2, 1, (.s 31))]⟩,
 ⟨(some 33), none, .lit none [5] 1 3 [.int .i64 0, .int .i64 0, .nilsl] [(0, 3, (.s 32))]⟩,
 ⟨(some 34), none, .append 40 3 4 none (.s 23) (.s 33)⟩,
 ⟨(some 35), none, .faddr 4 (.s 5)⟩,
 ⟨none, none, .store 1 1 [] (.s 35) (.s 34)⟩])
 (.seq
 (.seq
 (.region false [
 ⟨(some 36), none, .mv (.s 3)⟩])
 (.cond (.s 36)
 (.region true [
 ⟨(some 37), none, .faddr 0 (.s 6)⟩,
 ⟨(some 38), none, .load none (some 2) (.s 37)⟩,
 ⟨(some 39), none, .load (some 2) (some 0) (.s 4)⟩,
 ⟨(some 40), none, .faddr 0 (.s 6)⟩,
 ⟨(some 41), none, .load none (some 2) (.s 40)⟩,
 ⟨(some 42), none, .call (.c (.fn 15 [] [])) [(.s 39), (.s 41)] [] [] [] false⟩,
 ⟨(some 43), none, .bin .sub .int (.s 42) (.c (.int .i64 1))⟩,
 ⟨(some 44), none, .conv .u8 (.s 43)⟩,
 ⟨(some 45), none, .faddr 0 (.s 5)⟩,
 ⟨(some 46), none, .iaddrA 4 1 (.s 45) (.s 38)⟩,
 ⟨none, none, .store 1 1 [] (.s 46) (.s 44)⟩])
 .skip))
 (.seq
 (.seq
 (.region false [
 ⟨(some 47), none, .load (some 2) (some 0) (.s 4)⟩,
 ⟨(some 48), none, .load (some 9) (some 1) (.s 5)⟩,
 ⟨(some 49), none, .call (.c (.fn 22 [] [])) [(.s 47), (.s 48)] [] [4] [] false⟩,
 ⟨(some 50), none, .un .not (.s 49)⟩])
 (.cond (.s 50)
 (.seq
 (.region false [
 ⟨(some 51), none, .build [.int .u8 0, .int .u8 0, .int .u8 0, .int .u8 0, .nilsl, .int .i64 0, .int .i64 0, .int .i64 0, .int .i64 0, .bool false] []⟩,
 ⟨none, none, .store 10 3 [] (.s 8) (.s 51)⟩])
 .ret)
 .skip))
 (.seq
 (.region false [
 ⟨(some 52), none, .load (some 9) (some 1) (.s 5)⟩,
 ⟨(some 53), none, .build [.int .u8 0, .int .u8 0, .int .u8 0, .int .u8 0, .nilsl, .int .i64 0, .int .i64 0, .int .i64 0, .int .i64 0, .bool false] [(0, 9, (.s 52)), (9, 1, (.c (.bool true)))]⟩,
 ⟨none, none, .store 10 3 [] (.s 8) (.s 53)⟩])
 .ret)))))) }
/- cuboid/cuboidref25.Turn -/
def f38 : MFun := { nt := 50, np := 4, no := 3, res := [.cell 8 2 (some 10)], body :=
 (.seq
 (.region false [
 ⟨(some 4), none, .box 0 (.s 0)⟩,
 ⟨(some 5), none, .box 1 (.s 1)⟩,
 ⟨(some 8), none, .alloc 2 [.int .u8 0, .int .u8 0, .int .u8 0, .int .u8 0, .nilsl, .int .i64 0, .int .i64 0, .int .i64 0, .int .i64 0, .bool false]⟩])
 (.seq
 (.seq
 (.region false [
 ⟨(some 10), none, .load (some 2) (some 0) (.s 4)⟩,
 ⟨(some 11), none, .load (some 9) (some 1) (.s 5)⟩,
 ⟨(some 12), none, .call (.c (.fn 22 [] [])) [(.s 10), (.s 11)] [] [] [] false⟩,
 ⟨(some 13), none, .un .not (.s 12)⟩,
 ⟨(some 14), none, .mv (.s 13)⟩,
 ⟨(some 15), (some (14, false)), .mv (.s 2)⟩,
 ⟨(some 16), (some (14, false)), .bin .lss .int (.s 15) (.c (.int .i64 0))⟩,
 ⟨(some 17), none, .pick (.s 14) (.c (.bool true)) (.s 16)⟩,
 ⟨(some 18), none, .mv (.s 17)⟩,
 ⟨(some 19), (some (18, false)), .mv (.s 2)⟩,
 ⟨(some 20), (some (18, false)), .faddr 0 (.s 4)⟩,
 ⟨(some 21), (some (18, false)), .load none (some 0) (.s 20)⟩,
 ⟨(some 22), (some (18, false)), .len (.s 21)⟩,
 ⟨(some 23), (some (18, false)), .bin .geq .int (.s 19) (.s 22)⟩,
 ⟨(some 24), none, .pick (.s 18) (.c (.bool true)) (.s 23)⟩])
 (.cond (.s 24)
 (.seq
 (.region false [
 ⟨(some 25), none, .build [.int .u8 0, .int .u8 0, .int .u8 0, .int .u8 0, .nilsl, .int .i64 0, .int .i64 0, .int .i64 0, .int .i64 0, .bool false] []⟩,
 ⟨none, none, .store 10 2 [] (.s 8) (.s 25)⟩])
 .ret)
 .skip))
 (.seq
 (.region false [
 ⟨(some 26), none, .mv (.s 2)⟩,
 ⟨(some 27), none, .faddr 0 (.s 5)⟩,
 ⟨(some 28), none, .iaddrA 4 1 (.s 27) (.s 26)⟩,
 ⟨(some 29), none, .load none (some 1) (.s 28)⟩,
 ⟨(some 30), none, .conv .i64 (.s 29)⟩,
 ⟨(some 31), none, .mv (.s 3)⟩,
 ⟨(some 32), none, .bin .add .int (.s 30) (.s 31)⟩,
 ⟨(some 9), none, .mv (.s 32)⟩])
 (.seq
 (.seq
 (.region false [
 ⟨(some 33), none, .mv (.s 9)⟩,
 ⟨(some 34), none, .bin .lss .int (.s 33) (.c (.int .i64 0))⟩,
 ⟨(some 35), none, .mv (.s 34)⟩,
 ⟨(some 36), (some (35, false)), .mv (.s 9)⟩,
 ⟨(some 37), (some (35, false)), .load (some 2) (some 0) (.s 4)⟩,
 ⟨(some 38), (some (35, false)), .mv (.s 2)⟩,
 ⟨(some 39), (some (35, false)), .call (.c (.fn 15 [] [])) [(.s 37), (.s 38)] [] [] [] false⟩,
 ⟨(some 40), (some (35, false)), .bin .geq .int (.s 36) (.s 39)⟩,
 ⟨(some 41), none, .pick (.s 35) (.c (.bool true)) (.s 40)⟩])
 (.cond (.s 41)
 (.seq
 (.region false [
 ⟨(some 42), none, .build [.int .u8 0, .int .u8 0, .int .u8 0, .int .u8 0, .nilsl, .int .i64 0, .int .i64 0, .int .i64 0, .int .i64 0, .bool false] []⟩,
 ⟨none, none, .store 10 2 [] (.s 8) (.s 42)⟩])
 .ret)
 .skip))
 (.seq
 (.region false [
 ⟨(some 43), none, .mv (.s 2)⟩,
 ⟨(some 44), none, .mv (.s 9)⟩,
 ⟨(some 45), none, .conv .u8 (.s 44)⟩,
 ⟨(some 46), none, .faddr 0 (.s 5)⟩,
 ⟨(some 47), none, .iaddrA 4 1 (.s 46) (.s 43)⟩,
 ⟨none, none, .store 1 1 [] (.s 47) (.s 45)⟩])
 (.seq
 (.region false [
 ⟨(some 48), none, .load (some 9) (some 1) (.s 5)⟩,
 ⟨(some 49), none, .build [.int .u8 0, .int .u8 0, .int .u8 0, .int .u8 0, .nilsl, .int .i64 0, .int .i64 0, .int .i64 0, .int .i64 0, .bool false] [(0, 9, (.s 48)), (9, 1, (.c (.bool true)))]⟩,
 ⟨none, none, .store 10 2 [] (.s 8) (.s 49)⟩])
 .ret)))))) }
/- cuboid/cuboidlaw25.turns -/
def f14 : MFun := { nt := 165, np := 3, no := 12, res := [.slot 6], body :=
 (.seq
 (.region false [
 ⟨(some 3), none, .box 0 (.s 0)⟩,
 ⟨(some 4), none, .box 1 (.s 1)⟩,
 ⟨(some 5), none, .box 2 (.s 2)⟩,
 ⟨(some 6), none, .mv (.c (.bool false))⟩])
 (.seq
 (.region false [
 ⟨(some 23), none, .load (some 2) (some 0) (.s 3)⟩,
 ⟨(some 24), none, .load (some 9) (some 1) (.s 4)⟩,
 ⟨(some 25), none, .iaddrA 3 1 (.s 5) (.c (.int .i64 0))⟩,
 ⟨(some 26), none, .load none (some 2) (.s 25)⟩,
 ⟨(some 27), none, .iaddrA 3 1 (.s 5) (.c (.int .i64 1))⟩,
 ⟨(some 28), none, .load none (some 2) (.s 27)⟩,
 ⟨(some 29), none, .iaddrA 3 1 (.s 5) (.c (.int .i64 2))⟩,
 ⟨(some 30), none, .load none (some 2) (.s 29)⟩,
 ⟨(some 31), none, .call (.c (.fn 35 [] [])) [(.s 23), (.s 24), (.s 26), (.s 28), (.s 30)] [] [] [] true⟩,
 ⟨(some 22), none, .mv (.s 31)⟩,
 ⟨(some 32), none, .extract (.s 22) 0⟩,
 ⟨(some 33), none, .extract (.s 22) 1⟩,
 ⟨(some 7), none, .alloc 3 [.int .u8 0, .int .u8 0, .int .u8 0, .int .u8 0, .nilsl, .int .i64 0, .int .i64 0, .int .i64 0, .int .i64 0]⟩,
 ⟨none, none, .store 9 3 [] (.s 7) (.s 32)⟩,
 ⟨(some 8), none, .mv (.s 33)⟩])
 (.seq
 (.region false [
 ⟨(some 35), none, .load (some 2) (some 0) (.s 3)⟩,
 ⟨(some 36), none, .load (some 9) (some 1) (.s 4)⟩,
 ⟨(some 37), none, .iaddrA 3 1 (.s 5) (.c (.int .i64 0))⟩,
 ⟨(some 38), none, .load none (some 2) (.s 37)⟩,
 ⟨(some 39), none, .iaddrA 3 1 (.s 5) (.c (.int .i64 1))⟩,
 ⟨(some 40), none, .load none (some 2) (.s 39)⟩,
 ⟨(some 41), none, .iaddrA 3 1 (.s 5) (.c (.int .i64 2))⟩,
 ⟨(some 42), none, .load none (some 2) (.s 41)⟩,
 ⟨(some 43), none, .lit none [] 1 1 [.int .i64 0] [(0, 1, (.s 42))]⟩,
 ⟨(some 44), none, .call (.c (.fn 34 [] [])) [(.s 35), (.s 36), (.s 38), (.s 40), (.s 43)] [] [] [] true⟩,
 ⟨(some 34), none, .mv (.s 44)⟩,
 ⟨(some 45), none, .extract (.s 34) 0⟩,
 ⟨(some 46), none, .extract (.s 34) 1⟩,
 ⟨(some 9), none, .alloc 4 [.int .u8 0, .int .u8 0, .int .u8 0, .int .u8 0, .nilsl, .int .i64 0, .int .i64 0, .int .i64 0, .int .i64 0]⟩,
 ⟨none, none, .store 9 4 [] (.s 9) (.s 45)⟩,
 ⟨(some 10), none, .mv (.s 46)⟩])
 (.seq
 (.region false [
 ⟨(some 48), none, .load (some 2) (some 0) (.s 3)⟩,
 ⟨(some 49), none, .load (some 9) (some 1) (.s 4)⟩,
 ⟨(some 50), none, .iaddrA 3 1 (.s 5) (.c (.int .i64 0))⟩,
 ⟨(some 51), none, .load none (some 2) (.s 50)⟩,
 ⟨(some 52), none, .iaddrA 3 1 (.s 5) (.c (.int .i64 1))⟩,
 ⟨(some 53), none, .load none (some 2) (.s 52)⟩,
 ⟨(some 54), none, .iaddrA 3 1 (.s 5) (.c (.int .i64 2))⟩,
 ⟨(some 55), none, .load none (some 2) (.s 54)⟩,
 ⟨(some 56), none, .iaddrA 3 1 (.s 5) (.c (.int .i64 1))⟩,
 ⟨(some 57), none, .load none (some 2) (.s 56)⟩,
 ⟨(some 58), none, .lit none [] 2 1 [.int .i64 0] [(0, 1, (.s 55)), (1, 1, (.s 57))]⟩,
 ⟨(some 59), none, .call (.c (.fn 34 [] [])) [(.s 48), (.s 49), (.s 51), (.s 53), (.s 58)] [] [] [] true⟩,
 ⟨(some 47), none, .mv (.s 59)⟩,
 ⟨(some 60), none, .extract (.s 47) 0⟩,
 ⟨(some 61), none, .extract (.s 47) 1⟩,
 ⟨(some 11), none, .alloc 5 [.int .u8 0, .int .u8 0, .int .u8 0, .int .u8 0, .nilsl, .int .i64 0, .int .i64 0, .int .i64 0, .int .i64 0]⟩,
 ⟨none, none, .store 9 5 [] (.s 11) (.s 60)⟩,
 ⟨(some 12), none, .mv (.s 61)⟩])
 (.seq
 (.region false [
 ⟨(some 63), none, .load (some 2) (some 0) (.s 3)⟩,
 ⟨(some 64), none, .load (some 9) (some 1) (.s 4)⟩,
 ⟨(some 65), none, .iaddrA 3 1 (.s 5) (.c (.int .i64 0))⟩,
 ⟨(some 66), none, .load none (some 2) (.s 65)⟩,
 ⟨(some 67), none, .iaddrA 3 1 (.s 5) (.c (.int .i64 1))⟩,
 ⟨(some 68), none, .load none (some 2) (.s 67)⟩,
 ⟨(some 69), none, .call (.c (.fn 34 [] [])) [(.s 63), (.s 64), (.s 66), (.s 68), (.c .nilsl)] [] [] [] true⟩,
 ⟨(some 62), none, .mv (.s 69)⟩,
 ⟨(some 70), none, .extract (.s 62) 0⟩,
 ⟨(some 71), none, .extract (.s 62) 1⟩,
 ⟨(some 13), none, .alloc 6 [.int .u8 0, .int .u8 0, .int .u8 0, .int .u8 0, .nilsl, .int .i64 0, .int .i64 0, .int .i64 0, .int .i64 0]⟩,
 ⟨none, none, .store 9 6 [] (.s 13) (.s 70)⟩,
 ⟨(some 14), none, .mv (.s 71)⟩])
 (.seq
 (.region false [
 ⟨(some 73), none, .load (some 2) (some 0) (.s 3)⟩,
 ⟨(some 74), none, .load (some 9) (some 1) (.s 4)⟩,
 ⟨(some 75), none, .iaddrA 3 1 (.s 5) (.c (.int .i64 0))⟩,
 ⟨(some 76), none, .load none (some 2) (.s 75)⟩,
 ⟨(some 77), none, .call (.c (.fn 23 [] [])) [(.s 73), (.s 74), (.s 76)] [] [] [] true⟩,
 ⟨(some 72), none, .mv (.s 77)⟩,
 ⟨(some 78), none, .extract (.s 72) 0⟩,
 ⟨(some 79), none, .extract (.s 72) 1⟩,
 ⟨(some 15), none, .alloc 7 [.int .u8 0, .int .u8 0, .int .u8 0, .int .u8 0, .nilsl, .int .i64 0, .int .i64 0, .int .i64 0, .int .i64 0]⟩,
 ⟨none, none, .store 9 7 [] (.s 15) (.s 78)⟩,
 ⟨(some 16), none, .mv (.s 79)⟩])
 (.seq
 (.region false [
 ⟨(some 81), none, .load (some 2) (some 0) (.s 3)⟩,
 ⟨(some 82), none, .load (some 9) (some 1) (.s 4)⟩,
 ⟨(some 83), none, .iaddrA 3 1 (.s 5) (.c (.int .i64 0))⟩,
 ⟨(some 84), none, .load none (some 2) (.s 83)⟩,
 ⟨(some 85), none, .call (.c (.fn 24 [] [])) [(.s 81), (.s 82), (.s 84)] [] [] [] true⟩,
 ⟨(some 80), none, .mv (.s 85)⟩,
 ⟨(some 86), none, .extract (.s 80) 0⟩,
 ⟨(some 87), none, .extract (.s 80) 1⟩,
 ⟨(some 17), none, .alloc 8 [.int .u8 0, .int .u8 0, .int .u8 0, .int .u8 0, .nilsl, .int .i64 0, .int .i64 0, .int .i64 0, .int .i64 0]⟩,
 ⟨none, none, .store 9 8 [] (.s 17) (.s 86)⟩,
 ⟨(some 18), none, .mv (.s 87)⟩])
 (.seq
 (.region false [
 ⟨(some 88), none, .iaddrA 3 1 (.s 5) (.c (.int .i64 0))⟩,
 ⟨(some 89), none, .load none (some 2) (.s 88)⟩,
 ⟨(some 90), none, .iaddrA 3 1 (.s 5) (.c (.int .i64 1))⟩,
 ⟨(some 91), none, .load none (some 2) (.s 90)⟩,
 ⟨(some 92), none, .iaddrA 3 1 (.s 5) (.c (.int .i64 2))⟩,
 ⟨(some 93), none, .load none (some 2) (.s 92)⟩,
 ⟨(some 94), none, .lit none [] 1 1 [.int .i64 0] [(0, 1, (.s 93))]⟩,
 ⟨(some 95), none, .build [.int .i64 0, .int .i64 0, .nilsl] [(0, 1, (.s 89)), (1, 1, (.s 91)), (2, 1, (.s 94))]⟩,
 ⟨(some 19), none, .alloc 9 [.int .i64 0, .int .i64 0, .nilsl]⟩,
 ⟨none, none, .store 3 9 [] (.s 19) (.s 95)⟩])
 (.seq
 (.region false [
 ⟨(some 96), none, .iaddrA 3 1 (.s 5) (.c (.int .i64 0))⟩,
 ⟨(some 97), none, .load none (some 2) (.s 96)⟩,
 ⟨(some 98), none, .iaddrA 3 1 (.s 5) (.c (.int .i64 1))⟩,
 ⟨(some 99), none, .load none (some 2) (.s 98)⟩,
 ⟨(some 100), none, .iaddrA 3 1 (.s 5) (.c (.int .i64 2))⟩,
 ⟨(some 101), none, .load none (some 2) (.s 100)⟩,
 ⟨(some 102), none, .iaddrA 3 1 (.s 5) (.c (.int .i64 1))⟩,
 ⟨(some 103), none, .load none (some 2) (.s 102)⟩,
 ⟨(some 104), none, .lit none [] 2 1 [.int .i64 0] [(0, 1, (.s 101)), (1, 1, (.s 103))]⟩,
 ⟨(some 105), none, .build [.int .i64 0, .int .i64 0, .nilsl] [(0, 1, (.s 97)), (1, 1, (.s 99)), (2, 1, (.s 104))]⟩,
 ⟨(some 20), none, .alloc 10 [.int .i64 0, .int .i64 0, .nilsl]⟩,
 ⟨none, none, .store 3 10 [] (.s 20) (.s 105)⟩])
 (.seq
 (.region false [
 ⟨(some 106), none, .iaddrA 3 1 (.s 5) (.c (.int .i64 0))⟩,
 ⟨(some 107), none, .load none (some 2) (.s 106)⟩,
 ⟨(some 108), none, .iaddrA 3 1 (.s 5) (.c (.int .i64 1))⟩,
 ⟨(some 109), none, .load none (some 2) (.s 108)⟩,
 ⟨(some 110), none, .build [.int .i64 0, .int .i64 0, .nilsl] [(0, 1, (.s 107)), (1, 1, (.s 109))]⟩,
 ⟨(some 21), none, .alloc 11 [.int .i64 0, .int .i64 0, .nilsl]⟩,
 ⟨none, none, .store 3 11 [] (.s 21) (.s 110)⟩])
 (.seq
 (.region true [
 ⟨(some 111), none, .load (some 9) (some 3) (.s 7)⟩,
 ⟨(some 112), none, .mv (.s 8)⟩,
 ⟨(some 113), none, .load (some 2) (some 0) (.s 3)⟩,
 ⟨(some 114), none, .load (some 9) (some 1) (.s 4)⟩,
 ⟨(some 115), none, .load (some 3) (some 9) (.s 19)⟩,
 ⟨(some 116), none, .call (.c (.fn 37 [] [])) [(.s 113), (.s 114), (.s 115), (.c (.bool true))] [] [] [] true⟩,
 ⟨(some 117), none, .call (.c (.fn 20 [] [])) [(.s 111), (.s 112), (.s 116)] [] [] [] false⟩,
 ⟨(some 118), none, .mv (.s 117)⟩,
 ⟨(some 119), (some (118, true)), .load (some 9) (some 4) (.s 9)⟩,
 ⟨(some 120), (some (118, true)), .mv (.s 10)⟩,
 ⟨(some 121), (some (118, true)), .load (some 2) (some 0) (.s 3)⟩,
 ⟨(some 122), (some (118, true)), .load (some 9) (some 1) (.s 4)⟩,
 ⟨(some 123), (some (118, true)), .load (some 3) (some 9) (.s 19)⟩,
 ⟨(some 124), (some (118, true)), .call (.c (.fn 37 [] [])) [(.s 121), (.s 122), (.s 123), (.c (.bool false))] [] [] [] true⟩,
 ⟨(some 125), (some (118, true)), .call (.c (.fn 20 [] [])) [(.s 119), (.s 120), (.s 124)] [] [] [] false⟩,
 ⟨(some 126), none, .pick (.s 118) (.s 125) (.c (.bool false))⟩,
 ⟨(some 127), none, .mv (.s 126)⟩,
 ⟨(some 128), (some (127, true)), .load (some 9) (some 5) (.s 11)⟩,
 ⟨(some 129), (some (127, true)), .mv (.s 12)⟩,
 ⟨(some 130), (some (127, true)), .load (some 2) (some 0) (.s 3)⟩,
 ⟨(some 131), (some (127, true)), .load (some 9) (some 1) (.s 4)⟩,
 ⟨(some 132), (some (127, true)), .load (some 3) (some 10) (.s 20)⟩,
 ⟨(some 133), (some (127, true)), .call (.c (.fn 37 [] [])) [(.s 130), (.s 131), (.s 132), (.c (.bool false))] [] [] [] true⟩,
 ⟨(some 134), (some (127, true)), .call (.c (.fn 20 [] [])) [(.s 128), (.s 129), (.s 133)] [] [] [] false⟩,
 ⟨(some 135), none, .pick (.s 127) (.s 134) (.c (.bool false))⟩,
 ⟨(some 136), none, .mv (.s 135)⟩,
 ⟨(some 137), (some (136, true)), .load (some 9) (some 6) (.s 13)⟩,
 ⟨(some 138), (some (136, true)), .mv (.s 14)⟩,
 ⟨(some 139), (some (136, true)), .load (some 2) (some 0) (.s 3)⟩,
 ⟨(some 140), (some (136, true)), .load (some 9) (some 1) (.s 4)⟩,
 ⟨(some 141), (some (136, true)), .load (some 3) (some 11) (.s 21)⟩,
 ⟨(some 142), (some (136, true)), .call (.c (.fn 37 [] [])) [(.s 139), (.s 140), (.s 141), (.c (.bool false))] [] [] [] true⟩,
 ⟨(some 143), (some (136, true)), .call (.c (.fn 20 [] [])) [(.s 137), (.s 138), (.s 142)] [] [] [] false⟩,
 ⟨(some 144), none, .pick (.s 136) (.s 143) (.c (.bool false))⟩,
 ⟨(some 145), none, .mv (.s 144)⟩,
 ⟨(some 146), (some (145, true)), .load (some 9) (some 7) (.s 15)⟩,
 ⟨(some 147), (some (145, true)), .mv (.s 16)⟩,
 ⟨(some 148), (some (145, true)), .load (some 2) (some 0) (.s 3)⟩,
 ⟨(some 149), (some (145, true)), .load (some 9) (some 1) (.s 4)⟩,
 ⟨(some 150), (some (145, true)), .iaddrA 3 1 (.s 5) (.c (.int .i64 0))⟩,
 ⟨(some 151), (some (145, true)), .load none (some 2) (.s 150)⟩,
 ⟨(some 152), (some (145, true)), .call (.c (.fn 38 [] [])) [(.s 148), (.s 149), (.s 151), (.c (.int .i64 1))] [] [] [] true⟩,
 ⟨(some 153), (some (145, true)), .call (.c (.fn 20 [] [])) [(.s 146), (.s 147), (.s 152)] [] [] [] false⟩,
 ⟨(some 154), none, .pick (.s 145) (.s 153) (.c (.bool false))⟩,
 ⟨(some 155), none, .mv (.s 154)⟩,
 ⟨(some 156), (some (155, true)), .load (some 9) (some 8) (.s 17)⟩,
 ⟨(some 157), (some (155, true)), .mv (.s 18)⟩,
 ⟨(some 158), (some (155, true)), .load (some 2) (some 0) (.s 3)⟩,
 ⟨(some 159), (some (155, true)), .load (some 9) (some 1) (.s 4)⟩,
 ⟨(some 160), (some (155, true)), .iaddrA 3 1 (.s 5) (.c (.int .i64 0))⟩,
 ⟨(some 161), (some (155, true)), .load none (some 2) (.s 160)⟩,
 ⟨(some 162), (some (155, true)), .call (.c (.fn 38 [] [])) [(.s 158), (.s 159), (.s 161), (.c (.int .i64 (-1)))] [] [] [] true⟩,
 ⟨(some 163), (some (155, true)), .call (.c (.fn 20 [] [])) [(.s 156), (.s 157), (.s 162)] [] [] [] false⟩,
 ⟨(some 164), none, .pick (.s 155) (.s 163) (.c (.bool false))⟩,
 ⟨(some 6), none, .mv (.s 164)⟩])
 .ret))))))))))) }
/- cuboid/cuboidlaw25.QueryTurns -/
def f4 : MFun := { nt := 67, np := 2, no := 3, res := [.slot 4], body :=
 (.seq
 (.region false [
 ⟨(some 2), none, .box 0 (.s 0)⟩,
 ⟨(some 3), none, .box 1 (.s 1)⟩,
 ⟨(some 4), none, .mv (.c (.bool false))⟩])
 (.seq
 (.seq
 (.region false [
 ⟨(some 6), none, .load (some 11) (some 0) (.s 2)⟩,
 ⟨(some 7), none, .call (.c (.fn 9 [] [])) [(.s 6)] [] [] [] false⟩,
 ⟨(some 8), none, .un .not (.s 7)⟩])
 (.cond (.s 8)
 (.seq
 (.region false [
 ⟨(some 9), none, .call (.c (.fn 11 [] [])) [] [] [] [] false⟩,
 ⟨(some 4), none, .mv (.s 9)⟩])
 .ret)
 .skip))
 (.seq
 (.region true [
 ⟨(some 10), none, .iaddrA 3 1 (.s 3) (.c (.int .i64 0))⟩,
 ⟨(some 11), none, .load none (some 1) (.s 10)⟩,
 ⟨(some 12), none, .call (.c (.fn 13 [] [])) [(.s 11), (.c (.int .i64 4))] [] [] [] false⟩,
 ⟨(some 13), none, .iaddrA 3 1 (.s 3) (.c (.int .i64 1))⟩,
 ⟨(some 14), none, .load none (some 1) (.s 13)⟩,
 ⟨(some 15), none, .call (.c (.fn 13 [] [])) [(.s 14), (.c (.int .i64 5))] [] [] [] false⟩,
 ⟨(some 16), none, .iaddrA 3 1 (.s 3) (.c (.int .i64 2))⟩,
 ⟨(some 17), none, .load none (some 1) (.s 16)⟩,
 ⟨(some 18), none, .call (.c (.fn 13 [] [])) [(.s 17), (.c (.int .i64 6))] [] [] [] false⟩,
 ⟨(some 19), none, .build [.int .i64 0, .int .i64 0, .int .i64 0] [(0, 1, (.s 12)), (1, 1, (.s 15)), (2, 1, (.s 18))]⟩,
 ⟨(some 5), none, .alloc 2 [.int .i64 0, .int .i64 0, .int .i64 0]⟩,
 ⟨none, none, .store 3 2 [] (.s 5) (.s 19)⟩])
 (.seq
 (.region true [
 ⟨(some 20), none, .faddr 0 (.s 2)⟩,
 ⟨(some 21), none, .load (some 2) (some 0) (.s 20)⟩,
 ⟨(some 22), none, .faddr 2 (.s 2)⟩,
 ⟨(some 23), none, .load (some 9) (some 0) (.s 22)⟩,
 ⟨(some 24), none, .load (some 3) (some 1) (.s 3)⟩,
 ⟨(some 25), none, .call (.c (.fn 14 [] [])) [(.s 21), (.s 23), (.s 24)] [] [] [] false⟩,
 ⟨(some 26), none, .mv (.s 25)⟩,
 ⟨(some 27), (some (26, true)), .faddr 0 (.s 2)⟩,
 ⟨(some 28), (some (26, true)), .load (some 2) (some 0) (.s 27)⟩,
 ⟨(some 29), (some (26, true)), .faddr 2 (.s 2)⟩,
 ⟨(some 30), (some (26, true)), .load (some 9) (some 0) (.s 29)⟩,
 ⟨(some 31), (some (26, true)), .load (some 3) (some 2) (.s 5)⟩,
 ⟨(some 32), (some (26, true)), .call (.c (.fn 14 [] [])) [(.s 28), (.s 30), (.s 31)] [] [] [] false⟩,
 ⟨(some 33), none, .pick (.s 26) (.s 32) (.c (.bool false))⟩,
 ⟨(some 34), none, .mv (.s 33)⟩,
 ⟨(some 35), (some (34, true)), .faddr 0 (.s 2)⟩,
 ⟨(some 36), (some (34, true)), .load (some 2) (some 0) (.s 35)⟩,
 ⟨(some 37), (some (34, true)), .faddr 2 (.s 2)⟩,
 ⟨(some 38), (some (34, true)), .load (some 9) (some 0) (.s 37)⟩,
 ⟨(some 39), (some (34, true)), .iaddrA 3 1 (.s 5) (.c (.int .i64 0))⟩,
 ⟨(some 40), (some (34, true)), .load none (some 2) (.s 39)⟩,
 ⟨(some 41), (some (34, true)), .iaddrA 3 1 (.s 5) (.c (.int .i64 1))⟩,
 ⟨(some 42), (some (34, true)), .load none (some 2) (.s 41)⟩,
 ⟨(some 43), (some (34, true)), .iaddrA 3 1 (.s 3) (.c (.int .i64 2))⟩,
 ⟨(some 44), (some (34, true)), .load none (some 1) (.s 43)⟩,
 ⟨(some 45), (some (34, true)), .build [.int .i64 0, .int .i64 0, .int .i64 0] [(0, 1, (.s 40)), (1, 1, (.s 42)), (2, 1, (.s 44))]⟩,
 ⟨(some 46), (some (34, true)), .call (.c (.fn 14 [] [])) [(.s 36), (.s 38), (.s 45)] [] [] [] false⟩,
 ⟨(some 47), none, .pick (.s 34) (.s 46) (.c (.bool false))⟩,
 ⟨(some 48), none, .mv (.s 47)⟩,
 ⟨(some 49), (some (48, true)), .faddr 0 (.s 2)⟩,
 ⟨(some 50), (some (48, true)), .load (some 2) (some 0) (.s 49)⟩,
 ⟨(some 51), (some (48, true)), .faddr 2 (.s 2)⟩,
 ⟨(some 52), (some (48, true)), .load (some 9) (some 0) (.s 51)⟩,
 ⟨(some 53), (some (48, true)), .iaddrA 3 1 (.s 5) (.c (.int .i64 0))⟩,
 ⟨(some 54), (some (48, true)), .load none (some 2) (.s 53)⟩,
 ⟨(some 55), (some (48, true)), .faddr 0 (.s 2)⟩,
 ⟨(some 56), (some (48, true)), .load (some 2) (some 0) (.s 55)⟩,
 ⟨(some 57), (some (48, true)), .iaddrA 3 1 (.s 5) (.c (.int .i64 0))⟩,
 ⟨(some 58), (some (48, true)), .load none (some 2) (.s 57)⟩,
 ⟨(some 59), (some (48, true)), .call (.c (.fn 15 [] [])) [(.s 56), (.s 58)] [] [] [] false⟩,
 ⟨(some 60), (some (48, true)), .bin .sub .int (.s 59) (.c (.int .i64 1))⟩,
 ⟨(some 61), (some (48, true)), .build [.int .i64 0, .int .i64 0, .int .i64 0] [(0, 1, (.s 54)), (1, 1, (.s 60)), (2, 1, (.c (.int .i64 0)))]⟩,
 ⟨(some 62), (some (48, true)), .call (.c (.fn 14 [] [])) [(.s 50), (.s 52), (.s 61)] [] [] [] false⟩,
 ⟨(some 63), none, .pick (.s 48) (.s 62) (.c (.bool false))⟩,
 ⟨(some 64), none, .mv (.s 63)⟩,
 ⟨(some 65), (some (64, true)), .call (.c (.fn 11 [] [])) [] [] [] [] false⟩,
 ⟨(some 66), none, .pick (.s 64) (.s 65) (.c (.bool false))⟩,
 ⟨(some 4), none, .mv (.s 66)⟩])
 .ret)))) }
/- cuboid/cuboidlaw25.QueryBack -/
def f5 : MFun := { nt := 102, np := 3, no := 6, res := [.slot 6], body :=
 (.seq
 (.region false [
 ⟨(some 3), none, .box 0 (.s 0)⟩,
 ⟨(some 4), none, .box 1 (.s 1)⟩,
 ⟨(some 6), none, .mv (.c (.bool false))⟩])
 (.seq
 (.seq
 (.region false [
 ⟨(some 17), none, .load (some 9) (some 0) (.s 3)⟩,
 ⟨(some 18), none, .call (.c (.fn 10 [] [])) [(.s 17)] [] [] [] false⟩,
 ⟨(some 19), none, .un .not (.s 18)⟩,
 ⟨(some 20), none, .mv (.s 19)⟩,
 ⟨(some 21), (some (20, false)), .load (some 9) (some 1) (.s 4)⟩,
 ⟨(some 22), (some (20, false)), .call (.c (.fn 10 [] [])) [(.s 21)] [] [] [] false⟩,
 ⟨(some 23), (some (20, false)), .un .not (.s 22)⟩,
 ⟨(some 24), none, .pick (.s 20) (.c (.bool true)) (.s 23)⟩])
 (.cond (.s 24)
 (.seq
 (.region false [
 ⟨(some 25), none, .call (.c (.fn 11 [] [])) [] [] [] [] false⟩,
 ⟨(some 6), none, .mv (.s 25)⟩])
 .ret)
 .skip))
 (.seq
 (.region false [
 ⟨(some 27), none, .load (some 9) (some 0) (.s 3)⟩,
 ⟨(some 28), none, .call (.c (.fn 16 [] [])) [(.s 27)] [] [] [] true⟩,
 ⟨(some 26), none, .mv (.s 28)⟩,
 ⟨(some 29), none, .extract (.s 26) 0⟩,
 ⟨(some 30), none, .extract (.s 26) 1⟩,
 ⟨(some 7), none, .mv (.s 29)⟩,
 ⟨(some 8), none, .mv (.s 30)⟩])
 (.seq
 (.region false [
 ⟨(some 32), none, .load (some 9) (some 1) (.s 4)⟩,
 ⟨(some 33), none, .call (.c (.fn 16 [] [])) [(.s 32)] [] [] [] true⟩,
 ⟨(some 31), none, .mv (.s 33)⟩,
 ⟨(some 34), none, .extract (.s 31) 0⟩,
 ⟨(some 35), none, .extract (.s 31) 1⟩,
 ⟨(some 9), none, .mv (.s 34)⟩,
 ⟨(some 10), none, .mv (.s 35)⟩])
 (.seq
 (.seq
 (.region false [
 ⟨(some 36), none, .mv (.s 8)⟩,
 ⟨(some 37), none, .un .not (.s 36)⟩])
 (.cond (.s 37)
 (.seq
 (.region false [
 ⟨(some 38), none, .mv (.s 7)⟩,
 ⟨(some 39), none, .len (.s 38)⟩,
 ⟨(some 40), none, .bin .eql .int (.s 39) (.c (.int .i64 0))⟩,
 ⟨(some 41), none, .mv (.s 40)⟩,
 ⟨(some 42), (some (41, true)), .call (.c (.fn 11 [] [])) [] [] [] [] false⟩,
 ⟨(some 43), none, .pick (.s 41) (.s 42) (.c (.bool false))⟩,
 ⟨(some 6), none, .mv (.s 43)⟩])
 .ret)
 .skip))
 (.seq
 (.seq
 (.region false [
 ⟨(some 44), none, .mv (.s 7)⟩,
 ⟨(some 45), none, .len (.s 44)⟩,
 ⟨(some 46), none, .bin .lss .int (.s 45) (.c (.int .i64 4))⟩])
 (.cond (.s 46)
 (.seq
 (.region false [
 ⟨(some 6), none, .mv (.c (.bool false))⟩])
 .ret)
 .skip))
 (.seq
 (.region false [
 ⟨(some 48), none, .mv (.s 7)⟩,
 ⟨(some 49), none, .call (.c (.fn 17 [] [])) [(.s 48)] [] [] [] true⟩,
 ⟨(some 47), none, .mv (.s 49)⟩,
 ⟨(some 50), none, .extract (.s 47) 0⟩,
 ⟨(some 51), none, .extract (.s 47) 1⟩,
 ⟨(some 11), none, .alloc 2 [.int .u8 0, .int .u8 0, .int .u8 0, .int .u8 0, .nilsl, .int .i64 0, .int .i64 0, .int .i64 0, .int .i64 0]⟩,
 ⟨none, none, .store 9 2 [] (.s 11) (.s 50)⟩,
 ⟨(some 12), none, .mv (.s 51)⟩])
 (.seq
 (.region false [
 ⟨(some 53), none, .lit (some 3) [] 0 1 [.int .u8 0] []⟩,
 ⟨(some 54), none, .mv (.s 7)⟩,
 ⟨(some 55), none, .append 1 1 3 none (.s 53) (.s 54)⟩,
 ⟨(some 56), none, .mv (.s 2)⟩,
 ⟨(some 57), none, .lit none [] 1 1 [.int .u8 0] [(0, 1, (.s 56))]⟩,
 ⟨(some 58), none, .append 1 1 3 none (.s 55) (.s 57)⟩,
 ⟨(some 59), none, .call (.c (.fn 17 [] [])) [(.s 58)] [] [3] [] true⟩,
 ⟨(some 52), none, .mv (.s 59)⟩,
 ⟨(some 60), none, .extract (.s 52) 0⟩,
 ⟨(some 61), none, .extract (.s 52) 1⟩,
 ⟨(some 13), none, .alloc 4 [.int .u8 0, .int .u8 0, .int .u8 0, .int .u8 0, .nilsl, .int .i64 0, .int .i64 0, .int .i64 0, .int .i64 0]⟩,
 ⟨none, none, .store 9 4 [] (.s 13) (.s 60)⟩,
 ⟨(some 14), none, .mv (.s 61)⟩])
 (.seq
 (.region false [
 ⟨(some 63), none, .mv (.s 7)⟩,
 ⟨(some 64), none, .mv (.s 7)⟩,
 ⟨(some 65), none, .len (.s 64)⟩,
 ⟨(some 66), none, .bin .sub .int (.s 65) (.c (.int .i64 1))⟩,
 ⟨(some 67), none, .sliceS 1 (.s 63) none (some (.s 66))⟩,
 ⟨(some 68), none, .call (.c (.fn 17 [] [])) [(.s 67)] [] [] [] true⟩,
 ⟨(some 62), none, .mv (.s 68)⟩,
 ⟨(some 69), none, .extract (.s 62) 0⟩,
 ⟨(some 70), none, .extract (.s 62) 1⟩,
 ⟨(some 15), none, .alloc 5 [.int .u8 0, .int .u8 0, .int .u8 0, .int .u8 0, .nilsl, .int .i64 0, .int .i64 0, .int .i64 0, .int .i64 0]⟩,
 ⟨none, none, .store 9 5 [] (.s 15) (.s 69)⟩,
 ⟨(some 16), none, .mv (.s 70)⟩])
 (.seq
 (.region true [
 ⟨(some 71), none, .mv (.s 12)⟩,
 ⟨(some 72), none, .mv (.s 71)⟩,
 ⟨(some 73), (some (72, true)), .load (some 9) (some 2) (.s 11)⟩,
 ⟨(some 74), (some (72, true)), .load (some 9) (some 0) (.s 3)⟩,
 ⟨(some 75), (some (72, true)), .call (.c (.fn 18 [] [])) [(.s 73), (.s 74)] [] [] [] false⟩,
 ⟨(some 76), none, .pick (.s 72) (.s 75) (.c (.bool false))⟩,
 ⟨(some 77), none, .mv (.s 76)⟩,
 ⟨(some 78), (some (77, true)), .mv (.s 14)⟩,
 ⟨(some 79), (some (77, true)), .un .not (.s 78)⟩,
 ⟨(some 80), none, .pick (.s 77) (.s 79) (.c (.bool false))⟩,
 ⟨(some 81), none, .mv (.s 80)⟩,
 ⟨(some 82), (some (81, true)), .mv (.s 16)⟩,
 ⟨(some 83), (some (81, true)), .un .not (.s 82)⟩,
 ⟨(some 84), none, .pick (.s 81) (.s 83) (.c (.bool false))⟩,
 ⟨(some 85), none, .mv (.s 84)⟩,
 ⟨(some 86), (some (85, true)), .mv (.s 10)⟩,
 ⟨(some 87), (some (85, true)), .mv (.s 86)⟩,
 ⟨(some 88), (some (87, true)), .mv (.s 7)⟩,
 ⟨(some 89), (some (87, true)), .b2s none (.s 88)⟩,
 ⟨(some 90), (some (87, true)), .mv (.s 9)⟩,
 ⟨(some 91), (some (87, true)), .b2s none (.s 90)⟩,
 ⟨(some 92), (some (87, true)), .bin .eql .str (.s 89) (.s 91)⟩,
 ⟨(some 93), (some (85, true)), .pick (.s 87) (.s 92) (.c (.bool false))⟩,
 ⟨(some 94), (some (85, true)), .load (some 9) (some 0) (.s 3)⟩,
 ⟨(some 95), (some (85, true)), .load (some 9) (some 1) (.s 4)⟩,
 ⟨(some 96), (some (85, true)), .call (.c (.fn 18 [] [])) [(.s 94), (.s 95)] [] [] [] false⟩,
 ⟨(some 97), (some (85, true)), .bin .eql .bool (.s 93) (.s 96)⟩,
 ⟨(some 98), none, .pick (.s 85) (.s 97) (.c (.bool false))⟩,
 ⟨(some 99), none, .mv (.s 98)⟩,
 ⟨(some 100), (some (99, true)), .call (.c (.fn 11 [] [])) [] [] [] [] false⟩,
 ⟨(some 101), none, .pick (.s 99) (.s 100) (.c (.bool false))⟩,
 ⟨(some 6), none, .mv (.s 101)⟩])
 .ret)))))))))) }
/- cuboid/cuboidref02.Get -/
def f66 : MFun := { nt := 67, np := 1, no := 0, res := [.slot 2, .slot 3], body :=
 (.seq
 (.region false [
 ⟨(some 2), none, .mv (.c (.int .u64 0))⟩,
 ⟨(some 3), none, .mv (.c (.int .i64 0))⟩])
 (.seq
 (.region false [
 ⟨(some 4), none, .mv (.c (.int .i64 0))⟩])
 (.seq
 (.block 0
 (.loop [0, 4] []
 (.seq
 (.seq
 (.region false [
 ⟨(some 7), none, .mv (.s 4)⟩,
 ⟨(some 8), none, .mv (.s 0)⟩,
 ⟨(some 9), none, .len (.s 8)⟩,
 ⟨(some 10), none, .bin .lss .int (.s 7) (.s 9)⟩,
 ⟨(some 11), none, .mv (.s 10)⟩,
 ⟨(some 12), (some (11, true)), .mv (.s 0)⟩,
 ⟨(some 13), (some (11, true)), .mv (.s 4)⟩,
 ⟨(some 14), (some (11, true)), .iaddrS 1 (.s 12) (.s 13)⟩,
 ⟨(some 15), (some (11, true)), .load none none (.s 14)⟩,
 ⟨(some 16), (some (11, true)), .bin .gtr .int (.s 15) (.c (.int .u8 127))⟩,
 ⟨(some 17), none, .pick (.s 11) (.s 16) (.c (.bool false))⟩])
 (.cond (.s 17)
 .skip
 (.exit 0)))
 (.block 1
 (.region false [
 ⟨(some 18), none, .mv (.s 4)⟩,
 ⟨(some 19), none, .bin .add .int (.s 18) (.c (.int .i64 1))⟩,
 ⟨(some 4), none, .mv (.s 19)⟩])))))
 (.seq
 (.seq
 (.region false [
 ⟨(some 20), none, .mv (.s 4)⟩,
 ⟨(some 21), none, .mv (.s 0)⟩,
 ⟨(some 22), none, .len (.s 21)⟩,
 ⟨(some 23), none, .bin .geq .int (.s 20) (.s 22)⟩,
 ⟨(some 24), none, .mv (.s 23)⟩,
 ⟨(some 25), (some (24, false)), .mv (.s 4)⟩,
 ⟨(some 26), (some (24, false)), .bin .gtr .int (.s 25) (.c (.int .i64 9))⟩,
 ⟨(some 27), none, .pick (.s 24) (.c (.bool true)) (.s 26)⟩,
 ⟨(some 28), none, .mv (.s 27)⟩,
 ⟨(some 29), (some (28, false)), .mv (.s 4)⟩,
 ⟨(some 30), (some (28, false)), .bin .gtr .int (.s 29) (.c (.int .i64 0))⟩,
 ⟨(some 31), (some (28, false)), .mv (.s 30)⟩,
 ⟨(some 32), (some (31, true)), .mv (.s 0)⟩,
 ⟨(some 33), (some (31, true)), .mv (.s 4)⟩,
 ⟨(some 34), (some (31, true)), .iaddrS 1 (.s 32) (.s 33)⟩,
 ⟨(some 35), (some (31, true)), .load none none (.s 34)⟩,
 ⟨(some 36), (some (31, true)), .bin .eql .int (.s 35) (.c (.int .u8 0))⟩,
 ⟨(some 37), (some (28, false)), .pick (.s 31) (.s 36) (.c (.bool false))⟩,
 ⟨(some 38), none, .pick (.s 28) (.c (.bool true)) (.s 37)⟩,
 ⟨(some 39), none, .mv (.s 38)⟩,
 ⟨(some 40), (some (39, false)), .mv (.s 4)⟩,
 ⟨(some 41), (some (39, false)), .bin .eql .int (.s 40) (.c (.int .i64 9))⟩,
 ⟨(some 42), (some (39, false)), .mv (.s 41)⟩,
 ⟨(some 43), (some (42, true)), .mv (.s 0)⟩,
 ⟨(some 44), (some (42, true)), .mv (.s 4)⟩,
 ⟨(some 45), (some (42, true)), .iaddrS 1 (.s 43) (.s 44)⟩,
 ⟨(some 46), (some (42, true)), .load none none (.s 45)⟩,
 ⟨(some 47), (some (42, true)), .bin .gtr .int (.s 46) (.c (.int .u8 1))⟩,
 ⟨(some 48), (some (39, false)), .pick (.s 42) (.s 47) (.c (.bool false))⟩,
 ⟨(some 49), none, .pick (.s 39) (.c (.bool true)) (.s 48)⟩])
 (.cond (.s 49)
 (.seq
 (.region false [
 ⟨(some 2), none, .mv (.c (.int .u64 0))⟩,
 ⟨(some 3), none, .mv (.c (.int .i64 0))⟩])
 .ret)
 .skip))
 (.seq
 (.region false [
 ⟨(some 5), none, .mv (.c (.int .u64 0))⟩])
 (.seq
 (.seq
 (.region false [
 ⟨(some 50), none, .mv (.s 4)⟩,
 ⟨(some 6), none, .mv (.s 50)⟩])
 (.block 2
 (.loop [0, 4, 5, 6] []
 (.seq
 (.seq
 (.region false [
 ⟨(some 51), none, .mv (.s 6)⟩,
 ⟨(some 52), none, .bin .geq .int (.s 51) (.c (.int .i64 0))⟩])
 (.cond (.s 52)
 .skip
 (.exit 2)))
 (.seq
 (.block 3
 (.region false [
 ⟨(some 55), none, .mv (.s 5)⟩,
 ⟨(some 56), none, .bin .mul .int (.s 55) (.c (.int .u64 128))⟩,
 ⟨(some 57), none, .mv (.s 0)⟩,
 ⟨(some 58), none, .mv (.s 6)⟩,
 ⟨(some 59), none, .iaddrS 1 (.s 57) (.s 58)⟩,
 ⟨(some 60), none, .load none none (.s 59)⟩,
 ⟨(some 61), none, .bin .rem .int (.s 60) (.c (.int .u8 128))⟩,
 ⟨(some 62), none, .conv .u64 (.s 61)⟩,
 ⟨(some 63), none, .bin .add .int (.s 56) (.s 62)⟩,
 ⟨(some 5), none, .mv (.s 63)⟩]))
 (.region false [
 ⟨(some 53), none, .mv (.s 6)⟩,
 ⟨(some 54), none, .bin .sub .int (.s 53) (.c (.int .i64 1))⟩,
 ⟨(some 6), none, .mv (.s 54)⟩]))))))
 (.seq
 (.region false [
 ⟨(some 64), none, .mv (.s 5)⟩,
 ⟨(some 65), none, .mv (.s 4)⟩,
 ⟨(some 66), none, .bin .add .int (.s 65) (.c (.int .i64 1))⟩,
 ⟨(some 2), none, .mv (.s 64)⟩,
 ⟨(some 3), none, .mv (.s 66)⟩])
 .ret))))))) }
/- (*cuboid/cuboidref25.reader).number -/
def f46 : MFun := { nt := 39, np := 1, no := 0, res := [.slot 2], body :=
 (.seq
 (.region false [
 ⟨(some 2), none, .mv (.c (.int .i64 0))⟩])
 (.seq
 (.region false [
 ⟨(some 6), none, .mv (.s 0)⟩,
 ⟨(some 7), none, .nilchk (.s 6)⟩,
 ⟨(some 8), none, .faddr 0 (.s 7)⟩,
 ⟨(some 9), none, .load none (some 0) (.s 8)⟩,
 ⟨(some 10), none, .call (.c (.fn 66 [] [])) [(.s 9)] [] [] [] false⟩,
 ⟨(some 5), none, .mv (.s 10)⟩,
 ⟨(some 11), none, .extract (.s 5) 0⟩,
 ⟨(some 12), none, .extract (.s 5) 1⟩,
 ⟨(some 3), none, .mv (.s 11)⟩,
 ⟨(some 4), none, .mv (.s 12)⟩])
 (.seq
 (.seq
 (.region false [
 ⟨(some 13), none, .mv (.s 0)⟩,
 ⟨(some 14), none, .nilchk (.s 13)⟩,
 ⟨(some 15), none, .faddr 1 (.s 14)⟩,
 ⟨(some 16), none, .load none (some 0) (.s 15)⟩,
 ⟨(some 17), none, .mv (.s 16)⟩,
 ⟨(some 18), (some (17, false)), .mv (.s 4)⟩,
 ⟨(some 19), (some (17, false)), .bin .eql .int (.s 18) (.c (.int .i64 0))⟩,
 ⟨(some 20), none, .pick (.s 17) (.c (.bool true)) (.s 19)⟩,
 ⟨(some 21), none, .mv (.s 20)⟩,
 ⟨(some 22), (some (21, false)), .mv (.s 3)⟩,
 ⟨(some 23), (some (21, false)), .bin .gtr .int (.s 22) (.c (.int .u64 2147483647))⟩,
 ⟨(some 24), none, .pick (.s 21) (.c (.bool true)) (.s 23)⟩])
 (.cond (.s 24)
 (.seq
 (.region false [
 ⟨(some 25), none, .mv (.s 0)⟩,
 ⟨(some 26), none, .nilchk (.s 25)⟩,
 ⟨(some 27), none, .faddr 1 (.s 26)⟩,
 ⟨none, none, .store 1 0 [] (.s 27) (.c (.bool true))⟩])
 (.seq
 (.region false [
 ⟨(some 2), none, .mv (.c (.int .i64 0))⟩])
 .ret))
 .skip))
 (.seq
 (.region false [
 ⟨(some 28), none, .mv (.s 0)⟩,
 ⟨(some 29), none, .mv (.s 0)⟩,
 ⟨(some 30), none, .nilchk (.s 29)⟩,
 ⟨(some 31), none, .faddr 0 (.s 30)⟩,
 ⟨(some 32), none, .load none (some 0) (.s 31)⟩,
 ⟨(some 33), none, .mv (.s 4)⟩,
 ⟨(some 34), none, .sliceS 1 (.s 32) (some (.s 33)) none⟩,
 ⟨(some 35), none, .nilchk (.s 28)⟩,
 ⟨(some 36), none, .faddr 0 (.s 35)⟩,
 ⟨none, none, .store 1 0 [] (.s 36) (.s 34)⟩])
 (.seq
 (.region false [
 ⟨(some 37), none, .mv (.s 3)⟩,
 ⟨(some 38), none, .conv .i64 (.s 37)⟩,
 ⟨(some 2), none, .mv (.s 38)⟩])
 .ret))))) }
/- cuboid/cuboidref25.Read -/
def f21 : MFun := { nt := 103, np := 1, no := 6, res := [.cell 2 0 (some 10)], body :=
 (.seq
 (.region false [
 ⟨(some 2), none, .alloc 0 [.int .u8 0, .int .u8 0, .int .u8 0, .int .u8 0, .nilsl, .int .i64 0, .int .i64 0, .int .i64 0, .int .i64 0, .bool false]⟩])
 (.seq
 (.seq
 (.region false [
 ⟨(some 11), none, .mv (.s 0)⟩,
 ⟨(some 12), none, .len (.s 11)⟩,
 ⟨(some 13), none, .bin .lss .int (.s 12) (.c (.int .i64 4))⟩])
 (.cond (.s 13)
 (.seq
 (.region false [
 ⟨(some 14), none, .build [.int .u8 0, .int .u8 0, .int .u8 0, .int .u8 0, .nilsl, .int .i64 0, .int .i64 0, .int .i64 0, .int .i64 0, .bool false] []⟩,
 ⟨none, none, .store 10 0 [] (.s 2) (.s 14)⟩])
 .ret)
 .skip))
 (.seq
 (.region false [
 ⟨(some 3), none, .alloc 1 [.int .u8 0, .int .u8 0, .int .u8 0, .int .u8 0, .nilsl, .int .i64 0, .int .i64 0, .int .i64 0, .int .i64 0]⟩])
 (.seq
 (.seq
 (.region false [
 ⟨(some 4), none, .mv (.c (.int .i64 0))⟩])
 (.block 0
 (.loop [0, 2, 3, 4] [0, 1, 5]
 (.seq
 (.seq
 (.region false [
 ⟨(some 15), none, .mv (.s 4)⟩,
 ⟨(some 16), none, .bin .lss .int (.s 15) (.c (.int .i64 4))⟩])
 (.cond (.s 16)
 .skip
 (.exit 0)))
 (.seq
 (.block 1
 (.region false [
 ⟨(some 19), none, .mv (.s 4)⟩,
 ⟨(some 20), none, .mv (.s 0)⟩,
 ⟨(some 21), none, .mv (.s 4)⟩,
 ⟨(some 22), none, .iaddrS 1 (.s 20) (.s 21)⟩,
 ⟨(some 23), none, .load none none (.s 22)⟩,
 ⟨(some 24), none, .faddr 0 (.s 3)⟩,
 ⟨(some 25), none, .iaddrA 4 1 (.s 24) (.s 19)⟩,
 ⟨none, none, .store 1 1 [] (.s 25) (.s 23)⟩]))
 (.region false [
 ⟨(some 17), none, .mv (.s 4)⟩,
 ⟨(some 18), none, .bin .add .int (.s 17) (.c (.int .i64 1))⟩,
 ⟨(some 4), none, .mv (.s 18)⟩]))))))
 (.seq
 (.region false [
 ⟨(some 26), none, .mv (.s 0)⟩,
 ⟨(some 27), none, .sliceS 1 (.s 26) (some (.c (.int .i64 4))) none⟩,
 ⟨(some 28), none, .build [.nilsl, .bool false] [(0, 1, (.s 27))]⟩,
 ⟨(some 29), none, .box 2 (.s 28)⟩,
 ⟨(some 5), none, .mv (.s 29)⟩])
 (.seq
 (.region false [
 ⟨(some 30), none, .mv (.s 5)⟩,
 ⟨(some 31), none, .call (.c (.fn 46 [] [])) [(.s 30)] [2] [] [] true⟩,
 ⟨(some 6), none, .mv (.s 31)⟩])
 (.seq
 (.seq
 (.region false [
 ⟨(some 7), none, .mv (.c (.int .i64 0))⟩])
 (.block 2
 (.loop [2, 3, 5, 6, 7] [0, 1, 2, 5]
 (.seq
 (.seq
 (.region false [
 ⟨(some 32), none, .mv (.s 7)⟩,
 ⟨(some 33), none, .mv (.s 6)⟩,
 ⟨(some 34), none, .bin .lss .int (.s 32) (.s 33)⟩,
 ⟨(some 35), none, .mv (.s 34)⟩,
 ⟨(some 36), (some (35, true)), .mv (.s 5)⟩,
 ⟨(some 37), (some (35, true)), .nilchk (.s 36)⟩,
 ⟨(some 38), (some (35, true)), .faddr 1 (.s 37)⟩,
 ⟨(some 39), (some (35, true)), .load none (some 2) (.s 38)⟩,
 ⟨(some 40), (some (35, true)), .un .not (.s 39)⟩,
 ⟨(some 41), none, .pick (.s 35) (.s 40) (.c (.bool false))⟩])
 (.cond (.s 41)
 .skip
 (.exit 2)))
 (.seq
 (.block 3
 (.seq
 (.region false [
 ⟨(some 44), none, .mv (.s 5)⟩,
 ⟨(some 45), none, .call (.c (.fn 46 [] [])) [(.s 44)] [2] [] [] true⟩,
 ⟨(some 46), none, .mv (.s 5)⟩,
 ⟨(some 47), none, .call (.c (.fn 46 [] [])) [(.s 46)] [2] [] [] true⟩,
 ⟨(some 48), none, .build [.int .i64 0, .int .i64 0, .nilsl] [(0, 1, (.s 45)), (1, 1, (.s 47))]⟩,
 ⟨(some 8), none, .alloc 3 [.int .i64 0, .int .i64 0, .nilsl]⟩,
 ⟨none, none, .store 3 3 [] (.s 8) (.s 48)⟩])
 (.seq
 (.region false [
 ⟨(some 49), none, .mv (.s 5)⟩,
 ⟨(some 50), none, .call (.c (.fn 46 [] [])) [(.s 49)] [2] [] [] true⟩,
 ⟨(some 9), none, .mv (.s 50)⟩])
 (.seq
 (.seq
 (.region false [
 ⟨(some 10), none, .mv (.c (.int .i64 0))⟩])
 (.block 4
 (.loop [2, 3, 5, 6, 7, 8, 9, 10] [0, 1, 2, 3, 4, 5]
 (.seq
 (.seq
 (.region false [
 ⟨(some 51), none, .mv (.s 10)⟩,
 ⟨(some 52), none, .mv (.s 9)⟩,
 ⟨(some 53), none, .bin .lss .int (.s 51) (.s 52)⟩,
 ⟨(some 54), none, .mv (.s 53)⟩,
 ⟨(some 55), (some (54, true)), .mv (.s 5)⟩,
 ⟨(some 56), (some (54, true)), .nilchk (.s 55)⟩,
 ⟨(some 57), (some (54, true)), .faddr 1 (.s 56)⟩,
 ⟨(some 58), (some (54, true)), .load none (some 2) (.s 57)⟩,
 ⟨(some 59), (some (54, true)), .un .not (.s 58)⟩,
 ⟨(some 60), none, .pick (.s 54) (.s 59) (.c (.bool false))⟩])
 (.cond (.s 60)
 .skip
 (.exit 4)))
 (.seq
 (.block 5
 (.region true [
 ⟨(some 63), none, .faddr 2 (.s 8)⟩,
 ⟨(some 64), none, .load none (some 3) (.s 63)⟩,
 ⟨(some 65), none, .mv (.s 5)⟩,
 ⟨(some 66), none, .call (.c (.fn 46 [] [])) [(.s 65)] [2] [] [] true⟩,
 ⟨(some 67), none, .lit none [] 1 1 [.int .i64 0] [(0, 1, (.s 66))]⟩,
 ⟨(some 68), none, .append 8 1 4 none (.s 64) (.s 67)⟩,
 ⟨(some 69), none, .faddr 2 (.s 8)⟩,
 ⟨none, none, .store 1 3 [] (.s 69) (.s 68)⟩]))
 (.region false [
 ⟨(some 61), none, .mv (.s 10)⟩,
 ⟨(some 62), none, .bin .add .int (.s 61) (.c (.int .i64 1))⟩,
 ⟨(some 10), none, .mv (.s 62)⟩]))))))
 (.region false [
 ⟨(some 70), none, .faddr 4 (.s 3)⟩,
 ⟨(some 71), none, .load none (some 1) (.s 70)⟩,
 ⟨(some 72), none, .load (some 3) (some 3) (.s 8)⟩,
 ⟨(some 73), none, .lit none [4] 1 3 [.int .i64 0, .int .i64 0, .nilsl] [(0, 3, (.s 72))]⟩,
 ⟨(some 74), none, .append 40 3 5 none (.s 71) (.s 73)⟩,
 ⟨(some 75), none, .faddr 4 (.s 3)⟩,
 ⟨none, none, .store 1 1 [] (.s 75) (.s 74)⟩])))))
 (.region false [
 ⟨(some 42), none, .mv (.s 7)⟩,
 ⟨(some 43), none, .bin .add .int (.s 42) (.c (.int .i64 1))⟩,
 ⟨(some 7), none, .mv (.s 43)⟩]))))))
 (.seq
 (.region false [
 ⟨(some 76), none, .mv (.s 5)⟩,
 ⟨(some 77), none, .call (.c (.fn 46 [] [])) [(.s 76)] [2] [] [] true⟩,
 ⟨(some 78), none, .faddr 5 (.s 3)⟩,
 ⟨none, none, .store 1 1 [] (.s 78) (.s 77)⟩])
 (.seq
 (.region false [
 ⟨(some 79), none, .mv (.s 5)⟩,
 ⟨(some 80), none, .call (.c (.fn 46 [] [])) [(.s 79)] [2] [] [] true⟩,
 ⟨(some 81), none, .faddr 6 (.s 3)⟩,
 ⟨none, none, .store 1 1 [] (.s 81) (.s 80)⟩])
 (.seq
 (.region false [
 ⟨(some 82), none, .mv (.s 5)⟩,
 ⟨(some 83), none, .call (.c (.fn 46 [] [])) [(.s 82)] [2] [] [] true⟩,
 ⟨(some 84), none, .faddr 7 (.s 3)⟩,
 ⟨none, none, .store 1 1 [] (.s 84) (.s 83)⟩])
 (.seq
 (.region false [
 ⟨(some 85), none, .mv (.s 5)⟩,
 ⟨(some 86), none, .call (.c (.fn 46 [] [])) [(.s 85)] [2] [] [] true⟩,
 ⟨(some 87), none, .faddr 8 (.s 3)⟩,
 ⟨none, none, .store 1 1 [] (.s 87) (.s 86)⟩])
 (.seq
 (.seq
 (.region false [
 ⟨(some 88), none, .mv (.s 5)⟩,
 ⟨(some 89), none, .nilchk (.s 88)⟩,
 ⟨(some 90), none, .faddr 1 (.s 89)⟩,
 ⟨(some 91), none, .load none (some 2) (.s 90)⟩,
 ⟨(some 92), none, .mv (.s 91)⟩,
 ⟨(some 93), (some (92, false)), .mv (.s 5)⟩,
 ⟨(some 94), (some (92, false)), .nilchk (.s 93)⟩,
 ⟨(some 95), (some (92, false)), .faddr 0 (.s 94)⟩,
 ⟨(some 96), (some (92, false)), .load none (some 2) (.s 95)⟩,
 ⟨(some 97), (some (92, false)), .len (.s 96)⟩,
 ⟨(some 98), (some (92, false)), .bin .gtr .int (.s 97) (.c (.int .i64 0))⟩,
 ⟨(some 99), none, .pick (.s 92) (.c (.bool true)) (.s 98)⟩])
 (.cond (.s 99)
 (.seq
 (.region false [
 ⟨(some 100), none, .build [.int .u8 0, .int .u8 0, .int .u8 0, .int .u8 0, .nilsl, .int .i64 0, .int .i64 0, .int .i64 0, .int .i64 0, .bool false] []⟩,
 ⟨none, none, .store 10 0 [] (.s 2) (.s 100)⟩])
 .ret)
 .skip))
 (.seq
 (.region false [
 ⟨(some 101), none, .load (some 9) (some 1) (.s 3)⟩,
 ⟨(some 102), none, .build [.int .u8 0, .int .u8 0, .int .u8 0, .int .u8 0, .nilsl, .int .i64 0, .int .i64 0, .int .i64 0, .int .i64 0, .bool false] [(0, 9, (.s 101)), (9, 1, (.c (.bool true)))]⟩,
 ⟨none, none, .store 10 0 [] (.s 2) (.s 102)⟩])
 .ret))))))))))))) }
/- cuboid/cuboidlaw25.QueryReads -/
def f6 : MFun := { nt := 75, np := 3, no := 4, res := [.slot 6], body :=
 (.seq
 (.region false [
 ⟨(some 4), none, .box 0 (.s 1)⟩,
 ⟨(some 5), none, .box 1 (.s 2)⟩,
 ⟨(some 6), none, .mv (.c (.bool false))⟩])
 (.seq
 (.seq
 (.region false [
 ⟨(some 12), none, .mv (.s 0)⟩,
 ⟨(some 13), none, .len (.s 12)⟩,
 ⟨(some 14), none, .bin .gtr .int (.s 13) (.c (.int .i64 600))⟩,
 ⟨(some 15), none, .mv (.s 14)⟩,
 ⟨(some 16), (some (15, false)), .load (some 9) (some 0) (.s 4)⟩,
 ⟨(some 17), (some (15, false)), .call (.c (.fn 10 [] [])) [(.s 16)] [] [] [] false⟩,
 ⟨(some 18), (some (15, false)), .un .not (.s 17)⟩,
 ⟨(some 19), none, .pick (.s 15) (.c (.bool true)) (.s 18)⟩])
 (.cond (.s 19)
 (.seq
 (.region false [
 ⟨(some 20), none, .call (.c (.fn 11 [] [])) [] [] [] [] false⟩,
 ⟨(some 6), none, .mv (.s 20)⟩])
 .ret)
 .skip))
 (.seq
 (.region false [
 ⟨(some 21), none, .lit (some 2) [] 0 1 [.int .u8 0] []⟩,
 ⟨(some 22), none, .load (some 9) (some 0) (.s 4)⟩,
 ⟨(some 23), none, .call (.c (.fn 19 [] [])) [(.s 22)] [] [] [] true⟩,
 ⟨(some 24), none, .field 0 none (.s 23)⟩,
 ⟨(some 25), none, .append 1 1 2 none (.s 21) (.s 24)⟩,
 ⟨(some 26), none, .lit none [] 1 1 [.int .u8 0] [(0, 1, (.c (.int .u8 0)))]⟩,
 ⟨(some 27), none, .append 1 1 2 none (.s 25) (.s 26)⟩,
 ⟨(some 7), none, .mv (.s 27)⟩])
 (.seq
 (.region true [
 ⟨(some 28), none, .mv (.s 7)⟩,
 ⟨(some 29), none, .iaddrA 2 1 (.s 5) (.c (.int .i64 0))⟩,
 ⟨(some 30), none, .load none (some 1) (.s 29)⟩,
 ⟨(some 31), none, .conv .i64 (.s 30)⟩,
 ⟨(some 32), none, .mv (.s 7)⟩,
 ⟨(some 33), none, .len (.s 32)⟩,
 ⟨(some 34), none, .bin .rem .int (.s 31) (.s 33)⟩,
 ⟨(some 35), none, .iaddrS 1 (.s 28) (.s 34)⟩,
 ⟨(some 36), none, .load none (some 2) (.s 35)⟩,
 ⟨(some 37), none, .iaddrA 2 1 (.s 5) (.c (.int .i64 1))⟩,
 ⟨(some 38), none, .load none (some 1) (.s 37)⟩,
 ⟨(some 39), none, .bin .xor .int (.s 36) (.s 38)⟩,
 ⟨(some 40), none, .iaddrS 1 (.s 28) (.s 34)⟩,
 ⟨none, none, .store 1 2 [] (.s 40) (.s 39)⟩])
 (.seq
 (.seq
 (.region true [
 ⟨(some 41), none, .mv (.s 0)⟩,
 ⟨(some 42), none, .mv (.s 7)⟩,
 ⟨(some 43), none, .mv (.s 7)⟩,
 ⟨(some 44), none, .mv (.s 7)⟩,
 ⟨(some 45), none, .len (.s 44)⟩,
 ⟨(some 46), none, .bin .sub .int (.s 45) (.c (.int .i64 1))⟩,
 ⟨(some 47), none, .sliceS 1 (.s 43) none (some (.s 46))⟩,
 ⟨(some 48), none, .mv (.s 7)⟩,
 ⟨(some 49), none, .iaddrA 2 1 (.s 5) (.c (.int .i64 1))⟩,
 ⟨(some 50), none, .load none (some 1) (.s 49)⟩,
 ⟨(some 51), none, .conv .i64 (.s 50)⟩,
 ⟨(some 52), none, .mv (.s 7)⟩,
 ⟨(some 53), none, .len (.s 52)⟩,
 ⟨(some 54), none, .bin .rem .int (.s 51) (.s 53)⟩,
 ⟨(some 55), none, .sliceS 1 (.s 48) none (some (.s 54))⟩,
 ⟨(some 56), none, .lit none [2] 4 1 [.nilsl] [(0, 1, (.s 41)), (1, 1, (.s 42)), (2, 1, (.s 47)), (3, 1, (.s 55))]⟩,
 ⟨(some 57), none, .len (.s 56)⟩,
 ⟨(some 58), none, .mv (.c (.int .i64 0))⟩])
 (.block 0
 (.loop [56, 57, 58] []
 (.seq
 (.region false [
 ⟨(some 59), none, .bin .lss .int (.s 58) (.s 57)⟩])
 (.seq
 (.cond (.s 59)
 .skip
 (.exit 0))
 (.seq
 (.block 1
 (.seq
 (.region false [
 ⟨(some 60), none, .iaddrS 1 (.s 56) (.s 58)⟩,
 ⟨(some 61), none, .load none none (.s 60)⟩,
 ⟨(some 9), none, .mv (.s 61)⟩])
 (.seq
 (.region false [
 ⟨(some 63), none, .mv (.s 9)⟩,
 ⟨(some 64), none, .call (.c (.fn 17 [] [])) [(.s 63)] [] [] [] true⟩,
 ⟨(some 62), none, .mv (.s 64)⟩,
 ⟨(some 65), none, .extract (.s 62) 0⟩,
 ⟨(some 66), none, .extract (.s 62) 1⟩,
 ⟨(some 10), none, .alloc 3 [.int .u8 0, .int .u8 0, .int .u8 0, .int .u8 0, .nilsl, .int .i64 0, .int .i64 0, .int .i64 0, .int .i64 0]⟩,
 ⟨none, none, .store 9 3 [] (.s 10) (.s 65)⟩,
 ⟨(some 11), none, .mv (.s 66)⟩])
 (.seq
 (.region true [
 ⟨(some 67), none, .load (some 9) (some 3) (.s 10)⟩,
 ⟨(some 68), none, .mv (.s 11)⟩,
 ⟨(some 69), none, .mv (.s 9)⟩,
 ⟨(some 70), none, .call (.c (.fn 21 [] [])) [(.s 69)] [] [] [] true⟩,
 ⟨(some 71), none, .call (.c (.fn 20 [] [])) [(.s 67), (.s 68), (.s 70)] [] [] [] false⟩,
 ⟨(some 72), none, .un .not (.s 71)⟩])
 (.cond (.s 72)
 (.seq
 (.region false [
 ⟨(some 6), none, .mv (.c (.bool false))⟩])
 .ret)
 .skip)))))
 (.region false [
 ⟨(some 73), none, .bin .add .int (.s 58) (.c (.int .i64 1))⟩,
 ⟨(some 58), none, .mv (.s 73)⟩])))))))
 (.seq
 (.region false [
 ⟨(some 74), none, .call (.c (.fn 11 [] [])) [] [] [] [] false⟩,
 ⟨(some 6), none, .mv (.s 74)⟩])
 .ret)))))) }
/- cuboid/cuboidref05.Whole -/
def f26 : MFun := { nt := 27, np := 1, no := 3, res := [.cell 2 1 (some 4)], body :=
 (.seq
 (.region false [
 ⟨(some 1), none, .box 0 (.s 0)⟩,
 ⟨(some 2), none, .alloc 1 [.int .u8 0, .int .u8 0, .int .u8 0, .int .u8 0]⟩])
 (.seq
 (.region false [
 ⟨(some 3), none, .alloc 2 [.int .u8 0, .int .u8 0, .int .u8 0, .int .u8 0]⟩])
 (.seq
 (.seq
 (.region false [
 ⟨(some 4), none, .mv (.c (.int .i64 0))⟩])
 (.block 0
 (.loop [1, 2, 3, 4] [0, 1, 2]
 (.seq
 (.seq
 (.region false [
 ⟨(some 5), none, .load (some 2) (some 0) (.s 1)⟩,
 ⟨(some 6), none, .call (.c (.fn 39 [] [])) [(.s 5)] [] [] [] false⟩,
 ⟨(some 7), none, .mv (.s 6)⟩,
 ⟨(some 8), (some (7, true)), .mv (.s 4)⟩,
 ⟨(some 9), (some (7, true)), .faddr 0 (.s 1)⟩,
 ⟨(some 10), (some (7, true)), .load none (some 0) (.s 9)⟩,
 ⟨(some 11), (some (7, true)), .len (.s 10)⟩,
 ⟨(some 12), (some (7, true)), .bin .lss .int (.s 8) (.s 11)⟩,
 ⟨(some 13), none, .pick (.s 7) (.s 12) (.c (.bool false))⟩])
 (.cond (.s 13)
 .skip
 (.exit 0)))
 (.seq
 (.block 1
 (.region false [
 ⟨(some 16), none, .mv (.s 4)⟩,
 ⟨(some 17), none, .faddr 0 (.s 1)⟩,
 ⟨(some 18), none, .load none (some 0) (.s 17)⟩,
 ⟨(some 19), none, .mv (.s 4)⟩,
 ⟨(some 20), none, .iaddrS 2 (.s 18) (.s 19)⟩,
 ⟨(some 21), none, .faddr 0 (.s 20)⟩,
 ⟨(some 22), none, .load none none (.s 21)⟩,
 ⟨(some 23), none, .len (.s 22)⟩,
 ⟨(some 24), none, .conv .u8 (.s 23)⟩,
 ⟨(some 25), none, .iaddrA 4 1 (.s 3) (.s 16)⟩,
 ⟨none, none, .store 1 2 [] (.s 25) (.s 24)⟩]))
 (.region false [
 ⟨(some 14), none, .mv (.s 4)⟩,
 ⟨(some 15), none, .bin .add .int (.s 14) (.c (.int .i64 1))⟩,
 ⟨(some 4), none, .mv (.s 15)⟩]))))))
 (.seq
 (.region false [
 ⟨(some 26), none, .load (some 4) (some 2) (.s 3)⟩,
 ⟨none, none, .store 4 1 [] (.s 2) (.s 26)⟩])
 .ret)))) }
/- cuboid/cuboidlaw25.QueryRolls -/
def f7 : MFun := { nt := 147, np := 1, no := 8, res := [.slot 2], body :=
 (.seq
 (.region false [
 ⟨(some 1), none, .box 0 (.s 0)⟩,
 ⟨(some 2), none, .mv (.c (.bool false))⟩])
 (.seq
 (.seq
 (.region false [
 ⟨(some 18), none, .load (some 11) (some 0) (.s 1)⟩,
 ⟨(some 19), none, .call (.c (.fn 9 [] [])) [(.s 18)] [] [] [] false⟩,
 ⟨(some 20), none, .un .not (.s 19)⟩,
 ⟨(some 21), none, .mv (.s 20)⟩,
 ⟨(some 22), (some (21, false)), .faddr 0 (.s 1)⟩,
 ⟨(some 23), (some (21, false)), .load (some 2) (some 0) (.s 22)⟩,
 ⟨(some 24), (some (21, false)), .faddr 2 (.s 1)⟩,
 ⟨(some 25), (some (21, false)), .load (some 9) (some 0) (.s 24)⟩,
 ⟨(some 26), (some (21, false)), .call (.c (.fn 22 [] [])) [(.s 23), (.s 25)] [] [] [] false⟩,
 ⟨(some 27), (some (21, false)), .un .not (.s 26)⟩,
 ⟨(some 28), none, .pick (.s 21) (.c (.bool true)) (.s 27)⟩])
 (.cond (.s 28)
 (.seq
 (.region false [
 ⟨(some 29), none, .call (.c (.fn 11 [] [])) [] [] [] [] false⟩,
 ⟨(some 2), none, .mv (.s 29)⟩])
 .ret)
 .skip))
 (.seq
 (.region true [
 ⟨(some 30), none, .faddr 0 (.s 1)⟩,
 ⟨(some 31), none, .load (some 2) (some 0) (.s 30)⟩,
 ⟨(some 32), none, .faddr 2 (.s 1)⟩,
 ⟨(some 33), none, .load (some 9) (some 0) (.s 32)⟩,
 ⟨(some 3), none, .alloc 1 [.nilsl, .int .i64 0]⟩,
 ⟨(some 4), none, .alloc 2 [.int .u8 0, .int .u8 0, .int .u8 0, .int .u8 0, .nilsl, .int .i64 0, .int .i64 0, .int .i64 0, .int .i64 0]⟩,
 ⟨none, none, .store 2 1 [] (.s 3) (.s 31)⟩,
 ⟨none, none, .store 9 2 [] (.s 4) (.s 33)⟩])
 (.seq
 (.seq
 (.region false [
 ⟨(some 5), none, .mv (.c (.int .i64 0))⟩])
 (.block 0
 (.loop [3, 4, 5] [1, 2]
 (.seq
 (.seq
 (.region false [
 ⟨(some 34), none, .mv (.s 5)⟩,
 ⟨(some 35), none, .faddr 0 (.s 3)⟩,
 ⟨(some 36), none, .load none (some 1) (.s 35)⟩,
 ⟨(some 37), none, .len (.s 36)⟩,
 ⟨(some 38), none, .bin .lss .int (.s 34) (.s 37)⟩])
 (.cond (.s 38)
 .skip
 (.exit 0)))
 (.seq
 (.block 1
 (.seq
 (.region false [
 ⟨(some 42), none, .load (some 2) (some 1) (.s 3)⟩,
 ⟨(some 43), none, .load (some 9) (some 2) (.s 4)⟩,
 ⟨(some 44), none, .mv (.s 5)⟩,
 ⟨(some 45), none, .call (.c (.fn 23 [] [])) [(.s 42), (.s 43), (.s 44)] [] [] [] true⟩,
 ⟨(some 41), none, .mv (.s 45)⟩,
 ⟨(some 46), none, .extract (.s 41) 0⟩,
 ⟨(some 47), none, .extract (.s 41) 1⟩,
 ⟨(some 6), none, .alloc 3 [.int .u8 0, .int .u8 0, .int .u8 0, .int .u8 0, .nilsl, .int .i64 0, .int .i64 0, .int .i64 0, .int .i64 0]⟩,
 ⟨none, none, .store 9 3 [] (.s 6) (.s 46)⟩,
 ⟨(some 7), none, .mv (.s 47)⟩])
 (.seq
 (.region false [
 ⟨(some 49), none, .load (some 2) (some 1) (.s 3)⟩,
 ⟨(some 50), none, .load (some 9) (some 3) (.s 6)⟩,
 ⟨(some 51), none, .mv (.s 5)⟩,
 ⟨(some 52), none, .call (.c (.fn 24 [] [])) [(.s 49), (.s 50), (.s 51)] [] [] [] true⟩,
 ⟨(some 48), none, .mv (.s 52)⟩,
 ⟨(some 53), none, .extract (.s 48) 0⟩,
 ⟨(some 54), none, .extract (.s 48) 1⟩,
 ⟨(some 8), none, .alloc 4 [.int .u8 0, .int .u8 0, .int .u8 0, .int .u8 0, .nilsl, .int .i64 0, .int .i64 0, .int .i64 0, .int .i64 0]⟩,
 ⟨none, none, .store 9 4 [] (.s 8) (.s 53)⟩,
 ⟨(some 9), none, .mv (.s 54)⟩])
 (.seq
 (.region false [
 ⟨(some 56), none, .load (some 2) (some 1) (.s 3)⟩,
 ⟨(some 57), none, .load (some 9) (some 2) (.s 4)⟩,
 ⟨(some 58), none, .mv (.s 5)⟩,
 ⟨(some 59), none, .call (.c (.fn 24 [] [])) [(.s 56), (.s 57), (.s 58)] [] [] [] true⟩,
 ⟨(some 55), none, .mv (.s 59)⟩,
 ⟨(some 60), none, .extract (.s 55) 0⟩,
 ⟨(some 61), none, .extract (.s 55) 1⟩,
 ⟨(some 10), none, .alloc 5 [.int .u8 0, .int .u8 0, .int .u8 0, .int .u8 0, .nilsl, .int .i64 0, .int .i64 0, .int .i64 0, .int .i64 0]⟩,
 ⟨none, none, .store 9 5 [] (.s 10) (.s 60)⟩,
 ⟨(some 11), none, .mv (.s 61)⟩])
 (.seq
 (.region false [
 ⟨(some 63), none, .load (some 2) (some 1) (.s 3)⟩,
 ⟨(some 64), none, .load (some 9) (some 5) (.s 10)⟩,
 ⟨(some 65), none, .mv (.s 5)⟩,
 ⟨(some 66), none, .call (.c (.fn 23 [] [])) [(.s 63), (.s 64), (.s 65)] [] [] [] true⟩,
 ⟨(some 62), none, .mv (.s 66)⟩,
 ⟨(some 67), none, .extract (.s 62) 0⟩,
 ⟨(some 68), none, .extract (.s 62) 1⟩,
 ⟨(some 12), none, .alloc 6 [.int .u8 0, .int .u8 0, .int .u8 0, .int .u8 0, .nilsl, .int .i64 0, .int .i64 0, .int .i64 0, .int .i64 0]⟩,
 ⟨none, none, .store 9 6 [] (.s 12) (.s 67)⟩,
 ⟨(some 13), none, .mv (.s 68)⟩])
 (.seq
 (.region true [
 ⟨(some 69), none, .mv (.s 7)⟩,
 ⟨(some 70), none, .mv (.s 5)⟩,
 ⟨(some 71), none, .faddr 0 (.s 4)⟩,
 ⟨(some 72), none, .iaddrA 4 1 (.s 71) (.s 70)⟩,
 ⟨(some 73), none, .load none (some 2) (.s 72)⟩,
 ⟨(some 74), none, .conv .i64 (.s 73)⟩,
 ⟨(some 75), none, .faddr 0 (.s 3)⟩,
 ⟨(some 76), none, .load none (some 1) (.s 75)⟩,
 ⟨(some 77), none, .mv (.s 5)⟩,
 ⟨(some 78), none, .iaddrS 2 (.s 76) (.s 77)⟩,
 ⟨(some 79), none, .faddr 0 (.s 78)⟩,
 ⟨(some 80), none, .load none none (.s 79)⟩,
 ⟨(some 81), none, .len (.s 80)⟩,
 ⟨(some 82), none, .bin .lss .int (.s 74) (.s 81)⟩,
 ⟨(some 83), none, .bin .neq .bool (.s 69) (.s 82)⟩,
 ⟨(some 84), none, .mv (.s 83)⟩,
 ⟨(some 85), (some (84, false)), .mv (.s 7)⟩,
 ⟨(some 86), (some (84, false)), .mv (.s 85)⟩,
 ⟨(some 87), (some (86, true)), .mv (.s 9)⟩,
 ⟨(some 88), (some (86, true)), .un .not (.s 87)⟩,
 ⟨(some 89), (some (86, true)), .mv (.s 88)⟩,
 ⟨(some 90), (some (89, false)), .load (some 9) (some 4) (.s 8)⟩,
 ⟨(some 91), (some (89, false)), .load (some 9) (some 2) (.s 4)⟩,
 ⟨(some 92), (some (89, false)), .call (.c (.fn 25 [] [])) [(.s 90), (.s 91)] [] [] [] false⟩,
 ⟨(some 93), (some (89, false)), .un .not (.s 92)⟩,
 ⟨(some 94), (some (86, true)), .pick (.s 89) (.c (.bool true)) (.s 93)⟩,
 ⟨(some 95), (some (84, false)), .pick (.s 86) (.s 94) (.c (.bool false))⟩,
 ⟨(some 96), none, .pick (.s 84) (.c (.bool true)) (.s 95)⟩,
 ⟨(some 97), none, .mv (.s 96)⟩,
 ⟨(some 98), (some (97, false)), .mv (.s 11)⟩,
 ⟨(some 99), (some (97, false)), .mv (.s 5)⟩,
 ⟨(some 100), (some (97, false)), .faddr 0 (.s 4)⟩,
 ⟨(some 101), (some (97, false)), .iaddrA 4 1 (.s 100) (.s 99)⟩,
 ⟨(some 102), (some (97, false)), .load none (some 2) (.s 101)⟩,
 ⟨(some 103), (some (97, false)), .bin .gtr .int (.s 102) (.c (.int .u8 0))⟩,
 ⟨(some 104), (some (97, false)), .bin .neq .bool (.s 98) (.s 103)⟩,
 ⟨(some 105), none, .pick (.s 97) (.c (.bool true)) (.s 104)⟩,
 ⟨(some 106), none, .mv (.s 105)⟩,
 ⟨(some 107), (some (106, false)), .mv (.s 11)⟩,
 ⟨(some 108), (some (106, false)), .mv (.s 107)⟩,
 ⟨(some 109), (some (108, true)), .mv (.s 13)⟩,
 ⟨(some 110), (some (108, true)), .un .not (.s 109)⟩,
 ⟨(some 111), (some (108, true)), .mv (.s 110)⟩,
 ⟨(some 112), (some (111, false)), .load (some 9) (some 6) (.s 12)⟩,
 ⟨(some 113), (some (111, false)), .load (some 9) (some 2) (.s 4)⟩,
 ⟨(some 114), (some (111, false)), .call (.c (.fn 25 [] [])) [(.s 112), (.s 113)] [] [] [] false⟩,
 ⟨(some 115), (some (111, false)), .un .not (.s 114)⟩,
 ⟨(some 116), (some (108, true)), .pick (.s 111) (.c (.bool true)) (.s 115)⟩,
 ⟨(some 117), (some (106, false)), .pick (.s 108) (.s 116) (.c (.bool false))⟩,
 ⟨(some 118), none, .pick (.s 106) (.c (.bool true)) (.s 117)⟩])
 (.cond (.s 118)
 (.seq
 (.region false [
 ⟨(some 2), none, .mv (.c (.bool false))⟩])
 .ret)
 .skip)))))))
 (.region false [
 ⟨(some 39), none, .mv (.s 5)⟩,
 ⟨(some 40), none, .bin .add .int (.s 39) (.c (.int .i64 1))⟩,
 ⟨(some 5), none, .mv (.s 40)⟩]))))))
 (.seq
 (.seq
 (.region false [
 ⟨(some 14), none, .mv (.c (.int .i64 0))⟩])
 (.block 2
 (.loop [3, 4, 14] [1, 2]
 (.seq
 (.seq
 (.region false [
 ⟨(some 119), none, .mv (.s 14)⟩,
 ⟨(some 120), none, .faddr 0 (.s 3)⟩,
 ⟨(some 121), none, .load none (some 1) (.s 120)⟩,
 ⟨(some 122), none, .len (.s 121)⟩,
 ⟨(some 123), none, .bin .lss .int (.s 119) (.s 122)⟩])
 (.cond (.s 123)
 .skip
 (.exit 2)))
 (.seq
 (.block 3
 (.seq
 (.region false [
 ⟨(some 15), none, .mv (.c (.int .i64 0))⟩])
 (.block 4
 (.loop [3, 4, 14, 15] [1, 2]
 (.seq
 (.seq
 (.region false [
 ⟨(some 126), none, .mv (.s 15)⟩,
 ⟨(some 127), none, .bin .lss .int (.s 126) (.c (.int .i64 5))⟩])
 (.cond (.s 127)
 .skip
 (.exit 4)))
 (.seq
 (.block 5
 (.seq
 (.region false [
 ⟨(some 131), none, .load (some 2) (some 1) (.s 3)⟩,
 ⟨(some 132), none, .load (some 9) (some 2) (.s 4)⟩,
 ⟨(some 133), none, .mv (.s 14)⟩,
 ⟨(some 134), none, .call (.c (.fn 23 [] [])) [(.s 131), (.s 132), (.s 133)] [] [] [] true⟩,
 ⟨(some 130), none, .mv (.s 134)⟩,
 ⟨(some 135), none, .extract (.s 130) 0⟩,
 ⟨(some 136), none, .extract (.s 130) 1⟩,
 ⟨(some 16), none, .alloc 7 [.int .u8 0, .int .u8 0, .int .u8 0, .int .u8 0, .nilsl, .int .i64 0, .int .i64 0, .int .i64 0, .int .i64 0]⟩,
 ⟨none, none, .store 9 7 [] (.s 16) (.s 135)⟩,
 ⟨(some 17), none, .mv (.s 136)⟩])
 (.seq
 (.region false [
 ⟨(some 137), none, .mv (.s 17)⟩])
 (.cond (.s 137)
 (.region false [
 ⟨(some 138), none, .load (some 9) (some 7) (.s 16)⟩,
 ⟨none, none, .store 9 2 [] (.s 4) (.s 138)⟩])
 .skip))))
 (.region false [
 ⟨(some 128), none, .mv (.s 15)⟩,
 ⟨(some 129), none, .bin .add .int (.s 128) (.c (.int .i64 1))⟩,
 ⟨(some 15), none, .mv (.s 129)⟩])))))))
 (.region false [
 ⟨(some 124), none, .mv (.s 14)⟩,
 ⟨(some 125), none, .bin .add .int (.s 124) (.c (.int .i64 1))⟩,
 ⟨(some 14), none, .mv (.s 125)⟩]))))))
 (.seq
 (.region true [
 ⟨(some 139), none, .faddr 0 (.s 4)⟩,
 ⟨(some 140), none, .load (some 4) (some 2) (.s 139)⟩,
 ⟨(some 141), none, .load (some 2) (some 1) (.s 3)⟩,
 ⟨(some 142), none, .call (.c (.fn 26 [] [])) [(.s 141)] [] [] [] false⟩,
 ⟨(some 143), none, .bin .eql (.agg [some .u8, some .u8, some .u8, some .u8]) (.s 140) (.s 142)⟩,
 ⟨(some 144), none, .mv (.s 143)⟩,
 ⟨(some 145), (some (144, true)), .call (.c (.fn 11 [] [])) [] [] [] [] false⟩,
 ⟨(some 146), none, .pick (.s 144) (.s 145) (.c (.bool false))⟩,
 ⟨(some 2), none, .mv (.s 146)⟩])
 .ret)))))) }
/- cuboid/cuboidref05.All -/
def f28 : MFun := { nt := 52, np := 1, no := 3, res := [.slot 2], body :=
 (.seq
 (.region false [
 ⟨(some 1), none, .box 0 (.s 0)⟩,
 ⟨(some 2), none, .mv (.c .nilsl)⟩])
 (.seq
 (.seq
 (.region false [
 ⟨(some 9), none, .load (some 2) (some 0) (.s 1)⟩,
 ⟨(some 10), none, .call (.c (.fn 39 [] [])) [(.s 9)] [] [] [] false⟩,
 ⟨(some 11), none, .un .not (.s 10)⟩])
 (.cond (.s 11)
 (.seq
 (.region false [
 ⟨(some 2), none, .mv (.c .nilsl)⟩])
 .ret)
 .skip))
 (.seq
 (.region false [
 ⟨(some 12), none, .build [.int .u8 0, .int .u8 0, .int .u8 0, .int .u8 0] []⟩,
 ⟨(some 13), none, .lit none [] 1 4 [.int .u8 0, .int .u8 0, .int .u8 0, .int .u8 0] [(0, 4, (.s 12))]⟩,
 ⟨(some 3), none, .frz [] (.s 13)⟩])
 (.seq
 (.seq
 (.region false [
 ⟨(some 4), none, .mv (.c (.int .i64 0))⟩])
 (.block 0
 (.loop [1, 3, 4] [0]
 (.seq
 (.seq
 (.region false [
 ⟨(some 14), none, .mv (.s 4)⟩,
 ⟨(some 15), none, .faddr 0 (.s 1)⟩,
 ⟨(some 16), none, .load none (some 0) (.s 15)⟩,
 ⟨(some 17), none, .len (.s 16)⟩,
 ⟨(some 18), none, .bin .lss .int (.s 14) (.s 17)⟩])
 (.cond (.s 18)
 .skip
 (.exit 0)))
 (.seq
 (.block 1
 (.seq
 (.region false [
 ⟨(some 5), none, .vnil 1 4⟩])
 (.seq
 (.seq
 (.region false [
 ⟨(some 6), none, .mv (.c (.int .i64 0))⟩])
 (.block 2
 (.loop [1, 3, 4, 5, 6] [0, 1]
 (.seq
 (.seq
 (.region false [
 ⟨(some 21), none, .mv (.s 6)⟩,
 ⟨(some 22), none, .mv (.s 3)⟩,
 ⟨(some 23), none, .len (.s 22)⟩,
 ⟨(some 24), none, .bin .lss .int (.s 21) (.s 23)⟩])
 (.cond (.s 24)
 .skip
 (.exit 2)))
 (.seq
 (.block 3
 (.seq
 (.region false [
 ⟨(some 7), none, .mv (.c (.int .i64 0))⟩])
 (.block 4
 (.loop [1, 3, 4, 5, 6, 7] [0, 1]
 (.seq
 (.seq
 (.region false [
 ⟨(some 27), none, .mv (.s 7)⟩,
 ⟨(some 28), none, .faddr 0 (.s 1)⟩,
 ⟨(some 29), none, .load none (some 0) (.s 28)⟩,
 ⟨(some 30), none, .mv (.s 4)⟩,
 ⟨(some 31), none, .iaddrS 2 (.s 29) (.s 30)⟩,
 ⟨(some 32), none, .faddr 0 (.s 31)⟩,
 ⟨(some 33), none, .load none none (.s 32)⟩,
 ⟨(some 34), none, .len (.s 33)⟩,
 ⟨(some 35), none, .bin .leq .int (.s 27) (.s 34)⟩])
 (.cond (.s 35)
 .skip
 (.exit 4)))
 (.seq
 (.block 5
 (.seq
 (.region false [
 ⟨(some 38), none, .mv (.s 3)⟩,
 ⟨(some 39), none, .mv (.s 6)⟩,
 ⟨(some 40), none, .iaddrS 4 (.s 38) (.s 39)⟩,
 ⟨(some 41), none, .load (some 4) none (.s 40)⟩,
 ⟨(some 8), none, .alloc 2 [.int .u8 0, .int .u8 0, .int .u8 0, .int .u8 0]⟩,
 ⟨none, none, .store 4 2 [] (.s 8) (.s 41)⟩])
 (.seq
 (.region false [
 ⟨(some 42), none, .mv (.s 4)⟩,
 ⟨(some 43), none, .mv (.s 7)⟩,
 ⟨(some 44), none, .conv .u8 (.s 43)⟩,
 ⟨(some 45), none, .iaddrA 4 1 (.s 8) (.s 42)⟩,
 ⟨none, none, .store 1 2 [] (.s 45) (.s 44)⟩])
 (.region false [
 ⟨(some 46), none, .mv (.s 5)⟩,
 ⟨(some 47), none, .load (some 4) (some 2) (.s 8)⟩,
 ⟨(some 48), none, .lit none [] 1 4 [.int .u8 0, .int .u8 0, .int .u8 0, .int .u8 0] [(0, 4, (.s 47))]⟩,
 ⟨(some 49), none, .append 4 4 1 none (.s 46) (.s 48)⟩,
 ⟨(some 5), none, .mv (.s 49)⟩]))))
 (.region false [
 ⟨(some 36), none, .mv (.s 7)⟩,
 ⟨(some 37), none, .bin .add .int (.s 36) (.c (.int .i64 1))⟩,
 ⟨(some 7), none, .mv (.s 37)⟩])))))))
 (.region false [
 ⟨(some 25), none, .mv (.s 6)⟩,
 ⟨(some 26), none, .bin .add .int (.s 25) (.c (.int .i64 1))⟩,
 ⟨(some 6), none, .mv (.s 26)⟩]))))))
 (.region false [
 ⟨(some 50), none, .mv (.s 5)⟩,
 ⟨(some 3), none, .frz [1] (.s 50)⟩]))))
 (.region false [
 ⟨(some 19), none, .mv (.s 4)⟩,
 ⟨(some 20), none, .bin .add .int (.s 19) (.c (.int .i64 1))⟩,
 ⟨(some 4), none, .mv (.s 20)⟩]))))))
 (.seq
 (.region false [
 ⟨(some 51), none, .mv (.s 3)⟩,
 ⟨(some 2), none, .mv (.s 51)⟩])
 .ret))))) }
/- cuboid/cuboidref05.Below -/
def f29 : MFun := { nt := 17, np := 2, no := 2, res := [.slot 4], body :=
 (.seq
 (.region false [
 ⟨(some 2), none, .box 0 (.s 0)⟩,
 ⟨(some 3), none, .box 1 (.s 1)⟩,
 ⟨(some 4), none, .mv (.c (.bool false))⟩])
 (.seq
 (.seq
 (.region false [
 ⟨(some 5), none, .mv (.c (.int .i64 0))⟩])
 (.block 0
 (.loop [2, 3, 5] [0, 1]
 (.seq
 (.seq
 (.region false [
 ⟨(some 6), none, .mv (.s 5)⟩,
 ⟨(some 7), none, .bin .lss .int (.s 6) (.c (.int .i64 4))⟩])
 (.cond (.s 7)
 .skip
 (.exit 0)))
 (.seq
 (.block 1
 (.seq
 (.region true [
 ⟨(some 10), none, .mv (.s 5)⟩,
 ⟨(some 11), none, .iaddrA 4 1 (.s 2) (.s 10)⟩,
 ⟨(some 12), none, .load none (some 0) (.s 11)⟩,
 ⟨(some 13), none, .mv (.s 5)⟩,
 ⟨(some 14), none, .iaddrA 4 1 (.s 3) (.s 13)⟩,
 ⟨(some 15), none, .load none (some 1) (.s 14)⟩,
 ⟨(some 16), none, .bin .gtr .int (.s 12) (.s 15)⟩])
 (.cond (.s 16)
 (.seq
 (.region false [
 ⟨(some 4), none, .mv (.c (.bool false))⟩])
 .ret)
 .skip)))
 (.region false [
 ⟨(some 8), none, .mv (.s 5)⟩,
 ⟨(some 9), none, .bin .add .int (.s 8) (.c (.int .i64 1))⟩,
 ⟨(some 5), none, .mv (.s 9)⟩]))))))
 (.seq
 (.region false [
 ⟨(some 4), none, .mv (.c (.bool true))⟩])
 .ret))) }
/- cuboid/cuboidlaw25.QueryNeeds -/
def f8 : MFun := { nt := 96, np := 1, no := 2, res := [.slot 2], body :=
 (.seq
 (.region false [
 ⟨(some 1), none, .box 0 (.s 0)⟩,
 ⟨(some 2), none, .mv (.c (.bool false))⟩])
 (.seq
 (.seq
 (.region false [
 ⟨(some 8), none, .load (some 11) (some 0) (.s 1)⟩,
 ⟨(some 9), none, .call (.c (.fn 9 [] [])) [(.s 8)] [] [] [] false⟩,
 ⟨(some 10), none, .un .not (.s 9)⟩,
 ⟨(some 11), none, .mv (.s 10)⟩,
 ⟨(some 12), (some (11, false)), .faddr 0 (.s 1)⟩,
 ⟨(some 13), (some (11, false)), .load (some 2) (some 0) (.s 12)⟩,
 ⟨(some 14), (some (11, false)), .faddr 2 (.s 1)⟩,
 ⟨(some 15), (some (11, false)), .load (some 9) (some 0) (.s 14)⟩,
 ⟨(some 16), (some (11, false)), .call (.c (.fn 22 [] [])) [(.s 13), (.s 15)] [] [] [] false⟩,
 ⟨(some 17), (some (11, false)), .un .not (.s 16)⟩,
 ⟨(some 18), none, .pick (.s 11) (.c (.bool true)) (.s 17)⟩])
 (.cond (.s 18)
 (.seq
 (.region false [
 ⟨(some 19), none, .call (.c (.fn 11 [] [])) [] [] [] [] false⟩,
 ⟨(some 2), none, .mv (.s 19)⟩])
 .ret)
 .skip))
 (.seq
 (.region false [
 ⟨(some 20), none, .faddr 0 (.s 1)⟩,
 ⟨(some 21), none, .load (some 2) (some 0) (.s 20)⟩,
 ⟨(some 22), none, .faddr 2 (.s 1)⟩,
 ⟨(some 23), none, .load (some 9) (some 0) (.s 22)⟩,
 ⟨(some 24), none, .call (.c (.fn 27 [] [])) [(.s 21), (.s 23)] [] [] [] false⟩,
 ⟨(some 3), none, .alloc 1 [.int .u8 0, .int .u8 0, .int .u8 0, .int .u8 0]⟩,
 ⟨none, none, .store 4 1 [] (.s 3) (.s 24)⟩])
 (.seq
 (.region false [
 ⟨(some 25), none, .faddr 0 (.s 1)⟩,
 ⟨(some 26), none, .load (some 2) (some 0) (.s 25)⟩,
 ⟨(some 27), none, .call (.c (.fn 28 [] [])) [(.s 26)] [] [] [] true⟩,
 ⟨(some 4), none, .mv (.s 27)⟩])
 (.seq
 (.seq
 (.region false [
 ⟨(some 5), none, .mv (.c (.int .i64 0))⟩])
 (.block 0
 (.loop [1, 3, 4, 5] [0, 1]
 (.seq
 (.seq
 (.region false [
 ⟨(some 28), none, .mv (.s 5)⟩,
 ⟨(some 29), none, .mv (.s 4)⟩,
 ⟨(some 30), none, .len (.s 29)⟩,
 ⟨(some 31), none, .bin .lss .int (.s 28) (.s 30)⟩])
 (.cond (.s 31)
 .skip
 (.exit 0)))
 (.seq
 (.block 1
 (.seq
 (.region true [
 ⟨(some 34), none, .mv (.s 4)⟩,
 ⟨(some 35), none, .mv (.s 5)⟩,
 ⟨(some 36), none, .iaddrS 4 (.s 34) (.s 35)⟩,
 ⟨(some 37), none, .load (some 4) none (.s 36)⟩,
 ⟨(some 38), none, .faddr 2 (.s 1)⟩,
 ⟨(some 39), none, .faddr 0 (.s 38)⟩,
 ⟨(some 40), none, .load (some 4) (some 0) (.s 39)⟩,
 ⟨(some 41), none, .call (.c (.fn 29 [] [])) [(.s 37), (.s 40)] [] [] [] false⟩,
 ⟨(some 6), none, .mv (.s 41)⟩])
 (.seq
 (.seq
 (.region false [
 ⟨(some 7), none, .mv (.c (.int .i64 0))⟩])
 (.block 2
 (.loop [1, 3, 4, 5, 6, 7] [0, 1]
 (.seq
 (.seq
 (.region false [
 ⟨(some 42), none, .mv (.s 7)⟩,
 ⟨(some 43), none, .faddr 2 (.s 1)⟩,
 ⟨(some 44), none, .faddr 4 (.s 43)⟩,
 ⟨(some 45), none, .load none (some 0) (.s 44)⟩,
 ⟨(some 46), none, .len (.s 45)⟩,
 ⟨(some 47), none, .bin .lss .int (.s 42) (.s 46)⟩])
 (.cond (.s 47)
 .skip
 (.exit 2)))
 (.seq
 (.block 3
 (.region true [
 ⟨(some 50), none, .mv (.s 6)⟩,
 ⟨(some 51), none, .mv (.s 50)⟩,
 ⟨(some 52), (some (51, true)), .mv (.s 4)⟩,
 ⟨(some 53), (some (51, true)), .mv (.s 5)⟩,
 ⟨(some 54), (some (51, true)), .faddr 2 (.s 1)⟩,
 ⟨(some 55), (some (51, true)), .faddr 4 (.s 54)⟩,
 ⟨(some 56), (some (51, true)), .load none (some 0) (.s 55)⟩,
 ⟨(some 57), (some (51, true)), .mv (.s 7)⟩,
 ⟨(some 58), (some (51, true)), .iaddrS 3 (.s 56) (.s 57)⟩,
 ⟨(some 59), (some (51, true)), .faddr 0 (.s 58)⟩,
 ⟨(some 60), (some (51, true)), .load none none (.s 59)⟩,
 ⟨(some 61), (some (51, true)), .iaddrS 4 (.s 52) (.s 53)⟩,
 ⟨(some 62), (some (51, true)), .iaddrA 4 1 (.s 61) (.s 60)⟩,
 ⟨(some 63), (some (51, true)), .load none none (.s 62)⟩,
 ⟨(some 64), (some (51, true)), .conv .i64 (.s 63)⟩,
 ⟨(some 65), (some (51, true)), .faddr 2 (.s 1)⟩,
 ⟨(some 66), (some (51, true)), .faddr 4 (.s 65)⟩,
 ⟨(some 67), (some (51, true)), .load none (some 0) (.s 66)⟩,
 ⟨(some 68), (some (51, true)), .mv (.s 7)⟩,
 ⟨(some 69), (some (51, true)), .iaddrS 3 (.s 67) (.s 68)⟩,
 ⟨(some 70), (some (51, true)), .faddr 1 (.s 69)⟩,
 ⟨(some 71), (some (51, true)), .load none none (.s 70)⟩,
 ⟨(some 72), (some (51, true)), .bin .leq .int (.s 64) (.s 71)⟩,
 ⟨(some 73), none, .pick (.s 51) (.s 72) (.c (.bool false))⟩,
 ⟨(some 6), none, .mv (.s 73)⟩]))
 (.region false [
 ⟨(some 48), none, .mv (.s 7)⟩,
 ⟨(some 49), none, .bin .add .int (.s 48) (.c (.int .i64 1))⟩,
 ⟨(some 7), none, .mv (.s 49)⟩]))))))
 (.seq
 (.region true [
 ⟨(some 74), none, .mv (.s 6)⟩,
 ⟨(some 75), none, .mv (.s 4)⟩,
 ⟨(some 76), none, .mv (.s 5)⟩,
 ⟨(some 77), none, .iaddrS 4 (.s 75) (.s 76)⟩,
 ⟨(some 78), none, .load (some 4) none (.s 77)⟩,
 ⟨(some 79), none, .load (some 4) (some 1) (.s 3)⟩,
 ⟨(some 80), none, .call (.c (.fn 29 [] [])) [(.s 78), (.s 79)] [] [] [] false⟩,
 ⟨(some 81), none, .bin .neq .bool (.s 74) (.s 80)⟩])
 (.cond (.s 81)
 (.seq
 (.region false [
 ⟨(some 2), none, .mv (.c (.bool false))⟩])
 .ret)
 .skip)))))
 (.region false [
 ⟨(some 32), none, .mv (.s 5)⟩,
 ⟨(some 33), none, .bin .add .int (.s 32) (.c (.int .i64 1))⟩,
 ⟨(some 5), none, .mv (.s 33)⟩]))))))
 (.seq
 (.region false [
 ⟨(some 82), none, .faddr 0 (.s 1)⟩,
 ⟨(some 83), none, .load (some 2) (some 0) (.s 82)⟩,
 ⟨(some 84), none, .faddr 2 (.s 1)⟩,
 ⟨(some 85), none, .load (some 9) (some 0) (.s 84)⟩,
 ⟨(some 86), none, .call (.c (.fn 30 [] [])) [(.s 83), (.s 85)] [] [] [] false⟩,
 ⟨(some 87), none, .mv (.s 86)⟩,
 ⟨(some 88), (some (87, true)), .faddr 0 (.s 1)⟩,
 ⟨(some 89), (some (87, true)), .load (some 2) (some 0) (.s 88)⟩,
 ⟨(some 90), (some (87, true)), .load (some 4) (some 1) (.s 3)⟩,
 ⟨(some 91), (some (87, true)), .call (.c (.fn 31 [] [])) [(.s 89), (.s 90)] [] [] [] false⟩,
 ⟨(some 92), none, .pick (.s 87) (.s 91) (.c (.bool false))⟩,
 ⟨(some 93), none, .mv (.s 92)⟩,
 ⟨(some 94), (some (93, true)), .call (.c (.fn 11 [] [])) [] [] [] [] false⟩,
 ⟨(some 95), none, .pick (.s 93) (.s 94) (.c (.bool false))⟩,
 ⟨(some 2), none, .mv (.s 95)⟩])
 .ret)))))) }
end Mf
theorem mf10_ok : chkFun Try.prog Mf.f10 Try.f10 = true := by kernel_rfl
theorem mf59_ok : chkFun Try.prog Mf.f59 Try.f59 = true := by kernel_rfl
theorem mf32_ok : chkFun Try.prog Mf.f32 Try.f32 = true := by kernel_rfl
theorem mf9_ok : chkFun Try.prog Mf.f9 Try.f9 = true := by kernel_rfl
theorem mf40_ok : chkFun Try.prog Mf.f40 Try.f40 = true := by kernel_rfl
theorem mf56_ok : chkFun Try.prog Mf.f56 Try.f56 = true := by kernel_rfl
theorem mf62_ok : chkFun Try.prog Mf.f62 Try.f62 = true := by kernel_rfl
theorem mf41_ok : chkFun Try.prog Mf.f41 Try.f41 = true := by kernel_rfl
theorem mf16_ok : chkFun Try.prog Mf.f16 Try.f16 = true := by kernel_rfl
theorem mf63_ok : chkFun Try.prog Mf.f63 Try.f63 = true := by kernel_rfl
theorem mf44_ok : chkFun Try.prog Mf.f44 Try.f44 = true := by kernel_rfl
theorem mf42_ok : chkFun Try.prog Mf.f42 Try.f42 = true := by kernel_rfl
theorem mf43_ok : chkFun Try.prog Mf.f43 Try.f43 = true := by kernel_rfl
theorem mf17_ok : chkFun Try.prog Mf.f17 Try.f17 = true := by kernel_rfl
theorem mf69_ok : chkFun Try.prog Mf.f69 Try.f69 = true := by kernel_rfl
theorem mf77_ok : chkFun Try.prog Mf.f77 Try.f77 = true := by kernel_rfl
theorem mf78_ok : chkFun Try.prog Mf.f78 Try.f78 = true := by kernel_rfl
theorem mf75_ok : chkFun Try.prog Mf.f75 Try.f75 = true := by kernel_rfl
theorem mf68_ok : chkFun Try.prog Mf.f68 Try.f68 = true := by kernel_rfl
theorem mf74_ok : chkFun Try.prog Mf.f74 Try.f74 = true := by kernel_rfl
theorem mf73_ok : chkFun Try.prog Mf.f73 Try.f73 = true := by kernel_rfl
theorem mf55_ok : chkFun Try.prog Mf.f55 Try.f55 = true := by kernel_rfl
theorem mf57_ok : chkFun Try.prog Mf.f57 Try.f57 = true := by kernel_rfl
theorem mf30_ok : chkFun Try.prog Mf.f30 Try.f30 = true := by kernel_rfl
theorem mf48_ok : chkFun Try.prog Mf.f48 Try.f48 = true := by kernel_rfl
theorem mf49_ok : chkFun Try.prog Mf.f49 Try.f49 = true := by kernel_rfl
theorem mf70_ok : chkFun Try.prog Mf.f70 Try.f70 = true := by kernel_rfl
theorem mf71_ok : chkFun Try.prog Mf.f71 Try.f71 = true := by kernel_rfl
theorem mf50_ok : chkFun Try.prog Mf.f50 Try.f50 = true := by kernel_rfl
theorem mf51_ok : chkFun Try.prog Mf.f51 Try.f51 = true := by kernel_rfl
theorem mf23_ok : chkFun Try.prog Mf.f23 Try.f23 = true := by kernel_rfl
theorem mf24_ok : chkFun Try.prog Mf.f24 Try.f24 = true := by kernel_rfl
theorem mf52_ok : chkFun Try.prog Mf.f52 Try.f52 = true := by kernel_rfl
theorem mf53_ok : chkFun Try.prog Mf.f53 Try.f53 = true := by kernel_rfl
theorem mf72_ok : chkFun Try.prog Mf.f72 Try.f72 = true := by kernel_rfl
theorem mf54_ok : chkFun Try.prog Mf.f54 Try.f54 = true := by kernel_rfl
theorem mf25_ok : chkFun Try.prog Mf.f25 Try.f25 = true := by kernel_rfl
theorem mf27_ok : chkFun Try.prog Mf.f27 Try.f27 = true := by kernel_rfl
theorem mf33_ok : chkFun Try.prog Mf.f33 Try.f33 = true := by kernel_rfl
theorem mf34_ok : chkFun Try.prog Mf.f34 Try.f34 = true := by kernel_rfl
theorem mf60_ok : chkFun Try.prog Mf.f60 Try.f60 = true := by kernel_rfl
theorem mf35_ok : chkFun Try.prog Mf.f35 Try.f35 = true := by kernel_rfl
theorem mf11_ok : chkFun Try.prog Mf.f11 Try.f11 = true := by kernel_rfl
theorem mf18_ok : chkFun Try.prog Mf.f18 Try.f18 = true := by kernel_rfl
theorem mf64_ok : chkFun Try.prog Mf.f64 Try.f64 = true := by kernel_rfl
theorem mf65_ok : chkFun Try.prog Mf.f65 Try.f65 = true := by kernel_rfl
theorem mf45_ok : chkFun Try.prog Mf.f45 Try.f45 = true := by kernel_rfl
theorem mf19_ok : chkFun Try.prog Mf.f19 Try.f19 = true := by kernel_rfl
theorem mf61_ok : chkFun Try.prog Mf.f61 Try.f61 = true := by kernel_rfl
theorem mf39_ok : chkFun Try.prog Mf.f39 Try.f39 = true := by kernel_rfl
theorem mf67_ok : chkFun Try.prog Mf.f67 Try.f67 = true := by kernel_rfl
theorem mf58_ok : chkFun Try.prog Mf.f58 Try.f58 = true := by kernel_rfl
theorem mf31_ok : chkFun Try.prog Mf.f31 Try.f31 = true := by kernel_rfl
theorem mf15_ok : chkFun Try.prog Mf.f15 Try.f15 = true := by kernel_rfl
theorem mf47_ok : chkFun Try.prog Mf.f47 Try.f47 = true := by kernel_rfl
theorem mf22_ok : chkFun Try.prog Mf.f22 Try.f22 = true := by kernel_rfl
theorem mf36_ok : chkFun Try.prog Mf.f36 Try.f36 = true := by kernel_rfl
theorem mf12_ok : chkFun Try.prog Mf.f12 Try.f12 = true := by kernel_rfl
theorem mf3_ok : chkFun Try.prog Mf.f3 Try.f3 = true := by kernel_rfl
theorem mf13_ok : chkFun Try.prog Mf.f13 Try.f13 = true := by kernel_rfl
theorem mf20_ok : chkFun Try.prog Mf.f20 Try.f20 = true := by kernel_rfl
theorem mf37_ok : chkFun Try.prog Mf.f37 Try.f37 = true := by kernel_rfl
theorem mf38_ok : chkFun Try.prog Mf.f38 Try.f38 = true := by kernel_rfl
theorem mf14_ok : chkFun Try.prog Mf.f14 Try.f14 = true := by kernel_rfl
theorem mf4_ok : chkFun Try.prog Mf.f4 Try.f4 = true := by kernel_rfl
theorem mf5_ok : chkFun Try.prog Mf.f5 Try.f5 = true := by kernel_rfl
theorem mf66_ok : chkFun Try.prog Mf.f66 Try.f66 = true := by kernel_rfl
theorem mf46_ok : chkFun Try.prog Mf.f46 Try.f46 = true := by kernel_rfl
theorem mf21_ok : chkFun Try.prog Mf.f21 Try.f21 = true := by kernel_rfl
theorem mf6_ok : chkFun Try.prog Mf.f6 Try.f6 = true := by kernel_rfl
theorem mf26_ok : chkFun Try.prog Mf.f26 Try.f26 = true := by kernel_rfl
theorem mf7_ok : chkFun Try.prog Mf.f7 Try.f7 = true := by kernel_rfl
theorem mf28_ok : chkFun Try.prog Mf.f28 Try.f28 = true := by kernel_rfl
theorem mf29_ok : chkFun Try.prog Mf.f29 Try.f29 = true := by kernel_rfl
theorem mf8_ok : chkFun Try.prog Mf.f8 Try.f8 = true := by kernel_rfl
/-GROW 76 slices.Grow[[]cuboid/api.Fix,cuboid/api.Fix]-/
/-OWN 40-/
theorem mf40o_ok : chkFun Try.prog Mf.f40o Try.f40 = true := by kernel_rfl
def fnTab : FuncId → Option MFun
 | 10 => some Mf.f10
 | 59 => some Mf.f59
 | 32 => some Mf.f32
 | 9 => some Mf.f9
 | 40 => some Mf.f40
 | 56 => some Mf.f56
 | 62 => some Mf.f62
 | 41 => some Mf.f41
 | 16 => some Mf.f16
 | 63 => some Mf.f63
 | 44 => some Mf.f44
 | 42 => some Mf.f42
 | 43 => some Mf.f43
 | 17 => some Mf.f17
 | 69 => some Mf.f69
 | 77 => some Mf.f77
 | 78 => some Mf.f78
 | 75 => some Mf.f75
 | 68 => some Mf.f68
 | 74 => some Mf.f74
 | 73 => some Mf.f73
 | 55 => some Mf.f55
 | 57 => some Mf.f57
 | 30 => some Mf.f30
 | 48 => some Mf.f48
 | 49 => some Mf.f49
 | 70 => some Mf.f70
 | 71 => some Mf.f71
 | 50 => some Mf.f50
 | 51 => some Mf.f51
 | 23 => some Mf.f23
 | 24 => some Mf.f24
 | 52 => some Mf.f52
 | 53 => some Mf.f53
 | 72 => some Mf.f72
 | 54 => some Mf.f54
 | 25 => some Mf.f25
 | 27 => some Mf.f27
 | 33 => some Mf.f33
 | 34 => some Mf.f34
 | 60 => some Mf.f60
 | 35 => some Mf.f35
 | 11 => some Mf.f11
 | 18 => some Mf.f18
 | 64 => some Mf.f64
 | 65 => some Mf.f65
 | 45 => some Mf.f45
 | 19 => some Mf.f19
 | 61 => some Mf.f61
 | 39 => some Mf.f39
 | 67 => some Mf.f67
 | 58 => some Mf.f58
 | 31 => some Mf.f31
 | 15 => some Mf.f15
 | 47 => some Mf.f47
 | 22 => some Mf.f22
 | 36 => some Mf.f36
 | 12 => some Mf.f12
 | 3 => some Mf.f3
 | 13 => some Mf.f13
 | 20 => some Mf.f20
 | 37 => some Mf.f37
 | 38 => some Mf.f38
 | 14 => some Mf.f14
 | 4 => some Mf.f4
 | 5 => some Mf.f5
 | 66 => some Mf.f66
 | 46 => some Mf.f46
 | 21 => some Mf.f21
 | 6 => some Mf.f6
 | 26 => some Mf.f26
 | 7 => some Mf.f7
 | 28 => some Mf.f28
 | 29 => some Mf.f29
 | 8 => some Mf.f8
 | _ => none
theorem fnTab_ok : ∀ f mf, fnTab f = some mf → ∃ fn, Try.prog.funcs[f]? = some fn ∧ chkFun Try.prog mf fn = true := by
 intro f mf h
 unfold fnTab at h
 split at h
 · cases h; exact ⟨Try.f10, Try.func10, mf10_ok⟩
 · cases h; exact ⟨Try.f59, Try.func59, mf59_ok⟩
 · cases h; exact ⟨Try.f32, Try.func32, mf32_ok⟩
 · cases h; exact ⟨Try.f9, Try.func9, mf9_ok⟩
 · cases h; exact ⟨Try.f40, Try.func40, mf40_ok⟩
 · cases h; exact ⟨Try.f56, Try.func56, mf56_ok⟩
 · cases h; exact ⟨Try.f62, Try.func62, mf62_ok⟩
 · cases h; exact ⟨Try.f41, Try.func41, mf41_ok⟩
 · cases h; exact ⟨Try.f16, Try.func16, mf16_ok⟩
 · cases h; exact ⟨Try.f63, Try.func63, mf63_ok⟩
 · cases h; exact ⟨Try.f44, Try.func44, mf44_ok⟩
 · cases h; exact ⟨Try.f42, Try.func42, mf42_ok⟩
 · cases h; exact ⟨Try.f43, Try.func43, mf43_ok⟩
 · cases h; exact ⟨Try.f17, Try.func17, mf17_ok⟩
 · cases h; exact ⟨Try.f69, Try.func69, mf69_ok⟩
 · cases h; exact ⟨Try.f77, Try.func77, mf77_ok⟩
 · cases h; exact ⟨Try.f78, Try.func78, mf78_ok⟩
 · cases h; exact ⟨Try.f75, Try.func75, mf75_ok⟩
 · cases h; exact ⟨Try.f68, Try.func68, mf68_ok⟩
 · cases h; exact ⟨Try.f74, Try.func74, mf74_ok⟩
 · cases h; exact ⟨Try.f73, Try.func73, mf73_ok⟩
 · cases h; exact ⟨Try.f55, Try.func55, mf55_ok⟩
 · cases h; exact ⟨Try.f57, Try.func57, mf57_ok⟩
 · cases h; exact ⟨Try.f30, Try.func30, mf30_ok⟩
 · cases h; exact ⟨Try.f48, Try.func48, mf48_ok⟩
 · cases h; exact ⟨Try.f49, Try.func49, mf49_ok⟩
 · cases h; exact ⟨Try.f70, Try.func70, mf70_ok⟩
 · cases h; exact ⟨Try.f71, Try.func71, mf71_ok⟩
 · cases h; exact ⟨Try.f50, Try.func50, mf50_ok⟩
 · cases h; exact ⟨Try.f51, Try.func51, mf51_ok⟩
 · cases h; exact ⟨Try.f23, Try.func23, mf23_ok⟩
 · cases h; exact ⟨Try.f24, Try.func24, mf24_ok⟩
 · cases h; exact ⟨Try.f52, Try.func52, mf52_ok⟩
 · cases h; exact ⟨Try.f53, Try.func53, mf53_ok⟩
 · cases h; exact ⟨Try.f72, Try.func72, mf72_ok⟩
 · cases h; exact ⟨Try.f54, Try.func54, mf54_ok⟩
 · cases h; exact ⟨Try.f25, Try.func25, mf25_ok⟩
 · cases h; exact ⟨Try.f27, Try.func27, mf27_ok⟩
 · cases h; exact ⟨Try.f33, Try.func33, mf33_ok⟩
 · cases h; exact ⟨Try.f34, Try.func34, mf34_ok⟩
 · cases h; exact ⟨Try.f60, Try.func60, mf60_ok⟩
 · cases h; exact ⟨Try.f35, Try.func35, mf35_ok⟩
 · cases h; exact ⟨Try.f11, Try.func11, mf11_ok⟩
 · cases h; exact ⟨Try.f18, Try.func18, mf18_ok⟩
 · cases h; exact ⟨Try.f64, Try.func64, mf64_ok⟩
 · cases h; exact ⟨Try.f65, Try.func65, mf65_ok⟩
 · cases h; exact ⟨Try.f45, Try.func45, mf45_ok⟩
 · cases h; exact ⟨Try.f19, Try.func19, mf19_ok⟩
 · cases h; exact ⟨Try.f61, Try.func61, mf61_ok⟩
 · cases h; exact ⟨Try.f39, Try.func39, mf39_ok⟩
 · cases h; exact ⟨Try.f67, Try.func67, mf67_ok⟩
 · cases h; exact ⟨Try.f58, Try.func58, mf58_ok⟩
 · cases h; exact ⟨Try.f31, Try.func31, mf31_ok⟩
 · cases h; exact ⟨Try.f15, Try.func15, mf15_ok⟩
 · cases h; exact ⟨Try.f47, Try.func47, mf47_ok⟩
 · cases h; exact ⟨Try.f22, Try.func22, mf22_ok⟩
 · cases h; exact ⟨Try.f36, Try.func36, mf36_ok⟩
 · cases h; exact ⟨Try.f12, Try.func12, mf12_ok⟩
 · cases h; exact ⟨Try.f3, Try.func3, mf3_ok⟩
 · cases h; exact ⟨Try.f13, Try.func13, mf13_ok⟩
 · cases h; exact ⟨Try.f20, Try.func20, mf20_ok⟩
 · cases h; exact ⟨Try.f37, Try.func37, mf37_ok⟩
 · cases h; exact ⟨Try.f38, Try.func38, mf38_ok⟩
 · cases h; exact ⟨Try.f14, Try.func14, mf14_ok⟩
 · cases h; exact ⟨Try.f4, Try.func4, mf4_ok⟩
 · cases h; exact ⟨Try.f5, Try.func5, mf5_ok⟩
 · cases h; exact ⟨Try.f66, Try.func66, mf66_ok⟩
 · cases h; exact ⟨Try.f46, Try.func46, mf46_ok⟩
 · cases h; exact ⟨Try.f21, Try.func21, mf21_ok⟩
 · cases h; exact ⟨Try.f6, Try.func6, mf6_ok⟩
 · cases h; exact ⟨Try.f26, Try.func26, mf26_ok⟩
 · cases h; exact ⟨Try.f7, Try.func7, mf7_ok⟩
 · cases h; exact ⟨Try.f28, Try.func28, mf28_ok⟩
 · cases h; exact ⟨Try.f29, Try.func29, mf29_ok⟩
 · cases h; exact ⟨Try.f8, Try.func8, mf8_ok⟩
 · cases h
end Go.Proofs.Ytambpbcdnhekbaa
