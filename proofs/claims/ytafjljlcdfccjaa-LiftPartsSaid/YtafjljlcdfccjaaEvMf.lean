/- The evaluator's code of each function of this seat, and that it is the loaded one. Printed by a program (gen.py). -/
import Derived.Test.YtafjljlcdfccjaaChecked
import Derived.KernelRfl
import Derived.Test.YtafjljlcdfccjaaEvLaw
set_option linter.unusedSimpArgs false
set_option linter.unusedVariables false
set_option maxRecDepth 100000
namespace Go.Proofs.Ytafjljlcdfccjaa
open Go.Ev
namespace Mf
/- cuboid/cuboidkeep.LightDim -/
def f26 : MFun := { nt := 28, np := 1, no := 1, res := [.slot 2], body :=
  (.seq
    (.region false [
      ⟨(some 1), none, .box 0 (.s 0)⟩,
      ⟨(some 2), none, .mv (.c (.bool false))⟩])
    (.seq
      (.seq
        (.region false [
          ⟨(some 4), none, .faddr 0 (.s 1)⟩,
          ⟨(some 5), none, .load none (some 0) (.s 4)⟩,
          ⟨(some 6), none, .len (.s 5)⟩,
          ⟨(some 7), none, .bin .gtr .int (.s 6) (.c (.int .i64 10))⟩,
          ⟨(some 8), none, .mv (.s 7)⟩,
          ⟨(some 9), (some (8, false)), .faddr 1 (.s 1)⟩,
          ⟨(some 10), (some (8, false)), .load none (some 0) (.s 9)⟩,
          ⟨(some 11), (some (8, false)), .len (.s 10)⟩,
          ⟨(some 12), (some (8, false)), .bin .gtr .int (.s 11) (.c (.int .i64 10))⟩,
          ⟨(some 13), none, .pick (.s 8) (.c (.bool true)) (.s 12)⟩])
        (.cond (.s 13)
          (.seq
            (.region false [
              ⟨(some 2), none, .mv (.c (.bool false))⟩])
            .ret)
          .skip))
      (.seq
        (.seq
          (.region false [
            ⟨(some 3), none, .mv (.c (.int .i64 0))⟩])
          (.block 0
            (.loop [1, 3] [0]
              (.seq
                (.seq
                  (.region false [
                    ⟨(some 14), none, .mv (.s 3)⟩,
                    ⟨(some 15), none, .faddr 1 (.s 1)⟩,
                    ⟨(some 16), none, .load none (some 0) (.s 15)⟩,
                    ⟨(some 17), none, .len (.s 16)⟩,
                    ⟨(some 18), none, .bin .lss .int (.s 14) (.s 17)⟩])
                  (.cond (.s 18)
                    .skip
                    (.exit 0)))
                (.seq
                  (.block 1
                    (.seq
                      (.region false [
                        ⟨(some 21), none, .faddr 1 (.s 1)⟩,
                        ⟨(some 22), none, .load none (some 0) (.s 21)⟩,
                        ⟨(some 23), none, .mv (.s 3)⟩,
                        ⟨(some 24), none, .iaddrS 1 (.s 22) (.s 23)⟩,
                        ⟨(some 25), none, .load none none (.s 24)⟩,
                        ⟨(some 26), none, .len (.s 25)⟩,
                        ⟨(some 27), none, .bin .gtr .int (.s 26) (.c (.int .i64 60))⟩])
                      (.cond (.s 27)
                        (.seq
                          (.region false [
                            ⟨(some 2), none, .mv (.c (.bool false))⟩])
                          .ret)
                        .skip)))
                  (.region false [
                    ⟨(some 19), none, .mv (.s 3)⟩,
                    ⟨(some 20), none, .bin .add .int (.s 19) (.c (.int .i64 1))⟩,
                    ⟨(some 3), none, .mv (.s 20)⟩]))))))
        (.seq
          (.region false [
            ⟨(some 2), none, .mv (.c (.bool true))⟩])
          .ret)))) }
/- cuboid/cuboidkeep.LightCat -/
def f8 : MFun := { nt := 22, np := 1, no := 1, res := [.slot 2], body :=
  (.seq
    (.region false [
      ⟨(some 1), none, .box 0 (.s 0)⟩,
      ⟨(some 2), none, .mv (.c (.bool false))⟩])
    (.seq
      (.seq
        (.region false [
          ⟨(some 4), none, .faddr 0 (.s 1)⟩,
          ⟨(some 5), none, .load none (some 0) (.s 4)⟩,
          ⟨(some 6), none, .len (.s 5)⟩,
          ⟨(some 7), none, .bin .gtr .int (.s 6) (.c (.int .i64 8))⟩])
        (.cond (.s 7)
          (.seq
            (.region false [
              ⟨(some 2), none, .mv (.c (.bool false))⟩])
            .ret)
          .skip))
      (.seq
        (.seq
          (.region false [
            ⟨(some 3), none, .mv (.c (.int .i64 0))⟩])
          (.block 0
            (.loop [1, 3] [0]
              (.seq
                (.seq
                  (.region false [
                    ⟨(some 8), none, .mv (.s 3)⟩,
                    ⟨(some 9), none, .faddr 0 (.s 1)⟩,
                    ⟨(some 10), none, .load none (some 0) (.s 9)⟩,
                    ⟨(some 11), none, .len (.s 10)⟩,
                    ⟨(some 12), none, .bin .lss .int (.s 8) (.s 11)⟩])
                  (.cond (.s 12)
                    .skip
                    (.exit 0)))
                (.seq
                  (.block 1
                    (.seq
                      (.region false [
                        ⟨(some 15), none, .faddr 0 (.s 1)⟩,
                        ⟨(some 16), none, .load none (some 0) (.s 15)⟩,
                        ⟨(some 17), none, .mv (.s 3)⟩,
                        ⟨(some 18), none, .iaddrS 2 (.s 16) (.s 17)⟩,
                        ⟨(some 19), none, .load (some 2) none (.s 18)⟩,
                        ⟨(some 20), none, .call (.c (.fn 26 [] [])) [(.s 19)] [] [] [] false⟩,
                        ⟨(some 21), none, .un .not (.s 20)⟩])
                      (.cond (.s 21)
                        (.seq
                          (.region false [
                            ⟨(some 2), none, .mv (.c (.bool false))⟩])
                          .ret)
                        .skip)))
                  (.region false [
                    ⟨(some 13), none, .mv (.s 3)⟩,
                    ⟨(some 14), none, .bin .add .int (.s 13) (.c (.int .i64 1))⟩,
                    ⟨(some 3), none, .mv (.s 14)⟩]))))))
        (.seq
          (.region false [
            ⟨(some 2), none, .mv (.c (.bool true))⟩])
          .ret)))) }
/- cuboid/schema.between -/
def f47 : MFun := { nt := 15, np := 3, no := 0, res := [.slot 6], body :=
  (.seq
    (.region false [
      ⟨(some 6), none, .mv (.c (.bool false))⟩])
    (.seq
      (.region false [
        ⟨(some 7), none, .mv (.s 0)⟩,
        ⟨(some 8), none, .mv (.s 1)⟩,
        ⟨(some 9), none, .bin .geq .int (.s 7) (.s 8)⟩,
        ⟨(some 10), none, .mv (.s 9)⟩,
        ⟨(some 11), (some (10, true)), .mv (.s 0)⟩,
        ⟨(some 12), (some (10, true)), .mv (.s 2)⟩,
        ⟨(some 13), (some (10, true)), .bin .leq .int (.s 11) (.s 12)⟩,
        ⟨(some 14), none, .pick (.s 10) (.s 13) (.c (.bool false))⟩,
        ⟨(some 6), none, .mv (.s 14)⟩])
      .ret)) }
/- cuboid/hier.between -/
def f44 : MFun := { nt := 15, np := 3, no := 0, res := [.slot 6], body :=
  (.seq
    (.region false [
      ⟨(some 6), none, .mv (.c (.bool false))⟩])
    (.seq
      (.region false [
        ⟨(some 7), none, .mv (.s 0)⟩,
        ⟨(some 8), none, .mv (.s 1)⟩,
        ⟨(some 9), none, .bin .geq .int (.s 7) (.s 8)⟩,
        ⟨(some 10), none, .mv (.s 9)⟩,
        ⟨(some 11), (some (10, true)), .mv (.s 0)⟩,
        ⟨(some 12), (some (10, true)), .mv (.s 2)⟩,
        ⟨(some 13), (some (10, true)), .bin .leq .int (.s 11) (.s 12)⟩,
        ⟨(some 14), none, .pick (.s 10) (.s 13) (.c (.bool false))⟩,
        ⟨(some 6), none, .mv (.s 14)⟩])
      .ret)) }
/- cuboid/hier.up -/
def f49 : MFun := { nt := 25, np := 3, no := 0, res := [.slot 6], body :=
  (.seq
    (.region false [
      ⟨(some 6), none, .mv (.c (.bool false))⟩])
    (.seq
      (.seq
        (.region false [
          ⟨(some 9), none, .mv (.s 0)⟩,
          ⟨(some 10), none, .len (.s 9)⟩,
          ⟨(some 11), none, .mv (.s 1)⟩,
          ⟨(some 12), none, .bin .neq .int (.s 10) (.s 11)⟩])
        (.cond (.s 12)
          (.seq
            (.region false [
              ⟨(some 6), none, .mv (.c (.bool false))⟩])
            .ret)
          .skip))
      (.seq
        (.seq
          (.region false [
            ⟨(some 13), none, .mv (.s 0)⟩,
            ⟨(some 14), none, .len (.s 13)⟩,
            ⟨(some 15), none, .mv (.c (.int .i64 0))⟩])
          (.block 0
            (.loop [2, 13, 14, 15] []
              (.seq
                (.region false [
                  ⟨(some 16), none, .bin .lss .int (.s 15) (.s 14)⟩])
                (.seq
                  (.cond (.s 16)
                    .skip
                    (.exit 0))
                  (.seq
                    (.block 1
                      (.seq
                        (.region false [
                          ⟨(some 17), none, .iaddrS 1 (.s 13) (.s 15)⟩,
                          ⟨(some 18), none, .load none none (.s 17)⟩,
                          ⟨(some 8), none, .mv (.s 18)⟩])
                        (.seq
                          (.region false [
                            ⟨(some 19), none, .mv (.s 8)⟩,
                            ⟨(some 20), none, .mv (.s 2)⟩,
                            ⟨(some 21), none, .bin .sub .int (.s 20) (.c (.int .i64 1))⟩,
                            ⟨(some 22), none, .call (.c (.fn 44 [] [])) [(.s 19), (.c (.int .i64 0)), (.s 21)] [] [] [] false⟩,
                            ⟨(some 23), none, .un .not (.s 22)⟩])
                          (.cond (.s 23)
                            (.seq
                              (.region false [
                                ⟨(some 6), none, .mv (.c (.bool false))⟩])
                              .ret)
                            .skip))))
                    (.region false [
                      ⟨(some 24), none, .bin .add .int (.s 15) (.c (.int .i64 1))⟩,
                      ⟨(some 15), none, .mv (.s 24)⟩])))))))
        (.seq
          (.region false [
            ⟨(some 6), none, .mv (.c (.bool true))⟩])
          .ret)))) }
/- cuboid/hier.Good -/
def f48 : MFun := { nt := 57, np := 1, no := 1, res := [.slot 2], body :=
  (.seq
    (.region false [
      ⟨(some 1), none, .box 0 (.s 0)⟩,
      ⟨(some 2), none, .mv (.c (.bool false))⟩])
    (.seq
      (.seq
        (.region false [
          ⟨(some 6), none, .faddr 0 (.s 1)⟩,
          ⟨(some 7), none, .load none (some 0) (.s 6)⟩,
          ⟨(some 8), none, .len (.s 7)⟩,
          ⟨(some 9), none, .call (.c (.fn 44 [] [])) [(.s 8), (.c (.int .i64 1)), (.c (.int .i64 4))] [] [] [] false⟩,
          ⟨(some 10), none, .un .not (.s 9)⟩,
          ⟨(some 11), none, .mv (.s 10)⟩,
          ⟨(some 12), (some (11, false)), .faddr 1 (.s 1)⟩,
          ⟨(some 13), (some (11, false)), .load none (some 0) (.s 12)⟩,
          ⟨(some 14), (some (11, false)), .len (.s 13)⟩,
          ⟨(some 15), (some (11, false)), .faddr 0 (.s 1)⟩,
          ⟨(some 16), (some (11, false)), .load none (some 0) (.s 15)⟩,
          ⟨(some 17), (some (11, false)), .len (.s 16)⟩,
          ⟨(some 18), (some (11, false)), .bin .sub .int (.s 17) (.c (.int .i64 1))⟩,
          ⟨(some 19), (some (11, false)), .bin .neq .int (.s 14) (.s 18)⟩,
          ⟨(some 20), none, .pick (.s 11) (.c (.bool true)) (.s 19)⟩])
        (.cond (.s 20)
          (.seq
            (.region false [
              ⟨(some 2), none, .mv (.c (.bool false))⟩])
            .ret)
          .skip))
      (.seq
        (.seq
          (.region false [
            ⟨(some 21), none, .faddr 0 (.s 1)⟩,
            ⟨(some 22), none, .load none (some 0) (.s 21)⟩,
            ⟨(some 23), none, .len (.s 22)⟩,
            ⟨(some 24), none, .mv (.c (.int .i64 0))⟩])
          (.block 0
            (.loop [1, 22, 23, 24] [0]
              (.seq
                (.region false [
                  ⟨(some 25), none, .bin .lss .int (.s 24) (.s 23)⟩])
                (.seq
                  (.cond (.s 25)
                    .skip
                    (.exit 0))
                  (.seq
                    (.block 1
                      (.seq
                        (.region false [
                          ⟨(some 26), none, .iaddrS 1 (.s 22) (.s 24)⟩,
                          ⟨(some 27), none, .load none none (.s 26)⟩,
                          ⟨(some 4), none, .mv (.s 27)⟩])
                        (.seq
                          (.region false [
                            ⟨(some 28), none, .mv (.s 4)⟩,
                            ⟨(some 29), none, .call (.c (.fn 44 [] [])) [(.s 28), (.c (.int .i64 1)), (.c (.int .i64 40))] [] [] [] false⟩,
                            ⟨(some 30), none, .un .not (.s 29)⟩])
                          (.cond (.s 30)
                            (.seq
                              (.region false [
                                ⟨(some 2), none, .mv (.c (.bool false))⟩])
                              .ret)
                            .skip))))
                    (.region false [
                      ⟨(some 31), none, .bin .add .int (.s 24) (.c (.int .i64 1))⟩,
                      ⟨(some 24), none, .mv (.s 31)⟩])))))))
        (.seq
          (.seq
            (.region false [
              ⟨(some 32), none, .faddr 1 (.s 1)⟩,
              ⟨(some 33), none, .load none (some 0) (.s 32)⟩,
              ⟨(some 34), none, .len (.s 33)⟩,
              ⟨(some 35), none, .mv (.c (.int .i64 0))⟩])
            (.block 2
              (.loop [1, 34, 35] [0]
                (.seq
                  (.region false [
                    ⟨(some 36), none, .bin .lss .int (.s 35) (.s 34)⟩])
                  (.seq
                    (.cond (.s 36)
                      .skip
                      (.exit 2))
                    (.seq
                      (.block 3
                        (.seq
                          (.region false [
                            ⟨(some 37), none, .mv (.s 35)⟩,
                            ⟨(some 5), none, .mv (.s 37)⟩])
                          (.seq
                            (.region true [
                              ⟨(some 38), none, .faddr 1 (.s 1)⟩,
                              ⟨(some 39), none, .load none (some 0) (.s 38)⟩,
                              ⟨(some 40), none, .mv (.s 5)⟩,
                              ⟨(some 41), none, .iaddrS 1 (.s 39) (.s 40)⟩,
                              ⟨(some 42), none, .load none none (.s 41)⟩,
                              ⟨(some 43), none, .faddr 0 (.s 1)⟩,
                              ⟨(some 44), none, .load none (some 0) (.s 43)⟩,
                              ⟨(some 45), none, .mv (.s 5)⟩,
                              ⟨(some 46), none, .iaddrS 1 (.s 44) (.s 45)⟩,
                              ⟨(some 47), none, .load none none (.s 46)⟩,
                              ⟨(some 48), none, .faddr 0 (.s 1)⟩,
                              ⟨(some 49), none, .load none (some 0) (.s 48)⟩,
                              ⟨(some 50), none, .mv (.s 5)⟩,
                              ⟨(some 51), none, .bin .add .int (.s 50) (.c (.int .i64 1))⟩,
                              ⟨(some 52), none, .iaddrS 1 (.s 49) (.s 51)⟩,
                              ⟨(some 53), none, .load none none (.s 52)⟩,
                              ⟨(some 54), none, .call (.c (.fn 49 [] [])) [(.s 42), (.s 47), (.s 53)] [] [] [] false⟩,
                              ⟨(some 55), none, .un .not (.s 54)⟩])
                            (.cond (.s 55)
                              (.seq
                                (.region false [
                                  ⟨(some 2), none, .mv (.c (.bool false))⟩])
                                .ret)
                              .skip))))
                      (.region false [
                        ⟨(some 56), none, .bin .add .int (.s 35) (.c (.int .i64 1))⟩,
                        ⟨(some 35), none, .mv (.s 56)⟩])))))))
          (.seq
            (.region false [
              ⟨(some 2), none, .mv (.c (.bool true))⟩])
            .ret))))) }
/- cuboid/schema.Good -/
def f41 : MFun := { nt := 27, np := 1, no := 2, res := [.slot 2], body :=
  (.seq
    (.region false [
      ⟨(some 1), none, .box 0 (.s 0)⟩,
      ⟨(some 2), none, .mv (.c (.bool false))⟩])
    (.seq
      (.seq
        (.region false [
          ⟨(some 5), none, .faddr 0 (.s 1)⟩,
          ⟨(some 6), none, .load none (some 0) (.s 5)⟩,
          ⟨(some 7), none, .len (.s 6)⟩,
          ⟨(some 8), none, .call (.c (.fn 47 [] [])) [(.s 7), (.c (.int .i64 1)), (.c (.int .i64 4))] [] [] [] false⟩,
          ⟨(some 9), none, .un .not (.s 8)⟩,
          ⟨(some 10), none, .mv (.s 9)⟩,
          ⟨(some 11), (some (10, false)), .faddr 1 (.s 1)⟩,
          ⟨(some 12), (some (10, false)), .load none (some 0) (.s 11)⟩,
          ⟨(some 13), (some (10, false)), .call (.c (.fn 47 [] [])) [(.s 12), (.c (.int .i64 1)), (.c (.int .i64 2))] [] [] [] false⟩,
          ⟨(some 14), (some (10, false)), .un .not (.s 13)⟩,
          ⟨(some 15), none, .pick (.s 10) (.c (.bool true)) (.s 14)⟩])
        (.cond (.s 15)
          (.seq
            (.region false [
              ⟨(some 2), none, .mv (.c (.bool false))⟩])
            .ret)
          .skip))
      (.seq
        (.seq
          (.region false [
            ⟨(some 16), none, .faddr 0 (.s 1)⟩,
            ⟨(some 17), none, .load none (some 0) (.s 16)⟩,
            ⟨(some 18), none, .len (.s 17)⟩,
            ⟨(some 19), none, .mv (.c (.int .i64 0))⟩])
          (.block 0
            (.loop [17, 18, 19] []
              (.seq
                (.region false [
                  ⟨(some 20), none, .bin .lss .int (.s 19) (.s 18)⟩])
                (.seq
                  (.cond (.s 20)
                    .skip
                    (.exit 0))
                  (.seq
                    (.block 1
                      (.seq
                        (.region false [
                          ⟨(some 21), none, .iaddrS 2 (.s 17) (.s 19)⟩,
                          ⟨(some 22), none, .load (some 2) none (.s 21)⟩,
                          ⟨(some 4), none, .alloc 1 [.nilsl, .nilsl]⟩,
                          ⟨none, none, .store 2 1 [] (.s 4) (.s 22)⟩])
                        (.seq
                          (.region false [
                            ⟨(some 23), none, .load (some 2) (some 1) (.s 4)⟩,
                            ⟨(some 24), none, .call (.c (.fn 48 [] [])) [(.s 23)] [] [] [] false⟩,
                            ⟨(some 25), none, .un .not (.s 24)⟩])
                          (.cond (.s 25)
                            (.seq
                              (.region false [
                                ⟨(some 2), none, .mv (.c (.bool false))⟩])
                              .ret)
                            .skip))))
                    (.region false [
                      ⟨(some 26), none, .bin .add .int (.s 19) (.c (.int .i64 1))⟩,
                      ⟨(some 19), none, .mv (.s 26)⟩])))))))
        (.seq
          (.region false [
            ⟨(some 2), none, .mv (.c (.bool true))⟩])
          .ret)))) }
/- cuboid/hier.Size -/
def f42 : MFun := { nt := 28, np := 2, no := 1, res := [.slot 4], body :=
  (.seq
    (.region false [
      ⟨(some 2), none, .box 0 (.s 0)⟩,
      ⟨(some 4), none, .mv (.c (.int .i64 0))⟩])
    (.seq
      (.block 0
        (.seq
          (.region false [
            ⟨(some 6), none, .load (some 2) (some 0) (.s 2)⟩,
            ⟨(some 7), none, .call (.c (.fn 48 [] [])) [(.s 6)] [] [] [] false⟩,
            ⟨(some 8), none, .un .not (.s 7)⟩,
            ⟨(some 9), none, .mv (.s 8)⟩,
            ⟨(some 10), (some (9, false)), .mv (.s 1)⟩,
            ⟨(some 11), (some (9, false)), .faddr 0 (.s 2)⟩,
            ⟨(some 12), (some (9, false)), .load none (some 0) (.s 11)⟩,
            ⟨(some 13), (some (9, false)), .len (.s 12)⟩,
            ⟨(some 14), (some (9, false)), .call (.c (.fn 44 [] [])) [(.s 10), (.c (.int .i64 0)), (.s 13)] [] [] [] false⟩,
            ⟨(some 15), (some (9, false)), .un .not (.s 14)⟩,
            ⟨(some 16), none, .pick (.s 9) (.c (.bool true)) (.s 15)⟩,
            ⟨(some 5), none, .mv (.s 16)⟩])
          (.cond (.s 5)
            (.seq
              (.region false [
                ⟨(some 4), none, .mv (.c (.int .i64 0))⟩])
              .ret)
            (.seq
              (.region false [
                ⟨(some 18), none, .mv (.s 1)⟩,
                ⟨(some 19), none, .faddr 0 (.s 2)⟩,
                ⟨(some 20), none, .load none (some 0) (.s 19)⟩,
                ⟨(some 21), none, .len (.s 20)⟩,
                ⟨(some 22), none, .bin .eql .int (.s 18) (.s 21)⟩,
                ⟨(some 17), none, .mv (.s 22)⟩])
              (.cond (.s 17)
                (.seq
                  (.region false [
                    ⟨(some 4), none, .mv (.c (.int .i64 1))⟩])
                  .ret)
                .skip)))))
      (.seq
        (.region false [
          ⟨(some 23), none, .faddr 0 (.s 2)⟩,
          ⟨(some 24), none, .load none (some 0) (.s 23)⟩,
          ⟨(some 25), none, .mv (.s 1)⟩,
          ⟨(some 26), none, .iaddrS 1 (.s 24) (.s 25)⟩,
          ⟨(some 27), none, .load none none (.s 26)⟩,
          ⟨(some 4), none, .mv (.s 27)⟩])
        .ret))) }
/- cuboid/schema.Right -/
def f28 : MFun := { nt := 45, np := 3, no := 3, res := [.slot 6], body :=
  (.seq
    (.region false [
      ⟨(some 3), none, .box 0 (.s 0)⟩,
      ⟨(some 4), none, .box 1 (.s 1)⟩,
      ⟨(some 5), none, .box 2 (.s 2)⟩,
      ⟨(some 6), none, .mv (.c (.bool false))⟩])
    (.seq
      (.seq
        (.region false [
          ⟨(some 8), none, .load (some 2) (some 0) (.s 3)⟩,
          ⟨(some 9), none, .call (.c (.fn 41 [] [])) [(.s 8)] [] [] [] false⟩,
          ⟨(some 10), none, .un .not (.s 9)⟩])
        (.cond (.s 10)
          (.seq
            (.region false [
              ⟨(some 6), none, .mv (.c (.bool false))⟩])
            .ret)
          .skip))
      (.seq
        (.seq
          (.region false [
            ⟨(some 11), none, .mv (.c (.int .i64 0))⟩])
          (.block 0
            (.loop [3, 4, 5, 11] [0, 1, 2]
              (.seq
                (.region false [
                  ⟨(some 12), none, .bin .lss .int (.s 11) (.c (.int .i64 4))⟩])
                (.seq
                  (.cond (.s 12)
                    .skip
                    (.exit 0))
                  (.seq
                    (.block 1
                      (.seq
                        (.region false [
                          ⟨(some 13), none, .mv (.s 11)⟩,
                          ⟨(some 7), none, .mv (.s 13)⟩])
                        (.seq
                          (.seq
                            (.region false [
                              ⟨(some 14), none, .mv (.s 7)⟩,
                              ⟨(some 15), none, .faddr 0 (.s 3)⟩,
                              ⟨(some 16), none, .load none (some 0) (.s 15)⟩,
                              ⟨(some 17), none, .len (.s 16)⟩,
                              ⟨(some 18), none, .bin .geq .int (.s 14) (.s 17)⟩])
                            (.cond (.s 18)
                              (.seq
                                (.seq
                                  (.region false [
                                    ⟨(some 19), none, .mv (.s 7)⟩,
                                    ⟨(some 20), none, .iaddrA 4 1 (.s 4) (.s 19)⟩,
                                    ⟨(some 21), none, .load none (some 1) (.s 20)⟩,
                                    ⟨(some 22), none, .bin .neq .int (.s 21) (.c (.int .u8 0))⟩,
                                    ⟨(some 23), none, .mv (.s 22)⟩,
                                    ⟨(some 24), (some (23, false)), .mv (.s 7)⟩,
                                    ⟨(some 25), (some (23, false)), .iaddrA 4 1 (.s 5) (.s 24)⟩,
                                    ⟨(some 26), (some (23, false)), .load none (some 2) (.s 25)⟩,
                                    ⟨(some 27), (some (23, false)), .bin .neq .int (.s 26) (.c (.int .u8 0))⟩,
                                    ⟨(some 28), none, .pick (.s 23) (.c (.bool true)) (.s 27)⟩])
                                  (.cond (.s 28)
                                    (.seq
                                      (.region false [
                                        ⟨(some 6), none, .mv (.c (.bool false))⟩])
                                      .ret)
                                    .skip))
                                (.exit 1))
                              .skip))
                          (.seq
                            (.region true [
                              ⟨(some 29), none, .mv (.s 7)⟩,
                              ⟨(some 30), none, .iaddrA 4 1 (.s 5) (.s 29)⟩,
                              ⟨(some 31), none, .load none (some 2) (.s 30)⟩,
                              ⟨(some 32), none, .conv .i64 (.s 31)⟩,
                              ⟨(some 33), none, .faddr 0 (.s 3)⟩,
                              ⟨(some 34), none, .load none (some 0) (.s 33)⟩,
                              ⟨(some 35), none, .mv (.s 7)⟩,
                              ⟨(some 36), none, .iaddrS 2 (.s 34) (.s 35)⟩,
                              ⟨(some 37), none, .load (some 2) none (.s 36)⟩,
                              ⟨(some 38), none, .mv (.s 7)⟩,
                              ⟨(some 39), none, .iaddrA 4 1 (.s 4) (.s 38)⟩,
                              ⟨(some 40), none, .load none (some 1) (.s 39)⟩,
                              ⟨(some 41), none, .conv .i64 (.s 40)⟩,
                              ⟨(some 42), none, .call (.c (.fn 42 [] [])) [(.s 37), (.s 41)] [] [] [] false⟩,
                              ⟨(some 43), none, .bin .geq .int (.s 32) (.s 42)⟩])
                            (.cond (.s 43)
                              (.seq
                                (.region false [
                                  ⟨(some 6), none, .mv (.c (.bool false))⟩])
                                .ret)
                              .skip)))))
                    (.region false [
                      ⟨(some 44), none, .bin .add .int (.s 11) (.c (.int .i64 1))⟩,
                      ⟨(some 11), none, .mv (.s 44)⟩])))))))
        (.seq
          (.region false [
            ⟨(some 6), none, .mv (.c (.bool true))⟩])
          .ret)))) }
/- cuboid/lattice.Good -/
def f29 : MFun := { nt := 9, np := 2, no := 2, res := [.slot 4], body :=
  (.seq
    (.region false [
      ⟨(some 2), none, .box 0 (.s 0)⟩,
      ⟨(some 3), none, .box 1 (.s 1)⟩,
      ⟨(some 4), none, .mv (.c (.bool false))⟩])
    (.seq
      (.region false [
        ⟨(some 5), none, .load (some 2) (some 0) (.s 2)⟩,
        ⟨(some 6), none, .load (some 4) (some 1) (.s 3)⟩,
        ⟨(some 7), none, .build [.int .u8 0, .int .u8 0, .int .u8 0, .int .u8 0] []⟩,
        ⟨(some 8), none, .call (.c (.fn 28 [] [])) [(.s 5), (.s 6), (.s 7)] [] [] [] false⟩,
        ⟨(some 4), none, .mv (.s 8)⟩])
      .ret)) }
/- cuboid/lattice.Meet -/
def f43 : MFun := { nt := 20, np := 2, no := 3, res := [.cell 4 2 (some 4)], body :=
  (.seq
    (.region false [
      ⟨(some 2), none, .box 0 (.s 0)⟩,
      ⟨(some 3), none, .box 1 (.s 1)⟩,
      ⟨(some 4), none, .alloc 2 [.int .u8 0, .int .u8 0, .int .u8 0, .int .u8 0]⟩])
    (.seq
      (.seq
        (.region false [
          ⟨(some 6), none, .mv (.c (.int .i64 0))⟩])
        (.block 0
          (.loop [2, 3, 4, 6] [0, 1, 2]
            (.seq
              (.region false [
                ⟨(some 7), none, .bin .lss .int (.s 6) (.c (.int .i64 4))⟩])
              (.seq
                (.cond (.s 7)
                  .skip
                  (.exit 0))
                (.seq
                  (.block 1
                    (.seq
                      (.region false [
                        ⟨(some 8), none, .mv (.s 6)⟩,
                        ⟨(some 5), none, .mv (.s 8)⟩])
                      (.region true [
                        ⟨(some 9), none, .mv (.s 5)⟩,
                        ⟨(some 10), none, .mv (.s 5)⟩,
                        ⟨(some 11), none, .iaddrA 4 1 (.s 2) (.s 10)⟩,
                        ⟨(some 12), none, .load none (some 0) (.s 11)⟩,
                        ⟨(some 13), none, .mv (.s 5)⟩,
                        ⟨(some 14), none, .iaddrA 4 1 (.s 3) (.s 13)⟩,
                        ⟨(some 15), none, .load none (some 1) (.s 14)⟩,
                        ⟨(some 16), none, .minmax false [(.s 12), (.s 15)]⟩,
                        ⟨(some 17), none, .iaddrA 4 1 (.s 2) (.s 9)⟩,
                        ⟨none, none, .store 1 0 [] (.s 17) (.s 16)⟩])))
                  (.region false [
                    ⟨(some 18), none, .bin .add .int (.s 6) (.c (.int .i64 1))⟩,
                    ⟨(some 6), none, .mv (.s 18)⟩])))))))
      (.seq
        (.region false [
          ⟨(some 19), none, .load (some 4) (some 0) (.s 2)⟩,
          ⟨none, none, .store 4 2 [] (.s 4) (.s 19)⟩])
        .ret))) }
/- cuboid/lattice.Below -/
def f30 : MFun := { nt := 10, np := 2, no := 2, res := [.slot 4], body :=
  (.seq
    (.region false [
      ⟨(some 2), none, .box 0 (.s 0)⟩,
      ⟨(some 3), none, .box 1 (.s 1)⟩,
      ⟨(some 4), none, .mv (.c (.bool false))⟩])
    (.seq
      (.region true [
        ⟨(some 5), none, .load (some 4) (some 0) (.s 2)⟩,
        ⟨(some 6), none, .load (some 4) (some 1) (.s 3)⟩,
        ⟨(some 7), none, .call (.c (.fn 43 [] [])) [(.s 5), (.s 6)] [] [] [] false⟩,
        ⟨(some 8), none, .load (some 4) (some 0) (.s 2)⟩,
        ⟨(some 9), none, .bin .eql (.agg [some .u8, some .u8, some .u8, some .u8]) (.s 7) (.s 8)⟩,
        ⟨(some 4), none, .mv (.s 9)⟩])
      .ret)) }
/- cuboid/hier.lift -/
def f45 : MFun := { nt := 33, np := 4, no := 1, res := [.slot 8], body :=
  (.seq
    (.region false [
      ⟨(some 4), none, .box 0 (.s 0)⟩,
      ⟨(some 8), none, .mv (.c (.int .i64 0))⟩])
    (.seq
      (.seq
        (.region false [
          ⟨(some 10), none, .mv (.s 2)⟩,
          ⟨(some 11), none, .faddr 0 (.s 4)⟩,
          ⟨(some 12), none, .load none (some 0) (.s 11)⟩,
          ⟨(some 13), none, .len (.s 12)⟩,
          ⟨(some 14), none, .bin .eql .int (.s 10) (.s 13)⟩])
        (.cond (.s 14)
          (.seq
            (.region false [
              ⟨(some 8), none, .mv (.c (.int .i64 0))⟩])
            .ret)
          .skip))
      (.seq
        (.seq
          (.region false [
            ⟨(some 15), none, .mv (.s 2)⟩,
            ⟨(some 16), none, .mv (.s 1)⟩,
            ⟨(some 17), none, .bin .sub .int (.s 15) (.s 16)⟩,
            ⟨(some 18), none, .mv (.c (.int .i64 0))⟩])
          (.block 0
            (.loop [1, 3, 4, 17, 18] [0]
              (.seq
                (.region false [
                  ⟨(some 19), none, .bin .lss .int (.s 18) (.s 17)⟩])
                (.seq
                  (.cond (.s 19)
                    .skip
                    (.exit 0))
                  (.seq
                    (.block 1
                      (.seq
                        (.region false [
                          ⟨(some 20), none, .mv (.s 18)⟩,
                          ⟨(some 9), none, .mv (.s 20)⟩])
                        (.region false [
                          ⟨(some 21), none, .faddr 1 (.s 4)⟩,
                          ⟨(some 22), none, .load none (some 0) (.s 21)⟩,
                          ⟨(some 23), none, .mv (.s 1)⟩,
                          ⟨(some 24), none, .mv (.s 9)⟩,
                          ⟨(some 25), none, .bin .add .int (.s 23) (.s 24)⟩,
                          ⟨(some 26), none, .iaddrS 1 (.s 22) (.s 25)⟩,
                          ⟨(some 27), none, .load none none (.s 26)⟩,
                          ⟨(some 28), none, .mv (.s 3)⟩,
                          ⟨(some 29), none, .iaddrS 1 (.s 27) (.s 28)⟩,
                          ⟨(some 30), none, .load none none (.s 29)⟩,
                          ⟨(some 3), none, .mv (.s 30)⟩])))
                    (.region false [
                      ⟨(some 31), none, .bin .add .int (.s 18) (.c (.int .i64 1))⟩,
                      ⟨(some 18), none, .mv (.s 31)⟩])))))))
        (.seq
          (.region false [
            ⟨(some 32), none, .mv (.s 3)⟩,
            ⟨(some 8), none, .mv (.s 32)⟩])
          .ret)))) }
/- cuboid/hier.Lift -/
def f31 : MFun := { nt := 33, np := 4, no := 1, res := [.slot 8, .slot 9], body :=
  (.seq
    (.region false [
      ⟨(some 4), none, .box 0 (.s 0)⟩,
      ⟨(some 8), none, .mv (.c (.int .i64 0))⟩,
      ⟨(some 9), none, .mv (.c (.bool false))⟩])
    (.seq
      (.seq
        (.region false [
          ⟨(some 10), none, .mv (.s 1)⟩,
          ⟨(some 11), none, .mv (.s 2)⟩,
          ⟨(some 12), none, .bin .gtr .int (.s 10) (.s 11)⟩,
          ⟨(some 13), none, .mv (.s 12)⟩,
          ⟨(some 14), (some (13, false)), .load (some 2) (some 0) (.s 4)⟩,
          ⟨(some 15), (some (13, false)), .mv (.s 2)⟩,
          ⟨(some 16), (some (13, false)), .call (.c (.fn 42 [] [])) [(.s 14), (.s 15)] [] [] [] false⟩,
          ⟨(some 17), (some (13, false)), .bin .eql .int (.s 16) (.c (.int .i64 0))⟩,
          ⟨(some 18), none, .pick (.s 13) (.c (.bool true)) (.s 17)⟩,
          ⟨(some 19), none, .mv (.s 18)⟩,
          ⟨(some 20), (some (19, false)), .mv (.s 3)⟩,
          ⟨(some 21), (some (19, false)), .load (some 2) (some 0) (.s 4)⟩,
          ⟨(some 22), (some (19, false)), .mv (.s 1)⟩,
          ⟨(some 23), (some (19, false)), .call (.c (.fn 42 [] [])) [(.s 21), (.s 22)] [] [] [] false⟩,
          ⟨(some 24), (some (19, false)), .bin .sub .int (.s 23) (.c (.int .i64 1))⟩,
          ⟨(some 25), (some (19, false)), .call (.c (.fn 44 [] [])) [(.s 20), (.c (.int .i64 0)), (.s 24)] [] [] [] false⟩,
          ⟨(some 26), (some (19, false)), .un .not (.s 25)⟩,
          ⟨(some 27), none, .pick (.s 19) (.c (.bool true)) (.s 26)⟩])
        (.cond (.s 27)
          (.seq
            (.region false [
              ⟨(some 8), none, .mv (.c (.int .i64 0))⟩,
              ⟨(some 9), none, .mv (.c (.bool false))⟩])
            .ret)
          .skip))
      (.seq
        (.region false [
          ⟨(some 28), none, .load (some 2) (some 0) (.s 4)⟩,
          ⟨(some 29), none, .mv (.s 1)⟩,
          ⟨(some 30), none, .mv (.s 2)⟩,
          ⟨(some 31), none, .mv (.s 3)⟩,
          ⟨(some 32), none, .call (.c (.fn 45 [] [])) [(.s 28), (.s 29), (.s 30), (.s 31)] [] [] [] false⟩,
          ⟨(some 8), none, .mv (.s 32)⟩,
          ⟨(some 9), none, .mv (.c (.bool true))⟩])
        .ret))) }
/- cuboid/lift.To -/
def f11 : MFun := { nt := 65, np := 4, no := 6, res := [.cell 8 4 (some 4), .slot 9], body :=
  (.seq
    (.region false [
      ⟨(some 4), none, .box 0 (.s 0)⟩,
      ⟨(some 5), none, .box 1 (.s 1)⟩,
      ⟨(some 6), none, .box 2 (.s 2)⟩,
      ⟨(some 7), none, .box 3 (.s 3)⟩,
      ⟨(some 8), none, .alloc 4 [.int .u8 0, .int .u8 0, .int .u8 0, .int .u8 0]⟩,
      ⟨(some 9), none, .mv (.c (.bool false))⟩])
    (.seq
      (.seq
        (.region false [
          ⟨(some 14), none, .load (some 2) (some 0) (.s 4)⟩,
          ⟨(some 15), none, .load (some 4) (some 1) (.s 5)⟩,
          ⟨(some 16), none, .load (some 4) (some 3) (.s 7)⟩,
          ⟨(some 17), none, .call (.c (.fn 28 [] [])) [(.s 14), (.s 15), (.s 16)] [] [] [] false⟩,
          ⟨(some 18), none, .un .not (.s 17)⟩,
          ⟨(some 19), none, .mv (.s 18)⟩,
          ⟨(some 20), (some (19, false)), .load (some 2) (some 0) (.s 4)⟩,
          ⟨(some 21), (some (19, false)), .load (some 4) (some 2) (.s 6)⟩,
          ⟨(some 22), (some (19, false)), .call (.c (.fn 29 [] [])) [(.s 20), (.s 21)] [] [] [] false⟩,
          ⟨(some 23), (some (19, false)), .un .not (.s 22)⟩,
          ⟨(some 24), none, .pick (.s 19) (.c (.bool true)) (.s 23)⟩,
          ⟨(some 25), none, .mv (.s 24)⟩,
          ⟨(some 26), (some (25, false)), .load (some 4) (some 1) (.s 5)⟩,
          ⟨(some 27), (some (25, false)), .load (some 4) (some 2) (.s 6)⟩,
          ⟨(some 28), (some (25, false)), .call (.c (.fn 30 [] [])) [(.s 26), (.s 27)] [] [] [] false⟩,
          ⟨(some 29), (some (25, false)), .un .not (.s 28)⟩,
          ⟨(some 30), none, .pick (.s 25) (.c (.bool true)) (.s 29)⟩])
        (.cond (.s 30)
          (.seq
            (.region false [
              ⟨(some 31), none, .build [.int .u8 0, .int .u8 0, .int .u8 0, .int .u8 0] []⟩,
              ⟨none, none, .store 4 4 [] (.s 8) (.s 31)⟩,
              ⟨(some 9), none, .mv (.c (.bool false))⟩])
            .ret)
          .skip))
      (.seq
        (.region false [
          ⟨(some 10), none, .alloc 5 [.int .u8 0, .int .u8 0, .int .u8 0, .int .u8 0]⟩])
        (.seq
          (.seq
            (.region false [
              ⟨(some 32), none, .faddr 0 (.s 4)⟩,
              ⟨(some 33), none, .load none (some 0) (.s 32)⟩,
              ⟨(some 34), none, .len (.s 33)⟩,
              ⟨(some 35), none, .mv (.c (.int .i64 0))⟩])
            (.block 0
              (.loop [4, 5, 6, 7, 8, 10, 34, 35] [0, 1, 2, 3, 4, 5]
                (.seq
                  (.region false [
                    ⟨(some 36), none, .bin .lss .int (.s 35) (.s 34)⟩])
                  (.seq
                    (.cond (.s 36)
                      .skip
                      (.exit 0))
                    (.seq
                      (.block 1
                        (.seq
                          (.region false [
                            ⟨(some 37), none, .mv (.s 35)⟩,
                            ⟨(some 11), none, .mv (.s 37)⟩])
                          (.seq
                            (.region true [
                              ⟨(some 39), none, .faddr 0 (.s 4)⟩,
                              ⟨(some 40), none, .load none (some 0) (.s 39)⟩,
                              ⟨(some 41), none, .mv (.s 11)⟩,
                              ⟨(some 42), none, .iaddrS 2 (.s 40) (.s 41)⟩,
                              ⟨(some 43), none, .load (some 2) none (.s 42)⟩,
                              ⟨(some 44), none, .mv (.s 11)⟩,
                              ⟨(some 45), none, .iaddrA 4 1 (.s 5) (.s 44)⟩,
                              ⟨(some 46), none, .load none (some 1) (.s 45)⟩,
                              ⟨(some 47), none, .conv .i64 (.s 46)⟩,
                              ⟨(some 48), none, .mv (.s 11)⟩,
                              ⟨(some 49), none, .iaddrA 4 1 (.s 6) (.s 48)⟩,
                              ⟨(some 50), none, .load none (some 2) (.s 49)⟩,
                              ⟨(some 51), none, .conv .i64 (.s 50)⟩,
                              ⟨(some 52), none, .mv (.s 11)⟩,
                              ⟨(some 53), none, .iaddrA 4 1 (.s 7) (.s 52)⟩,
                              ⟨(some 54), none, .load none (some 3) (.s 53)⟩,
                              ⟨(some 55), none, .conv .i64 (.s 54)⟩,
                              ⟨(some 56), none, .call (.c (.fn 31 [] [])) [(.s 43), (.s 47), (.s 51), (.s 55)] [] [] [] false⟩,
                              ⟨(some 38), none, .mv (.s 56)⟩,
                              ⟨(some 57), none, .extract (.s 38) 0⟩,
                              ⟨(some 58), none, .extract (.s 38) 1⟩,
                              ⟨(some 12), none, .mv (.s 57)⟩,
                              ⟨(some 13), none, .mv (.s 58)⟩])
                            (.region false [
                              ⟨(some 59), none, .mv (.s 11)⟩,
                              ⟨(some 60), none, .mv (.s 12)⟩,
                              ⟨(some 61), none, .conv .u8 (.s 60)⟩,
                              ⟨(some 62), none, .iaddrA 4 1 (.s 10) (.s 59)⟩,
                              ⟨none, none, .store 1 5 [] (.s 62) (.s 61)⟩]))))
                      (.region false [
                        ⟨(some 63), none, .bin .add .int (.s 35) (.c (.int .i64 1))⟩,
                        ⟨(some 35), none, .mv (.s 63)⟩])))))))
          (.seq
            (.region false [
              ⟨(some 64), none, .load (some 4) (some 5) (.s 10)⟩,
              ⟨none, none, .store 4 4 [] (.s 8) (.s 64)⟩,
              ⟨(some 9), none, .mv (.c (.bool true))⟩])
            .ret))))) }
/- slices.Index[[]int,int] -/
def f46 : MFun := { nt := 19, np := 2, no := 0, res := [.slot 4], body :=
  (.seq
    (.region false [
      ⟨(some 4), none, .mv (.c (.int .i64 0))⟩])
    (.seq
      (.seq
        (.region false [
          ⟨(some 6), none, .mv (.s 0)⟩,
          ⟨(some 7), none, .len (.s 6)⟩,
          ⟨(some 8), none, .mv (.c (.int .i64 0))⟩])
        (.block 0
          (.loop [0, 1, 7, 8] []
            (.seq
              (.region false [
                ⟨(some 9), none, .bin .lss .int (.s 8) (.s 7)⟩])
              (.seq
                (.cond (.s 9)
                  .skip
                  (.exit 0))
                (.seq
                  (.block 1
                    (.seq
                      (.region false [
                        ⟨(some 10), none, .mv (.s 8)⟩,
                        ⟨(some 5), none, .mv (.s 10)⟩])
                      (.seq
                        (.region false [
                          ⟨(some 11), none, .mv (.s 1)⟩,
                          ⟨(some 12), none, .mv (.s 0)⟩,
                          ⟨(some 13), none, .mv (.s 5)⟩,
                          ⟨(some 14), none, .iaddrS 1 (.s 12) (.s 13)⟩,
                          ⟨(some 15), none, .load none none (.s 14)⟩,
                          ⟨(some 16), none, .bin .eql .int (.s 11) (.s 15)⟩])
                        (.cond (.s 16)
                          (.seq
                            (.region false [
                              ⟨(some 17), none, .mv (.s 5)⟩,
                              ⟨(some 4), none, .mv (.s 17)⟩])
                            .ret)
                          .skip))))
                  (.region false [
                    ⟨(some 18), none, .bin .add .int (.s 8) (.c (.int .i64 1))⟩,
                    ⟨(some 8), none, .mv (.s 18)⟩])))))))
      (.seq
        (.region false [
          ⟨(some 4), none, .mv (.c (.int .i64 (-1)))⟩])
        .ret))) }
/- slices.Contains[[]int,int] -/
def f34 : MFun := { nt := 9, np := 2, no := 0, res := [.slot 4], body :=
  (.seq
    (.region false [
      ⟨(some 4), none, .mv (.c (.bool false))⟩])
    (.seq
      (.region false [
        ⟨(some 5), none, .mv (.s 0)⟩,
        ⟨(some 6), none, .mv (.s 1)⟩,
        ⟨(some 7), none, .call (.c (.fn 46 [] [])) [(.s 5), (.s 6)] [] [] [] false⟩,
        ⟨(some 8), none, .bin .geq .int (.s 7) (.c (.int .i64 0))⟩,
        ⟨(some 4), none, .mv (.s 8)⟩])
      .ret)) }
/- cuboid/lift.Within -/
def f13 : MFun := { nt := 58, np := 4, no := 4, res := [.slot 8], body :=
  (.seq
    (.region false [
      ⟨(some 4), none, .box 0 (.s 0)⟩,
      ⟨(some 5), none, .box 1 (.s 1)⟩,
      ⟨(some 6), none, .box 2 (.s 2)⟩,
      ⟨(some 7), none, .box 3 (.s 3)⟩,
      ⟨(some 8), none, .mv (.c (.bool false))⟩])
    (.seq
      (.seq
        (.region false [
          ⟨(some 11), none, .load (some 2) (some 0) (.s 4)⟩,
          ⟨(some 12), none, .load (some 4) (some 1) (.s 5)⟩,
          ⟨(some 13), none, .load (some 4) (some 2) (.s 6)⟩,
          ⟨(some 14), none, .call (.c (.fn 28 [] [])) [(.s 11), (.s 12), (.s 13)] [] [] [] false⟩,
          ⟨(some 15), none, .un .not (.s 14)⟩,
          ⟨(some 16), none, .mv (.s 15)⟩,
          ⟨(some 17), (some (16, false)), .faddr 0 (.s 7)⟩,
          ⟨(some 18), (some (16, false)), .load none (some 3) (.s 17)⟩,
          ⟨(some 19), (some (16, false)), .bin .lss .int (.s 18) (.c (.int .i64 0))⟩,
          ⟨(some 20), none, .pick (.s 16) (.c (.bool true)) (.s 19)⟩,
          ⟨(some 21), none, .mv (.s 20)⟩,
          ⟨(some 22), (some (21, false)), .faddr 0 (.s 7)⟩,
          ⟨(some 23), (some (21, false)), .load none (some 3) (.s 22)⟩,
          ⟨(some 24), (some (21, false)), .faddr 0 (.s 4)⟩,
          ⟨(some 25), (some (21, false)), .load none (some 0) (.s 24)⟩,
          ⟨(some 26), (some (21, false)), .len (.s 25)⟩,
          ⟨(some 27), (some (21, false)), .bin .geq .int (.s 23) (.s 26)⟩,
          ⟨(some 28), none, .pick (.s 21) (.c (.bool true)) (.s 27)⟩])
        (.cond (.s 28)
          (.seq
            (.region false [
              ⟨(some 8), none, .mv (.c (.bool false))⟩])
            .ret)
          .skip))
      (.seq
        (.region true [
          ⟨(some 30), none, .faddr 0 (.s 4)⟩,
          ⟨(some 31), none, .load none (some 0) (.s 30)⟩,
          ⟨(some 32), none, .faddr 0 (.s 7)⟩,
          ⟨(some 33), none, .load none (some 3) (.s 32)⟩,
          ⟨(some 34), none, .iaddrS 2 (.s 31) (.s 33)⟩,
          ⟨(some 35), none, .load (some 2) none (.s 34)⟩,
          ⟨(some 36), none, .faddr 0 (.s 7)⟩,
          ⟨(some 37), none, .load none (some 3) (.s 36)⟩,
          ⟨(some 38), none, .iaddrA 4 1 (.s 5) (.s 37)⟩,
          ⟨(some 39), none, .load none (some 1) (.s 38)⟩,
          ⟨(some 40), none, .conv .i64 (.s 39)⟩,
          ⟨(some 41), none, .faddr 1 (.s 7)⟩,
          ⟨(some 42), none, .load none (some 3) (.s 41)⟩,
          ⟨(some 43), none, .faddr 0 (.s 7)⟩,
          ⟨(some 44), none, .load none (some 3) (.s 43)⟩,
          ⟨(some 45), none, .iaddrA 4 1 (.s 6) (.s 44)⟩,
          ⟨(some 46), none, .load none (some 2) (.s 45)⟩,
          ⟨(some 47), none, .conv .i64 (.s 46)⟩,
          ⟨(some 48), none, .call (.c (.fn 31 [] [])) [(.s 35), (.s 40), (.s 42), (.s 47)] [] [] [] false⟩,
          ⟨(some 29), none, .mv (.s 48)⟩,
          ⟨(some 49), none, .extract (.s 29) 0⟩,
          ⟨(some 50), none, .extract (.s 29) 1⟩,
          ⟨(some 9), none, .mv (.s 49)⟩,
          ⟨(some 10), none, .mv (.s 50)⟩])
        (.seq
          (.region false [
            ⟨(some 51), none, .mv (.s 10)⟩,
            ⟨(some 52), none, .mv (.s 51)⟩,
            ⟨(some 53), (some (52, true)), .faddr 2 (.s 7)⟩,
            ⟨(some 54), (some (52, true)), .load none (some 3) (.s 53)⟩,
            ⟨(some 55), (some (52, true)), .mv (.s 9)⟩,
            ⟨(some 56), (some (52, true)), .call (.c (.fn 34 [] [])) [(.s 54), (.s 55)] [] [] [] false⟩,
            ⟨(some 57), none, .pick (.s 52) (.s 56) (.c (.bool false))⟩,
            ⟨(some 8), none, .mv (.s 57)⟩])
          .ret)))) }
/- cuboid/hier.Under -/
def f35 : MFun := { nt := 48, np := 4, no := 2, res := [.slot 8], body :=
  (.seq
    (.region false [
      ⟨(some 4), none, .box 0 (.s 0)⟩,
      ⟨(some 8), none, .mv (.c .nilsl)⟩])
    (.seq
      (.seq
        (.region false [
          ⟨(some 11), none, .mv (.s 3)⟩,
          ⟨(some 12), none, .mv (.s 1)⟩,
          ⟨(some 13), none, .bin .gtr .int (.s 11) (.s 12)⟩,
          ⟨(some 14), none, .mv (.s 13)⟩,
          ⟨(some 15), (some (14, false)), .load (some 2) (some 0) (.s 4)⟩,
          ⟨(some 16), (some (14, false)), .mv (.s 3)⟩,
          ⟨(some 17), (some (14, false)), .call (.c (.fn 42 [] [])) [(.s 15), (.s 16)] [] [] [] false⟩,
          ⟨(some 18), (some (14, false)), .bin .eql .int (.s 17) (.c (.int .i64 0))⟩,
          ⟨(some 19), none, .pick (.s 14) (.c (.bool true)) (.s 18)⟩,
          ⟨(some 20), none, .mv (.s 19)⟩,
          ⟨(some 21), (some (20, false)), .mv (.s 2)⟩,
          ⟨(some 22), (some (20, false)), .load (some 2) (some 0) (.s 4)⟩,
          ⟨(some 23), (some (20, false)), .mv (.s 1)⟩,
          ⟨(some 24), (some (20, false)), .call (.c (.fn 42 [] [])) [(.s 22), (.s 23)] [] [] [] false⟩,
          ⟨(some 25), (some (20, false)), .bin .sub .int (.s 24) (.c (.int .i64 1))⟩,
          ⟨(some 26), (some (20, false)), .call (.c (.fn 44 [] [])) [(.s 21), (.c (.int .i64 0)), (.s 25)] [] [] [] false⟩,
          ⟨(some 27), (some (20, false)), .un .not (.s 26)⟩,
          ⟨(some 28), none, .pick (.s 20) (.c (.bool true)) (.s 27)⟩])
        (.cond (.s 28)
          (.seq
            (.region false [
              ⟨(some 8), none, .mv (.c .nilsl)⟩])
            .ret)
          .skip))
      (.seq
        (.region false [
          ⟨(some 9), none, .vnil 1 1⟩])
        (.seq
          (.seq
            (.region false [
              ⟨(some 29), none, .load (some 2) (some 0) (.s 4)⟩,
              ⟨(some 30), none, .mv (.s 3)⟩,
              ⟨(some 31), none, .call (.c (.fn 42 [] [])) [(.s 29), (.s 30)] [] [] [] false⟩,
              ⟨(some 32), none, .mv (.c (.int .i64 0))⟩])
            (.block 0
              (.loop [1, 2, 3, 4, 9, 31, 32] [0, 1]
                (.seq
                  (.region false [
                    ⟨(some 33), none, .bin .lss .int (.s 32) (.s 31)⟩])
                  (.seq
                    (.cond (.s 33)
                      .skip
                      (.exit 0))
                    (.seq
                      (.block 1
                        (.seq
                          (.region false [
                            ⟨(some 34), none, .mv (.s 32)⟩,
                            ⟨(some 10), none, .mv (.s 34)⟩])
                          (.seq
                            (.region false [
                              ⟨(some 35), none, .load (some 2) (some 0) (.s 4)⟩,
                              ⟨(some 36), none, .mv (.s 3)⟩,
                              ⟨(some 37), none, .mv (.s 1)⟩,
                              ⟨(some 38), none, .mv (.s 10)⟩,
                              ⟨(some 39), none, .call (.c (.fn 45 [] [])) [(.s 35), (.s 36), (.s 37), (.s 38)] [] [] [] false⟩,
                              ⟨(some 40), none, .mv (.s 2)⟩,
                              ⟨(some 41), none, .bin .eql .int (.s 39) (.s 40)⟩])
                            (.cond (.s 41)
                              (.region false [
                                ⟨(some 42), none, .mv (.s 9)⟩,
                                ⟨(some 43), none, .mv (.s 10)⟩,
                                ⟨(some 44), none, .lit none [] 1 1 [.int .i64 0] [(0, 1, (.s 43))]⟩,
                                ⟨(some 45), none, .append 8 1 1 none (.s 42) (.s 44)⟩,
                                ⟨(some 9), none, .mv (.s 45)⟩])
                              .skip))))
                      (.region false [
                        ⟨(some 46), none, .bin .add .int (.s 32) (.c (.int .i64 1))⟩,
                        ⟨(some 32), none, .mv (.s 46)⟩])))))))
          (.seq
            (.region false [
              ⟨(some 47), none, .mv (.s 9)⟩,
              ⟨(some 8), none, .mv (.s 47)⟩])
            .ret))))) }
/- cuboid/lift.with -/
def f36 : MFun := { nt := 35, np := 3, no := 2, res := [.slot 6], body :=
  (.seq
    (.region false [
      ⟨(some 6), none, .mv (.c .nilsl)⟩])
    (.seq
      (.region false [
        ⟨(some 7), none, .vnil 0 4⟩])
      (.seq
        (.seq
          (.region false [
            ⟨(some 12), none, .mv (.s 0)⟩,
            ⟨(some 13), none, .len (.s 12)⟩,
            ⟨(some 14), none, .mv (.c (.int .i64 0))⟩])
          (.block 0
            (.loop [1, 2, 7, 12, 13, 14] [0]
              (.seq
                (.region false [
                  ⟨(some 15), none, .bin .lss .int (.s 14) (.s 13)⟩])
                (.seq
                  (.cond (.s 15)
                    .skip
                    (.exit 0))
                  (.seq
                    (.block 1
                      (.seq
                        (.region false [
                          ⟨(some 16), none, .iaddrS 4 (.s 12) (.s 14)⟩,
                          ⟨(some 17), none, .load (some 4) none (.s 16)⟩,
                          ⟨(some 9), none, .alloc 1 [.int .u8 0, .int .u8 0, .int .u8 0, .int .u8 0]⟩,
                          ⟨none, none, .store 4 1 [] (.s 9) (.s 17)⟩])
                        (.seq
                          (.region false [
                            ⟨(some 18), none, .mv (.s 2)⟩,
                            ⟨(some 19), none, .len (.s 18)⟩,
                            ⟨(some 20), none, .mv (.c (.int .i64 0))⟩])
                          (.block 2
                            (.loop [1, 2, 7, 9, 12, 13, 14, 18, 19, 20] [0, 1]
                              (.seq
                                (.region false [
                                  ⟨(some 21), none, .bin .lss .int (.s 20) (.s 19)⟩])
                                (.seq
                                  (.cond (.s 21)
                                    .skip
                                    (.exit 2))
                                  (.seq
                                    (.block 3
                                      (.seq
                                        (.region false [
                                          ⟨(some 22), none, .iaddrS 1 (.s 18) (.s 20)⟩,
                                          ⟨(some 23), none, .load none none (.s 22)⟩,
                                          ⟨(some 11), none, .mv (.s 23)⟩])
                                        (.seq
                                          (.region false [
                                            ⟨(some 24), none, .mv (.s 1)⟩,
                                            ⟨(some 25), none, .mv (.s 11)⟩,
                                            ⟨(some 26), none, .conv .u8 (.s 25)⟩,
                                            ⟨(some 27), none, .iaddrA 4 1 (.s 9) (.s 24)⟩,
                                            ⟨none, none, .store 1 1 [] (.s 27) (.s 26)⟩])
                                          (.region false [
                                            ⟨(some 28), none, .mv (.s 7)⟩,
                                            ⟨(some 29), none, .load (some 4) (some 1) (.s 9)⟩,
                                            ⟨(some 30), none, .lit none [] 1 4 [.int .u8 0, .int .u8 0, .int .u8 0, .int .u8 0] [(0, 4, (.s 29))]⟩,
                                            ⟨(some 31), none, .append 4 4 0 none (.s 28) (.s 30)⟩,
                                            ⟨(some 7), none, .mv (.s 31)⟩]))))
                                    (.region false [
                                      ⟨(some 32), none, .bin .add .int (.s 20) (.c (.int .i64 1))⟩,
                                      ⟨(some 20), none, .mv (.s 32)⟩])))))))))
                    (.region false [
                      ⟨(some 33), none, .bin .add .int (.s 14) (.c (.int .i64 1))⟩,
                      ⟨(some 14), none, .mv (.s 33)⟩])))))))
        (.seq
          (.region false [
            ⟨(some 34), none, .mv (.s 7)⟩,
            ⟨(some 6), none, .mv (.s 34)⟩])
          .ret)))) }
/- cuboid/lift.Fiber -/
def f16 : MFun := { nt := 82, np := 4, no := 5, res := [.slot 8], body :=
  (.seq
    (.region false [
      ⟨(some 4), none, .box 0 (.s 0)⟩,
      ⟨(some 5), none, .box 1 (.s 1)⟩,
      ⟨(some 6), none, .box 2 (.s 2)⟩,
      ⟨(some 7), none, .box 3 (.s 3)⟩,
      ⟨(some 8), none, .mv (.c .nilsl)⟩])
    (.seq
      (.seq
        (.region false [
          ⟨(some 14), none, .load (some 2) (some 0) (.s 4)⟩,
          ⟨(some 15), none, .load (some 4) (some 1) (.s 5)⟩,
          ⟨(some 16), none, .load (some 4) (some 2) (.s 6)⟩,
          ⟨(some 17), none, .call (.c (.fn 28 [] [])) [(.s 14), (.s 15), (.s 16)] [] [] [] false⟩,
          ⟨(some 18), none, .un .not (.s 17)⟩,
          ⟨(some 19), none, .mv (.s 18)⟩,
          ⟨(some 20), (some (19, false)), .load (some 2) (some 0) (.s 4)⟩,
          ⟨(some 21), (some (19, false)), .load (some 4) (some 3) (.s 7)⟩,
          ⟨(some 22), (some (19, false)), .call (.c (.fn 29 [] [])) [(.s 20), (.s 21)] [] [] [] false⟩,
          ⟨(some 23), (some (19, false)), .un .not (.s 22)⟩,
          ⟨(some 24), none, .pick (.s 19) (.c (.bool true)) (.s 23)⟩,
          ⟨(some 25), none, .mv (.s 24)⟩,
          ⟨(some 26), (some (25, false)), .load (some 4) (some 3) (.s 7)⟩,
          ⟨(some 27), (some (25, false)), .load (some 4) (some 1) (.s 5)⟩,
          ⟨(some 28), (some (25, false)), .call (.c (.fn 30 [] [])) [(.s 26), (.s 27)] [] [] [] false⟩,
          ⟨(some 29), (some (25, false)), .un .not (.s 28)⟩,
          ⟨(some 30), none, .pick (.s 25) (.c (.bool true)) (.s 29)⟩])
        (.cond (.s 30)
          (.seq
            (.region false [
              ⟨(some 8), none, .mv (.c .nilsl)⟩])
            .ret)
          .skip))
      (.seq
        (.region false [
          ⟨(some 9), none, .alloc 4 [.nilsl, .nilsl, .nilsl, .nilsl]⟩])
        (.seq
          (.region false [
            ⟨(some 10), none, .mv (.c (.int .i64 1))⟩])
          (.seq
            (.seq
              (.region false [
                ⟨(some 31), none, .faddr 0 (.s 4)⟩,
                ⟨(some 32), none, .load none (some 0) (.s 31)⟩,
                ⟨(some 33), none, .len (.s 32)⟩,
                ⟨(some 34), none, .mv (.c (.int .i64 0))⟩])
              (.block 0
                (.loop [4, 5, 6, 7, 9, 10, 33, 34] [0, 1, 2, 3, 4]
                  (.seq
                    (.region false [
                      ⟨(some 35), none, .bin .lss .int (.s 34) (.s 33)⟩])
                    (.seq
                      (.cond (.s 35)
                        .skip
                        (.exit 0))
                      (.seq
                        (.block 1
                          (.seq
                            (.region false [
                              ⟨(some 36), none, .mv (.s 34)⟩,
                              ⟨(some 11), none, .mv (.s 36)⟩])
                            (.seq
                              (.region true [
                                ⟨(some 37), none, .mv (.s 11)⟩,
                                ⟨(some 38), none, .faddr 0 (.s 4)⟩,
                                ⟨(some 39), none, .load none (some 0) (.s 38)⟩,
                                ⟨(some 40), none, .mv (.s 11)⟩,
                                ⟨(some 41), none, .iaddrS 2 (.s 39) (.s 40)⟩,
                                ⟨(some 42), none, .load (some 2) none (.s 41)⟩,
                                ⟨(some 43), none, .mv (.s 11)⟩,
                                ⟨(some 44), none, .iaddrA 4 1 (.s 5) (.s 43)⟩,
                                ⟨(some 45), none, .load none (some 1) (.s 44)⟩,
                                ⟨(some 46), none, .conv .i64 (.s 45)⟩,
                                ⟨(some 47), none, .mv (.s 11)⟩,
                                ⟨(some 48), none, .iaddrA 4 1 (.s 6) (.s 47)⟩,
                                ⟨(some 49), none, .load none (some 2) (.s 48)⟩,
                                ⟨(some 50), none, .conv .i64 (.s 49)⟩,
                                ⟨(some 51), none, .mv (.s 11)⟩,
                                ⟨(some 52), none, .iaddrA 4 1 (.s 7) (.s 51)⟩,
                                ⟨(some 53), none, .load none (some 3) (.s 52)⟩,
                                ⟨(some 54), none, .conv .i64 (.s 53)⟩,
                                ⟨(some 55), none, .call (.c (.fn 35 [] [])) [(.s 42), (.s 46), (.s 50), (.s 54)] [] [] [] true⟩,
                                ⟨(some 56), none, .iaddrA 4 1 (.s 9) (.s 37)⟩,
                                ⟨none, none, .store 1 4 [] (.s 56) (.s 55)⟩])
                              (.region false [
                                ⟨(some 57), none, .mv (.s 10)⟩,
                                ⟨(some 58), none, .mv (.s 11)⟩,
                                ⟨(some 59), none, .iaddrA 4 1 (.s 9) (.s 58)⟩,
                                ⟨(some 60), none, .load none (some 4) (.s 59)⟩,
                                ⟨(some 61), none, .len (.s 60)⟩,
                                ⟨(some 62), none, .bin .mul .int (.s 57) (.s 61)⟩,
                                ⟨(some 10), none, .mv (.s 62)⟩]))))
                        (.region false [
                          ⟨(some 63), none, .bin .add .int (.s 34) (.c (.int .i64 1))⟩,
                          ⟨(some 34), none, .mv (.s 63)⟩])))))))
            (.seq
              (.seq
                (.region false [
                  ⟨(some 64), none, .mv (.s 10)⟩,
                  ⟨(some 65), none, .bin .gtr .int (.s 64) (.c (.int .i64 5000))⟩])
                (.cond (.s 65)
                  (.seq
                    (.region false [
                      ⟨(some 8), none, .mv (.c .nilsl)⟩])
                    .ret)
                  .skip))
              (.seq
                (.region false [
                  ⟨(some 66), none, .build [.int .u8 0, .int .u8 0, .int .u8 0, .int .u8 0] []⟩,
                  ⟨(some 67), none, .lit none [] 1 4 [.int .u8 0, .int .u8 0, .int .u8 0, .int .u8 0] [(0, 4, (.s 66))]⟩,
                  ⟨(some 12), none, .mv (.s 67)⟩])
                (.seq
                  (.seq
                    (.region false [
                      ⟨(some 68), none, .faddr 0 (.s 4)⟩,
                      ⟨(some 69), none, .load none (some 0) (.s 68)⟩,
                      ⟨(some 70), none, .len (.s 69)⟩,
                      ⟨(some 71), none, .mv (.c (.int .i64 0))⟩])
                    (.block 2
                      (.loop [9, 12, 70, 71] [4]
                        (.seq
                          (.region false [
                            ⟨(some 72), none, .bin .lss .int (.s 71) (.s 70)⟩])
                          (.seq
                            (.cond (.s 72)
                              .skip
                              (.exit 2))
                            (.seq
                              (.block 3
                                (.seq
                                  (.region false [
                                    ⟨(some 73), none, .mv (.s 71)⟩,
                                    ⟨(some 13), none, .mv (.s 73)⟩])
                                  (.region false [
                                    ⟨(some 74), none, .mv (.s 12)⟩,
                                    ⟨(some 75), none, .mv (.s 13)⟩,
                                    ⟨(some 76), none, .mv (.s 13)⟩,
                                    ⟨(some 77), none, .iaddrA 4 1 (.s 9) (.s 76)⟩,
                                    ⟨(some 78), none, .load none (some 4) (.s 77)⟩,
                                    ⟨(some 79), none, .call (.c (.fn 36 [] [])) [(.s 74), (.s 75), (.s 78)] [] [] [] true⟩,
                                    ⟨(some 12), none, .mv (.s 79)⟩])))
                              (.region false [
                                ⟨(some 80), none, .bin .add .int (.s 71) (.c (.int .i64 1))⟩,
                                ⟨(some 71), none, .mv (.s 80)⟩])))))))
                  (.seq
                    (.region false [
                      ⟨(some 81), none, .mv (.s 12)⟩,
                      ⟨(some 8), none, .mv (.s 81)⟩])
                    .ret))))))))) }
/- cuboid/cuboidlaw06.some -/
def f27 : MFun := { nt := 7, np := 0, no := 1, res := [.cell 0 0 (some 2)], body :=
  (.seq
    (.region false [
      ⟨(some 0), none, .alloc 0 [.nilsl, .int .i64 0]⟩])
    (.seq
      (.region false [
        ⟨(some 1), none, .lit none [] 2 1 [.int .i64 0] [(0, 1, (.c (.int .i64 4))), (1, 1, (.c (.int .i64 2)))]⟩,
        ⟨(some 2), none, .lit none [] 4 1 [.int .i64 0] [(0, 1, (.c (.int .i64 0))), (1, 1, (.c (.int .i64 0))), (2, 1, (.c (.int .i64 1))), (3, 1, (.c (.int .i64 1)))]⟩,
        ⟨(some 3), none, .lit none [] 1 1 [.nilsl] [(0, 1, (.s 2))]⟩,
        ⟨(some 4), none, .build [.nilsl, .nilsl] [(0, 1, (.s 1)), (1, 1, (.s 3))]⟩,
        ⟨(some 5), none, .lit none [] 1 2 [.nilsl, .nilsl] [(0, 2, (.s 4))]⟩,
        ⟨(some 6), none, .build [.nilsl, .int .i64 0] [(0, 1, (.s 5)), (1, 1, (.c (.int .i64 1)))]⟩,
        ⟨none, none, .store 2 0 [] (.s 0) (.s 6)⟩])
      .ret)) }
/- cuboid/cuboidlaw06.wakes -/
def f9 : MFun := { nt := 61, np := 0, no := 2, res := [.slot 0], body :=
  (.seq
    (.region false [
      ⟨(some 0), none, .mv (.c (.bool false))⟩])
    (.seq
      (.region false [
        ⟨(some 5), none, .call (.c (.fn 27 [] [])) [] [] [] [] true⟩,
        ⟨(some 1), none, .alloc 0 [.nilsl, .int .i64 0]⟩,
        ⟨none, none, .store 2 0 [] (.s 1) (.s 5)⟩])
      (.seq
        (.region false [
          ⟨(some 7), none, .load (some 2) (some 0) (.s 1)⟩,
          ⟨(some 8), none, .build [.int .u8 0, .int .u8 0, .int .u8 0, .int .u8 0] []⟩,
          ⟨(some 9), none, .build [.int .u8 0, .int .u8 0, .int .u8 0, .int .u8 0] [(0, 1, (.c (.int .u8 1)))]⟩,
          ⟨(some 10), none, .build [.int .u8 0, .int .u8 0, .int .u8 0, .int .u8 0] [(0, 1, (.c (.int .u8 3)))]⟩,
          ⟨(some 11), none, .call (.c (.fn 11 [] [])) [(.s 7), (.s 8), (.s 9), (.s 10)] [] [] [] false⟩,
          ⟨(some 6), none, .mv (.s 11)⟩,
          ⟨(some 12), none, .extract (.s 6) 0⟩,
          ⟨(some 13), none, .extract (.s 6) 1⟩,
          ⟨(some 2), none, .alloc 1 [.int .u8 0, .int .u8 0, .int .u8 0, .int .u8 0]⟩,
          ⟨none, none, .store 4 1 [] (.s 2) (.s 12)⟩,
          ⟨(some 3), none, .mv (.s 13)⟩])
        (.seq
          (.region false [
            ⟨(some 14), none, .load (some 2) (some 0) (.s 1)⟩,
            ⟨(some 15), none, .build [.int .u8 0, .int .u8 0, .int .u8 0, .int .u8 0] [(0, 1, (.c (.int .u8 1)))]⟩,
            ⟨(some 16), none, .build [.int .u8 0, .int .u8 0, .int .u8 0, .int .u8 0] [(0, 1, (.c (.int .u8 1)))]⟩,
            ⟨(some 17), none, .build [.int .u8 0, .int .u8 0, .int .u8 0, .int .u8 0] []⟩,
            ⟨(some 18), none, .call (.c (.fn 16 [] [])) [(.s 14), (.s 15), (.s 16), (.s 17)] [] [] [] true⟩,
            ⟨(some 4), none, .mv (.s 18)⟩])
          (.seq
            (.region false [
              ⟨(some 19), none, .mv (.s 3)⟩,
              ⟨(some 20), none, .mv (.s 19)⟩,
              ⟨(some 21), (some (20, true)), .load (some 4) (some 1) (.s 2)⟩,
              ⟨(some 22), (some (20, true)), .build [.int .u8 0, .int .u8 0, .int .u8 0, .int .u8 0] [(0, 1, (.c (.int .u8 1)))]⟩,
              ⟨(some 23), (some (20, true)), .bin .eql (.agg [some .u8, some .u8, some .u8, some .u8]) (.s 21) (.s 22)⟩,
              ⟨(some 24), none, .pick (.s 20) (.s 23) (.c (.bool false))⟩,
              ⟨(some 25), none, .mv (.s 24)⟩,
              ⟨(some 26), (some (25, true)), .mv (.s 4)⟩,
              ⟨(some 27), (some (25, true)), .len (.s 26)⟩,
              ⟨(some 28), (some (25, true)), .bin .eql .int (.s 27) (.c (.int .i64 2))⟩,
              ⟨(some 29), none, .pick (.s 25) (.s 28) (.c (.bool false))⟩,
              ⟨(some 30), none, .mv (.s 29)⟩,
              ⟨(some 31), (some (30, true)), .mv (.s 4)⟩,
              ⟨(some 32), (some (30, true)), .iaddrS 4 (.s 31) (.c (.int .i64 0))⟩,
              ⟨(some 33), (some (30, true)), .load (some 4) none (.s 32)⟩,
              ⟨(some 34), (some (30, true)), .build [.int .u8 0, .int .u8 0, .int .u8 0, .int .u8 0] [(0, 1, (.c (.int .u8 2)))]⟩,
              ⟨(some 35), (some (30, true)), .bin .eql (.agg [some .u8, some .u8, some .u8, some .u8]) (.s 33) (.s 34)⟩,
              ⟨(some 36), none, .pick (.s 30) (.s 35) (.c (.bool false))⟩,
              ⟨(some 37), none, .mv (.s 36)⟩,
              ⟨(some 38), (some (37, true)), .mv (.s 4)⟩,
              ⟨(some 39), (some (37, true)), .iaddrS 4 (.s 38) (.c (.int .i64 1))⟩,
              ⟨(some 40), (some (37, true)), .load (some 4) none (.s 39)⟩,
              ⟨(some 41), (some (37, true)), .build [.int .u8 0, .int .u8 0, .int .u8 0, .int .u8 0] [(0, 1, (.c (.int .u8 3)))]⟩,
              ⟨(some 42), (some (37, true)), .bin .eql (.agg [some .u8, some .u8, some .u8, some .u8]) (.s 40) (.s 41)⟩,
              ⟨(some 43), none, .pick (.s 37) (.s 42) (.c (.bool false))⟩,
              ⟨(some 44), none, .mv (.s 43)⟩,
              ⟨(some 45), (some (44, true)), .load (some 2) (some 0) (.s 1)⟩,
              ⟨(some 46), (some (44, true)), .build [.int .u8 0, .int .u8 0, .int .u8 0, .int .u8 0] []⟩,
              ⟨(some 47), (some (44, true)), .build [.int .u8 0, .int .u8 0, .int .u8 0, .int .u8 0] [(0, 1, (.c (.int .u8 3)))]⟩,
              ⟨(some 48), (some (44, true)), .lit none [] 1 1 [.int .i64 0] [(0, 1, (.c (.int .i64 1)))]⟩,
              ⟨(some 49), (some (44, true)), .build [.int .i64 0, .int .i64 0, .nilsl] [(1, 1, (.c (.int .i64 1))), (2, 1, (.s 48))]⟩,
              ⟨(some 50), (some (44, true)), .call (.c (.fn 13 [] [])) [(.s 45), (.s 46), (.s 47), (.s 49)] [] [] [] false⟩,
              ⟨(some 51), none, .pick (.s 44) (.s 50) (.c (.bool false))⟩,
              ⟨(some 52), none, .mv (.s 51)⟩,
              ⟨(some 53), (some (52, true)), .load (some 2) (some 0) (.s 1)⟩,
              ⟨(some 54), (some (52, true)), .build [.int .u8 0, .int .u8 0, .int .u8 0, .int .u8 0] []⟩,
              ⟨(some 55), (some (52, true)), .build [.int .u8 0, .int .u8 0, .int .u8 0, .int .u8 0] [(0, 1, (.c (.int .u8 3)))]⟩,
              ⟨(some 56), (some (52, true)), .lit none [] 1 1 [.int .i64 0] [(0, 1, (.c (.int .i64 0)))]⟩,
              ⟨(some 57), (some (52, true)), .build [.int .i64 0, .int .i64 0, .nilsl] [(1, 1, (.c (.int .i64 1))), (2, 1, (.s 56))]⟩,
              ⟨(some 58), (some (52, true)), .call (.c (.fn 13 [] [])) [(.s 53), (.s 54), (.s 55), (.s 57)] [] [] [] false⟩,
              ⟨(some 59), (some (52, true)), .un .not (.s 58)⟩,
              ⟨(some 60), none, .pick (.s 52) (.s 59) (.c (.bool false))⟩,
              ⟨(some 0), none, .mv (.s 60)⟩])
            .ret))))) }
/- cuboid/cuboidref05.Meet -/
def f10 : MFun := { nt := 20, np := 2, no := 3, res := [.cell 4 2 (some 4)], body :=
  (.seq
    (.region false [
      ⟨(some 2), none, .box 0 (.s 0)⟩,
      ⟨(some 3), none, .box 1 (.s 1)⟩,
      ⟨(some 4), none, .alloc 2 [.int .u8 0, .int .u8 0, .int .u8 0, .int .u8 0]⟩])
    (.seq
      (.seq
        (.region false [
          ⟨(some 5), none, .mv (.c (.int .i64 0))⟩])
        (.block 0
          (.loop [2, 3, 4, 5] [0, 1, 2]
            (.seq
              (.seq
                (.region false [
                  ⟨(some 6), none, .mv (.s 5)⟩,
                  ⟨(some 7), none, .bin .lss .int (.s 6) (.c (.int .i64 4))⟩])
                (.cond (.s 7)
                  .skip
                  (.exit 0)))
              (.seq
                (.block 1
                  (.region true [
                    ⟨(some 10), none, .mv (.s 5)⟩,
                    ⟨(some 11), none, .mv (.s 5)⟩,
                    ⟨(some 12), none, .iaddrA 4 1 (.s 2) (.s 11)⟩,
                    ⟨(some 13), none, .load none (some 0) (.s 12)⟩,
                    ⟨(some 14), none, .mv (.s 5)⟩,
                    ⟨(some 15), none, .iaddrA 4 1 (.s 3) (.s 14)⟩,
                    ⟨(some 16), none, .load none (some 1) (.s 15)⟩,
                    ⟨(some 17), none, .minmax false [(.s 13), (.s 16)]⟩,
                    ⟨(some 18), none, .iaddrA 4 1 (.s 2) (.s 10)⟩,
                    ⟨none, none, .store 1 0 [] (.s 18) (.s 17)⟩]))
                (.region false [
                  ⟨(some 8), none, .mv (.s 5)⟩,
                  ⟨(some 9), none, .bin .add .int (.s 8) (.c (.int .i64 1))⟩,
                  ⟨(some 5), none, .mv (.s 9)⟩]))))))
      (.seq
        (.region false [
          ⟨(some 19), none, .load (some 4) (some 0) (.s 2)⟩,
          ⟨none, none, .store 4 2 [] (.s 4) (.s 19)⟩])
        .ret))) }
/- cuboid/cuboidref03.Good -/
def f40 : MFun := { nt := 97, np := 1, no := 1, res := [.slot 2], body :=
  (.seq
    (.region false [
      ⟨(some 1), none, .box 0 (.s 0)⟩,
      ⟨(some 2), none, .mv (.c (.bool false))⟩])
    (.seq
      (.region false [
        ⟨(some 7), none, .faddr 0 (.s 1)⟩,
        ⟨(some 8), none, .load none (some 0) (.s 7)⟩,
        ⟨(some 9), none, .len (.s 8)⟩,
        ⟨(some 3), none, .mv (.s 9)⟩])
      (.seq
        (.seq
          (.region false [
            ⟨(some 10), none, .mv (.s 3)⟩,
            ⟨(some 11), none, .bin .lss .int (.s 10) (.c (.int .i64 1))⟩,
            ⟨(some 12), none, .mv (.s 11)⟩,
            ⟨(some 13), (some (12, false)), .mv (.s 3)⟩,
            ⟨(some 14), (some (12, false)), .bin .gtr .int (.s 13) (.c (.int .i64 4))⟩,
            ⟨(some 15), none, .pick (.s 12) (.c (.bool true)) (.s 14)⟩,
            ⟨(some 16), none, .mv (.s 15)⟩,
            ⟨(some 17), (some (16, false)), .faddr 1 (.s 1)⟩,
            ⟨(some 18), (some (16, false)), .load none (some 0) (.s 17)⟩,
            ⟨(some 19), (some (16, false)), .len (.s 18)⟩,
            ⟨(some 20), (some (16, false)), .mv (.s 3)⟩,
            ⟨(some 21), (some (16, false)), .bin .sub .int (.s 20) (.c (.int .i64 1))⟩,
            ⟨(some 22), (some (16, false)), .bin .neq .int (.s 19) (.s 21)⟩,
            ⟨(some 23), none, .pick (.s 16) (.c (.bool true)) (.s 22)⟩])
          (.cond (.s 23)
            (.seq
              (.region false [
                ⟨(some 2), none, .mv (.c (.bool false))⟩])
              .ret)
            .skip))
        (.seq
          (.seq
            (.region false [
              ⟨(some 4), none, .mv (.c (.int .i64 0))⟩])
            (.block 0
              (.loop [1, 3, 4] [0]
                (.seq
                  (.seq
                    (.region false [
                      ⟨(some 24), none, .mv (.s 4)⟩,
                      ⟨(some 25), none, .mv (.s 3)⟩,
                      ⟨(some 26), none, .bin .lss .int (.s 24) (.s 25)⟩])
                    (.cond (.s 26)
                      .skip
                      (.exit 0)))
                  (.seq
                    (.block 1
                      (.seq
                        (.region false [
                          ⟨(some 29), none, .faddr 0 (.s 1)⟩,
                          ⟨(some 30), none, .load none (some 0) (.s 29)⟩,
                          ⟨(some 31), none, .mv (.s 4)⟩,
                          ⟨(some 32), none, .iaddrS 1 (.s 30) (.s 31)⟩,
                          ⟨(some 33), none, .load none none (.s 32)⟩,
                          ⟨(some 34), none, .bin .lss .int (.s 33) (.c (.int .i64 1))⟩,
                          ⟨(some 35), none, .mv (.s 34)⟩,
                          ⟨(some 36), (some (35, false)), .faddr 0 (.s 1)⟩,
                          ⟨(some 37), (some (35, false)), .load none (some 0) (.s 36)⟩,
                          ⟨(some 38), (some (35, false)), .mv (.s 4)⟩,
                          ⟨(some 39), (some (35, false)), .iaddrS 1 (.s 37) (.s 38)⟩,
                          ⟨(some 40), (some (35, false)), .load none none (.s 39)⟩,
                          ⟨(some 41), (some (35, false)), .bin .gtr .int (.s 40) (.c (.int .i64 40))⟩,
                          ⟨(some 42), none, .pick (.s 35) (.c (.bool true)) (.s 41)⟩])
                        (.cond (.s 42)
                          (.seq
                            (.region false [
                              ⟨(some 2), none, .mv (.c (.bool false))⟩])
                            .ret)
                          .skip)))
                    (.region false [
                      ⟨(some 27), none, .mv (.s 4)⟩,
                      ⟨(some 28), none, .bin .add .int (.s 27) (.c (.int .i64 1))⟩,
                      ⟨(some 4), none, .mv (.s 28)⟩]))))))
          (.seq
            (.seq
              (.region false [
                ⟨(some 5), none, .mv (.c (.int .i64 0))⟩])
              (.block 2
                (.loop [1, 3, 5] [0]
                  (.seq
                    (.seq
                      (.region false [
                        ⟨(some 43), none, .mv (.s 5)⟩,
                        ⟨(some 44), none, .mv (.s 3)⟩,
                        ⟨(some 45), none, .bin .sub .int (.s 44) (.c (.int .i64 1))⟩,
                        ⟨(some 46), none, .bin .lss .int (.s 43) (.s 45)⟩])
                      (.cond (.s 46)
                        .skip
                        (.exit 2)))
                    (.seq
                      (.block 3
                        (.seq
                          (.seq
                            (.region true [
                              ⟨(some 49), none, .faddr 1 (.s 1)⟩,
                              ⟨(some 50), none, .load none (some 0) (.s 49)⟩,
                              ⟨(some 51), none, .mv (.s 5)⟩,
                              ⟨(some 52), none, .iaddrS 1 (.s 50) (.s 51)⟩,
                              ⟨(some 53), none, .load none none (.s 52)⟩,
                              ⟨(some 54), none, .len (.s 53)⟩,
                              ⟨(some 55), none, .faddr 0 (.s 1)⟩,
                              ⟨(some 56), none, .load none (some 0) (.s 55)⟩,
                              ⟨(some 57), none, .mv (.s 5)⟩,
                              ⟨(some 58), none, .iaddrS 1 (.s 56) (.s 57)⟩,
                              ⟨(some 59), none, .load none none (.s 58)⟩,
                              ⟨(some 60), none, .bin .neq .int (.s 54) (.s 59)⟩])
                            (.cond (.s 60)
                              (.seq
                                (.region false [
                                  ⟨(some 2), none, .mv (.c (.bool false))⟩])
                                .ret)
                              .skip))
                          (.seq
                            (.region false [
                              ⟨(some 6), none, .mv (.c (.int .i64 0))⟩])
                            (.block 4
                              (.loop [1, 3, 5, 6] [0]
                                (.seq
                                  (.seq
                                    (.region false [
                                      ⟨(some 61), none, .mv (.s 6)⟩,
                                      ⟨(some 62), none, .faddr 1 (.s 1)⟩,
                                      ⟨(some 63), none, .load none (some 0) (.s 62)⟩,
                                      ⟨(some 64), none, .mv (.s 5)⟩,
                                      ⟨(some 65), none, .iaddrS 1 (.s 63) (.s 64)⟩,
                                      ⟨(some 66), none, .load none none (.s 65)⟩,
                                      ⟨(some 67), none, .len (.s 66)⟩,
                                      ⟨(some 68), none, .bin .lss .int (.s 61) (.s 67)⟩])
                                    (.cond (.s 68)
                                      .skip
                                      (.exit 4)))
                                  (.seq
                                    (.block 5
                                      (.seq
                                        (.region true [
                                          ⟨(some 71), none, .faddr 1 (.s 1)⟩,
                                          ⟨(some 72), none, .load none (some 0) (.s 71)⟩,
                                          ⟨(some 73), none, .mv (.s 5)⟩,
                                          ⟨(some 74), none, .iaddrS 1 (.s 72) (.s 73)⟩,
                                          ⟨(some 75), none, .load none none (.s 74)⟩,
                                          ⟨(some 76), none, .mv (.s 6)⟩,
                                          ⟨(some 77), none, .iaddrS 1 (.s 75) (.s 76)⟩,
                                          ⟨(some 78), none, .load none none (.s 77)⟩,
                                          ⟨(some 79), none, .bin .lss .int (.s 78) (.c (.int .i64 0))⟩,
                                          ⟨(some 80), none, .mv (.s 79)⟩,
                                          ⟨(some 81), (some (80, false)), .faddr 1 (.s 1)⟩,
                                          ⟨(some 82), (some (80, false)), .load none (some 0) (.s 81)⟩,
                                          ⟨(some 83), (some (80, false)), .mv (.s 5)⟩,
                                          ⟨(some 84), (some (80, false)), .iaddrS 1 (.s 82) (.s 83)⟩,
                                          ⟨(some 85), (some (80, false)), .load none none (.s 84)⟩,
                                          ⟨(some 86), (some (80, false)), .mv (.s 6)⟩,
                                          ⟨(some 87), (some (80, false)), .iaddrS 1 (.s 85) (.s 86)⟩,
                                          ⟨(some 88), (some (80, false)), .load none none (.s 87)⟩,
                                          ⟨(some 89), (some (80, false)), .faddr 0 (.s 1)⟩,
                                          ⟨(some 90), (some (80, false)), .load none (some 0) (.s 89)⟩,
                                          ⟨(some 91), (some (80, false)), .mv (.s 5)⟩,
                                          ⟨(some 92), (some (80, false)), .bin .add .int (.s 91) (.c (.int .i64 1))⟩,
                                          ⟨(some 93), (some (80, false)), .iaddrS 1 (.s 90) (.s 92)⟩,
                                          ⟨(some 94), (some (80, false)), .load none none (.s 93)⟩,
                                          ⟨(some 95), (some (80, false)), .bin .geq .int (.s 88) (.s 94)⟩,
                                          ⟨(some 96), none, .pick (.s 80) (.c (.bool true)) (.s 95)⟩])
                                        (.cond (.s 96)
                                          (.seq
                                            (.region false [
                                              ⟨(some 2), none, .mv (.c (.bool false))⟩])
                                            .ret)
                                          .skip)))
                                    (.region false [
                                      ⟨(some 69), none, .mv (.s 6)⟩,
                                      ⟨(some 70), none, .bin .add .int (.s 69) (.c (.int .i64 1))⟩,
                                      ⟨(some 6), none, .mv (.s 70)⟩]))))))))
                      (.region false [
                        ⟨(some 47), none, .mv (.s 5)⟩,
                        ⟨(some 48), none, .bin .add .int (.s 47) (.c (.int .i64 1))⟩,
                        ⟨(some 5), none, .mv (.s 48)⟩]))))))
            (.seq
              (.region false [
                ⟨(some 2), none, .mv (.c (.bool true))⟩])
              .ret)))))) }
/- cuboid/cuboidref03.Size -/
def f25 : MFun := { nt := 31, np := 2, no := 1, res := [.slot 4], body :=
  (.seq
    (.region false [
      ⟨(some 2), none, .box 0 (.s 0)⟩,
      ⟨(some 4), none, .mv (.c (.int .i64 0))⟩])
    (.seq
      (.block 0
        (.seq
          (.region false [
            ⟨(some 6), none, .load (some 2) (some 0) (.s 2)⟩,
            ⟨(some 7), none, .call (.c (.fn 40 [] [])) [(.s 6)] [] [] [] false⟩,
            ⟨(some 8), none, .un .not (.s 7)⟩,
            ⟨(some 9), none, .mv (.s 8)⟩,
            ⟨(some 10), (some (9, false)), .mv (.s 1)⟩,
            ⟨(some 11), (some (9, false)), .bin .lss .int (.s 10) (.c (.int .i64 0))⟩,
            ⟨(some 12), none, .pick (.s 9) (.c (.bool true)) (.s 11)⟩,
            ⟨(some 13), none, .mv (.s 12)⟩,
            ⟨(some 14), (some (13, false)), .mv (.s 1)⟩,
            ⟨(some 15), (some (13, false)), .faddr 0 (.s 2)⟩,
            ⟨(some 16), (some (13, false)), .load none (some 0) (.s 15)⟩,
            ⟨(some 17), (some (13, false)), .len (.s 16)⟩,
            ⟨(some 18), (some (13, false)), .bin .gtr .int (.s 14) (.s 17)⟩,
            ⟨(some 19), none, .pick (.s 13) (.c (.bool true)) (.s 18)⟩,
            ⟨(some 5), none, .mv (.s 19)⟩])
          (.cond (.s 5)
            (.seq
              (.region false [
                ⟨(some 4), none, .mv (.c (.int .i64 0))⟩])
              .ret)
            (.seq
              (.region false [
                ⟨(some 21), none, .mv (.s 1)⟩,
                ⟨(some 22), none, .faddr 0 (.s 2)⟩,
                ⟨(some 23), none, .load none (some 0) (.s 22)⟩,
                ⟨(some 24), none, .len (.s 23)⟩,
                ⟨(some 25), none, .bin .eql .int (.s 21) (.s 24)⟩,
                ⟨(some 20), none, .mv (.s 25)⟩])
              (.cond (.s 20)
                (.seq
                  (.region false [
                    ⟨(some 4), none, .mv (.c (.int .i64 1))⟩])
                  .ret)
                .skip)))))
      (.seq
        (.region false [
          ⟨(some 26), none, .faddr 0 (.s 2)⟩,
          ⟨(some 27), none, .load none (some 0) (.s 26)⟩,
          ⟨(some 28), none, .mv (.s 1)⟩,
          ⟨(some 29), none, .iaddrS 1 (.s 27) (.s 28)⟩,
          ⟨(some 30), none, .load none none (.s 29)⟩,
          ⟨(some 4), none, .mv (.s 30)⟩])
        .ret))) }
/- cuboid/cuboidref04.Good -/
def f38 : MFun := { nt := 38, np := 1, no := 1, res := [.slot 2], body :=
  (.seq
    (.region false [
      ⟨(some 1), none, .box 0 (.s 0)⟩,
      ⟨(some 2), none, .mv (.c (.bool false))⟩])
    (.seq
      (.seq
        (.region false [
          ⟨(some 4), none, .faddr 0 (.s 1)⟩,
          ⟨(some 5), none, .load none (some 0) (.s 4)⟩,
          ⟨(some 6), none, .len (.s 5)⟩,
          ⟨(some 7), none, .bin .lss .int (.s 6) (.c (.int .i64 1))⟩,
          ⟨(some 8), none, .mv (.s 7)⟩,
          ⟨(some 9), (some (8, false)), .faddr 0 (.s 1)⟩,
          ⟨(some 10), (some (8, false)), .load none (some 0) (.s 9)⟩,
          ⟨(some 11), (some (8, false)), .len (.s 10)⟩,
          ⟨(some 12), (some (8, false)), .bin .gtr .int (.s 11) (.c (.int .i64 4))⟩,
          ⟨(some 13), none, .pick (.s 8) (.c (.bool true)) (.s 12)⟩,
          ⟨(some 14), none, .mv (.s 13)⟩,
          ⟨(some 15), (some (14, false)), .faddr 1 (.s 1)⟩,
          ⟨(some 16), (some (14, false)), .load none (some 0) (.s 15)⟩,
          ⟨(some 17), (some (14, false)), .bin .lss .int (.s 16) (.c (.int .i64 1))⟩,
          ⟨(some 18), none, .pick (.s 14) (.c (.bool true)) (.s 17)⟩,
          ⟨(some 19), none, .mv (.s 18)⟩,
          ⟨(some 20), (some (19, false)), .faddr 1 (.s 1)⟩,
          ⟨(some 21), (some (19, false)), .load none (some 0) (.s 20)⟩,
          ⟨(some 22), (some (19, false)), .bin .gtr .int (.s 21) (.c (.int .i64 2))⟩,
          ⟨(some 23), none, .pick (.s 19) (.c (.bool true)) (.s 22)⟩])
        (.cond (.s 23)
          (.seq
            (.region false [
              ⟨(some 2), none, .mv (.c (.bool false))⟩])
            .ret)
          .skip))
      (.seq
        (.seq
          (.region false [
            ⟨(some 3), none, .mv (.c (.int .i64 0))⟩])
          (.block 0
            (.loop [1, 3] [0]
              (.seq
                (.seq
                  (.region false [
                    ⟨(some 24), none, .mv (.s 3)⟩,
                    ⟨(some 25), none, .faddr 0 (.s 1)⟩,
                    ⟨(some 26), none, .load none (some 0) (.s 25)⟩,
                    ⟨(some 27), none, .len (.s 26)⟩,
                    ⟨(some 28), none, .bin .lss .int (.s 24) (.s 27)⟩])
                  (.cond (.s 28)
                    .skip
                    (.exit 0)))
                (.seq
                  (.block 1
                    (.seq
                      (.region false [
                        ⟨(some 31), none, .faddr 0 (.s 1)⟩,
                        ⟨(some 32), none, .load none (some 0) (.s 31)⟩,
                        ⟨(some 33), none, .mv (.s 3)⟩,
                        ⟨(some 34), none, .iaddrS 2 (.s 32) (.s 33)⟩,
                        ⟨(some 35), none, .load (some 2) none (.s 34)⟩,
                        ⟨(some 36), none, .call (.c (.fn 40 [] [])) [(.s 35)] [] [] [] false⟩,
                        ⟨(some 37), none, .un .not (.s 36)⟩])
                      (.cond (.s 37)
                        (.seq
                          (.region false [
                            ⟨(some 2), none, .mv (.c (.bool false))⟩])
                          .ret)
                        .skip)))
                  (.region false [
                    ⟨(some 29), none, .mv (.s 3)⟩,
                    ⟨(some 30), none, .bin .add .int (.s 29) (.c (.int .i64 1))⟩,
                    ⟨(some 3), none, .mv (.s 30)⟩]))))))
        (.seq
          (.region false [
            ⟨(some 2), none, .mv (.c (.bool true))⟩])
          .ret)))) }
/- cuboid/cuboidref04.Right -/
def f19 : MFun := { nt := 45, np := 3, no := 3, res := [.slot 6], body :=
  (.seq
    (.region false [
      ⟨(some 3), none, .box 0 (.s 0)⟩,
      ⟨(some 4), none, .box 1 (.s 1)⟩,
      ⟨(some 5), none, .box 2 (.s 2)⟩,
      ⟨(some 6), none, .mv (.c (.bool false))⟩])
    (.seq
      (.seq
        (.region false [
          ⟨(some 8), none, .load (some 2) (some 0) (.s 3)⟩,
          ⟨(some 9), none, .call (.c (.fn 38 [] [])) [(.s 8)] [] [] [] false⟩,
          ⟨(some 10), none, .un .not (.s 9)⟩])
        (.cond (.s 10)
          (.seq
            (.region false [
              ⟨(some 6), none, .mv (.c (.bool false))⟩])
            .ret)
          .skip))
      (.seq
        (.seq
          (.region false [
            ⟨(some 7), none, .mv (.c (.int .i64 0))⟩])
          (.block 0
            (.loop [3, 4, 5, 7] [0, 1, 2]
              (.seq
                (.seq
                  (.region false [
                    ⟨(some 11), none, .mv (.s 7)⟩,
                    ⟨(some 12), none, .bin .lss .int (.s 11) (.c (.int .i64 4))⟩])
                  (.cond (.s 12)
                    .skip
                    (.exit 0)))
                (.seq
                  (.block 1
                    (.seq
                      (.region false [
                        ⟨(some 15), none, .mv (.s 7)⟩,
                        ⟨(some 16), none, .faddr 0 (.s 3)⟩,
                        ⟨(some 17), none, .load none (some 0) (.s 16)⟩,
                        ⟨(some 18), none, .len (.s 17)⟩,
                        ⟨(some 19), none, .bin .geq .int (.s 15) (.s 18)⟩])
                      (.cond (.s 19)
                        (.seq
                          (.region false [
                            ⟨(some 20), none, .mv (.s 7)⟩,
                            ⟨(some 21), none, .iaddrA 4 1 (.s 4) (.s 20)⟩,
                            ⟨(some 22), none, .load none (some 1) (.s 21)⟩,
                            ⟨(some 23), none, .bin .neq .int (.s 22) (.c (.int .u8 0))⟩,
                            ⟨(some 24), none, .mv (.s 23)⟩,
                            ⟨(some 25), (some (24, false)), .mv (.s 7)⟩,
                            ⟨(some 26), (some (24, false)), .iaddrA 4 1 (.s 5) (.s 25)⟩,
                            ⟨(some 27), (some (24, false)), .load none (some 2) (.s 26)⟩,
                            ⟨(some 28), (some (24, false)), .bin .neq .int (.s 27) (.c (.int .u8 0))⟩,
                            ⟨(some 29), none, .pick (.s 24) (.c (.bool true)) (.s 28)⟩])
                          (.cond (.s 29)
                            (.seq
                              (.region false [
                                ⟨(some 6), none, .mv (.c (.bool false))⟩])
                              .ret)
                            .skip))
                        (.seq
                          (.region true [
                            ⟨(some 30), none, .mv (.s 7)⟩,
                            ⟨(some 31), none, .iaddrA 4 1 (.s 5) (.s 30)⟩,
                            ⟨(some 32), none, .load none (some 2) (.s 31)⟩,
                            ⟨(some 33), none, .conv .i64 (.s 32)⟩,
                            ⟨(some 34), none, .faddr 0 (.s 3)⟩,
                            ⟨(some 35), none, .load none (some 0) (.s 34)⟩,
                            ⟨(some 36), none, .mv (.s 7)⟩,
                            ⟨(some 37), none, .iaddrS 2 (.s 35) (.s 36)⟩,
                            ⟨(some 38), none, .load (some 2) none (.s 37)⟩,
                            ⟨(some 39), none, .mv (.s 7)⟩,
                            ⟨(some 40), none, .iaddrA 4 1 (.s 4) (.s 39)⟩,
                            ⟨(some 41), none, .load none (some 1) (.s 40)⟩,
                            ⟨(some 42), none, .conv .i64 (.s 41)⟩,
                            ⟨(some 43), none, .call (.c (.fn 25 [] [])) [(.s 38), (.s 42)] [] [] [] false⟩,
                            ⟨(some 44), none, .bin .geq .int (.s 33) (.s 43)⟩])
                          (.cond (.s 44)
                            (.seq
                              (.region false [
                                ⟨(some 6), none, .mv (.c (.bool false))⟩])
                              .ret)
                            .skip)))))
                  (.region false [
                    ⟨(some 13), none, .mv (.s 7)⟩,
                    ⟨(some 14), none, .bin .add .int (.s 13) (.c (.int .i64 1))⟩,
                    ⟨(some 7), none, .mv (.s 14)⟩]))))))
        (.seq
          (.region false [
            ⟨(some 6), none, .mv (.c (.bool true))⟩])
          .ret)))) }
/- cuboid/cuboidref05.Good -/
def f18 : MFun := { nt := 9, np := 2, no := 2, res := [.slot 4], body :=
  (.seq
    (.region false [
      ⟨(some 2), none, .box 0 (.s 0)⟩,
      ⟨(some 3), none, .box 1 (.s 1)⟩,
      ⟨(some 4), none, .mv (.c (.bool false))⟩])
    (.seq
      (.region false [
        ⟨(some 5), none, .load (some 2) (some 0) (.s 2)⟩,
        ⟨(some 6), none, .load (some 4) (some 1) (.s 3)⟩,
        ⟨(some 7), none, .build [.int .u8 0, .int .u8 0, .int .u8 0, .int .u8 0] []⟩,
        ⟨(some 8), none, .call (.c (.fn 19 [] [])) [(.s 5), (.s 6), (.s 7)] [] [] [] false⟩,
        ⟨(some 4), none, .mv (.s 8)⟩])
      .ret)) }
/- cuboid/cuboidref05.Below -/
def f32 : MFun := { nt := 17, np := 2, no := 2, res := [.slot 4], body :=
  (.seq
    (.region false [
      ⟨(some 2), none, .box 0 (.s 0)⟩,
      ⟨(some 3), none, .box 1 (.s 1)⟩,
      ⟨(some 4), none, .mv (.c (.bool false))⟩])
    (.seq
      (.seq
        (.region false [
          ⟨(some 5), none, .mv (.c (.int .i64 0))⟩])
        (.block 0
          (.loop [2, 3, 5] [0, 1]
            (.seq
              (.seq
                (.region false [
                  ⟨(some 6), none, .mv (.s 5)⟩,
                  ⟨(some 7), none, .bin .lss .int (.s 6) (.c (.int .i64 4))⟩])
                (.cond (.s 7)
                  .skip
                  (.exit 0)))
              (.seq
                (.block 1
                  (.seq
                    (.region true [
                      ⟨(some 10), none, .mv (.s 5)⟩,
                      ⟨(some 11), none, .iaddrA 4 1 (.s 2) (.s 10)⟩,
                      ⟨(some 12), none, .load none (some 0) (.s 11)⟩,
                      ⟨(some 13), none, .mv (.s 5)⟩,
                      ⟨(some 14), none, .iaddrA 4 1 (.s 3) (.s 13)⟩,
                      ⟨(some 15), none, .load none (some 1) (.s 14)⟩,
                      ⟨(some 16), none, .bin .gtr .int (.s 12) (.s 15)⟩])
                    (.cond (.s 16)
                      (.seq
                        (.region false [
                          ⟨(some 4), none, .mv (.c (.bool false))⟩])
                        .ret)
                      .skip)))
                (.region false [
                  ⟨(some 8), none, .mv (.s 5)⟩,
                  ⟨(some 9), none, .bin .add .int (.s 8) (.c (.int .i64 1))⟩,
                  ⟨(some 5), none, .mv (.s 9)⟩]))))))
      (.seq
        (.region false [
          ⟨(some 4), none, .mv (.c (.bool true))⟩])
        .ret))) }
/- cuboid/cuboidref03.Lift -/
def f33 : MFun := { nt := 61, np := 4, no := 1, res := [.slot 8], body :=
  (.seq
    (.region false [
      ⟨(some 4), none, .box 0 (.s 0)⟩,
      ⟨(some 8), none, .mv (.c (.int .i64 0))⟩])
    (.seq
      (.seq
        (.region false [
          ⟨(some 10), none, .mv (.s 1)⟩,
          ⟨(some 11), none, .bin .lss .int (.s 10) (.c (.int .i64 0))⟩,
          ⟨(some 12), none, .mv (.s 11)⟩,
          ⟨(some 13), (some (12, false)), .mv (.s 1)⟩,
          ⟨(some 14), (some (12, false)), .mv (.s 2)⟩,
          ⟨(some 15), (some (12, false)), .bin .gtr .int (.s 13) (.s 14)⟩,
          ⟨(some 16), none, .pick (.s 12) (.c (.bool true)) (.s 15)⟩,
          ⟨(some 17), none, .mv (.s 16)⟩,
          ⟨(some 18), (some (17, false)), .load (some 2) (some 0) (.s 4)⟩,
          ⟨(some 19), (some (17, false)), .mv (.s 2)⟩,
          ⟨(some 20), (some (17, false)), .call (.c (.fn 25 [] [])) [(.s 18), (.s 19)] [] [] [] false⟩,
          ⟨(some 21), (some (17, false)), .bin .eql .int (.s 20) (.c (.int .i64 0))⟩,
          ⟨(some 22), none, .pick (.s 17) (.c (.bool true)) (.s 21)⟩,
          ⟨(some 23), none, .mv (.s 22)⟩,
          ⟨(some 24), (some (23, false)), .mv (.s 3)⟩,
          ⟨(some 25), (some (23, false)), .bin .lss .int (.s 24) (.c (.int .i64 0))⟩,
          ⟨(some 26), none, .pick (.s 23) (.c (.bool true)) (.s 25)⟩,
          ⟨(some 27), none, .mv (.s 26)⟩,
          ⟨(some 28), (some (27, false)), .mv (.s 3)⟩,
          ⟨(some 29), (some (27, false)), .load (some 2) (some 0) (.s 4)⟩,
          ⟨(some 30), (some (27, false)), .mv (.s 1)⟩,
          ⟨(some 31), (some (27, false)), .call (.c (.fn 25 [] [])) [(.s 29), (.s 30)] [] [] [] false⟩,
          ⟨(some 32), (some (27, false)), .bin .geq .int (.s 28) (.s 31)⟩,
          ⟨(some 33), none, .pick (.s 27) (.c (.bool true)) (.s 32)⟩])
        (.cond (.s 33)
          (.seq
            (.region false [
              ⟨(some 8), none, .mv (.c (.int .i64 (-1)))⟩])
            .ret)
          .skip))
      (.seq
        (.seq
          (.region false [
            ⟨(some 34), none, .mv (.s 1)⟩,
            ⟨(some 9), none, .mv (.s 34)⟩])
          (.block 0
            (.loop [2, 3, 4, 9] [0]
              (.seq
                (.seq
                  (.region false [
                    ⟨(some 35), none, .mv (.s 9)⟩,
                    ⟨(some 36), none, .mv (.s 2)⟩,
                    ⟨(some 37), none, .bin .lss .int (.s 35) (.s 36)⟩,
                    ⟨(some 38), none, .mv (.s 37)⟩,
                    ⟨(some 39), (some (38, true)), .mv (.s 9)⟩,
                    ⟨(some 40), (some (38, true)), .faddr 1 (.s 4)⟩,
                    ⟨(some 41), (some (38, true)), .load none (some 0) (.s 40)⟩,
                    ⟨(some 42), (some (38, true)), .len (.s 41)⟩,
                    ⟨(some 43), (some (38, true)), .bin .lss .int (.s 39) (.s 42)⟩,
                    ⟨(some 44), none, .pick (.s 38) (.s 43) (.c (.bool false))⟩])
                  (.cond (.s 44)
                    .skip
                    (.exit 0)))
                (.seq
                  (.block 1
                    (.region false [
                      ⟨(some 47), none, .faddr 1 (.s 4)⟩,
                      ⟨(some 48), none, .load none (some 0) (.s 47)⟩,
                      ⟨(some 49), none, .mv (.s 9)⟩,
                      ⟨(some 50), none, .iaddrS 1 (.s 48) (.s 49)⟩,
                      ⟨(some 51), none, .load none none (.s 50)⟩,
                      ⟨(some 52), none, .mv (.s 3)⟩,
                      ⟨(some 53), none, .iaddrS 1 (.s 51) (.s 52)⟩,
                      ⟨(some 54), none, .load none none (.s 53)⟩,
                      ⟨(some 3), none, .mv (.s 54)⟩]))
                  (.region false [
                    ⟨(some 45), none, .mv (.s 9)⟩,
                    ⟨(some 46), none, .bin .add .int (.s 45) (.c (.int .i64 1))⟩,
                    ⟨(some 9), none, .mv (.s 46)⟩]))))))
        (.seq
          (.seq
            (.region false [
              ⟨(some 55), none, .mv (.s 2)⟩,
              ⟨(some 56), none, .faddr 0 (.s 4)⟩,
              ⟨(some 57), none, .load none (some 0) (.s 56)⟩,
              ⟨(some 58), none, .len (.s 57)⟩,
              ⟨(some 59), none, .bin .eql .int (.s 55) (.s 58)⟩])
            (.cond (.s 59)
              (.seq
                (.region false [
                  ⟨(some 8), none, .mv (.c (.int .i64 0))⟩])
                .ret)
              .skip))
          (.seq
            (.region false [
              ⟨(some 60), none, .mv (.s 3)⟩,
              ⟨(some 8), none, .mv (.s 60)⟩])
            .ret))))) }
/- cuboid/cuboidref06.To -/
def f12 : MFun := { nt := 60, np := 4, no := 6, res := [.cell 8 4 (some 5)], body :=
  (.seq
    (.region false [
      ⟨(some 4), none, .box 0 (.s 0)⟩,
      ⟨(some 5), none, .box 1 (.s 1)⟩,
      ⟨(some 6), none, .box 2 (.s 2)⟩,
      ⟨(some 7), none, .box 3 (.s 3)⟩,
      ⟨(some 8), none, .alloc 4 [.int .u8 0, .int .u8 0, .int .u8 0, .int .u8 0, .bool false]⟩])
    (.seq
      (.seq
        (.region false [
          ⟨(some 11), none, .load (some 2) (some 0) (.s 4)⟩,
          ⟨(some 12), none, .load (some 4) (some 1) (.s 5)⟩,
          ⟨(some 13), none, .load (some 4) (some 3) (.s 7)⟩,
          ⟨(some 14), none, .call (.c (.fn 19 [] [])) [(.s 11), (.s 12), (.s 13)] [] [] [] false⟩,
          ⟨(some 15), none, .un .not (.s 14)⟩,
          ⟨(some 16), none, .mv (.s 15)⟩,
          ⟨(some 17), (some (16, false)), .load (some 2) (some 0) (.s 4)⟩,
          ⟨(some 18), (some (16, false)), .load (some 4) (some 2) (.s 6)⟩,
          ⟨(some 19), (some (16, false)), .call (.c (.fn 18 [] [])) [(.s 17), (.s 18)] [] [] [] false⟩,
          ⟨(some 20), (some (16, false)), .un .not (.s 19)⟩,
          ⟨(some 21), none, .pick (.s 16) (.c (.bool true)) (.s 20)⟩,
          ⟨(some 22), none, .mv (.s 21)⟩,
          ⟨(some 23), (some (22, false)), .load (some 4) (some 1) (.s 5)⟩,
          ⟨(some 24), (some (22, false)), .load (some 4) (some 2) (.s 6)⟩,
          ⟨(some 25), (some (22, false)), .call (.c (.fn 32 [] [])) [(.s 23), (.s 24)] [] [] [] false⟩,
          ⟨(some 26), (some (22, false)), .un .not (.s 25)⟩,
          ⟨(some 27), none, .pick (.s 22) (.c (.bool true)) (.s 26)⟩])
        (.cond (.s 27)
          (.seq
            (.region false [
              ⟨(some 28), none, .build [.int .u8 0, .int .u8 0, .int .u8 0, .int .u8 0, .bool false] []⟩,
              ⟨none, none, .store 5 4 [] (.s 8) (.s 28)⟩])
            .ret)
          .skip))
      (.seq
        (.region false [
          ⟨(some 29), none, .build [.int .u8 0, .int .u8 0, .int .u8 0, .int .u8 0, .bool false] [(4, 1, (.c (.bool true)))]⟩,
          ⟨(some 9), none, .alloc 5 [.int .u8 0, .int .u8 0, .int .u8 0, .int .u8 0, .bool false]⟩,
          ⟨none, none, .store 5 5 [] (.s 9) (.s 29)⟩])
        (.seq
          (.seq
            (.region false [
              ⟨(some 10), none, .mv (.c (.int .i64 0))⟩])
            (.block 0
              (.loop [4, 5, 6, 7, 8, 9, 10] [0, 1, 2, 3, 4, 5]
                (.seq
                  (.seq
                    (.region false [
                      ⟨(some 30), none, .mv (.s 10)⟩,
                      ⟨(some 31), none, .faddr 0 (.s 4)⟩,
                      ⟨(some 32), none, .load none (some 0) (.s 31)⟩,
                      ⟨(some 33), none, .len (.s 32)⟩,
                      ⟨(some 34), none, .bin .lss .int (.s 30) (.s 33)⟩])
                    (.cond (.s 34)
                      .skip
                      (.exit 0)))
                  (.seq
                    (.block 1
                      (.region true [
                        ⟨(some 37), none, .mv (.s 10)⟩,
                        ⟨(some 38), none, .faddr 0 (.s 4)⟩,
                        ⟨(some 39), none, .load none (some 0) (.s 38)⟩,
                        ⟨(some 40), none, .mv (.s 10)⟩,
                        ⟨(some 41), none, .iaddrS 2 (.s 39) (.s 40)⟩,
                        ⟨(some 42), none, .load (some 2) none (.s 41)⟩,
                        ⟨(some 43), none, .mv (.s 10)⟩,
                        ⟨(some 44), none, .iaddrA 4 1 (.s 5) (.s 43)⟩,
                        ⟨(some 45), none, .load none (some 1) (.s 44)⟩,
                        ⟨(some 46), none, .conv .i64 (.s 45)⟩,
                        ⟨(some 47), none, .mv (.s 10)⟩,
                        ⟨(some 48), none, .iaddrA 4 1 (.s 6) (.s 47)⟩,
                        ⟨(some 49), none, .load none (some 2) (.s 48)⟩,
                        ⟨(some 50), none, .conv .i64 (.s 49)⟩,
                        ⟨(some 51), none, .mv (.s 10)⟩,
                        ⟨(some 52), none, .iaddrA 4 1 (.s 7) (.s 51)⟩,
                        ⟨(some 53), none, .load none (some 3) (.s 52)⟩,
                        ⟨(some 54), none, .conv .i64 (.s 53)⟩,
                        ⟨(some 55), none, .call (.c (.fn 33 [] [])) [(.s 42), (.s 46), (.s 50), (.s 54)] [] [] [] false⟩,
                        ⟨(some 56), none, .conv .u8 (.s 55)⟩,
                        ⟨(some 57), none, .faddr 0 (.s 9)⟩,
                        ⟨(some 58), none, .iaddrA 4 1 (.s 57) (.s 37)⟩,
                        ⟨none, none, .store 1 5 [] (.s 58) (.s 56)⟩]))
                    (.region false [
                      ⟨(some 35), none, .mv (.s 10)⟩,
                      ⟨(some 36), none, .bin .add .int (.s 35) (.c (.int .i64 1))⟩,
                      ⟨(some 10), none, .mv (.s 36)⟩]))))))
          (.seq
            (.region false [
              ⟨(some 59), none, .load (some 5) (some 5) (.s 9)⟩,
              ⟨none, none, .store 5 4 [] (.s 8) (.s 59)⟩])
            .ret))))) }
/- cuboid/cuboidref04.Levels -/
def f24 : MFun := { nt := 27, np := 2, no := 1, res := [.slot 4], body :=
  (.seq
    (.region false [
      ⟨(some 2), none, .box 0 (.s 0)⟩,
      ⟨(some 4), none, .mv (.c (.int .i64 0))⟩])
    (.seq
      (.seq
        (.region false [
          ⟨(some 5), none, .load (some 2) (some 0) (.s 2)⟩,
          ⟨(some 6), none, .call (.c (.fn 38 [] [])) [(.s 5)] [] [] [] false⟩,
          ⟨(some 7), none, .un .not (.s 6)⟩,
          ⟨(some 8), none, .mv (.s 7)⟩,
          ⟨(some 9), (some (8, false)), .mv (.s 1)⟩,
          ⟨(some 10), (some (8, false)), .bin .lss .int (.s 9) (.c (.int .i64 0))⟩,
          ⟨(some 11), none, .pick (.s 8) (.c (.bool true)) (.s 10)⟩,
          ⟨(some 12), none, .mv (.s 11)⟩,
          ⟨(some 13), (some (12, false)), .mv (.s 1)⟩,
          ⟨(some 14), (some (12, false)), .faddr 0 (.s 2)⟩,
          ⟨(some 15), (some (12, false)), .load none (some 0) (.s 14)⟩,
          ⟨(some 16), (some (12, false)), .len (.s 15)⟩,
          ⟨(some 17), (some (12, false)), .bin .geq .int (.s 13) (.s 16)⟩,
          ⟨(some 18), none, .pick (.s 12) (.c (.bool true)) (.s 17)⟩])
        (.cond (.s 18)
          (.seq
            (.region false [
              ⟨(some 4), none, .mv (.c (.int .i64 0))⟩])
            .ret)
          .skip))
      (.seq
        (.region false [
          ⟨(some 19), none, .faddr 0 (.s 2)⟩,
          ⟨(some 20), none, .load none (some 0) (.s 19)⟩,
          ⟨(some 21), none, .mv (.s 1)⟩,
          ⟨(some 22), none, .iaddrS 2 (.s 20) (.s 21)⟩,
          ⟨(some 23), none, .faddr 0 (.s 22)⟩,
          ⟨(some 24), none, .load none none (.s 23)⟩,
          ⟨(some 25), none, .len (.s 24)⟩,
          ⟨(some 26), none, .bin .add .int (.s 25) (.c (.int .i64 1))⟩,
          ⟨(some 4), none, .mv (.s 26)⟩])
        .ret))) }
/- cuboid/cuboidref06.Within -/
def f14 : MFun := { nt := 81, np := 4, no := 4, res := [.slot 8], body :=
  (.seq
    (.region false [
      ⟨(some 4), none, .box 0 (.s 0)⟩,
      ⟨(some 5), none, .box 1 (.s 1)⟩,
      ⟨(some 6), none, .box 2 (.s 2)⟩,
      ⟨(some 7), none, .box 3 (.s 3)⟩,
      ⟨(some 8), none, .mv (.c (.bool false))⟩])
    (.seq
      (.seq
        (.region true [
          ⟨(some 11), none, .load (some 2) (some 0) (.s 4)⟩,
          ⟨(some 12), none, .load (some 4) (some 1) (.s 5)⟩,
          ⟨(some 13), none, .load (some 4) (some 2) (.s 6)⟩,
          ⟨(some 14), none, .call (.c (.fn 19 [] [])) [(.s 11), (.s 12), (.s 13)] [] [] [] false⟩,
          ⟨(some 15), none, .un .not (.s 14)⟩,
          ⟨(some 16), none, .mv (.s 15)⟩,
          ⟨(some 17), (some (16, false)), .faddr 0 (.s 7)⟩,
          ⟨(some 18), (some (16, false)), .load none (some 3) (.s 17)⟩,
          ⟨(some 19), (some (16, false)), .bin .lss .int (.s 18) (.c (.int .i64 0))⟩,
          ⟨(some 20), none, .pick (.s 16) (.c (.bool true)) (.s 19)⟩,
          ⟨(some 21), none, .mv (.s 20)⟩,
          ⟨(some 22), (some (21, false)), .faddr 0 (.s 7)⟩,
          ⟨(some 23), (some (21, false)), .load none (some 3) (.s 22)⟩,
          ⟨(some 24), (some (21, false)), .faddr 0 (.s 4)⟩,
          ⟨(some 25), (some (21, false)), .load none (some 0) (.s 24)⟩,
          ⟨(some 26), (some (21, false)), .len (.s 25)⟩,
          ⟨(some 27), (some (21, false)), .bin .geq .int (.s 23) (.s 26)⟩,
          ⟨(some 28), none, .pick (.s 21) (.c (.bool true)) (.s 27)⟩,
          ⟨(some 29), none, .mv (.s 28)⟩,
          ⟨(some 30), (some (29, false)), .faddr 1 (.s 7)⟩,
          ⟨(some 31), (some (29, false)), .load none (some 3) (.s 30)⟩,
          ⟨(some 32), (some (29, false)), .faddr 0 (.s 7)⟩,
          ⟨(some 33), (some (29, false)), .load none (some 3) (.s 32)⟩,
          ⟨(some 34), (some (29, false)), .iaddrA 4 1 (.s 5) (.s 33)⟩,
          ⟨(some 35), (some (29, false)), .load none (some 1) (.s 34)⟩,
          ⟨(some 36), (some (29, false)), .conv .i64 (.s 35)⟩,
          ⟨(some 37), (some (29, false)), .bin .lss .int (.s 31) (.s 36)⟩,
          ⟨(some 38), none, .pick (.s 29) (.c (.bool true)) (.s 37)⟩,
          ⟨(some 39), none, .mv (.s 38)⟩,
          ⟨(some 40), (some (39, false)), .faddr 1 (.s 7)⟩,
          ⟨(some 41), (some (39, false)), .load none (some 3) (.s 40)⟩,
          ⟨(some 42), (some (39, false)), .load (some 2) (some 0) (.s 4)⟩,
          ⟨(some 43), (some (39, false)), .faddr 0 (.s 7)⟩,
          ⟨(some 44), (some (39, false)), .load none (some 3) (.s 43)⟩,
          ⟨(some 45), (some (39, false)), .call (.c (.fn 24 [] [])) [(.s 42), (.s 44)] [] [] [] false⟩,
          ⟨(some 46), (some (39, false)), .bin .geq .int (.s 41) (.s 45)⟩,
          ⟨(some 47), none, .pick (.s 39) (.c (.bool true)) (.s 46)⟩])
        (.cond (.s 47)
          (.seq
            (.region false [
              ⟨(some 8), none, .mv (.c (.bool false))⟩])
            .ret)
          .skip))
      (.seq
        (.region true [
          ⟨(some 48), none, .faddr 0 (.s 4)⟩,
          ⟨(some 49), none, .load none (some 0) (.s 48)⟩,
          ⟨(some 50), none, .faddr 0 (.s 7)⟩,
          ⟨(some 51), none, .load none (some 3) (.s 50)⟩,
          ⟨(some 52), none, .iaddrS 2 (.s 49) (.s 51)⟩,
          ⟨(some 53), none, .load (some 2) none (.s 52)⟩,
          ⟨(some 54), none, .faddr 0 (.s 7)⟩,
          ⟨(some 55), none, .load none (some 3) (.s 54)⟩,
          ⟨(some 56), none, .iaddrA 4 1 (.s 5) (.s 55)⟩,
          ⟨(some 57), none, .load none (some 1) (.s 56)⟩,
          ⟨(some 58), none, .conv .i64 (.s 57)⟩,
          ⟨(some 59), none, .faddr 1 (.s 7)⟩,
          ⟨(some 60), none, .load none (some 3) (.s 59)⟩,
          ⟨(some 61), none, .faddr 0 (.s 7)⟩,
          ⟨(some 62), none, .load none (some 3) (.s 61)⟩,
          ⟨(some 63), none, .iaddrA 4 1 (.s 6) (.s 62)⟩,
          ⟨(some 64), none, .load none (some 2) (.s 63)⟩,
          ⟨(some 65), none, .conv .i64 (.s 64)⟩,
          ⟨(some 66), none, .call (.c (.fn 33 [] [])) [(.s 53), (.s 58), (.s 60), (.s 65)] [] [] [] false⟩,
          ⟨(some 9), none, .mv (.s 66)⟩])
        (.seq
          (.seq
            (.region false [
              ⟨(some 10), none, .mv (.c (.int .i64 0))⟩])
            (.block 0
              (.loop [7, 9, 10] [3]
                (.seq
                  (.seq
                    (.region false [
                      ⟨(some 67), none, .mv (.s 10)⟩,
                      ⟨(some 68), none, .faddr 2 (.s 7)⟩,
                      ⟨(some 69), none, .load none (some 3) (.s 68)⟩,
                      ⟨(some 70), none, .len (.s 69)⟩,
                      ⟨(some 71), none, .bin .lss .int (.s 67) (.s 70)⟩])
                    (.cond (.s 71)
                      .skip
                      (.exit 0)))
                  (.seq
                    (.block 1
                      (.seq
                        (.region false [
                          ⟨(some 74), none, .faddr 2 (.s 7)⟩,
                          ⟨(some 75), none, .load none (some 3) (.s 74)⟩,
                          ⟨(some 76), none, .mv (.s 10)⟩,
                          ⟨(some 77), none, .iaddrS 1 (.s 75) (.s 76)⟩,
                          ⟨(some 78), none, .load none none (.s 77)⟩,
                          ⟨(some 79), none, .mv (.s 9)⟩,
                          ⟨(some 80), none, .bin .eql .int (.s 78) (.s 79)⟩])
                        (.cond (.s 80)
                          (.seq
                            (.region false [
                              ⟨(some 8), none, .mv (.c (.bool true))⟩])
                            .ret)
                          .skip)))
                    (.region false [
                      ⟨(some 72), none, .mv (.s 10)⟩,
                      ⟨(some 73), none, .bin .add .int (.s 72) (.c (.int .i64 1))⟩,
                      ⟨(some 10), none, .mv (.s 73)⟩]))))))
          (.seq
            (.region false [
              ⟨(some 8), none, .mv (.c (.bool false))⟩])
            .ret))))) }
/- cuboid/cuboidkeep.Coords -/
def f15 : MFun := { nt := 26, np := 2, no := 0, res := [.slot 4], body :=
  (.seq
    (.region false [
      ⟨(some 4), none, .mv (.c (.bool false))⟩])
    (.seq
      (.seq
        (.region false [
          ⟨(some 6), none, .mv (.s 0)⟩,
          ⟨(some 7), none, .len (.s 6)⟩,
          ⟨(some 8), none, .mv (.s 1)⟩,
          ⟨(some 9), none, .len (.s 8)⟩,
          ⟨(some 10), none, .bin .neq .int (.s 7) (.s 9)⟩])
        (.cond (.s 10)
          (.seq
            (.region false [
              ⟨(some 4), none, .mv (.c (.bool false))⟩])
            .ret)
          .skip))
      (.seq
        (.seq
          (.region false [
            ⟨(some 5), none, .mv (.c (.int .i64 0))⟩])
          (.block 0
            (.loop [0, 1, 5] []
              (.seq
                (.seq
                  (.region false [
                    ⟨(some 11), none, .mv (.s 5)⟩,
                    ⟨(some 12), none, .mv (.s 0)⟩,
                    ⟨(some 13), none, .len (.s 12)⟩,
                    ⟨(some 14), none, .bin .lss .int (.s 11) (.s 13)⟩])
                  (.cond (.s 14)
                    .skip
                    (.exit 0)))
                (.seq
                  (.block 1
                    (.seq
                      (.region true [
                        ⟨(some 17), none, .mv (.s 0)⟩,
                        ⟨(some 18), none, .mv (.s 5)⟩,
                        ⟨(some 19), none, .iaddrS 4 (.s 17) (.s 18)⟩,
                        ⟨(some 20), none, .load (some 4) none (.s 19)⟩,
                        ⟨(some 21), none, .mv (.s 1)⟩,
                        ⟨(some 22), none, .mv (.s 5)⟩,
                        ⟨(some 23), none, .iaddrS 4 (.s 21) (.s 22)⟩,
                        ⟨(some 24), none, .load (some 4) none (.s 23)⟩,
                        ⟨(some 25), none, .bin .neq (.agg [some .u8, some .u8, some .u8, some .u8]) (.s 20) (.s 24)⟩])
                      (.cond (.s 25)
                        (.seq
                          (.region false [
                            ⟨(some 4), none, .mv (.c (.bool false))⟩])
                          .ret)
                        .skip)))
                  (.region false [
                    ⟨(some 15), none, .mv (.s 5)⟩,
                    ⟨(some 16), none, .bin .add .int (.s 15) (.c (.int .i64 1))⟩,
                    ⟨(some 5), none, .mv (.s 16)⟩]))))))
        (.seq
          (.region false [
            ⟨(some 4), none, .mv (.c (.bool true))⟩])
          .ret)))) }
/- cuboid/cuboidref03.Under -/
def f37 : MFun := { nt := 39, np := 4, no := 2, res := [.slot 8], body :=
  (.seq
    (.region false [
      ⟨(some 4), none, .box 0 (.s 0)⟩,
      ⟨(some 8), none, .mv (.c .nilsl)⟩])
    (.seq
      (.region false [
        ⟨(some 9), none, .vnil 1 1⟩])
      (.seq
        (.seq
          (.region false [
            ⟨(some 11), none, .mv (.s 2)⟩,
            ⟨(some 12), none, .bin .lss .int (.s 11) (.c (.int .i64 0))⟩,
            ⟨(some 13), none, .mv (.s 12)⟩,
            ⟨(some 14), (some (13, false)), .mv (.s 2)⟩,
            ⟨(some 15), (some (13, false)), .load (some 2) (some 0) (.s 4)⟩,
            ⟨(some 16), (some (13, false)), .mv (.s 1)⟩,
            ⟨(some 17), (some (13, false)), .call (.c (.fn 25 [] [])) [(.s 15), (.s 16)] [] [] [] false⟩,
            ⟨(some 18), (some (13, false)), .bin .geq .int (.s 14) (.s 17)⟩,
            ⟨(some 19), none, .pick (.s 13) (.c (.bool true)) (.s 18)⟩])
          (.cond (.s 19)
            (.seq
              (.region false [
                ⟨(some 8), none, .mv (.c .nilsl)⟩])
              .ret)
            .skip))
        (.seq
          (.seq
            (.region false [
              ⟨(some 10), none, .mv (.c (.int .i64 0))⟩])
            (.block 0
              (.loop [1, 2, 3, 4, 9, 10] [0, 1]
                (.seq
                  (.seq
                    (.region false [
                      ⟨(some 20), none, .mv (.s 10)⟩,
                      ⟨(some 21), none, .load (some 2) (some 0) (.s 4)⟩,
                      ⟨(some 22), none, .mv (.s 3)⟩,
                      ⟨(some 23), none, .call (.c (.fn 25 [] [])) [(.s 21), (.s 22)] [] [] [] false⟩,
                      ⟨(some 24), none, .bin .lss .int (.s 20) (.s 23)⟩])
                    (.cond (.s 24)
                      .skip
                      (.exit 0)))
                  (.seq
                    (.block 1
                      (.seq
                        (.region false [
                          ⟨(some 27), none, .load (some 2) (some 0) (.s 4)⟩,
                          ⟨(some 28), none, .mv (.s 3)⟩,
                          ⟨(some 29), none, .mv (.s 1)⟩,
                          ⟨(some 30), none, .mv (.s 10)⟩,
                          ⟨(some 31), none, .call (.c (.fn 33 [] [])) [(.s 27), (.s 28), (.s 29), (.s 30)] [] [] [] false⟩,
                          ⟨(some 32), none, .mv (.s 2)⟩,
                          ⟨(some 33), none, .bin .eql .int (.s 31) (.s 32)⟩])
                        (.cond (.s 33)
                          (.region false [
                            ⟨(some 34), none, .mv (.s 9)⟩,
                            ⟨(some 35), none, .mv (.s 10)⟩,
                            ⟨(some 36), none, .lit none [] 1 1 [.int .i64 0] [(0, 1, (.s 35))]⟩,
                            ⟨(some 37), none, .append 8 1 1 none (.s 34) (.s 36)⟩,
                            ⟨(some 9), none, .mv (.s 37)⟩])
                          .skip)))
                    (.region false [
                      ⟨(some 25), none, .mv (.s 10)⟩,
                      ⟨(some 26), none, .bin .add .int (.s 25) (.c (.int .i64 1))⟩,
                      ⟨(some 10), none, .mv (.s 26)⟩]))))))
          (.seq
            (.region false [
              ⟨(some 38), none, .mv (.s 9)⟩,
              ⟨(some 8), none, .mv (.s 38)⟩])
            .ret))))) }
/- cuboid/cuboidref06.Fiber -/
def f17 : MFun := { nt := 98, np := 4, no := 6, res := [.slot 8], body :=
  (.seq
    (.region false [
      ⟨(some 4), none, .box 0 (.s 0)⟩,
      ⟨(some 5), none, .box 1 (.s 1)⟩,
      ⟨(some 6), none, .box 2 (.s 2)⟩,
      ⟨(some 7), none, .box 3 (.s 3)⟩,
      ⟨(some 8), none, .mv (.c .nilsl)⟩])
    (.seq
      (.seq
        (.region false [
          ⟨(some 16), none, .load (some 2) (some 0) (.s 4)⟩,
          ⟨(some 17), none, .load (some 4) (some 1) (.s 5)⟩,
          ⟨(some 18), none, .load (some 4) (some 2) (.s 6)⟩,
          ⟨(some 19), none, .call (.c (.fn 19 [] [])) [(.s 16), (.s 17), (.s 18)] [] [] [] false⟩,
          ⟨(some 20), none, .un .not (.s 19)⟩,
          ⟨(some 21), none, .mv (.s 20)⟩,
          ⟨(some 22), (some (21, false)), .load (some 2) (some 0) (.s 4)⟩,
          ⟨(some 23), (some (21, false)), .load (some 4) (some 3) (.s 7)⟩,
          ⟨(some 24), (some (21, false)), .call (.c (.fn 18 [] [])) [(.s 22), (.s 23)] [] [] [] false⟩,
          ⟨(some 25), (some (21, false)), .un .not (.s 24)⟩,
          ⟨(some 26), none, .pick (.s 21) (.c (.bool true)) (.s 25)⟩,
          ⟨(some 27), none, .mv (.s 26)⟩,
          ⟨(some 28), (some (27, false)), .load (some 4) (some 3) (.s 7)⟩,
          ⟨(some 29), (some (27, false)), .load (some 4) (some 1) (.s 5)⟩,
          ⟨(some 30), (some (27, false)), .call (.c (.fn 32 [] [])) [(.s 28), (.s 29)] [] [] [] false⟩,
          ⟨(some 31), (some (27, false)), .un .not (.s 30)⟩,
          ⟨(some 32), none, .pick (.s 27) (.c (.bool true)) (.s 31)⟩])
        (.cond (.s 32)
          (.seq
            (.region false [
              ⟨(some 8), none, .mv (.c .nilsl)⟩])
            .ret)
          .skip))
      (.seq
        (.region false [
          ⟨(some 33), none, .build [.int .u8 0, .int .u8 0, .int .u8 0, .int .u8 0] []⟩,
          ⟨(some 34), none, .lit none [] 1 4 [.int .u8 0, .int .u8 0, .int .u8 0, .int .u8 0] [(0, 4, (.s 33))]⟩,
          ⟨(some 9), none, .frz [] (.s 34)⟩])
        (.seq
          (.seq
            (.region false [
              ⟨(some 10), none, .mv (.c (.int .i64 0))⟩])
            (.block 0
              (.loop [4, 5, 6, 7, 9, 10] [0, 1, 2, 3]
                (.seq
                  (.seq
                    (.region false [
                      ⟨(some 35), none, .mv (.s 10)⟩,
                      ⟨(some 36), none, .faddr 0 (.s 4)⟩,
                      ⟨(some 37), none, .load none (some 0) (.s 36)⟩,
                      ⟨(some 38), none, .len (.s 37)⟩,
                      ⟨(some 39), none, .bin .lss .int (.s 35) (.s 38)⟩])
                    (.cond (.s 39)
                      .skip
                      (.exit 0)))
                  (.seq
                    (.block 1
                      (.seq
                        (.region true [
                          ⟨(some 42), none, .faddr 0 (.s 4)⟩,
                          ⟨(some 43), none, .load none (some 0) (.s 42)⟩,
                          ⟨(some 44), none, .mv (.s 10)⟩,
                          ⟨(some 45), none, .iaddrS 2 (.s 43) (.s 44)⟩,
                          ⟨(some 46), none, .load (some 2) none (.s 45)⟩,
                          ⟨(some 47), none, .mv (.s 10)⟩,
                          ⟨(some 48), none, .iaddrA 4 1 (.s 5) (.s 47)⟩,
                          ⟨(some 49), none, .load none (some 1) (.s 48)⟩,
                          ⟨(some 50), none, .conv .i64 (.s 49)⟩,
                          ⟨(some 51), none, .mv (.s 10)⟩,
                          ⟨(some 52), none, .iaddrA 4 1 (.s 6) (.s 51)⟩,
                          ⟨(some 53), none, .load none (some 2) (.s 52)⟩,
                          ⟨(some 54), none, .conv .i64 (.s 53)⟩,
                          ⟨(some 55), none, .mv (.s 10)⟩,
                          ⟨(some 56), none, .iaddrA 4 1 (.s 7) (.s 55)⟩,
                          ⟨(some 57), none, .load none (some 3) (.s 56)⟩,
                          ⟨(some 58), none, .conv .i64 (.s 57)⟩,
                          ⟨(some 59), none, .call (.c (.fn 37 [] [])) [(.s 46), (.s 50), (.s 54), (.s 58)] [] [] [] true⟩,
                          ⟨(some 11), none, .mv (.s 59)⟩])
                        (.seq
                          (.region false [
                            ⟨(some 12), none, .vnil 4 4⟩])
                          (.seq
                            (.seq
                              (.region false [
                                ⟨(some 60), none, .mv (.s 9)⟩,
                                ⟨(some 61), none, .len (.s 60)⟩,
                                ⟨(some 62), none, .mv (.s 11)⟩,
                                ⟨(some 63), none, .len (.s 62)⟩,
                                ⟨(some 64), none, .bin .mul .int (.s 61) (.s 63)⟩,
                                ⟨(some 65), none, .bin .gtr .int (.s 64) (.c (.int .i64 200000))⟩])
                              (.cond (.s 65)
                                (.seq
                                  (.region false [
                                    ⟨(some 8), none, .mv (.c .nilsl)⟩])
                                  .ret)
                                .skip))
                            (.seq
                              (.seq
                                (.region false [
                                  ⟨(some 13), none, .mv (.c (.int .i64 0))⟩])
                                (.block 2
                                  (.loop [4, 5, 6, 7, 9, 10, 11, 12, 13] [0, 1, 2, 3, 4]
                                    (.seq
                                      (.seq
                                        (.region false [
                                          ⟨(some 66), none, .mv (.s 13)⟩,
                                          ⟨(some 67), none, .mv (.s 9)⟩,
                                          ⟨(some 68), none, .len (.s 67)⟩,
                                          ⟨(some 69), none, .bin .lss .int (.s 66) (.s 68)⟩])
                                        (.cond (.s 69)
                                          .skip
                                          (.exit 2)))
                                      (.seq
                                        (.block 3
                                          (.seq
                                            (.region false [
                                              ⟨(some 14), none, .mv (.c (.int .i64 0))⟩])
                                            (.block 4
                                              (.loop [4, 5, 6, 7, 9, 10, 11, 12, 13, 14] [0, 1, 2, 3, 4]
                                                (.seq
                                                  (.seq
                                                    (.region false [
                                                      ⟨(some 72), none, .mv (.s 14)⟩,
                                                      ⟨(some 73), none, .mv (.s 11)⟩,
                                                      ⟨(some 74), none, .len (.s 73)⟩,
                                                      ⟨(some 75), none, .bin .lss .int (.s 72) (.s 74)⟩])
                                                    (.cond (.s 75)
                                                      .skip
                                                      (.exit 4)))
                                                  (.seq
                                                    (.block 5
                                                      (.seq
                                                        (.region false [
                                                          ⟨(some 78), none, .mv (.s 9)⟩,
                                                          ⟨(some 79), none, .mv (.s 13)⟩,
                                                          ⟨(some 80), none, .iaddrS 4 (.s 78) (.s 79)⟩,
                                                          ⟨(some 81), none, .load (some 4) none (.s 80)⟩,
                                                          ⟨(some 15), none, .alloc 5 [.int .u8 0, .int .u8 0, .int .u8 0, .int .u8 0]⟩,
                                                          ⟨none, none, .store 4 5 [] (.s 15) (.s 81)⟩])
                                                        (.seq
                                                          (.region false [
                                                            ⟨(some 82), none, .mv (.s 10)⟩,
                                                            ⟨(some 83), none, .mv (.s 11)⟩,
                                                            ⟨(some 84), none, .mv (.s 14)⟩,
                                                            ⟨(some 85), none, .iaddrS 1 (.s 83) (.s 84)⟩,
                                                            ⟨(some 86), none, .load none none (.s 85)⟩,
                                                            ⟨(some 87), none, .conv .u8 (.s 86)⟩,
                                                            ⟨(some 88), none, .iaddrA 4 1 (.s 15) (.s 82)⟩,
                                                            ⟨none, none, .store 1 5 [] (.s 88) (.s 87)⟩])
                                                          (.region false [
                                                            ⟨(some 89), none, .mv (.s 12)⟩,
                                                            ⟨(some 90), none, .load (some 4) (some 5) (.s 15)⟩,
                                                            ⟨(some 91), none, .lit none [] 1 4 [.int .u8 0, .int .u8 0, .int .u8 0, .int .u8 0] [(0, 4, (.s 90))]⟩,
                                                            ⟨(some 92), none, .append 4 4 4 none (.s 89) (.s 91)⟩,
                                                            ⟨(some 12), none, .mv (.s 92)⟩]))))
                                                    (.region false [
                                                      ⟨(some 76), none, .mv (.s 14)⟩,
                                                      ⟨(some 77), none, .bin .add .int (.s 76) (.c (.int .i64 1))⟩,
                                                      ⟨(some 14), none, .mv (.s 77)⟩])))))))
                                        (.region false [
                                          ⟨(some 70), none, .mv (.s 13)⟩,
                                          ⟨(some 71), none, .bin .add .int (.s 70) (.c (.int .i64 1))⟩,
                                          ⟨(some 13), none, .mv (.s 71)⟩]))))))
                              (.region false [
                                ⟨(some 93), none, .mv (.s 12)⟩,
                                ⟨(some 9), none, .frz [4] (.s 93)⟩]))))))
                    (.region false [
                      ⟨(some 40), none, .mv (.s 10)⟩,
                      ⟨(some 41), none, .bin .add .int (.s 40) (.c (.int .i64 1))⟩,
                      ⟨(some 10), none, .mv (.s 41)⟩]))))))
          (.seq
            (.seq
              (.region false [
                ⟨(some 94), none, .mv (.s 9)⟩,
                ⟨(some 95), none, .len (.s 94)⟩,
                ⟨(some 96), none, .bin .gtr .int (.s 95) (.c (.int .i64 5000))⟩])
              (.cond (.s 96)
                (.seq
                  (.region false [
                    ⟨(some 8), none, .mv (.c .nilsl)⟩])
                  .ret)
                .skip))
            (.seq
              (.region false [
                ⟨(some 97), none, .mv (.s 9)⟩,
                ⟨(some 8), none, .mv (.s 97)⟩])
              .ret)))))) }
/- cuboid/cuboidlaw06.LiftTells -/
def f3 : MFun := { nt := 112, np := 1, no := 5, res := [.slot 2], body :=
  (.seq
    (.region false [
      ⟨(some 1), none, .box 0 (.s 0)⟩,
      ⟨(some 2), none, .mv (.c (.bool false))⟩])
    (.seq
      (.seq
        (.region false [
          ⟨(some 9), none, .faddr 0 (.s 1)⟩,
          ⟨(some 10), none, .load (some 2) (some 0) (.s 9)⟩,
          ⟨(some 11), none, .call (.c (.fn 8 [] [])) [(.s 10)] [] [] [] false⟩,
          ⟨(some 12), none, .un .not (.s 11)⟩,
          ⟨(some 13), none, .mv (.s 12)⟩,
          ⟨(some 14), (some (13, false)), .faddr 14 (.s 1)⟩,
          ⟨(some 15), (some (13, false)), .faddr 2 (.s 14)⟩,
          ⟨(some 16), (some (13, false)), .load none (some 0) (.s 15)⟩,
          ⟨(some 17), (some (13, false)), .len (.s 16)⟩,
          ⟨(some 18), (some (13, false)), .bin .gtr .int (.s 17) (.c (.int .i64 100))⟩,
          ⟨(some 19), none, .pick (.s 13) (.c (.bool true)) (.s 18)⟩])
        (.cond (.s 19)
          (.seq
            (.region false [
              ⟨(some 20), none, .call (.c (.fn 9 [] [])) [] [] [] [] false⟩,
              ⟨(some 2), none, .mv (.s 20)⟩])
            .ret)
          .skip))
      (.seq
        (.region false [
          ⟨(some 21), none, .load (some 17) (some 0) (.s 1)⟩,
          ⟨(some 3), none, .alloc 1 [.nilsl, .int .i64 0, .int .u8 0, .int .u8 0, .int .u8 0, .int .u8 0, .int .u8 0, .int .u8 0, .int .u8 0, .int .u8 0, .int .u8 0, .int .u8 0, .int .u8 0, .int .u8 0, .int .i64 0, .int .i64 0, .nilsl]⟩,
          ⟨none, none, .store 17 1 [] (.s 3) (.s 21)⟩])
        (.seq
          (.region false [
            ⟨(some 22), none, .faddr 2 (.s 1)⟩,
            ⟨(some 23), none, .load (some 4) (some 0) (.s 22)⟩,
            ⟨(some 24), none, .faddr 6 (.s 1)⟩,
            ⟨(some 25), none, .load (some 4) (some 0) (.s 24)⟩,
            ⟨(some 26), none, .call (.c (.fn 10 [] [])) [(.s 23), (.s 25)] [] [] [] false⟩,
            ⟨(some 27), none, .faddr 2 (.s 3)⟩,
            ⟨none, none, .store 4 1 [] (.s 27) (.s 26)⟩])
          (.seq
            (.seq
              (.region false [
                ⟨(some 28), none, .load (some 17) (some 0) (.s 1)⟩,
                ⟨(some 29), none, .load (some 17) (some 1) (.s 3)⟩,
                ⟨(some 30), none, .lit none [] 2 17 [.nilsl, .int .i64 0, .int .u8 0, .int .u8 0, .int .u8 0, .int .u8 0, .int .u8 0, .int .u8 0, .int .u8 0, .int .u8 0, .int .u8 0, .int .u8 0, .int .u8 0, .int .u8 0, .int .i64 0, .int .i64 0, .nilsl] [(0, 17, (.s 28)), (17, 17, (.s 29))]⟩,
                ⟨(some 31), none, .len (.s 30)⟩,
                ⟨(some 32), none, .mv (.c (.int .i64 0))⟩])
              (.block 0
                (.loop [30, 31, 32] []
                  (.seq
                    (.region false [
                      ⟨(some 33), none, .bin .lss .int (.s 32) (.s 31)⟩])
                    (.seq
                      (.cond (.s 33)
                        .skip
                        (.exit 0))
                      (.seq
                        (.block 1
                          (.seq
                            (.region false [
                              ⟨(some 34), none, .iaddrS 17 (.s 30) (.s 32)⟩,
                              ⟨(some 35), none, .load (some 17) none (.s 34)⟩,
                              ⟨(some 5), none, .alloc 2 [.nilsl, .int .i64 0, .int .u8 0, .int .u8 0, .int .u8 0, .int .u8 0, .int .u8 0, .int .u8 0, .int .u8 0, .int .u8 0, .int .u8 0, .int .u8 0, .int .u8 0, .int .u8 0, .int .i64 0, .int .i64 0, .nilsl]⟩,
                              ⟨none, none, .store 17 2 [] (.s 5) (.s 35)⟩])
                            (.seq
                              (.region false [
                                ⟨(some 37), none, .faddr 0 (.s 5)⟩,
                                ⟨(some 38), none, .load (some 2) (some 2) (.s 37)⟩,
                                ⟨(some 39), none, .faddr 2 (.s 5)⟩,
                                ⟨(some 40), none, .load (some 4) (some 2) (.s 39)⟩,
                                ⟨(some 41), none, .faddr 6 (.s 5)⟩,
                                ⟨(some 42), none, .load (some 4) (some 2) (.s 41)⟩,
                                ⟨(some 43), none, .faddr 10 (.s 5)⟩,
                                ⟨(some 44), none, .load (some 4) (some 2) (.s 43)⟩,
                                ⟨(some 45), none, .call (.c (.fn 11 [] [])) [(.s 38), (.s 40), (.s 42), (.s 44)] [] [] [] false⟩,
                                ⟨(some 36), none, .mv (.s 45)⟩,
                                ⟨(some 46), none, .extract (.s 36) 0⟩,
                                ⟨(some 47), none, .extract (.s 36) 1⟩,
                                ⟨(some 6), none, .alloc 3 [.int .u8 0, .int .u8 0, .int .u8 0, .int .u8 0]⟩,
                                ⟨none, none, .store 4 3 [] (.s 6) (.s 46)⟩,
                                ⟨(some 7), none, .mv (.s 47)⟩])
                              (.seq
                                (.region false [
                                  ⟨(some 48), none, .faddr 0 (.s 5)⟩,
                                  ⟨(some 49), none, .load (some 2) (some 2) (.s 48)⟩,
                                  ⟨(some 50), none, .faddr 2 (.s 5)⟩,
                                  ⟨(some 51), none, .load (some 4) (some 2) (.s 50)⟩,
                                  ⟨(some 52), none, .faddr 6 (.s 5)⟩,
                                  ⟨(some 53), none, .load (some 4) (some 2) (.s 52)⟩,
                                  ⟨(some 54), none, .faddr 10 (.s 5)⟩,
                                  ⟨(some 55), none, .load (some 4) (some 2) (.s 54)⟩,
                                  ⟨(some 56), none, .call (.c (.fn 12 [] [])) [(.s 49), (.s 51), (.s 53), (.s 55)] [] [] [] false⟩,
                                  ⟨(some 8), none, .alloc 4 [.int .u8 0, .int .u8 0, .int .u8 0, .int .u8 0, .bool false]⟩,
                                  ⟨none, none, .store 5 4 [] (.s 8) (.s 56)⟩])
                                (.seq
                                  (.region true [
                                    ⟨(some 57), none, .mv (.s 7)⟩,
                                    ⟨(some 58), none, .faddr 4 (.s 8)⟩,
                                    ⟨(some 59), none, .load none (some 4) (.s 58)⟩,
                                    ⟨(some 60), none, .bin .neq .bool (.s 57) (.s 59)⟩,
                                    ⟨(some 61), none, .mv (.s 60)⟩,
                                    ⟨(some 62), (some (61, false)), .load (some 4) (some 3) (.s 6)⟩,
                                    ⟨(some 63), (some (61, false)), .faddr 0 (.s 8)⟩,
                                    ⟨(some 64), (some (61, false)), .load (some 4) (some 4) (.s 63)⟩,
                                    ⟨(some 65), (some (61, false)), .bin .neq (.agg [some .u8, some .u8, some .u8, some .u8]) (.s 62) (.s 64)⟩,
                                    ⟨(some 66), none, .pick (.s 61) (.c (.bool true)) (.s 65)⟩,
                                    ⟨(some 67), none, .mv (.s 66)⟩,
                                    ⟨(some 68), (some (67, false)), .faddr 0 (.s 5)⟩,
                                    ⟨(some 69), (some (67, false)), .load (some 2) (some 2) (.s 68)⟩,
                                    ⟨(some 70), (some (67, false)), .faddr 2 (.s 5)⟩,
                                    ⟨(some 71), (some (67, false)), .load (some 4) (some 2) (.s 70)⟩,
                                    ⟨(some 72), (some (67, false)), .faddr 10 (.s 5)⟩,
                                    ⟨(some 73), (some (67, false)), .load (some 4) (some 2) (.s 72)⟩,
                                    ⟨(some 74), (some (67, false)), .faddr 14 (.s 5)⟩,
                                    ⟨(some 75), (some (67, false)), .load (some 3) (some 2) (.s 74)⟩,
                                    ⟨(some 76), (some (67, false)), .call (.c (.fn 13 [] [])) [(.s 69), (.s 71), (.s 73), (.s 75)] [] [] [] false⟩,
                                    ⟨(some 77), (some (67, false)), .faddr 0 (.s 5)⟩,
                                    ⟨(some 78), (some (67, false)), .load (some 2) (some 2) (.s 77)⟩,
                                    ⟨(some 79), (some (67, false)), .faddr 2 (.s 5)⟩,
                                    ⟨(some 80), (some (67, false)), .load (some 4) (some 2) (.s 79)⟩,
                                    ⟨(some 81), (some (67, false)), .faddr 10 (.s 5)⟩,
                                    ⟨(some 82), (some (67, false)), .load (some 4) (some 2) (.s 81)⟩,
                                    ⟨(some 83), (some (67, false)), .faddr 14 (.s 5)⟩,
                                    ⟨(some 84), (some (67, false)), .load (some 3) (some 2) (.s 83)⟩,
                                    ⟨(some 85), (some (67, false)), .call (.c (.fn 14 [] [])) [(.s 78), (.s 80), (.s 82), (.s 84)] [] [] [] false⟩,
                                    ⟨(some 86), (some (67, false)), .bin .neq .bool (.s 76) (.s 85)⟩,
                                    ⟨(some 87), none, .pick (.s 67) (.c (.bool true)) (.s 86)⟩,
                                    ⟨(some 88), none, .mv (.s 87)⟩,
                                    ⟨(some 89), (some (88, false)), .faddr 0 (.s 5)⟩,
                                    ⟨(some 90), (some (88, false)), .load (some 2) (some 2) (.s 89)⟩,
                                    ⟨(some 91), (some (88, false)), .faddr 6 (.s 5)⟩,
                                    ⟨(some 92), (some (88, false)), .load (some 4) (some 2) (.s 91)⟩,
                                    ⟨(some 93), (some (88, false)), .faddr 10 (.s 5)⟩,
                                    ⟨(some 94), (some (88, false)), .load (some 4) (some 2) (.s 93)⟩,
                                    ⟨(some 95), (some (88, false)), .faddr 2 (.s 5)⟩,
                                    ⟨(some 96), (some (88, false)), .load (some 4) (some 2) (.s 95)⟩,
                                    ⟨(some 97), (some (88, false)), .call (.c (.fn 16 [] [])) [(.s 90), (.s 92), (.s 94), (.s 96)] [] [] [] true⟩,
                                    ⟨(some 98), (some (88, false)), .faddr 0 (.s 5)⟩,
                                    ⟨(some 99), (some (88, false)), .load (some 2) (some 2) (.s 98)⟩,
                                    ⟨(some 100), (some (88, false)), .faddr 6 (.s 5)⟩,
                                    ⟨(some 101), (some (88, false)), .load (some 4) (some 2) (.s 100)⟩,
                                    ⟨(some 102), (some (88, false)), .faddr 10 (.s 5)⟩,
                                    ⟨(some 103), (some (88, false)), .load (some 4) (some 2) (.s 102)⟩,
                                    ⟨(some 104), (some (88, false)), .faddr 2 (.s 5)⟩,
                                    ⟨(some 105), (some (88, false)), .load (some 4) (some 2) (.s 104)⟩,
                                    ⟨(some 106), (some (88, false)), .call (.c (.fn 17 [] [])) [(.s 99), (.s 101), (.s 103), (.s 105)] [] [] [] true⟩,
                                    ⟨(some 107), (some (88, false)), .call (.c (.fn 15 [] [])) [(.s 97), (.s 106)] [] [] [] false⟩,
                                    ⟨(some 108), (some (88, false)), .un .not (.s 107)⟩,
                                    ⟨(some 109), none, .pick (.s 88) (.c (.bool true)) (.s 108)⟩])
                                  (.cond (.s 109)
                                    (.seq
                                      (.region false [
                                        ⟨(some 2), none, .mv (.c (.bool false))⟩])
                                      .ret)
                                    .skip))))))
                        (.region false [
                          ⟨(some 110), none, .bin .add .int (.s 32) (.c (.int .i64 1))⟩,
                          ⟨(some 32), none, .mv (.s 110)⟩])))))))
            (.seq
              (.region false [
                ⟨(some 111), none, .call (.c (.fn 9 [] [])) [] [] [] [] false⟩,
                ⟨(some 2), none, .mv (.s 111)⟩])
              .ret)))))) }
/- cuboid/cuboidref05.Whole -/
def f20 : MFun := { nt := 27, np := 1, no := 3, res := [.cell 2 1 (some 4)], body :=
  (.seq
    (.region false [
      ⟨(some 1), none, .box 0 (.s 0)⟩,
      ⟨(some 2), none, .alloc 1 [.int .u8 0, .int .u8 0, .int .u8 0, .int .u8 0]⟩])
    (.seq
      (.region false [
        ⟨(some 3), none, .alloc 2 [.int .u8 0, .int .u8 0, .int .u8 0, .int .u8 0]⟩])
      (.seq
        (.seq
          (.region false [
            ⟨(some 4), none, .mv (.c (.int .i64 0))⟩])
          (.block 0
            (.loop [1, 2, 3, 4] [0, 1, 2]
              (.seq
                (.seq
                  (.region false [
                    ⟨(some 5), none, .load (some 2) (some 0) (.s 1)⟩,
                    ⟨(some 6), none, .call (.c (.fn 38 [] [])) [(.s 5)] [] [] [] false⟩,
                    ⟨(some 7), none, .mv (.s 6)⟩,
                    ⟨(some 8), (some (7, true)), .mv (.s 4)⟩,
                    ⟨(some 9), (some (7, true)), .faddr 0 (.s 1)⟩,
                    ⟨(some 10), (some (7, true)), .load none (some 0) (.s 9)⟩,
                    ⟨(some 11), (some (7, true)), .len (.s 10)⟩,
                    ⟨(some 12), (some (7, true)), .bin .lss .int (.s 8) (.s 11)⟩,
                    ⟨(some 13), none, .pick (.s 7) (.s 12) (.c (.bool false))⟩])
                  (.cond (.s 13)
                    .skip
                    (.exit 0)))
                (.seq
                  (.block 1
                    (.region false [
                      ⟨(some 16), none, .mv (.s 4)⟩,
                      ⟨(some 17), none, .faddr 0 (.s 1)⟩,
                      ⟨(some 18), none, .load none (some 0) (.s 17)⟩,
                      ⟨(some 19), none, .mv (.s 4)⟩,
                      ⟨(some 20), none, .iaddrS 2 (.s 18) (.s 19)⟩,
                      ⟨(some 21), none, .faddr 0 (.s 20)⟩,
                      ⟨(some 22), none, .load none none (.s 21)⟩,
                      ⟨(some 23), none, .len (.s 22)⟩,
                      ⟨(some 24), none, .conv .u8 (.s 23)⟩,
                      ⟨(some 25), none, .iaddrA 4 1 (.s 3) (.s 16)⟩,
                      ⟨none, none, .store 1 2 [] (.s 25) (.s 24)⟩]))
                  (.region false [
                    ⟨(some 14), none, .mv (.s 4)⟩,
                    ⟨(some 15), none, .bin .add .int (.s 14) (.c (.int .i64 1))⟩,
                    ⟨(some 4), none, .mv (.s 15)⟩]))))))
        (.seq
          (.region false [
            ⟨(some 26), none, .load (some 4) (some 2) (.s 3)⟩,
            ⟨none, none, .store 4 1 [] (.s 2) (.s 26)⟩])
          .ret)))) }
/- cuboid/cuboidlaw06.LiftTwice -/
def f4 : MFun := { nt := 133, np := 1, no := 8, res := [.slot 2], body :=
  (.seq
    (.region false [
      ⟨(some 1), none, .box 0 (.s 0)⟩,
      ⟨(some 2), none, .mv (.c (.bool false))⟩])
    (.seq
      (.region false [
        ⟨(some 15), none, .faddr 2 (.s 1)⟩,
        ⟨(some 16), none, .load (some 4) (some 0) (.s 15)⟩,
        ⟨(some 17), none, .faddr 6 (.s 1)⟩,
        ⟨(some 18), none, .load (some 4) (some 0) (.s 17)⟩,
        ⟨(some 19), none, .call (.c (.fn 10 [] [])) [(.s 16), (.s 18)] [] [] [] false⟩,
        ⟨(some 3), none, .alloc 1 [.int .u8 0, .int .u8 0, .int .u8 0, .int .u8 0]⟩,
        ⟨none, none, .store 4 1 [] (.s 3) (.s 19)⟩])
      (.seq
        (.region false [
          ⟨(some 20), none, .load (some 4) (some 1) (.s 3)⟩,
          ⟨(some 21), none, .faddr 10 (.s 1)⟩,
          ⟨(some 22), none, .load (some 4) (some 0) (.s 21)⟩,
          ⟨(some 23), none, .call (.c (.fn 10 [] [])) [(.s 20), (.s 22)] [] [] [] false⟩,
          ⟨(some 4), none, .alloc 2 [.int .u8 0, .int .u8 0, .int .u8 0, .int .u8 0]⟩,
          ⟨none, none, .store 4 2 [] (.s 4) (.s 23)⟩])
        (.seq
          (.seq
            (.region false [
              ⟨(some 24), none, .faddr 0 (.s 1)⟩,
              ⟨(some 25), none, .load (some 2) (some 0) (.s 24)⟩,
              ⟨(some 26), none, .faddr 2 (.s 1)⟩,
              ⟨(some 27), none, .load (some 4) (some 0) (.s 26)⟩,
              ⟨(some 28), none, .call (.c (.fn 18 [] [])) [(.s 25), (.s 27)] [] [] [] false⟩,
              ⟨(some 29), none, .un .not (.s 28)⟩,
              ⟨(some 30), none, .mv (.s 29)⟩,
              ⟨(some 31), (some (30, false)), .faddr 0 (.s 1)⟩,
              ⟨(some 32), (some (30, false)), .load (some 2) (some 0) (.s 31)⟩,
              ⟨(some 33), (some (30, false)), .faddr 6 (.s 1)⟩,
              ⟨(some 34), (some (30, false)), .load (some 4) (some 0) (.s 33)⟩,
              ⟨(some 35), (some (30, false)), .call (.c (.fn 18 [] [])) [(.s 32), (.s 34)] [] [] [] false⟩,
              ⟨(some 36), (some (30, false)), .un .not (.s 35)⟩,
              ⟨(some 37), none, .pick (.s 30) (.c (.bool true)) (.s 36)⟩,
              ⟨(some 38), none, .mv (.s 37)⟩,
              ⟨(some 39), (some (38, false)), .faddr 0 (.s 1)⟩,
              ⟨(some 40), (some (38, false)), .load (some 2) (some 0) (.s 39)⟩,
              ⟨(some 41), (some (38, false)), .load (some 4) (some 2) (.s 4)⟩,
              ⟨(some 42), (some (38, false)), .faddr 14 (.s 1)⟩,
              ⟨(some 43), (some (38, false)), .load (some 4) (some 0) (.s 42)⟩,
              ⟨(some 44), (some (38, false)), .call (.c (.fn 19 [] [])) [(.s 40), (.s 41), (.s 43)] [] [] [] false⟩,
              ⟨(some 45), (some (38, false)), .un .not (.s 44)⟩,
              ⟨(some 46), none, .pick (.s 38) (.c (.bool true)) (.s 45)⟩])
            (.cond (.s 46)
              (.seq
                (.region false [
                  ⟨(some 47), none, .call (.c (.fn 9 [] [])) [] [] [] [] false⟩,
                  ⟨(some 2), none, .mv (.s 47)⟩])
                .ret)
              .skip))
          (.seq
            (.region false [
              ⟨(some 49), none, .faddr 0 (.s 1)⟩,
              ⟨(some 50), none, .load (some 2) (some 0) (.s 49)⟩,
              ⟨(some 51), none, .load (some 4) (some 2) (.s 4)⟩,
              ⟨(some 52), none, .load (some 4) (some 1) (.s 3)⟩,
              ⟨(some 53), none, .faddr 14 (.s 1)⟩,
              ⟨(some 54), none, .load (some 4) (some 0) (.s 53)⟩,
              ⟨(some 55), none, .call (.c (.fn 11 [] [])) [(.s 50), (.s 51), (.s 52), (.s 54)] [] [] [] false⟩,
              ⟨(some 48), none, .mv (.s 55)⟩,
              ⟨(some 56), none, .extract (.s 48) 0⟩,
              ⟨(some 57), none, .extract (.s 48) 1⟩,
              ⟨(some 5), none, .alloc 3 [.int .u8 0, .int .u8 0, .int .u8 0, .int .u8 0]⟩,
              ⟨none, none, .store 4 3 [] (.s 5) (.s 56)⟩,
              ⟨(some 6), none, .mv (.s 57)⟩])
            (.seq
              (.region false [
                ⟨(some 59), none, .faddr 0 (.s 1)⟩,
                ⟨(some 60), none, .load (some 2) (some 0) (.s 59)⟩,
                ⟨(some 61), none, .load (some 4) (some 1) (.s 3)⟩,
                ⟨(some 62), none, .faddr 2 (.s 1)⟩,
                ⟨(some 63), none, .load (some 4) (some 0) (.s 62)⟩,
                ⟨(some 64), none, .load (some 4) (some 3) (.s 5)⟩,
                ⟨(some 65), none, .call (.c (.fn 11 [] [])) [(.s 60), (.s 61), (.s 63), (.s 64)] [] [] [] false⟩,
                ⟨(some 58), none, .mv (.s 65)⟩,
                ⟨(some 66), none, .extract (.s 58) 0⟩,
                ⟨(some 67), none, .extract (.s 58) 1⟩,
                ⟨(some 7), none, .alloc 4 [.int .u8 0, .int .u8 0, .int .u8 0, .int .u8 0]⟩,
                ⟨none, none, .store 4 4 [] (.s 7) (.s 66)⟩,
                ⟨(some 8), none, .mv (.s 67)⟩])
              (.seq
                (.region false [
                  ⟨(some 69), none, .faddr 0 (.s 1)⟩,
                  ⟨(some 70), none, .load (some 2) (some 0) (.s 69)⟩,
                  ⟨(some 71), none, .load (some 4) (some 2) (.s 4)⟩,
                  ⟨(some 72), none, .faddr 2 (.s 1)⟩,
                  ⟨(some 73), none, .load (some 4) (some 0) (.s 72)⟩,
                  ⟨(some 74), none, .faddr 14 (.s 1)⟩,
                  ⟨(some 75), none, .load (some 4) (some 0) (.s 74)⟩,
                  ⟨(some 76), none, .call (.c (.fn 11 [] [])) [(.s 70), (.s 71), (.s 73), (.s 75)] [] [] [] false⟩,
                  ⟨(some 68), none, .mv (.s 76)⟩,
                  ⟨(some 77), none, .extract (.s 68) 0⟩,
                  ⟨(some 78), none, .extract (.s 68) 1⟩,
                  ⟨(some 9), none, .alloc 5 [.int .u8 0, .int .u8 0, .int .u8 0, .int .u8 0]⟩,
                  ⟨none, none, .store 4 5 [] (.s 9) (.s 77)⟩,
                  ⟨(some 10), none, .mv (.s 78)⟩])
                (.seq
                  (.region false [
                    ⟨(some 80), none, .faddr 0 (.s 1)⟩,
                    ⟨(some 81), none, .load (some 2) (some 0) (.s 80)⟩,
                    ⟨(some 82), none, .load (some 4) (some 2) (.s 4)⟩,
                    ⟨(some 83), none, .load (some 4) (some 2) (.s 4)⟩,
                    ⟨(some 84), none, .faddr 14 (.s 1)⟩,
                    ⟨(some 85), none, .load (some 4) (some 0) (.s 84)⟩,
                    ⟨(some 86), none, .call (.c (.fn 11 [] [])) [(.s 81), (.s 82), (.s 83), (.s 85)] [] [] [] false⟩,
                    ⟨(some 79), none, .mv (.s 86)⟩,
                    ⟨(some 87), none, .extract (.s 79) 0⟩,
                    ⟨(some 88), none, .extract (.s 79) 1⟩,
                    ⟨(some 11), none, .alloc 6 [.int .u8 0, .int .u8 0, .int .u8 0, .int .u8 0]⟩,
                    ⟨none, none, .store 4 6 [] (.s 11) (.s 87)⟩,
                    ⟨(some 12), none, .mv (.s 88)⟩])
                  (.seq
                    (.region true [
                      ⟨(some 90), none, .faddr 0 (.s 1)⟩,
                      ⟨(some 91), none, .load (some 2) (some 0) (.s 90)⟩,
                      ⟨(some 92), none, .load (some 4) (some 2) (.s 4)⟩,
                      ⟨(some 93), none, .faddr 0 (.s 1)⟩,
                      ⟨(some 94), none, .load (some 2) (some 0) (.s 93)⟩,
                      ⟨(some 95), none, .call (.c (.fn 20 [] [])) [(.s 94)] [] [] [] false⟩,
                      ⟨(some 96), none, .faddr 14 (.s 1)⟩,
                      ⟨(some 97), none, .load (some 4) (some 0) (.s 96)⟩,
                      ⟨(some 98), none, .call (.c (.fn 11 [] [])) [(.s 91), (.s 92), (.s 95), (.s 97)] [] [] [] false⟩,
                      ⟨(some 89), none, .mv (.s 98)⟩,
                      ⟨(some 99), none, .extract (.s 89) 0⟩,
                      ⟨(some 100), none, .extract (.s 89) 1⟩,
                      ⟨(some 13), none, .alloc 7 [.int .u8 0, .int .u8 0, .int .u8 0, .int .u8 0]⟩,
                      ⟨none, none, .store 4 7 [] (.s 13) (.s 99)⟩,
                      ⟨(some 14), none, .mv (.s 100)⟩])
                    (.seq
                      (.region false [
                        ⟨(some 101), none, .mv (.s 6)⟩,
                        ⟨(some 102), none, .mv (.s 101)⟩,
                        ⟨(some 103), (some (102, true)), .mv (.s 8)⟩,
                        ⟨(some 104), none, .pick (.s 102) (.s 103) (.c (.bool false))⟩,
                        ⟨(some 105), none, .mv (.s 104)⟩,
                        ⟨(some 106), (some (105, true)), .mv (.s 10)⟩,
                        ⟨(some 107), none, .pick (.s 105) (.s 106) (.c (.bool false))⟩,
                        ⟨(some 108), none, .mv (.s 107)⟩,
                        ⟨(some 109), (some (108, true)), .load (some 4) (some 4) (.s 7)⟩,
                        ⟨(some 110), (some (108, true)), .load (some 4) (some 5) (.s 9)⟩,
                        ⟨(some 111), (some (108, true)), .bin .eql (.agg [some .u8, some .u8, some .u8, some .u8]) (.s 109) (.s 110)⟩,
                        ⟨(some 112), none, .pick (.s 108) (.s 111) (.c (.bool false))⟩,
                        ⟨(some 113), none, .mv (.s 112)⟩,
                        ⟨(some 114), (some (113, true)), .mv (.s 12)⟩,
                        ⟨(some 115), none, .pick (.s 113) (.s 114) (.c (.bool false))⟩,
                        ⟨(some 116), none, .mv (.s 115)⟩,
                        ⟨(some 117), (some (116, true)), .load (some 4) (some 6) (.s 11)⟩,
                        ⟨(some 118), (some (116, true)), .faddr 14 (.s 1)⟩,
                        ⟨(some 119), (some (116, true)), .load (some 4) (some 0) (.s 118)⟩,
                        ⟨(some 120), (some (116, true)), .bin .eql (.agg [some .u8, some .u8, some .u8, some .u8]) (.s 117) (.s 119)⟩,
                        ⟨(some 121), none, .pick (.s 116) (.s 120) (.c (.bool false))⟩,
                        ⟨(some 122), none, .mv (.s 121)⟩,
                        ⟨(some 123), (some (122, true)), .mv (.s 14)⟩,
                        ⟨(some 124), none, .pick (.s 122) (.s 123) (.c (.bool false))⟩,
                        ⟨(some 125), none, .mv (.s 124)⟩,
                        ⟨(some 126), (some (125, true)), .load (some 4) (some 7) (.s 13)⟩,
                        ⟨(some 127), (some (125, true)), .build [.int .u8 0, .int .u8 0, .int .u8 0, .int .u8 0] []⟩,
                        ⟨(some 128), (some (125, true)), .bin .eql (.agg [some .u8, some .u8, some .u8, some .u8]) (.s 126) (.s 127)⟩,
                        ⟨(some 129), none, .pick (.s 125) (.s 128) (.c (.bool false))⟩,
                        ⟨(some 130), none, .mv (.s 129)⟩,
                        ⟨(some 131), (some (130, true)), .call (.c (.fn 9 [] [])) [] [] [] [] false⟩,
                        ⟨(some 132), none, .pick (.s 130) (.s 131) (.c (.bool false))⟩,
                        ⟨(some 2), none, .mv (.s 132)⟩])
                      .ret)))))))))) }
/- cuboid/cuboidref05.Cost -/
def f21 : MFun := { nt := 31, np := 2, no := 2, res := [.slot 4], body :=
  (.seq
    (.region false [
      ⟨(some 2), none, .box 0 (.s 0)⟩,
      ⟨(some 3), none, .box 1 (.s 1)⟩,
      ⟨(some 4), none, .mv (.c (.int .i64 0))⟩])
    (.seq
      (.seq
        (.region false [
          ⟨(some 7), none, .load (some 2) (some 0) (.s 2)⟩,
          ⟨(some 8), none, .load (some 4) (some 1) (.s 3)⟩,
          ⟨(some 9), none, .call (.c (.fn 18 [] [])) [(.s 7), (.s 8)] [] [] [] false⟩,
          ⟨(some 10), none, .un .not (.s 9)⟩])
        (.cond (.s 10)
          (.seq
            (.region false [
              ⟨(some 4), none, .mv (.c (.int .i64 0))⟩])
            .ret)
          .skip))
      (.seq
        (.region false [
          ⟨(some 5), none, .mv (.c (.int .i64 1))⟩])
        (.seq
          (.seq
            (.region false [
              ⟨(some 6), none, .mv (.c (.int .i64 0))⟩])
            (.block 0
              (.loop [2, 3, 5, 6] [0, 1]
                (.seq
                  (.seq
                    (.region false [
                      ⟨(some 11), none, .mv (.s 6)⟩,
                      ⟨(some 12), none, .faddr 0 (.s 2)⟩,
                      ⟨(some 13), none, .load none (some 0) (.s 12)⟩,
                      ⟨(some 14), none, .len (.s 13)⟩,
                      ⟨(some 15), none, .bin .lss .int (.s 11) (.s 14)⟩])
                    (.cond (.s 15)
                      .skip
                      (.exit 0)))
                  (.seq
                    (.block 1
                      (.region true [
                        ⟨(some 18), none, .mv (.s 5)⟩,
                        ⟨(some 19), none, .faddr 0 (.s 2)⟩,
                        ⟨(some 20), none, .load none (some 0) (.s 19)⟩,
                        ⟨(some 21), none, .mv (.s 6)⟩,
                        ⟨(some 22), none, .iaddrS 2 (.s 20) (.s 21)⟩,
                        ⟨(some 23), none, .load (some 2) none (.s 22)⟩,
                        ⟨(some 24), none, .mv (.s 6)⟩,
                        ⟨(some 25), none, .iaddrA 4 1 (.s 3) (.s 24)⟩,
                        ⟨(some 26), none, .load none (some 1) (.s 25)⟩,
                        ⟨(some 27), none, .conv .i64 (.s 26)⟩,
                        ⟨(some 28), none, .call (.c (.fn 25 [] [])) [(.s 23), (.s 27)] [] [] [] false⟩,
                        ⟨(some 29), none, .bin .mul .int (.s 18) (.s 28)⟩,
                        ⟨(some 5), none, .mv (.s 29)⟩]))
                    (.region false [
                      ⟨(some 16), none, .mv (.s 6)⟩,
                      ⟨(some 17), none, .bin .add .int (.s 16) (.c (.int .i64 1))⟩,
                      ⟨(some 6), none, .mv (.s 17)⟩]))))))
          (.seq
            (.region false [
              ⟨(some 30), none, .mv (.s 5)⟩,
              ⟨(some 4), none, .mv (.s 30)⟩])
            .ret))))) }
/- cuboid/cuboidref06.Places -/
def f22 : MFun := { nt := 58, np := 3, no := 4, res := [.slot 6], body :=
  (.seq
    (.region false [
      ⟨(some 3), none, .box 0 (.s 0)⟩,
      ⟨(some 4), none, .box 1 (.s 1)⟩,
      ⟨(some 6), none, .mv (.c .nilsl)⟩])
    (.seq
      (.region false [
        ⟨(some 14), none, .load (some 2) (some 0) (.s 3)⟩,
        ⟨(some 15), none, .load (some 4) (some 1) (.s 4)⟩,
        ⟨(some 16), none, .call (.c (.fn 21 [] [])) [(.s 14), (.s 15)] [] [] [] false⟩,
        ⟨(some 7), none, .mv (.s 16)⟩])
      (.seq
        (.seq
          (.region false [
            ⟨(some 17), none, .mv (.s 7)⟩,
            ⟨(some 18), none, .mv (.s 2)⟩,
            ⟨(some 19), none, .bin .gtr .int (.s 17) (.s 18)⟩])
          (.cond (.s 19)
            (.seq
              (.region false [
                ⟨(some 6), none, .mv (.c .nilsl)⟩])
              .ret)
            .skip))
        (.seq
          (.region false [
            ⟨(some 8), none, .vnil 2 4⟩])
          (.seq
            (.seq
              (.region false [
                ⟨(some 9), none, .mv (.c (.int .i64 0))⟩])
              (.block 0
                (.loop [3, 4, 7, 8, 9] [0, 1, 2]
                  (.seq
                    (.seq
                      (.region false [
                        ⟨(some 20), none, .mv (.s 9)⟩,
                        ⟨(some 21), none, .mv (.s 7)⟩,
                        ⟨(some 22), none, .bin .lss .int (.s 20) (.s 21)⟩])
                      (.cond (.s 22)
                        .skip
                        (.exit 0)))
                    (.seq
                      (.block 1
                        (.seq
                          (.region false [
                            ⟨(some 10), none, .alloc 3 [.int .u8 0, .int .u8 0, .int .u8 0, .int .u8 0]⟩])
                          (.seq
                            (.region false [
                              ⟨(some 25), none, .mv (.s 9)⟩,
                              ⟨(some 11), none, .mv (.s 25)⟩])
                            (.seq
                              (.seq
                                (.region false [
                                  ⟨(some 26), none, .faddr 0 (.s 3)⟩,
                                  ⟨(some 27), none, .load none (some 0) (.s 26)⟩,
                                  ⟨(some 28), none, .len (.s 27)⟩,
                                  ⟨(some 29), none, .bin .sub .int (.s 28) (.c (.int .i64 1))⟩,
                                  ⟨(some 12), none, .mv (.s 29)⟩])
                                (.block 2
                                  (.loop [3, 4, 7, 8, 9, 10, 11, 12] [0, 1, 2, 3]
                                    (.seq
                                      (.seq
                                        (.region false [
                                          ⟨(some 30), none, .mv (.s 12)⟩,
                                          ⟨(some 31), none, .bin .geq .int (.s 30) (.c (.int .i64 0))⟩])
                                        (.cond (.s 31)
                                          .skip
                                          (.exit 2)))
                                      (.seq
                                        (.block 3
                                          (.seq
                                            (.region true [
                                              ⟨(some 34), none, .faddr 0 (.s 3)⟩,
                                              ⟨(some 35), none, .load none (some 0) (.s 34)⟩,
                                              ⟨(some 36), none, .mv (.s 12)⟩,
                                              ⟨(some 37), none, .iaddrS 2 (.s 35) (.s 36)⟩,
                                              ⟨(some 38), none, .load (some 2) none (.s 37)⟩,
                                              ⟨(some 39), none, .mv (.s 12)⟩,
                                              ⟨(some 40), none, .iaddrA 4 1 (.s 4) (.s 39)⟩,
                                              ⟨(some 41), none, .load none (some 1) (.s 40)⟩,
                                              ⟨(some 42), none, .conv .i64 (.s 41)⟩,
                                              ⟨(some 43), none, .call (.c (.fn 25 [] [])) [(.s 38), (.s 42)] [] [] [] false⟩,
                                              ⟨(some 13), none, .mv (.s 43)⟩])
                                            (.seq
                                              (.region false [
                                                ⟨(some 44), none, .mv (.s 12)⟩,
                                                ⟨(some 45), none, .mv (.s 11)⟩,
                                                ⟨(some 46), none, .mv (.s 13)⟩,
                                                ⟨(some 47), none, .bin .rem .int (.s 45) (.s 46)⟩,
                                                ⟨(some 48), none, .conv .u8 (.s 47)⟩,
                                                ⟨(some 49), none, .iaddrA 4 1 (.s 10) (.s 44)⟩,
                                                ⟨none, none, .store 1 3 [] (.s 49) (.s 48)⟩])
                                              (.region false [
                                                ⟨(some 50), none, .mv (.s 11)⟩,
                                                ⟨(some 51), none, .mv (.s 13)⟩,
                                                ⟨(some 52), none, .bin .quo .int (.s 50) (.s 51)⟩,
                                                ⟨(some 11), none, .mv (.s 52)⟩]))))
                                        (.region false [
                                          ⟨(some 32), none, .mv (.s 12)⟩,
                                          ⟨(some 33), none, .bin .sub .int (.s 32) (.c (.int .i64 1))⟩,
                                          ⟨(some 12), none, .mv (.s 33)⟩]))))))
                              (.region false [
                                ⟨(some 53), none, .mv (.s 8)⟩,
                                ⟨(some 54), none, .load (some 4) (some 3) (.s 10)⟩,
                                ⟨(some 55), none, .lit none [] 1 4 [.int .u8 0, .int .u8 0, .int .u8 0, .int .u8 0] [(0, 4, (.s 54))]⟩,
                                ⟨(some 56), none, .append 4 4 2 none (.s 53) (.s 55)⟩,
                                ⟨(some 8), none, .mv (.s 56)⟩])))))
                      (.region false [
                        ⟨(some 23), none, .mv (.s 9)⟩,
                        ⟨(some 24), none, .bin .add .int (.s 23) (.c (.int .i64 1))⟩,
                        ⟨(some 9), none, .mv (.s 24)⟩]))))))
            (.seq
              (.region false [
                ⟨(some 57), none, .mv (.s 8)⟩,
                ⟨(some 6), none, .mv (.s 57)⟩])
              .ret)))))) }
/- cuboid/cuboidref02.Key -/
def f39 : MFun := { nt := 17, np := 1, no := 1, res := [.slot 2], body :=
  (.seq
    (.region false [
      ⟨(some 1), none, .box 0 (.s 0)⟩,
      ⟨(some 2), none, .mv (.c (.int .u32 0))⟩])
    (.seq
      (.region false [
        ⟨(some 3), none, .mv (.c (.int .u32 0))⟩])
      (.seq
        (.seq
          (.region false [
            ⟨(some 4), none, .mv (.c (.int .i64 0))⟩])
          (.block 0
            (.loop [1, 3, 4] [0]
              (.seq
                (.seq
                  (.region false [
                    ⟨(some 5), none, .mv (.s 4)⟩,
                    ⟨(some 6), none, .bin .lss .int (.s 5) (.c (.int .i64 4))⟩])
                  (.cond (.s 6)
                    .skip
                    (.exit 0)))
                (.seq
                  (.block 1
                    (.region false [
                      ⟨(some 9), none, .mv (.s 3)⟩,
                      ⟨(some 10), none, .bin .mul .int (.s 9) (.c (.int .u32 256))⟩,
                      ⟨(some 11), none, .mv (.s 4)⟩,
                      ⟨(some 12), none, .iaddrA 4 1 (.s 1) (.s 11)⟩,
                      ⟨(some 13), none, .load none (some 0) (.s 12)⟩,
                      ⟨(some 14), none, .conv .u32 (.s 13)⟩,
                      ⟨(some 15), none, .bin .add .int (.s 10) (.s 14)⟩,
                      ⟨(some 3), none, .mv (.s 15)⟩]))
                  (.region false [
                    ⟨(some 7), none, .mv (.s 4)⟩,
                    ⟨(some 8), none, .bin .add .int (.s 7) (.c (.int .i64 1))⟩,
                    ⟨(some 4), none, .mv (.s 8)⟩]))))))
        (.seq
          (.region false [
            ⟨(some 16), none, .mv (.s 3)⟩,
            ⟨(some 2), none, .mv (.s 16)⟩])
          .ret)))) }
/- cuboid/cuboidref06.Rising -/
def f23 : MFun := { nt := 22, np := 1, no := 0, res := [.slot 2], body :=
  (.seq
    (.region false [
      ⟨(some 2), none, .mv (.c (.bool false))⟩])
    (.seq
      (.seq
        (.region false [
          ⟨(some 3), none, .mv (.c (.int .i64 1))⟩])
        (.block 0
          (.loop [0, 3] []
            (.seq
              (.seq
                (.region false [
                  ⟨(some 4), none, .mv (.s 3)⟩,
                  ⟨(some 5), none, .mv (.s 0)⟩,
                  ⟨(some 6), none, .len (.s 5)⟩,
                  ⟨(some 7), none, .bin .lss .int (.s 4) (.s 6)⟩])
                (.cond (.s 7)
                  .skip
                  (.exit 0)))
              (.seq
                (.block 1
                  (.seq
                    (.region true [
                      ⟨(some 10), none, .mv (.s 0)⟩,
                      ⟨(some 11), none, .mv (.s 3)⟩,
                      ⟨(some 12), none, .bin .sub .int (.s 11) (.c (.int .i64 1))⟩,
                      ⟨(some 13), none, .iaddrS 4 (.s 10) (.s 12)⟩,
                      ⟨(some 14), none, .load (some 4) none (.s 13)⟩,
                      ⟨(some 15), none, .call (.c (.fn 39 [] [])) [(.s 14)] [] [] [] false⟩,
                      ⟨(some 16), none, .mv (.s 0)⟩,
                      ⟨(some 17), none, .mv (.s 3)⟩,
                      ⟨(some 18), none, .iaddrS 4 (.s 16) (.s 17)⟩,
                      ⟨(some 19), none, .load (some 4) none (.s 18)⟩,
                      ⟨(some 20), none, .call (.c (.fn 39 [] [])) [(.s 19)] [] [] [] false⟩,
                      ⟨(some 21), none, .bin .geq .int (.s 15) (.s 20)⟩])
                    (.cond (.s 21)
                      (.seq
                        (.region false [
                          ⟨(some 2), none, .mv (.c (.bool false))⟩])
                        .ret)
                      .skip)))
                (.region false [
                  ⟨(some 8), none, .mv (.s 3)⟩,
                  ⟨(some 9), none, .bin .add .int (.s 8) (.c (.int .i64 1))⟩,
                  ⟨(some 3), none, .mv (.s 9)⟩]))))))
      (.seq
        (.region false [
          ⟨(some 2), none, .mv (.c (.bool true))⟩])
        .ret))) }
/- cuboid/cuboidlaw06.LiftParts -/
def f5 : MFun := { nt := 110, np := 3, no := 5, res := [.slot 6], body :=
  (.seq
    (.region false [
      ⟨(some 3), none, .box 0 (.s 0)⟩,
      ⟨(some 4), none, .box 1 (.s 1)⟩,
      ⟨(some 5), none, .box 2 (.s 2)⟩,
      ⟨(some 6), none, .mv (.c (.bool false))⟩])
    (.seq
      (.region false [
        ⟨(some 15), none, .load (some 4) (some 1) (.s 4)⟩,
        ⟨(some 16), none, .load (some 4) (some 2) (.s 5)⟩,
        ⟨(some 17), none, .call (.c (.fn 10 [] [])) [(.s 15), (.s 16)] [] [] [] false⟩,
        ⟨(some 7), none, .alloc 3 [.int .u8 0, .int .u8 0, .int .u8 0, .int .u8 0]⟩,
        ⟨none, none, .store 4 3 [] (.s 7) (.s 17)⟩])
      (.seq
        (.seq
          (.region false [
            ⟨(some 18), none, .load (some 2) (some 0) (.s 3)⟩,
            ⟨(some 19), none, .load (some 4) (some 1) (.s 4)⟩,
            ⟨(some 20), none, .call (.c (.fn 18 [] [])) [(.s 18), (.s 19)] [] [] [] false⟩,
            ⟨(some 21), none, .un .not (.s 20)⟩,
            ⟨(some 22), none, .mv (.s 21)⟩,
            ⟨(some 23), (some (22, false)), .load (some 2) (some 0) (.s 3)⟩,
            ⟨(some 24), (some (22, false)), .load (some 4) (some 3) (.s 7)⟩,
            ⟨(some 25), (some (22, false)), .call (.c (.fn 18 [] [])) [(.s 23), (.s 24)] [] [] [] false⟩,
            ⟨(some 26), (some (22, false)), .un .not (.s 25)⟩,
            ⟨(some 27), none, .pick (.s 22) (.c (.bool true)) (.s 26)⟩,
            ⟨(some 28), none, .mv (.s 27)⟩,
            ⟨(some 29), (some (28, false)), .load (some 2) (some 0) (.s 3)⟩,
            ⟨(some 30), (some (28, false)), .load (some 4) (some 3) (.s 7)⟩,
            ⟨(some 31), (some (28, false)), .call (.c (.fn 21 [] [])) [(.s 29), (.s 30)] [] [] [] false⟩,
            ⟨(some 32), (some (28, false)), .bin .gtr .int (.s 31) (.c (.int .i64 5000))⟩,
            ⟨(some 33), none, .pick (.s 28) (.c (.bool true)) (.s 32)⟩,
            ⟨(some 34), none, .mv (.s 33)⟩,
            ⟨(some 35), (some (34, false)), .load (some 2) (some 0) (.s 3)⟩,
            ⟨(some 36), (some (34, false)), .load (some 4) (some 1) (.s 4)⟩,
            ⟨(some 37), (some (34, false)), .call (.c (.fn 21 [] [])) [(.s 35), (.s 36)] [] [] [] false⟩,
            ⟨(some 38), (some (34, false)), .bin .gtr .int (.s 37) (.c (.int .i64 600))⟩,
            ⟨(some 39), none, .pick (.s 34) (.c (.bool true)) (.s 38)⟩])
          (.cond (.s 39)
            (.seq
              (.region false [
                ⟨(some 40), none, .call (.c (.fn 9 [] [])) [] [] [] [] false⟩,
                ⟨(some 6), none, .mv (.s 40)⟩])
              .ret)
            .skip))
        (.seq
          (.region false [
            ⟨(some 41), none, .load (some 2) (some 0) (.s 3)⟩,
            ⟨(some 42), none, .load (some 4) (some 1) (.s 4)⟩,
            ⟨(some 43), none, .call (.c (.fn 22 [] [])) [(.s 41), (.s 42), (.c (.int .i64 600))] [] [] [] true⟩,
            ⟨(some 8), none, .mv (.s 43)⟩])
          (.seq
            (.region false [
              ⟨(some 9), none, .mv (.c (.int .i64 0))⟩])
            (.seq
              (.seq
                (.region false [
                  ⟨(some 10), none, .mv (.c (.int .i64 0))⟩])
                (.block 0
                  (.loop [3, 4, 7, 8, 9, 10] [0, 1, 3]
                    (.seq
                      (.seq
                        (.region false [
                          ⟨(some 44), none, .mv (.s 10)⟩,
                          ⟨(some 45), none, .mv (.s 8)⟩,
                          ⟨(some 46), none, .len (.s 45)⟩,
                          ⟨(some 47), none, .bin .lss .int (.s 44) (.s 46)⟩])
                        (.cond (.s 47)
                          .skip
                          (.exit 0)))
                      (.seq
                        (.block 1
                          (.seq
                            (.region true [
                              ⟨(some 50), none, .load (some 2) (some 0) (.s 3)⟩,
                              ⟨(some 51), none, .load (some 4) (some 1) (.s 4)⟩,
                              ⟨(some 52), none, .mv (.s 8)⟩,
                              ⟨(some 53), none, .mv (.s 10)⟩,
                              ⟨(some 54), none, .iaddrS 4 (.s 52) (.s 53)⟩,
                              ⟨(some 55), none, .load (some 4) none (.s 54)⟩,
                              ⟨(some 56), none, .load (some 4) (some 3) (.s 7)⟩,
                              ⟨(some 57), none, .call (.c (.fn 16 [] [])) [(.s 50), (.s 51), (.s 55), (.s 56)] [] [] [] true⟩,
                              ⟨(some 11), none, .mv (.s 57)⟩])
                            (.seq
                              (.seq
                                (.region false [
                                  ⟨(some 58), none, .mv (.s 11)⟩,
                                  ⟨(some 59), none, .call (.c (.fn 23 [] [])) [(.s 58)] [] [] [] false⟩,
                                  ⟨(some 60), none, .un .not (.s 59)⟩])
                                (.cond (.s 60)
                                  (.seq
                                    (.region false [
                                      ⟨(some 6), none, .mv (.c (.bool false))⟩])
                                    .ret)
                                  .skip))
                              (.seq
                                (.seq
                                  (.region false [
                                    ⟨(some 12), none, .mv (.c (.int .i64 0))⟩])
                                  (.block 2
                                    (.loop [3, 4, 7, 8, 9, 10, 11, 12] [0, 1, 3]
                                      (.seq
                                        (.seq
                                          (.region false [
                                            ⟨(some 61), none, .mv (.s 12)⟩,
                                            ⟨(some 62), none, .mv (.s 11)⟩,
                                            ⟨(some 63), none, .len (.s 62)⟩,
                                            ⟨(some 64), none, .bin .lss .int (.s 61) (.s 63)⟩])
                                          (.cond (.s 64)
                                            .skip
                                            (.exit 2)))
                                        (.seq
                                          (.block 3
                                            (.seq
                                              (.region true [
                                                ⟨(some 68), none, .load (some 2) (some 0) (.s 3)⟩,
                                                ⟨(some 69), none, .load (some 4) (some 3) (.s 7)⟩,
                                                ⟨(some 70), none, .load (some 4) (some 1) (.s 4)⟩,
                                                ⟨(some 71), none, .mv (.s 11)⟩,
                                                ⟨(some 72), none, .mv (.s 12)⟩,
                                                ⟨(some 73), none, .iaddrS 4 (.s 71) (.s 72)⟩,
                                                ⟨(some 74), none, .load (some 4) none (.s 73)⟩,
                                                ⟨(some 75), none, .call (.c (.fn 11 [] [])) [(.s 68), (.s 69), (.s 70), (.s 74)] [] [] [] false⟩,
                                                ⟨(some 67), none, .mv (.s 75)⟩,
                                                ⟨(some 76), none, .extract (.s 67) 0⟩,
                                                ⟨(some 77), none, .extract (.s 67) 1⟩,
                                                ⟨(some 13), none, .alloc 4 [.int .u8 0, .int .u8 0, .int .u8 0, .int .u8 0]⟩,
                                                ⟨none, none, .store 4 4 [] (.s 13) (.s 76)⟩,
                                                ⟨(some 14), none, .mv (.s 77)⟩])
                                              (.seq
                                                (.region true [
                                                  ⟨(some 78), none, .mv (.s 14)⟩,
                                                  ⟨(some 79), none, .un .not (.s 78)⟩,
                                                  ⟨(some 80), none, .mv (.s 79)⟩,
                                                  ⟨(some 81), (some (80, false)), .load (some 4) (some 4) (.s 13)⟩,
                                                  ⟨(some 82), (some (80, false)), .mv (.s 8)⟩,
                                                  ⟨(some 83), (some (80, false)), .mv (.s 10)⟩,
                                                  ⟨(some 84), (some (80, false)), .iaddrS 4 (.s 82) (.s 83)⟩,
                                                  ⟨(some 85), (some (80, false)), .load (some 4) none (.s 84)⟩,
                                                  ⟨(some 86), (some (80, false)), .bin .neq (.agg [some .u8, some .u8, some .u8, some .u8]) (.s 81) (.s 85)⟩,
                                                  ⟨(some 87), none, .pick (.s 80) (.c (.bool true)) (.s 86)⟩,
                                                  ⟨(some 88), none, .mv (.s 87)⟩,
                                                  ⟨(some 89), (some (88, false)), .load (some 2) (some 0) (.s 3)⟩,
                                                  ⟨(some 90), (some (88, false)), .load (some 4) (some 3) (.s 7)⟩,
                                                  ⟨(some 91), (some (88, false)), .mv (.s 11)⟩,
                                                  ⟨(some 92), (some (88, false)), .mv (.s 12)⟩,
                                                  ⟨(some 93), (some (88, false)), .iaddrS 4 (.s 91) (.s 92)⟩,
                                                  ⟨(some 94), (some (88, false)), .load (some 4) none (.s 93)⟩,
                                                  ⟨(some 95), (some (88, false)), .call (.c (.fn 19 [] [])) [(.s 89), (.s 90), (.s 94)] [] [] [] false⟩,
                                                  ⟨(some 96), (some (88, false)), .un .not (.s 95)⟩,
                                                  ⟨(some 97), none, .pick (.s 88) (.c (.bool true)) (.s 96)⟩])
                                                (.cond (.s 97)
                                                  (.seq
                                                    (.region false [
                                                      ⟨(some 6), none, .mv (.c (.bool false))⟩])
                                                    .ret)
                                                  .skip))))
                                          (.region false [
                                            ⟨(some 65), none, .mv (.s 12)⟩,
                                            ⟨(some 66), none, .bin .add .int (.s 65) (.c (.int .i64 1))⟩,
                                            ⟨(some 12), none, .mv (.s 66)⟩]))))))
                                (.region false [
                                  ⟨(some 98), none, .mv (.s 9)⟩,
                                  ⟨(some 99), none, .mv (.s 11)⟩,
                                  ⟨(some 100), none, .len (.s 99)⟩,
                                  ⟨(some 101), none, .bin .add .int (.s 98) (.s 100)⟩,
                                  ⟨(some 9), none, .mv (.s 101)⟩])))))
                        (.region false [
                          ⟨(some 48), none, .mv (.s 10)⟩,
                          ⟨(some 49), none, .bin .add .int (.s 48) (.c (.int .i64 1))⟩,
                          ⟨(some 10), none, .mv (.s 49)⟩]))))))
              (.seq
                (.region false [
                  ⟨(some 102), none, .mv (.s 9)⟩,
                  ⟨(some 103), none, .load (some 2) (some 0) (.s 3)⟩,
                  ⟨(some 104), none, .load (some 4) (some 3) (.s 7)⟩,
                  ⟨(some 105), none, .call (.c (.fn 21 [] [])) [(.s 103), (.s 104)] [] [] [] false⟩,
                  ⟨(some 106), none, .bin .eql .int (.s 102) (.s 105)⟩,
                  ⟨(some 107), none, .mv (.s 106)⟩,
                  ⟨(some 108), (some (107, true)), .call (.c (.fn 9 [] [])) [] [] [] [] false⟩,
                  ⟨(some 109), none, .pick (.s 107) (.s 108) (.c (.bool false))⟩,
                  ⟨(some 6), none, .mv (.s 109)⟩])
                .ret))))))) }
/- cuboid/cuboidlaw06.LiftWithin -/
def f6 : MFun := { nt := 126, np := 3, no := 5, res := [.slot 6], body :=
  (.seq
    (.region false [
      ⟨(some 3), none, .box 0 (.s 0)⟩,
      ⟨(some 6), none, .mv (.c (.bool false))⟩])
    (.seq
      (.seq
        (.region false [
          ⟨(some 13), none, .faddr 0 (.s 3)⟩,
          ⟨(some 14), none, .load (some 2) (some 0) (.s 13)⟩,
          ⟨(some 15), none, .faddr 6 (.s 3)⟩,
          ⟨(some 16), none, .load (some 4) (some 0) (.s 15)⟩,
          ⟨(some 17), none, .faddr 14 (.s 3)⟩,
          ⟨(some 18), none, .load (some 4) (some 0) (.s 17)⟩,
          ⟨(some 19), none, .call (.c (.fn 19 [] [])) [(.s 14), (.s 16), (.s 18)] [] [] [] false⟩,
          ⟨(some 20), none, .un .not (.s 19)⟩])
        (.cond (.s 20)
          (.seq
            (.region false [
              ⟨(some 21), none, .call (.c (.fn 9 [] [])) [] [] [] [] false⟩,
              ⟨(some 6), none, .mv (.s 21)⟩])
            .ret)
          .skip))
      (.seq
        (.region false [
          ⟨(some 22), none, .mv (.s 1)⟩,
          ⟨(some 23), none, .conv .i64 (.s 22)⟩,
          ⟨(some 24), none, .faddr 0 (.s 3)⟩,
          ⟨(some 25), none, .faddr 0 (.s 24)⟩,
          ⟨(some 26), none, .load none (some 0) (.s 25)⟩,
          ⟨(some 27), none, .len (.s 26)⟩,
          ⟨(some 28), none, .bin .rem .int (.s 23) (.s 27)⟩,
          ⟨(some 7), none, .mv (.s 28)⟩])
        (.seq
          (.region false [
            ⟨(some 29), none, .faddr 6 (.s 3)⟩,
            ⟨(some 30), none, .load (some 4) (some 0) (.s 29)⟩,
            ⟨(some 8), none, .alloc 1 [.int .u8 0, .int .u8 0, .int .u8 0, .int .u8 0]⟩,
            ⟨none, none, .store 4 1 [] (.s 8) (.s 30)⟩])
          (.seq
            (.region true [
              ⟨(some 31), none, .mv (.s 7)⟩,
              ⟨(some 32), none, .iaddrA 4 1 (.s 8) (.s 31)⟩,
              ⟨(some 33), none, .load none (some 1) (.s 32)⟩,
              ⟨(some 34), none, .mv (.s 2)⟩,
              ⟨(some 35), none, .faddr 0 (.s 3)⟩,
              ⟨(some 36), none, .load (some 2) (some 0) (.s 35)⟩,
              ⟨(some 37), none, .mv (.s 7)⟩,
              ⟨(some 38), none, .call (.c (.fn 24 [] [])) [(.s 36), (.s 37)] [] [] [] false⟩,
              ⟨(some 39), none, .mv (.s 7)⟩,
              ⟨(some 40), none, .faddr 6 (.s 3)⟩,
              ⟨(some 41), none, .iaddrA 4 1 (.s 40) (.s 39)⟩,
              ⟨(some 42), none, .load none (some 0) (.s 41)⟩,
              ⟨(some 43), none, .conv .i64 (.s 42)⟩,
              ⟨(some 44), none, .bin .sub .int (.s 38) (.s 43)⟩,
              ⟨(some 45), none, .conv .u8 (.s 44)⟩,
              ⟨(some 46), none, .bin .rem .int (.s 34) (.s 45)⟩,
              ⟨(some 47), none, .bin .add .int (.s 33) (.s 46)⟩,
              ⟨(some 48), none, .iaddrA 4 1 (.s 8) (.s 31)⟩,
              ⟨none, none, .store 1 1 [] (.s 48) (.s 47)⟩])
            (.seq
              (.region false [
                ⟨(some 50), none, .faddr 0 (.s 3)⟩,
                ⟨(some 51), none, .load (some 2) (some 0) (.s 50)⟩,
                ⟨(some 52), none, .faddr 6 (.s 3)⟩,
                ⟨(some 53), none, .load (some 4) (some 0) (.s 52)⟩,
                ⟨(some 54), none, .load (some 4) (some 1) (.s 8)⟩,
                ⟨(some 55), none, .faddr 14 (.s 3)⟩,
                ⟨(some 56), none, .load (some 4) (some 0) (.s 55)⟩,
                ⟨(some 57), none, .call (.c (.fn 11 [] [])) [(.s 51), (.s 53), (.s 54), (.s 56)] [] [] [] false⟩,
                ⟨(some 49), none, .mv (.s 57)⟩,
                ⟨(some 58), none, .extract (.s 49) 0⟩,
                ⟨(some 59), none, .extract (.s 49) 1⟩,
                ⟨(some 9), none, .alloc 2 [.int .u8 0, .int .u8 0, .int .u8 0, .int .u8 0]⟩,
                ⟨none, none, .store 4 2 [] (.s 9) (.s 58)⟩,
                ⟨(some 10), none, .mv (.s 59)⟩])
              (.seq
                (.seq
                  (.region false [
                    ⟨(some 60), none, .mv (.s 10)⟩,
                    ⟨(some 61), none, .un .not (.s 60)⟩])
                  (.cond (.s 61)
                    (.seq
                      (.region false [
                        ⟨(some 6), none, .mv (.c (.bool false))⟩])
                      .ret)
                    .skip))
                (.seq
                  (.region false [
                    ⟨(some 62), none, .mv (.s 7)⟩,
                    ⟨(some 63), none, .mv (.s 7)⟩,
                    ⟨(some 64), none, .iaddrA 4 1 (.s 8) (.s 63)⟩,
                    ⟨(some 65), none, .load none (some 1) (.s 64)⟩,
                    ⟨(some 66), none, .conv .i64 (.s 65)⟩,
                    ⟨(some 67), none, .build [.int .i64 0, .int .i64 0, .nilsl] [(0, 1, (.s 62)), (1, 1, (.s 66))]⟩,
                    ⟨(some 11), none, .alloc 3 [.int .i64 0, .int .i64 0, .nilsl]⟩,
                    ⟨none, none, .store 3 3 [] (.s 11) (.s 67)⟩])
                  (.seq
                    (.seq
                      (.region false [
                        ⟨(some 68), none, .faddr 0 (.s 3)⟩,
                        ⟨(some 69), none, .load (some 2) (some 0) (.s 68)⟩,
                        ⟨(some 70), none, .faddr 6 (.s 3)⟩,
                        ⟨(some 71), none, .load (some 4) (some 0) (.s 70)⟩,
                        ⟨(some 72), none, .faddr 14 (.s 3)⟩,
                        ⟨(some 73), none, .load (some 4) (some 0) (.s 72)⟩,
                        ⟨(some 74), none, .load (some 3) (some 3) (.s 11)⟩,
                        ⟨(some 75), none, .call (.c (.fn 13 [] [])) [(.s 69), (.s 71), (.s 73), (.s 74)] [] [4] [] false⟩])
                      (.cond (.s 75)
                        (.seq
                          (.region false [
                            ⟨(some 6), none, .mv (.c (.bool false))⟩])
                          .ret)
                        .skip))
                    (.seq
                      (.seq
                        (.region false [
                          ⟨(some 12), none, .mv (.c (.int .i64 0))⟩])
                        (.block 0
                          (.loop [3, 7, 9, 11, 12] [0, 2, 3, 4]
                            (.seq
                              (.seq
                                (.region true [
                                  ⟨(some 76), none, .mv (.s 12)⟩,
                                  ⟨(some 77), none, .faddr 0 (.s 3)⟩,
                                  ⟨(some 78), none, .faddr 0 (.s 77)⟩,
                                  ⟨(some 79), none, .load none (some 0) (.s 78)⟩,
                                  ⟨(some 80), none, .mv (.s 7)⟩,
                                  ⟨(some 81), none, .iaddrS 2 (.s 79) (.s 80)⟩,
                                  ⟨(some 82), none, .load (some 2) none (.s 81)⟩,
                                  ⟨(some 83), none, .faddr 1 (.s 11)⟩,
                                  ⟨(some 84), none, .load none (some 3) (.s 83)⟩,
                                  ⟨(some 85), none, .call (.c (.fn 25 [] [])) [(.s 82), (.s 84)] [] [] [] false⟩,
                                  ⟨(some 86), none, .bin .lss .int (.s 76) (.s 85)⟩])
                                (.cond (.s 86)
                                  .skip
                                  (.exit 0)))
                              (.seq
                                (.block 1
                                  (.seq
                                    (.seq
                                      (.region true [
                                        ⟨(some 89), none, .faddr 0 (.s 3)⟩,
                                        ⟨(some 90), none, .load (some 2) (some 0) (.s 89)⟩,
                                        ⟨(some 91), none, .faddr 6 (.s 3)⟩,
                                        ⟨(some 92), none, .load (some 4) (some 0) (.s 91)⟩,
                                        ⟨(some 93), none, .faddr 14 (.s 3)⟩,
                                        ⟨(some 94), none, .load (some 4) (some 0) (.s 93)⟩,
                                        ⟨(some 95), none, .mv (.s 7)⟩,
                                        ⟨(some 96), none, .faddr 1 (.s 11)⟩,
                                        ⟨(some 97), none, .load none (some 3) (.s 96)⟩,
                                        ⟨(some 98), none, .mv (.s 12)⟩,
                                        ⟨(some 99), none, .lit none [] 1 1 [.int .i64 0] [(0, 1, (.s 98))]⟩,
                                        ⟨(some 100), none, .build [.int .i64 0, .int .i64 0, .nilsl] [(0, 1, (.s 95)), (1, 1, (.s 97)), (2, 1, (.s 99))]⟩,
                                        ⟨(some 101), none, .call (.c (.fn 13 [] [])) [(.s 90), (.s 92), (.s 94), (.s 100)] [] [] [] false⟩,
                                        ⟨(some 102), none, .mv (.s 7)⟩,
                                        ⟨(some 103), none, .iaddrA 4 1 (.s 9) (.s 102)⟩,
                                        ⟨(some 104), none, .load none (some 2) (.s 103)⟩,
                                        ⟨(some 105), none, .conv .i64 (.s 104)⟩,
                                        ⟨(some 106), none, .mv (.s 12)⟩,
                                        ⟨(some 107), none, .bin .eql .int (.s 105) (.s 106)⟩,
                                        ⟨(some 108), none, .bin .neq .bool (.s 101) (.s 107)⟩])
                                      (.cond (.s 108)
                                        (.seq
                                          (.region false [
                                            ⟨(some 6), none, .mv (.c (.bool false))⟩])
                                          .ret)
                                        .skip))
                                    (.region false [
                                      ⟨(some 109), none, .faddr 2 (.s 11)⟩,
                                      ⟨(some 110), none, .load none (some 3) (.s 109)⟩,
                                      ⟨(some 111), none, .mv (.s 12)⟩,
                                      ⟨(some 112), none, .lit none [] 1 1 [.int .i64 0] [(0, 1, (.s 111))]⟩,
                                      ⟨(some 113), none, .append 8 1 4 none (.s 110) (.s 112)⟩,
                                      ⟨(some 114), none, .faddr 2 (.s 11)⟩,
                                      ⟨none, none, .store 1 3 [] (.s 114) (.s 113)⟩])))
                                (.region false [
                                  ⟨(some 87), none, .mv (.s 12)⟩,
                                  ⟨(some 88), none, .bin .add .int (.s 87) (.c (.int .i64 1))⟩,
                                  ⟨(some 12), none, .mv (.s 88)⟩]))))))
                      (.seq
                        (.region false [
                          ⟨(some 115), none, .faddr 0 (.s 3)⟩,
                          ⟨(some 116), none, .load (some 2) (some 0) (.s 115)⟩,
                          ⟨(some 117), none, .faddr 6 (.s 3)⟩,
                          ⟨(some 118), none, .load (some 4) (some 0) (.s 117)⟩,
                          ⟨(some 119), none, .faddr 14 (.s 3)⟩,
                          ⟨(some 120), none, .load (some 4) (some 0) (.s 119)⟩,
                          ⟨(some 121), none, .load (some 3) (some 3) (.s 11)⟩,
                          ⟨(some 122), none, .call (.c (.fn 13 [] [])) [(.s 116), (.s 118), (.s 120), (.s 121)] [] [4] [] false⟩,
                          ⟨(some 123), none, .mv (.s 122)⟩,
                          ⟨(some 124), (some (123, true)), .call (.c (.fn 9 [] [])) [] [] [] [] false⟩,
                          ⟨(some 125), none, .pick (.s 123) (.s 124) (.c (.bool false))⟩,
                          ⟨(some 6), none, .mv (.s 125)⟩])
                        .ret))))))))))) }
/- cuboid/cuboidlaw06.LiftNone -/
def f7 : MFun := { nt := 133, np := 2, no := 6, res := [.slot 4], body :=
  (.seq
    (.region false [
      ⟨(some 2), none, .box 0 (.s 0)⟩,
      ⟨(some 4), none, .mv (.c (.bool false))⟩])
    (.seq
      (.seq
        (.region false [
          ⟨(some 14), none, .faddr 0 (.s 2)⟩,
          ⟨(some 15), none, .load (some 2) (some 0) (.s 14)⟩,
          ⟨(some 16), none, .faddr 6 (.s 2)⟩,
          ⟨(some 17), none, .load (some 4) (some 0) (.s 16)⟩,
          ⟨(some 18), none, .faddr 14 (.s 2)⟩,
          ⟨(some 19), none, .load (some 4) (some 0) (.s 18)⟩,
          ⟨(some 20), none, .call (.c (.fn 19 [] [])) [(.s 15), (.s 17), (.s 19)] [] [] [] false⟩,
          ⟨(some 21), none, .un .not (.s 20)⟩])
        (.cond (.s 21)
          (.seq
            (.region false [
              ⟨(some 22), none, .call (.c (.fn 9 [] [])) [] [] [] [] false⟩,
              ⟨(some 4), none, .mv (.s 22)⟩])
            .ret)
          .skip))
      (.seq
        (.region false [
          ⟨(some 23), none, .faddr 6 (.s 2)⟩,
          ⟨(some 24), none, .load (some 4) (some 0) (.s 23)⟩,
          ⟨(some 5), none, .alloc 1 [.int .u8 0, .int .u8 0, .int .u8 0, .int .u8 0]⟩,
          ⟨none, none, .store 4 1 [] (.s 5) (.s 24)⟩])
        (.seq
          (.region false [
            ⟨(some 25), none, .mv (.s 1)⟩,
            ⟨(some 26), none, .conv .i64 (.s 25)⟩,
            ⟨(some 27), none, .bin .rem .int (.s 26) (.c (.int .i64 4))⟩,
            ⟨(some 28), none, .iaddrA 4 1 (.s 5) (.s 27)⟩,
            ⟨(some 29), none, .load none (some 1) (.s 28)⟩,
            ⟨(some 30), none, .bin .add .int (.s 29) (.c (.int .u8 5))⟩,
            ⟨(some 31), none, .iaddrA 4 1 (.s 5) (.s 27)⟩,
            ⟨none, none, .store 1 1 [] (.s 31) (.s 30)⟩])
          (.seq
            (.region false [
              ⟨(some 33), none, .faddr 0 (.s 2)⟩,
              ⟨(some 34), none, .load (some 2) (some 0) (.s 33)⟩,
              ⟨(some 35), none, .faddr 6 (.s 2)⟩,
              ⟨(some 36), none, .load (some 4) (some 0) (.s 35)⟩,
              ⟨(some 37), none, .load (some 4) (some 1) (.s 5)⟩,
              ⟨(some 38), none, .faddr 14 (.s 2)⟩,
              ⟨(some 39), none, .load (some 4) (some 0) (.s 38)⟩,
              ⟨(some 40), none, .call (.c (.fn 11 [] [])) [(.s 34), (.s 36), (.s 37), (.s 39)] [] [] [] false⟩,
              ⟨(some 32), none, .mv (.s 40)⟩,
              ⟨(some 41), none, .extract (.s 32) 0⟩,
              ⟨(some 42), none, .extract (.s 32) 1⟩,
              ⟨(some 6), none, .alloc 2 [.int .u8 0, .int .u8 0, .int .u8 0, .int .u8 0]⟩,
              ⟨none, none, .store 4 2 [] (.s 6) (.s 41)⟩,
              ⟨(some 7), none, .mv (.s 42)⟩])
            (.seq
              (.region false [
                ⟨(some 44), none, .faddr 0 (.s 2)⟩,
                ⟨(some 45), none, .load (some 2) (some 0) (.s 44)⟩,
                ⟨(some 46), none, .load (some 4) (some 1) (.s 5)⟩,
                ⟨(some 47), none, .load (some 4) (some 1) (.s 5)⟩,
                ⟨(some 48), none, .faddr 14 (.s 2)⟩,
                ⟨(some 49), none, .load (some 4) (some 0) (.s 48)⟩,
                ⟨(some 50), none, .call (.c (.fn 11 [] [])) [(.s 45), (.s 46), (.s 47), (.s 49)] [] [] [] false⟩,
                ⟨(some 43), none, .mv (.s 50)⟩,
                ⟨(some 51), none, .extract (.s 43) 0⟩,
                ⟨(some 52), none, .extract (.s 43) 1⟩,
                ⟨(some 8), none, .alloc 3 [.int .u8 0, .int .u8 0, .int .u8 0, .int .u8 0]⟩,
                ⟨none, none, .store 4 3 [] (.s 8) (.s 51)⟩,
                ⟨(some 9), none, .mv (.s 52)⟩])
              (.seq
                (.region false [
                  ⟨(some 54), none, .build [.nilsl, .int .i64 0] []⟩,
                  ⟨(some 55), none, .faddr 6 (.s 2)⟩,
                  ⟨(some 56), none, .load (some 4) (some 0) (.s 55)⟩,
                  ⟨(some 57), none, .faddr 6 (.s 2)⟩,
                  ⟨(some 58), none, .load (some 4) (some 0) (.s 57)⟩,
                  ⟨(some 59), none, .faddr 14 (.s 2)⟩,
                  ⟨(some 60), none, .load (some 4) (some 0) (.s 59)⟩,
                  ⟨(some 61), none, .call (.c (.fn 11 [] [])) [(.s 54), (.s 56), (.s 58), (.s 60)] [] [] [] false⟩,
                  ⟨(some 53), none, .mv (.s 61)⟩,
                  ⟨(some 62), none, .extract (.s 53) 0⟩,
                  ⟨(some 63), none, .extract (.s 53) 1⟩,
                  ⟨(some 10), none, .alloc 4 [.int .u8 0, .int .u8 0, .int .u8 0, .int .u8 0]⟩,
                  ⟨none, none, .store 4 4 [] (.s 10) (.s 62)⟩,
                  ⟨(some 11), none, .mv (.s 63)⟩])
                (.seq
                  (.seq
                    (.region false [
                      ⟨(some 64), none, .mv (.s 7)⟩,
                      ⟨(some 65), none, .mv (.s 64)⟩,
                      ⟨(some 66), (some (65, false)), .mv (.s 9)⟩,
                      ⟨(some 67), none, .pick (.s 65) (.c (.bool true)) (.s 66)⟩,
                      ⟨(some 68), none, .mv (.s 67)⟩,
                      ⟨(some 69), (some (68, false)), .mv (.s 11)⟩,
                      ⟨(some 70), none, .pick (.s 68) (.c (.bool true)) (.s 69)⟩,
                      ⟨(some 71), none, .mv (.s 70)⟩,
                      ⟨(some 72), (some (71, false)), .faddr 0 (.s 2)⟩,
                      ⟨(some 73), (some (71, false)), .load (some 2) (some 0) (.s 72)⟩,
                      ⟨(some 74), (some (71, false)), .load (some 4) (some 1) (.s 5)⟩,
                      ⟨(some 75), (some (71, false)), .faddr 14 (.s 2)⟩,
                      ⟨(some 76), (some (71, false)), .load (some 4) (some 0) (.s 75)⟩,
                      ⟨(some 77), (some (71, false)), .faddr 6 (.s 2)⟩,
                      ⟨(some 78), (some (71, false)), .load (some 4) (some 0) (.s 77)⟩,
                      ⟨(some 79), (some (71, false)), .call (.c (.fn 16 [] [])) [(.s 73), (.s 74), (.s 76), (.s 78)] [] [] [] true⟩,
                      ⟨(some 80), (some (71, false)), .len (.s 79)⟩,
                      ⟨(some 81), (some (71, false)), .bin .gtr .int (.s 80) (.c (.int .i64 0))⟩,
                      ⟨(some 82), none, .pick (.s 71) (.c (.bool true)) (.s 81)⟩,
                      ⟨(some 83), none, .mv (.s 82)⟩,
                      ⟨(some 84), (some (83, false)), .faddr 0 (.s 2)⟩,
                      ⟨(some 85), (some (83, false)), .load (some 2) (some 0) (.s 84)⟩,
                      ⟨(some 86), (some (83, false)), .faddr 6 (.s 2)⟩,
                      ⟨(some 87), (some (83, false)), .load (some 4) (some 0) (.s 86)⟩,
                      ⟨(some 88), (some (83, false)), .faddr 14 (.s 2)⟩,
                      ⟨(some 89), (some (83, false)), .load (some 4) (some 0) (.s 88)⟩,
                      ⟨(some 90), (some (83, false)), .load (some 4) (some 1) (.s 5)⟩,
                      ⟨(some 91), (some (83, false)), .call (.c (.fn 16 [] [])) [(.s 85), (.s 87), (.s 89), (.s 90)] [] [] [] true⟩,
                      ⟨(some 92), (some (83, false)), .len (.s 91)⟩,
                      ⟨(some 93), (some (83, false)), .bin .gtr .int (.s 92) (.c (.int .i64 0))⟩,
                      ⟨(some 94), none, .pick (.s 83) (.c (.bool true)) (.s 93)⟩,
                      ⟨(some 95), none, .mv (.s 94)⟩,
                      ⟨(some 96), (some (95, false)), .faddr 0 (.s 2)⟩,
                      ⟨(some 97), (some (95, false)), .load (some 2) (some 0) (.s 96)⟩,
                      ⟨(some 98), (some (95, false)), .load (some 4) (some 1) (.s 5)⟩,
                      ⟨(some 99), (some (95, false)), .faddr 14 (.s 2)⟩,
                      ⟨(some 100), (some (95, false)), .load (some 4) (some 0) (.s 99)⟩,
                      ⟨(some 101), (some (95, false)), .lit none [] 1 1 [.int .i64 0] [(0, 1, (.c (.int .i64 0)))]⟩,
                      ⟨(some 102), (some (95, false)), .build [.int .i64 0, .int .i64 0, .nilsl] [(2, 1, (.s 101))]⟩,
                      ⟨(some 103), (some (95, false)), .call (.c (.fn 13 [] [])) [(.s 97), (.s 98), (.s 100), (.s 102)] [] [] [] false⟩,
                      ⟨(some 104), none, .pick (.s 95) (.c (.bool true)) (.s 103)⟩])
                    (.cond (.s 104)
                      (.seq
                        (.region false [
                          ⟨(some 4), none, .mv (.c (.bool false))⟩])
                        .ret)
                      .skip))
                  (.seq
                    (.seq
                      (.region false [
                        ⟨(some 105), none, .faddr 6 (.s 2)⟩,
                        ⟨(some 106), none, .load (some 4) (some 0) (.s 105)⟩,
                        ⟨(some 107), none, .build [.int .u8 0, .int .u8 0, .int .u8 0, .int .u8 0] []⟩,
                        ⟨(some 108), none, .bin .neq (.agg [some .u8, some .u8, some .u8, some .u8]) (.s 106) (.s 107)⟩])
                      (.cond (.s 108)
                        (.seq
                          (.region false [
                            ⟨(some 110), none, .faddr 0 (.s 2)⟩,
                            ⟨(some 111), none, .load (some 2) (some 0) (.s 110)⟩,
                            ⟨(some 112), none, .faddr 6 (.s 2)⟩,
                            ⟨(some 113), none, .load (some 4) (some 0) (.s 112)⟩,
                            ⟨(some 114), none, .build [.int .u8 0, .int .u8 0, .int .u8 0, .int .u8 0] []⟩,
                            ⟨(some 115), none, .faddr 14 (.s 2)⟩,
                            ⟨(some 116), none, .load (some 4) (some 0) (.s 115)⟩,
                            ⟨(some 117), none, .call (.c (.fn 11 [] [])) [(.s 111), (.s 113), (.s 114), (.s 116)] [] [] [] false⟩,
                            ⟨(some 109), none, .mv (.s 117)⟩,
                            ⟨(some 118), none, .extract (.s 109) 0⟩,
                            ⟨(some 119), none, .extract (.s 109) 1⟩,
                            ⟨(some 12), none, .alloc 5 [.int .u8 0, .int .u8 0, .int .u8 0, .int .u8 0]⟩,
                            ⟨none, none, .store 4 5 [] (.s 12) (.s 118)⟩,
                            ⟨(some 13), none, .mv (.s 119)⟩])
                          (.seq
                            (.region false [
                              ⟨(some 120), none, .mv (.s 13)⟩,
                              ⟨(some 121), none, .mv (.s 120)⟩,
                              ⟨(some 122), (some (121, false)), .faddr 0 (.s 2)⟩,
                              ⟨(some 123), (some (121, false)), .load (some 2) (some 0) (.s 122)⟩,
                              ⟨(some 124), (some (121, false)), .build [.int .u8 0, .int .u8 0, .int .u8 0, .int .u8 0] []⟩,
                              ⟨(some 125), (some (121, false)), .build [.int .u8 0, .int .u8 0, .int .u8 0, .int .u8 0] []⟩,
                              ⟨(some 126), (some (121, false)), .faddr 6 (.s 2)⟩,
                              ⟨(some 127), (some (121, false)), .load (some 4) (some 0) (.s 126)⟩,
                              ⟨(some 128), (some (121, false)), .call (.c (.fn 16 [] [])) [(.s 123), (.s 124), (.s 125), (.s 127)] [] [] [] true⟩,
                              ⟨(some 129), (some (121, false)), .len (.s 128)⟩,
                              ⟨(some 130), (some (121, false)), .bin .gtr .int (.s 129) (.c (.int .i64 0))⟩,
                              ⟨(some 131), none, .pick (.s 121) (.c (.bool true)) (.s 130)⟩])
                            (.cond (.s 131)
                              (.seq
                                (.region false [
                                  ⟨(some 4), none, .mv (.c (.bool false))⟩])
                                .ret)
                              .skip)))
                        .skip))
                    (.seq
                      (.region false [
                        ⟨(some 132), none, .call (.c (.fn 9 [] [])) [] [] [] [] false⟩,
                        ⟨(some 4), none, .mv (.s 132)⟩])
                      .ret)))))))))) }
end Mf
theorem mf26_ok : chkFun Try.prog Mf.f26 Try.f26 = true := by kernel_rfl
theorem mf8_ok : chkFun Try.prog Mf.f8 Try.f8 = true := by kernel_rfl
theorem mf47_ok : chkFun Try.prog Mf.f47 Try.f47 = true := by kernel_rfl
theorem mf44_ok : chkFun Try.prog Mf.f44 Try.f44 = true := by kernel_rfl
theorem mf49_ok : chkFun Try.prog Mf.f49 Try.f49 = true := by kernel_rfl
theorem mf48_ok : chkFun Try.prog Mf.f48 Try.f48 = true := by kernel_rfl
theorem mf41_ok : chkFun Try.prog Mf.f41 Try.f41 = true := by kernel_rfl
theorem mf42_ok : chkFun Try.prog Mf.f42 Try.f42 = true := by kernel_rfl
theorem mf28_ok : chkFun Try.prog Mf.f28 Try.f28 = true := by kernel_rfl
theorem mf29_ok : chkFun Try.prog Mf.f29 Try.f29 = true := by kernel_rfl
theorem mf43_ok : chkFun Try.prog Mf.f43 Try.f43 = true := by kernel_rfl
theorem mf30_ok : chkFun Try.prog Mf.f30 Try.f30 = true := by kernel_rfl
theorem mf45_ok : chkFun Try.prog Mf.f45 Try.f45 = true := by kernel_rfl
theorem mf31_ok : chkFun Try.prog Mf.f31 Try.f31 = true := by kernel_rfl
theorem mf11_ok : chkFun Try.prog Mf.f11 Try.f11 = true := by kernel_rfl
theorem mf46_ok : chkFun Try.prog Mf.f46 Try.f46 = true := by kernel_rfl
theorem mf34_ok : chkFun Try.prog Mf.f34 Try.f34 = true := by kernel_rfl
theorem mf13_ok : chkFun Try.prog Mf.f13 Try.f13 = true := by kernel_rfl
theorem mf35_ok : chkFun Try.prog Mf.f35 Try.f35 = true := by kernel_rfl
theorem mf36_ok : chkFun Try.prog Mf.f36 Try.f36 = true := by kernel_rfl
theorem mf16_ok : chkFun Try.prog Mf.f16 Try.f16 = true := by kernel_rfl
theorem mf27_ok : chkFun Try.prog Mf.f27 Try.f27 = true := by kernel_rfl
theorem mf9_ok : chkFun Try.prog Mf.f9 Try.f9 = true := by kernel_rfl
theorem mf10_ok : chkFun Try.prog Mf.f10 Try.f10 = true := by kernel_rfl
theorem mf40_ok : chkFun Try.prog Mf.f40 Try.f40 = true := by kernel_rfl
theorem mf25_ok : chkFun Try.prog Mf.f25 Try.f25 = true := by kernel_rfl
theorem mf38_ok : chkFun Try.prog Mf.f38 Try.f38 = true := by kernel_rfl
theorem mf19_ok : chkFun Try.prog Mf.f19 Try.f19 = true := by kernel_rfl
theorem mf18_ok : chkFun Try.prog Mf.f18 Try.f18 = true := by kernel_rfl
theorem mf32_ok : chkFun Try.prog Mf.f32 Try.f32 = true := by kernel_rfl
theorem mf33_ok : chkFun Try.prog Mf.f33 Try.f33 = true := by kernel_rfl
theorem mf12_ok : chkFun Try.prog Mf.f12 Try.f12 = true := by kernel_rfl
theorem mf24_ok : chkFun Try.prog Mf.f24 Try.f24 = true := by kernel_rfl
theorem mf14_ok : chkFun Try.prog Mf.f14 Try.f14 = true := by kernel_rfl
theorem mf15_ok : chkFun Try.prog Mf.f15 Try.f15 = true := by kernel_rfl
theorem mf37_ok : chkFun Try.prog Mf.f37 Try.f37 = true := by kernel_rfl
theorem mf17_ok : chkFun Try.prog Mf.f17 Try.f17 = true := by kernel_rfl
theorem mf3_ok : chkFun Try.prog Mf.f3 Try.f3 = true := by kernel_rfl
theorem mf20_ok : chkFun Try.prog Mf.f20 Try.f20 = true := by kernel_rfl
theorem mf4_ok : chkFun Try.prog Mf.f4 Try.f4 = true := by kernel_rfl
theorem mf21_ok : chkFun Try.prog Mf.f21 Try.f21 = true := by kernel_rfl
theorem mf22_ok : chkFun Try.prog Mf.f22 Try.f22 = true := by kernel_rfl
theorem mf39_ok : chkFun Try.prog Mf.f39 Try.f39 = true := by kernel_rfl
theorem mf23_ok : chkFun Try.prog Mf.f23 Try.f23 = true := by kernel_rfl
theorem mf5_ok : chkFun Try.prog Mf.f5 Try.f5 = true := by kernel_rfl
theorem mf6_ok : chkFun Try.prog Mf.f6 Try.f6 = true := by kernel_rfl
theorem mf7_ok : chkFun Try.prog Mf.f7 Try.f7 = true := by kernel_rfl
def fnTab : FuncId → Option MFun
  | 26 => some Mf.f26
  | 8 => some Mf.f8
  | 47 => some Mf.f47
  | 44 => some Mf.f44
  | 49 => some Mf.f49
  | 48 => some Mf.f48
  | 41 => some Mf.f41
  | 42 => some Mf.f42
  | 28 => some Mf.f28
  | 29 => some Mf.f29
  | 43 => some Mf.f43
  | 30 => some Mf.f30
  | 45 => some Mf.f45
  | 31 => some Mf.f31
  | 11 => some Mf.f11
  | 46 => some Mf.f46
  | 34 => some Mf.f34
  | 13 => some Mf.f13
  | 35 => some Mf.f35
  | 36 => some Mf.f36
  | 16 => some Mf.f16
  | 27 => some Mf.f27
  | 9 => some Mf.f9
  | 10 => some Mf.f10
  | 40 => some Mf.f40
  | 25 => some Mf.f25
  | 38 => some Mf.f38
  | 19 => some Mf.f19
  | 18 => some Mf.f18
  | 32 => some Mf.f32
  | 33 => some Mf.f33
  | 12 => some Mf.f12
  | 24 => some Mf.f24
  | 14 => some Mf.f14
  | 15 => some Mf.f15
  | 37 => some Mf.f37
  | 17 => some Mf.f17
  | 3 => some Mf.f3
  | 20 => some Mf.f20
  | 4 => some Mf.f4
  | 21 => some Mf.f21
  | 22 => some Mf.f22
  | 39 => some Mf.f39
  | 23 => some Mf.f23
  | 5 => some Mf.f5
  | 6 => some Mf.f6
  | 7 => some Mf.f7
  | _ => none
theorem fnTab_ok : ∀ f mf, fnTab f = some mf → ∃ fn, Try.prog.funcs[f]? = some fn ∧ chkFun Try.prog mf fn = true := by
  intro f mf h
  unfold fnTab at h
  split at h
  · cases h; exact ⟨Try.f26, Try.func26, mf26_ok⟩
  · cases h; exact ⟨Try.f8, Try.func8, mf8_ok⟩
  · cases h; exact ⟨Try.f47, Try.func47, mf47_ok⟩
  · cases h; exact ⟨Try.f44, Try.func44, mf44_ok⟩
  · cases h; exact ⟨Try.f49, Try.func49, mf49_ok⟩
  · cases h; exact ⟨Try.f48, Try.func48, mf48_ok⟩
  · cases h; exact ⟨Try.f41, Try.func41, mf41_ok⟩
  · cases h; exact ⟨Try.f42, Try.func42, mf42_ok⟩
  · cases h; exact ⟨Try.f28, Try.func28, mf28_ok⟩
  · cases h; exact ⟨Try.f29, Try.func29, mf29_ok⟩
  · cases h; exact ⟨Try.f43, Try.func43, mf43_ok⟩
  · cases h; exact ⟨Try.f30, Try.func30, mf30_ok⟩
  · cases h; exact ⟨Try.f45, Try.func45, mf45_ok⟩
  · cases h; exact ⟨Try.f31, Try.func31, mf31_ok⟩
  · cases h; exact ⟨Try.f11, Try.func11, mf11_ok⟩
  · cases h; exact ⟨Try.f46, Try.func46, mf46_ok⟩
  · cases h; exact ⟨Try.f34, Try.func34, mf34_ok⟩
  · cases h; exact ⟨Try.f13, Try.func13, mf13_ok⟩
  · cases h; exact ⟨Try.f35, Try.func35, mf35_ok⟩
  · cases h; exact ⟨Try.f36, Try.func36, mf36_ok⟩
  · cases h; exact ⟨Try.f16, Try.func16, mf16_ok⟩
  · cases h; exact ⟨Try.f27, Try.func27, mf27_ok⟩
  · cases h; exact ⟨Try.f9, Try.func9, mf9_ok⟩
  · cases h; exact ⟨Try.f10, Try.func10, mf10_ok⟩
  · cases h; exact ⟨Try.f40, Try.func40, mf40_ok⟩
  · cases h; exact ⟨Try.f25, Try.func25, mf25_ok⟩
  · cases h; exact ⟨Try.f38, Try.func38, mf38_ok⟩
  · cases h; exact ⟨Try.f19, Try.func19, mf19_ok⟩
  · cases h; exact ⟨Try.f18, Try.func18, mf18_ok⟩
  · cases h; exact ⟨Try.f32, Try.func32, mf32_ok⟩
  · cases h; exact ⟨Try.f33, Try.func33, mf33_ok⟩
  · cases h; exact ⟨Try.f12, Try.func12, mf12_ok⟩
  · cases h; exact ⟨Try.f24, Try.func24, mf24_ok⟩
  · cases h; exact ⟨Try.f14, Try.func14, mf14_ok⟩
  · cases h; exact ⟨Try.f15, Try.func15, mf15_ok⟩
  · cases h; exact ⟨Try.f37, Try.func37, mf37_ok⟩
  · cases h; exact ⟨Try.f17, Try.func17, mf17_ok⟩
  · cases h; exact ⟨Try.f3, Try.func3, mf3_ok⟩
  · cases h; exact ⟨Try.f20, Try.func20, mf20_ok⟩
  · cases h; exact ⟨Try.f4, Try.func4, mf4_ok⟩
  · cases h; exact ⟨Try.f21, Try.func21, mf21_ok⟩
  · cases h; exact ⟨Try.f22, Try.func22, mf22_ok⟩
  · cases h; exact ⟨Try.f39, Try.func39, mf39_ok⟩
  · cases h; exact ⟨Try.f23, Try.func23, mf23_ok⟩
  · cases h; exact ⟨Try.f5, Try.func5, mf5_ok⟩
  · cases h; exact ⟨Try.f6, Try.func6, mf6_ok⟩
  · cases h; exact ⟨Try.f7, Try.func7, mf7_ok⟩
  · cases h
end Go.Proofs.Ytafjljlcdfccjaa
