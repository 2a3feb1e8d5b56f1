/- The evaluator's code of each function of this seat, and that it is the loaded one. Printed by a program (gen.py). -/
import Derived.Test.YtfodjphcngidbaaChecked
import Derived.KernelRfl
import Derived.Test.YtfodjphcngidbaaEvLaw
set_option linter.unusedSimpArgs false
set_option linter.unusedVariables false
set_option maxRecDepth 100000
namespace Go.Proofs.Ytfodjphcngidbaa
open Go.Ev
namespace Mf
/- cuboid/cuboidkeep.LightDim -/
def f22 : MFun := { nt := 28, np := 1, no := 1, res := [.slot 2], body :=
  (.seq
    (.region false [
      ⟨(some 1), none, .box 0 (.s 0)⟩,
      ⟨(some 2), none, .mv (.c (.bool false))⟩])
    (.seq
      (.seq
        (.region false [
          ⟨(some 4), none, .faddr 0 (.s 1)⟩,
          ⟨(some 5), none, .load none (some 0) (.s 4)⟩,
          ⟨(some 6), none, .len (.s 5)⟩,
          ⟨(some 7), none, .bin .gtr .int (.s 6) (.c (.int .i64 10))⟩,
          ⟨(some 8), none, .mv (.s 7)⟩,
          ⟨(some 9), (some (8, false)), .faddr 1 (.s 1)⟩,
          ⟨(some 10), (some (8, false)), .load none (some 0) (.s 9)⟩,
          ⟨(some 11), (some (8, false)), .len (.s 10)⟩,
          ⟨(some 12), (some (8, false)), .bin .gtr .int (.s 11) (.c (.int .i64 10))⟩,
          ⟨(some 13), none, .pick (.s 8) (.c (.bool true)) (.s 12)⟩])
        (.cond (.s 13)
          (.seq
            (.region false [
              ⟨(some 2), none, .mv (.c (.bool false))⟩])
            .ret)
          .skip))
      (.seq
        (.seq
          (.region false [
            ⟨(some 3), none, .mv (.c (.int .i64 0))⟩])
          (.block 0
            (.loop [1, 3] [0]
              (.seq
                (.seq
                  (.region false [
                    ⟨(some 14), none, .mv (.s 3)⟩,
                    ⟨(some 15), none, .faddr 1 (.s 1)⟩,
                    ⟨(some 16), none, .load none (some 0) (.s 15)⟩,
                    ⟨(some 17), none, .len (.s 16)⟩,
                    ⟨(some 18), none, .bin .lss .int (.s 14) (.s 17)⟩])
                  (.cond (.s 18)
                    .skip
                    (.exit 0)))
                (.seq
                  (.block 1
                    (.seq
                      (.region false [
                        ⟨(some 21), none, .faddr 1 (.s 1)⟩,
                        ⟨(some 22), none, .load none (some 0) (.s 21)⟩,
                        ⟨(some 23), none, .mv (.s 3)⟩,
                        ⟨(some 24), none, .iaddrS 1 (.s 22) (.s 23)⟩,
                        ⟨(some 25), none, .load none none (.s 24)⟩,
                        ⟨(some 26), none, .len (.s 25)⟩,
                        ⟨(some 27), none, .bin .gtr .int (.s 26) (.c (.int .i64 60))⟩])
                      (.cond (.s 27)
                        (.seq
                          (.region false [
                            ⟨(some 2), none, .mv (.c (.bool false))⟩])
                          .ret)
                        .skip)))
                  (.region false [
                    ⟨(some 19), none, .mv (.s 3)⟩,
                    ⟨(some 20), none, .bin .add .int (.s 19) (.c (.int .i64 1))⟩,
                    ⟨(some 3), none, .mv (.s 20)⟩]))))))
        (.seq
          (.region false [
            ⟨(some 2), none, .mv (.c (.bool true))⟩])
          .ret)))) }
/- cuboid/cuboidkeep.LightCat -/
def f8 : MFun := { nt := 22, np := 1, no := 1, res := [.slot 2], body :=
  (.seq
    (.region false [
      ⟨(some 1), none, .box 0 (.s 0)⟩,
      ⟨(some 2), none, .mv (.c (.bool false))⟩])
    (.seq
      (.seq
        (.region false [
          ⟨(some 4), none, .faddr 0 (.s 1)⟩,
          ⟨(some 5), none, .load none (some 0) (.s 4)⟩,
          ⟨(some 6), none, .len (.s 5)⟩,
          ⟨(some 7), none, .bin .gtr .int (.s 6) (.c (.int .i64 8))⟩])
        (.cond (.s 7)
          (.seq
            (.region false [
              ⟨(some 2), none, .mv (.c (.bool false))⟩])
            .ret)
          .skip))
      (.seq
        (.seq
          (.region false [
            ⟨(some 3), none, .mv (.c (.int .i64 0))⟩])
          (.block 0
            (.loop [1, 3] [0]
              (.seq
                (.seq
                  (.region false [
                    ⟨(some 8), none, .mv (.s 3)⟩,
                    ⟨(some 9), none, .faddr 0 (.s 1)⟩,
                    ⟨(some 10), none, .load none (some 0) (.s 9)⟩,
                    ⟨(some 11), none, .len (.s 10)⟩,
                    ⟨(some 12), none, .bin .lss .int (.s 8) (.s 11)⟩])
                  (.cond (.s 12)
                    .skip
                    (.exit 0)))
                (.seq
                  (.block 1
                    (.seq
                      (.region false [
                        ⟨(some 15), none, .faddr 0 (.s 1)⟩,
                        ⟨(some 16), none, .load none (some 0) (.s 15)⟩,
                        ⟨(some 17), none, .mv (.s 3)⟩,
                        ⟨(some 18), none, .iaddrS 2 (.s 16) (.s 17)⟩,
                        ⟨(some 19), none, .load (some 2) none (.s 18)⟩,
                        ⟨(some 20), none, .call (.c (.fn 22 [] [])) [(.s 19)] [] [] [] false⟩,
                        ⟨(some 21), none, .un .not (.s 20)⟩])
                      (.cond (.s 21)
                        (.seq
                          (.region false [
                            ⟨(some 2), none, .mv (.c (.bool false))⟩])
                          .ret)
                        .skip)))
                  (.region false [
                    ⟨(some 13), none, .mv (.s 3)⟩,
                    ⟨(some 14), none, .bin .add .int (.s 13) (.c (.int .i64 1))⟩,
                    ⟨(some 3), none, .mv (.s 14)⟩]))))))
        (.seq
          (.region false [
            ⟨(some 2), none, .mv (.c (.bool true))⟩])
          .ret)))) }
/- cuboid/schema.between -/
def f23 : MFun := { nt := 15, np := 3, no := 0, res := [.slot 6], body :=
  (.seq
    (.region false [
      ⟨(some 6), none, .mv (.c (.bool false))⟩])
    (.seq
      (.region false [
        ⟨(some 7), none, .mv (.s 0)⟩,
        ⟨(some 8), none, .mv (.s 1)⟩,
        ⟨(some 9), none, .bin .geq .int (.s 7) (.s 8)⟩,
        ⟨(some 10), none, .mv (.s 9)⟩,
        ⟨(some 11), (some (10, true)), .mv (.s 0)⟩,
        ⟨(some 12), (some (10, true)), .mv (.s 2)⟩,
        ⟨(some 13), (some (10, true)), .bin .leq .int (.s 11) (.s 12)⟩,
        ⟨(some 14), none, .pick (.s 10) (.s 13) (.c (.bool false))⟩,
        ⟨(some 6), none, .mv (.s 14)⟩])
      .ret)) }
/- cuboid/hier.between -/
def f37 : MFun := { nt := 15, np := 3, no := 0, res := [.slot 6], body :=
  (.seq
    (.region false [
      ⟨(some 6), none, .mv (.c (.bool false))⟩])
    (.seq
      (.region false [
        ⟨(some 7), none, .mv (.s 0)⟩,
        ⟨(some 8), none, .mv (.s 1)⟩,
        ⟨(some 9), none, .bin .geq .int (.s 7) (.s 8)⟩,
        ⟨(some 10), none, .mv (.s 9)⟩,
        ⟨(some 11), (some (10, true)), .mv (.s 0)⟩,
        ⟨(some 12), (some (10, true)), .mv (.s 2)⟩,
        ⟨(some 13), (some (10, true)), .bin .leq .int (.s 11) (.s 12)⟩,
        ⟨(some 14), none, .pick (.s 10) (.s 13) (.c (.bool false))⟩,
        ⟨(some 6), none, .mv (.s 14)⟩])
      .ret)) }
/- cuboid/hier.up -/
def f38 : MFun := { nt := 25, np := 3, no := 0, res := [.slot 6], body :=
  (.seq
    (.region false [
      ⟨(some 6), none, .mv (.c (.bool false))⟩])
    (.seq
      (.seq
        (.region false [
          ⟨(some 9), none, .mv (.s 0)⟩,
          ⟨(some 10), none, .len (.s 9)⟩,
          ⟨(some 11), none, .mv (.s 1)⟩,
          ⟨(some 12), none, .bin .neq .int (.s 10) (.s 11)⟩])
        (.cond (.s 12)
          (.seq
            (.region false [
              ⟨(some 6), none, .mv (.c (.bool false))⟩])
            .ret)
          .skip))
      (.seq
        (.seq
          (.region false [
            ⟨(some 13), none, .mv (.s 0)⟩,
            ⟨(some 14), none, .len (.s 13)⟩,
            ⟨(some 15), none, .mv (.c (.int .i64 0))⟩])
          (.block 0
            (.loop [2, 13, 14, 15] []
              (.seq
                (.region false [
                  ⟨(some 16), none, .bin .lss .int (.s 15) (.s 14)⟩])
                (.seq
                  (.cond (.s 16)
                    .skip
                    (.exit 0))
                  (.seq
                    (.block 1
                      (.seq
                        (.region false [
                          ⟨(some 17), none, .iaddrS 1 (.s 13) (.s 15)⟩,
                          ⟨(some 18), none, .load none none (.s 17)⟩,
                          ⟨(some 8), none, .mv (.s 18)⟩])
                        (.seq
                          (.region false [
                            ⟨(some 19), none, .mv (.s 8)⟩,
                            ⟨(some 20), none, .mv (.s 2)⟩,
                            ⟨(some 21), none, .bin .sub .int (.s 20) (.c (.int .i64 1))⟩,
                            ⟨(some 22), none, .call (.c (.fn 37 [] [])) [(.s 19), (.c (.int .i64 0)), (.s 21)] [] [] [] false⟩,
                            ⟨(some 23), none, .un .not (.s 22)⟩])
                          (.cond (.s 23)
                            (.seq
                              (.region false [
                                ⟨(some 6), none, .mv (.c (.bool false))⟩])
                              .ret)
                            .skip))))
                    (.region false [
                      ⟨(some 24), none, .bin .add .int (.s 15) (.c (.int .i64 1))⟩,
                      ⟨(some 15), none, .mv (.s 24)⟩])))))))
        (.seq
          (.region false [
            ⟨(some 6), none, .mv (.c (.bool true))⟩])
          .ret)))) }
/- cuboid/hier.Good -/
def f24 : MFun := { nt := 57, np := 1, no := 1, res := [.slot 2], body :=
  (.seq
    (.region false [
      ⟨(some 1), none, .box 0 (.s 0)⟩,
      ⟨(some 2), none, .mv (.c (.bool false))⟩])
    (.seq
      (.seq
        (.region false [
          ⟨(some 6), none, .faddr 0 (.s 1)⟩,
          ⟨(some 7), none, .load none (some 0) (.s 6)⟩,
          ⟨(some 8), none, .len (.s 7)⟩,
          ⟨(some 9), none, .call (.c (.fn 37 [] [])) [(.s 8), (.c (.int .i64 1)), (.c (.int .i64 4))] [] [] [] false⟩,
          ⟨(some 10), none, .un .not (.s 9)⟩,
          ⟨(some 11), none, .mv (.s 10)⟩,
          ⟨(some 12), (some (11, false)), .faddr 1 (.s 1)⟩,
          ⟨(some 13), (some (11, false)), .load none (some 0) (.s 12)⟩,
          ⟨(some 14), (some (11, false)), .len (.s 13)⟩,
          ⟨(some 15), (some (11, false)), .faddr 0 (.s 1)⟩,
          ⟨(some 16), (some (11, false)), .load none (some 0) (.s 15)⟩,
          ⟨(some 17), (some (11, false)), .len (.s 16)⟩,
          ⟨(some 18), (some (11, false)), .bin .sub .int (.s 17) (.c (.int .i64 1))⟩,
          ⟨(some 19), (some (11, false)), .bin .neq .int (.s 14) (.s 18)⟩,
          ⟨(some 20), none, .pick (.s 11) (.c (.bool true)) (.s 19)⟩])
        (.cond (.s 20)
          (.seq
            (.region false [
              ⟨(some 2), none, .mv (.c (.bool false))⟩])
            .ret)
          .skip))
      (.seq
        (.seq
          (.region false [
            ⟨(some 21), none, .faddr 0 (.s 1)⟩,
            ⟨(some 22), none, .load none (some 0) (.s 21)⟩,
            ⟨(some 23), none, .len (.s 22)⟩,
            ⟨(some 24), none, .mv (.c (.int .i64 0))⟩])
          (.block 0
            (.loop [1, 22, 23, 24] [0]
              (.seq
                (.region false [
                  ⟨(some 25), none, .bin .lss .int (.s 24) (.s 23)⟩])
                (.seq
                  (.cond (.s 25)
                    .skip
                    (.exit 0))
                  (.seq
                    (.block 1
                      (.seq
                        (.region false [
                          ⟨(some 26), none, .iaddrS 1 (.s 22) (.s 24)⟩,
                          ⟨(some 27), none, .load none none (.s 26)⟩,
                          ⟨(some 4), none, .mv (.s 27)⟩])
                        (.seq
                          (.region false [
                            ⟨(some 28), none, .mv (.s 4)⟩,
                            ⟨(some 29), none, .call (.c (.fn 37 [] [])) [(.s 28), (.c (.int .i64 1)), (.c (.int .i64 40))] [] [] [] false⟩,
                            ⟨(some 30), none, .un .not (.s 29)⟩])
                          (.cond (.s 30)
                            (.seq
                              (.region false [
                                ⟨(some 2), none, .mv (.c (.bool false))⟩])
                              .ret)
                            .skip))))
                    (.region false [
                      ⟨(some 31), none, .bin .add .int (.s 24) (.c (.int .i64 1))⟩,
                      ⟨(some 24), none, .mv (.s 31)⟩])))))))
        (.seq
          (.seq
            (.region false [
              ⟨(some 32), none, .faddr 1 (.s 1)⟩,
              ⟨(some 33), none, .load none (some 0) (.s 32)⟩,
              ⟨(some 34), none, .len (.s 33)⟩,
              ⟨(some 35), none, .mv (.c (.int .i64 0))⟩])
            (.block 2
              (.loop [1, 34, 35] [0]
                (.seq
                  (.region false [
                    ⟨(some 36), none, .bin .lss .int (.s 35) (.s 34)⟩])
                  (.seq
                    (.cond (.s 36)
                      .skip
                      (.exit 2))
                    (.seq
                      (.block 3
                        (.seq
                          (.region false [
                            ⟨(some 37), none, .mv (.s 35)⟩,
                            ⟨(some 5), none, .mv (.s 37)⟩])
                          (.seq
                            (.region true [
                              ⟨(some 38), none, .faddr 1 (.s 1)⟩,
                              ⟨(some 39), none, .load none (some 0) (.s 38)⟩,
                              ⟨(some 40), none, .mv (.s 5)⟩,
                              ⟨(some 41), none, .iaddrS 1 (.s 39) (.s 40)⟩,
                              ⟨(some 42), none, .load none none (.s 41)⟩,
                              ⟨(some 43), none, .faddr 0 (.s 1)⟩,
                              ⟨(some 44), none, .load none (some 0) (.s 43)⟩,
                              ⟨(some 45), none, .mv (.s 5)⟩,
                              ⟨(some 46), none, .iaddrS 1 (.s 44) (.s 45)⟩,
                              ⟨(some 47), none, .load none none (.s 46)⟩,
                              ⟨(some 48), none, .faddr 0 (.s 1)⟩,
                              ⟨(some 49), none, .load none (some 0) (.s 48)⟩,
                              ⟨(some 50), none, .mv (.s 5)⟩,
                              ⟨(some 51), none, .bin .add .int (.s 50) (.c (.int .i64 1))⟩,
                              ⟨(some 52), none, .iaddrS 1 (.s 49) (.s 51)⟩,
                              ⟨(some 53), none, .load none none (.s 52)⟩,
                              ⟨(some 54), none, .call (.c (.fn 38 [] [])) [(.s 42), (.s 47), (.s 53)] [] [] [] false⟩,
                              ⟨(some 55), none, .un .not (.s 54)⟩])
                            (.cond (.s 55)
                              (.seq
                                (.region false [
                                  ⟨(some 2), none, .mv (.c (.bool false))⟩])
                                .ret)
                              .skip))))
                      (.region false [
                        ⟨(some 56), none, .bin .add .int (.s 35) (.c (.int .i64 1))⟩,
                        ⟨(some 35), none, .mv (.s 56)⟩])))))))
          (.seq
            (.region false [
              ⟨(some 2), none, .mv (.c (.bool true))⟩])
            .ret))))) }
/- cuboid/schema.Good -/
def f12 : MFun := { nt := 27, np := 1, no := 2, res := [.slot 2], body :=
  (.seq
    (.region false [
      ⟨(some 1), none, .box 0 (.s 0)⟩,
      ⟨(some 2), none, .mv (.c (.bool false))⟩])
    (.seq
      (.seq
        (.region false [
          ⟨(some 5), none, .faddr 0 (.s 1)⟩,
          ⟨(some 6), none, .load none (some 0) (.s 5)⟩,
          ⟨(some 7), none, .len (.s 6)⟩,
          ⟨(some 8), none, .call (.c (.fn 23 [] [])) [(.s 7), (.c (.int .i64 1)), (.c (.int .i64 4))] [] [] [] false⟩,
          ⟨(some 9), none, .un .not (.s 8)⟩,
          ⟨(some 10), none, .mv (.s 9)⟩,
          ⟨(some 11), (some (10, false)), .faddr 1 (.s 1)⟩,
          ⟨(some 12), (some (10, false)), .load none (some 0) (.s 11)⟩,
          ⟨(some 13), (some (10, false)), .call (.c (.fn 23 [] [])) [(.s 12), (.c (.int .i64 1)), (.c (.int .i64 2))] [] [] [] false⟩,
          ⟨(some 14), (some (10, false)), .un .not (.s 13)⟩,
          ⟨(some 15), none, .pick (.s 10) (.c (.bool true)) (.s 14)⟩])
        (.cond (.s 15)
          (.seq
            (.region false [
              ⟨(some 2), none, .mv (.c (.bool false))⟩])
            .ret)
          .skip))
      (.seq
        (.seq
          (.region false [
            ⟨(some 16), none, .faddr 0 (.s 1)⟩,
            ⟨(some 17), none, .load none (some 0) (.s 16)⟩,
            ⟨(some 18), none, .len (.s 17)⟩,
            ⟨(some 19), none, .mv (.c (.int .i64 0))⟩])
          (.block 0
            (.loop [17, 18, 19] []
              (.seq
                (.region false [
                  ⟨(some 20), none, .bin .lss .int (.s 19) (.s 18)⟩])
                (.seq
                  (.cond (.s 20)
                    .skip
                    (.exit 0))
                  (.seq
                    (.block 1
                      (.seq
                        (.region false [
                          ⟨(some 21), none, .iaddrS 2 (.s 17) (.s 19)⟩,
                          ⟨(some 22), none, .load (some 2) none (.s 21)⟩,
                          ⟨(some 4), none, .alloc 1 [.nilsl, .nilsl]⟩,
                          ⟨none, none, .store 2 1 [] (.s 4) (.s 22)⟩])
                        (.seq
                          (.region false [
                            ⟨(some 23), none, .load (some 2) (some 1) (.s 4)⟩,
                            ⟨(some 24), none, .call (.c (.fn 24 [] [])) [(.s 23)] [] [] [] false⟩,
                            ⟨(some 25), none, .un .not (.s 24)⟩])
                          (.cond (.s 25)
                            (.seq
                              (.region false [
                                ⟨(some 2), none, .mv (.c (.bool false))⟩])
                              .ret)
                            .skip))))
                    (.region false [
                      ⟨(some 26), none, .bin .add .int (.s 19) (.c (.int .i64 1))⟩,
                      ⟨(some 19), none, .mv (.s 26)⟩])))))))
        (.seq
          (.region false [
            ⟨(some 2), none, .mv (.c (.bool true))⟩])
          .ret)))) }
/- cuboid/schema.Levels -/
def f10 : MFun := { nt := 25, np := 2, no := 1, res := [.slot 4], body :=
  (.seq
    (.region false [
      ⟨(some 2), none, .box 0 (.s 0)⟩,
      ⟨(some 4), none, .mv (.c (.int .i64 0))⟩])
    (.seq
      (.seq
        (.region false [
          ⟨(some 5), none, .load (some 2) (some 0) (.s 2)⟩,
          ⟨(some 6), none, .call (.c (.fn 12 [] [])) [(.s 5)] [] [] [] false⟩,
          ⟨(some 7), none, .un .not (.s 6)⟩,
          ⟨(some 8), none, .mv (.s 7)⟩,
          ⟨(some 9), (some (8, false)), .mv (.s 1)⟩,
          ⟨(some 10), (some (8, false)), .faddr 0 (.s 2)⟩,
          ⟨(some 11), (some (8, false)), .load none (some 0) (.s 10)⟩,
          ⟨(some 12), (some (8, false)), .len (.s 11)⟩,
          ⟨(some 13), (some (8, false)), .bin .sub .int (.s 12) (.c (.int .i64 1))⟩,
          ⟨(some 14), (some (8, false)), .call (.c (.fn 23 [] [])) [(.s 9), (.c (.int .i64 0)), (.s 13)] [] [] [] false⟩,
          ⟨(some 15), (some (8, false)), .un .not (.s 14)⟩,
          ⟨(some 16), none, .pick (.s 8) (.c (.bool true)) (.s 15)⟩])
        (.cond (.s 16)
          (.seq
            (.region false [
              ⟨(some 4), none, .mv (.c (.int .i64 0))⟩])
            .ret)
          .skip))
      (.seq
        (.region false [
          ⟨(some 17), none, .faddr 0 (.s 2)⟩,
          ⟨(some 18), none, .load none (some 0) (.s 17)⟩,
          ⟨(some 19), none, .mv (.s 1)⟩,
          ⟨(some 20), none, .iaddrS 2 (.s 18) (.s 19)⟩,
          ⟨(some 21), none, .faddr 0 (.s 20)⟩,
          ⟨(some 22), none, .load none none (.s 21)⟩,
          ⟨(some 23), none, .len (.s 22)⟩,
          ⟨(some 24), none, .bin .add .int (.s 23) (.c (.int .i64 1))⟩,
          ⟨(some 4), none, .mv (.s 24)⟩])
        .ret))) }
/- cuboid/hier.Size -/
def f26 : MFun := { nt := 28, np := 2, no := 1, res := [.slot 4], body :=
  (.seq
    (.region false [
      ⟨(some 2), none, .box 0 (.s 0)⟩,
      ⟨(some 4), none, .mv (.c (.int .i64 0))⟩])
    (.seq
      (.block 0
        (.seq
          (.region false [
            ⟨(some 6), none, .load (some 2) (some 0) (.s 2)⟩,
            ⟨(some 7), none, .call (.c (.fn 24 [] [])) [(.s 6)] [] [] [] false⟩,
            ⟨(some 8), none, .un .not (.s 7)⟩,
            ⟨(some 9), none, .mv (.s 8)⟩,
            ⟨(some 10), (some (9, false)), .mv (.s 1)⟩,
            ⟨(some 11), (some (9, false)), .faddr 0 (.s 2)⟩,
            ⟨(some 12), (some (9, false)), .load none (some 0) (.s 11)⟩,
            ⟨(some 13), (some (9, false)), .len (.s 12)⟩,
            ⟨(some 14), (some (9, false)), .call (.c (.fn 37 [] [])) [(.s 10), (.c (.int .i64 0)), (.s 13)] [] [] [] false⟩,
            ⟨(some 15), (some (9, false)), .un .not (.s 14)⟩,
            ⟨(some 16), none, .pick (.s 9) (.c (.bool true)) (.s 15)⟩,
            ⟨(some 5), none, .mv (.s 16)⟩])
          (.cond (.s 5)
            (.seq
              (.region false [
                ⟨(some 4), none, .mv (.c (.int .i64 0))⟩])
              .ret)
            (.seq
              (.region false [
                ⟨(some 18), none, .mv (.s 1)⟩,
                ⟨(some 19), none, .faddr 0 (.s 2)⟩,
                ⟨(some 20), none, .load none (some 0) (.s 19)⟩,
                ⟨(some 21), none, .len (.s 20)⟩,
                ⟨(some 22), none, .bin .eql .int (.s 18) (.s 21)⟩,
                ⟨(some 17), none, .mv (.s 22)⟩])
              (.cond (.s 17)
                (.seq
                  (.region false [
                    ⟨(some 4), none, .mv (.c (.int .i64 1))⟩])
                  .ret)
                .skip)))))
      (.seq
        (.region false [
          ⟨(some 23), none, .faddr 0 (.s 2)⟩,
          ⟨(some 24), none, .load none (some 0) (.s 23)⟩,
          ⟨(some 25), none, .mv (.s 1)⟩,
          ⟨(some 26), none, .iaddrS 1 (.s 24) (.s 25)⟩,
          ⟨(some 27), none, .load none none (.s 26)⟩,
          ⟨(some 4), none, .mv (.s 27)⟩])
        .ret))) }
/- cuboid/schema.Right -/
def f14 : MFun := { nt := 45, np := 3, no := 3, res := [.slot 6], body :=
  (.seq
    (.region false [
      ⟨(some 3), none, .box 0 (.s 0)⟩,
      ⟨(some 4), none, .box 1 (.s 1)⟩,
      ⟨(some 5), none, .box 2 (.s 2)⟩,
      ⟨(some 6), none, .mv (.c (.bool false))⟩])
    (.seq
      (.seq
        (.region false [
          ⟨(some 8), none, .load (some 2) (some 0) (.s 3)⟩,
          ⟨(some 9), none, .call (.c (.fn 12 [] [])) [(.s 8)] [] [] [] false⟩,
          ⟨(some 10), none, .un .not (.s 9)⟩])
        (.cond (.s 10)
          (.seq
            (.region false [
              ⟨(some 6), none, .mv (.c (.bool false))⟩])
            .ret)
          .skip))
      (.seq
        (.seq
          (.region false [
            ⟨(some 11), none, .mv (.c (.int .i64 0))⟩])
          (.block 0
            (.loop [3, 4, 5, 11] [0, 1, 2]
              (.seq
                (.region false [
                  ⟨(some 12), none, .bin .lss .int (.s 11) (.c (.int .i64 4))⟩])
                (.seq
                  (.cond (.s 12)
                    .skip
                    (.exit 0))
                  (.seq
                    (.block 1
                      (.seq
                        (.region false [
                          ⟨(some 13), none, .mv (.s 11)⟩,
                          ⟨(some 7), none, .mv (.s 13)⟩])
                        (.seq
                          (.seq
                            (.region false [
                              ⟨(some 14), none, .mv (.s 7)⟩,
                              ⟨(some 15), none, .faddr 0 (.s 3)⟩,
                              ⟨(some 16), none, .load none (some 0) (.s 15)⟩,
                              ⟨(some 17), none, .len (.s 16)⟩,
                              ⟨(some 18), none, .bin .geq .int (.s 14) (.s 17)⟩])
                            (.cond (.s 18)
                              (.seq
                                (.seq
                                  (.region false [
                                    ⟨(some 19), none, .mv (.s 7)⟩,
                                    ⟨(some 20), none, .iaddrA 4 1 (.s 4) (.s 19)⟩,
                                    ⟨(some 21), none, .load none (some 1) (.s 20)⟩,
                                    ⟨(some 22), none, .bin .neq .int (.s 21) (.c (.int .u8 0))⟩,
                                    ⟨(some 23), none, .mv (.s 22)⟩,
                                    ⟨(some 24), (some (23, false)), .mv (.s 7)⟩,
                                    ⟨(some 25), (some (23, false)), .iaddrA 4 1 (.s 5) (.s 24)⟩,
                                    ⟨(some 26), (some (23, false)), .load none (some 2) (.s 25)⟩,
                                    ⟨(some 27), (some (23, false)), .bin .neq .int (.s 26) (.c (.int .u8 0))⟩,
                                    ⟨(some 28), none, .pick (.s 23) (.c (.bool true)) (.s 27)⟩])
                                  (.cond (.s 28)
                                    (.seq
                                      (.region false [
                                        ⟨(some 6), none, .mv (.c (.bool false))⟩])
                                      .ret)
                                    .skip))
                                (.exit 1))
                              .skip))
                          (.seq
                            (.region true [
                              ⟨(some 29), none, .mv (.s 7)⟩,
                              ⟨(some 30), none, .iaddrA 4 1 (.s 5) (.s 29)⟩,
                              ⟨(some 31), none, .load none (some 2) (.s 30)⟩,
                              ⟨(some 32), none, .conv .i64 (.s 31)⟩,
                              ⟨(some 33), none, .faddr 0 (.s 3)⟩,
                              ⟨(some 34), none, .load none (some 0) (.s 33)⟩,
                              ⟨(some 35), none, .mv (.s 7)⟩,
                              ⟨(some 36), none, .iaddrS 2 (.s 34) (.s 35)⟩,
                              ⟨(some 37), none, .load (some 2) none (.s 36)⟩,
                              ⟨(some 38), none, .mv (.s 7)⟩,
                              ⟨(some 39), none, .iaddrA 4 1 (.s 4) (.s 38)⟩,
                              ⟨(some 40), none, .load none (some 1) (.s 39)⟩,
                              ⟨(some 41), none, .conv .i64 (.s 40)⟩,
                              ⟨(some 42), none, .call (.c (.fn 26 [] [])) [(.s 37), (.s 41)] [] [] [] false⟩,
                              ⟨(some 43), none, .bin .geq .int (.s 32) (.s 42)⟩])
                            (.cond (.s 43)
                              (.seq
                                (.region false [
                                  ⟨(some 6), none, .mv (.c (.bool false))⟩])
                                .ret)
                              .skip)))))
                    (.region false [
                      ⟨(some 44), none, .bin .add .int (.s 11) (.c (.int .i64 1))⟩,
                      ⟨(some 11), none, .mv (.s 44)⟩])))))))
        (.seq
          (.region false [
            ⟨(some 6), none, .mv (.c (.bool true))⟩])
          .ret)))) }
/- slices.EqualFunc[[]cuboid/api.Dim,[]cuboid/api.Dim,cuboid/api.Dim,cuboid/api.Dim] -/
def f28 : MFun := { nt := 32, np := 3, no := 2, res := [.slot 6], body :=
  (.seq
    (.region false [
      ⟨(some 6), none, .mv (.c (.bool false))⟩])
    (.seq
      (.seq
        (.region false [
          ⟨(some 10), none, .mv (.s 0)⟩,
          ⟨(some 11), none, .len (.s 10)⟩,
          ⟨(some 12), none, .mv (.s 1)⟩,
          ⟨(some 13), none, .len (.s 12)⟩,
          ⟨(some 14), none, .bin .neq .int (.s 11) (.s 13)⟩])
        (.cond (.s 14)
          (.seq
            (.region false [
              ⟨(some 6), none, .mv (.c (.bool false))⟩])
            .ret)
          .skip))
      (.seq
        (.seq
          (.region false [
            ⟨(some 15), none, .mv (.s 0)⟩,
            ⟨(some 16), none, .len (.s 15)⟩,
            ⟨(some 17), none, .mv (.c (.int .i64 0))⟩])
          (.block 0
            (.loop [1, 2, 15, 16, 17] []
              (.seq
                (.region false [
                  ⟨(some 18), none, .bin .lss .int (.s 17) (.s 16)⟩])
                (.seq
                  (.cond (.s 18)
                    .skip
                    (.exit 0))
                  (.seq
                    (.block 1
                      (.seq
                        (.region false [
                          ⟨(some 19), none, .mv (.s 17)⟩,
                          ⟨(some 20), none, .iaddrS 2 (.s 15) (.s 17)⟩,
                          ⟨(some 21), none, .load (some 2) none (.s 20)⟩,
                          ⟨(some 8), none, .alloc 0 [.nilsl, .nilsl]⟩,
                          ⟨(some 7), none, .mv (.s 19)⟩,
                          ⟨none, none, .store 2 0 [] (.s 8) (.s 21)⟩])
                        (.seq
                          (.region false [
                            ⟨(some 22), none, .mv (.s 1)⟩,
                            ⟨(some 23), none, .mv (.s 7)⟩,
                            ⟨(some 24), none, .iaddrS 2 (.s 22) (.s 23)⟩,
                            ⟨(some 25), none, .load (some 2) none (.s 24)⟩,
                            ⟨(some 9), none, .alloc 1 [.nilsl, .nilsl]⟩,
                            ⟨none, none, .store 2 1 [] (.s 9) (.s 25)⟩])
                          (.seq
                            (.region false [
                              ⟨(some 26), none, .mv (.s 2)⟩,
                              ⟨(some 27), none, .load (some 2) (some 0) (.s 8)⟩,
                              ⟨(some 28), none, .load (some 2) (some 1) (.s 9)⟩,
                              ⟨(some 29), none, .call (.s 26) [(.s 27), (.s 28)] [] [] [] false⟩,
                              ⟨(some 30), none, .un .not (.s 29)⟩])
                            (.cond (.s 30)
                              (.seq
                                (.region false [
                                  ⟨(some 6), none, .mv (.c (.bool false))⟩])
                                .ret)
                              .skip)))))
                    (.region false [
                      ⟨(some 31), none, .bin .add .int (.s 17) (.c (.int .i64 1))⟩,
                      ⟨(some 17), none, .mv (.s 31)⟩])))))))
        (.seq
          (.region false [
            ⟨(some 6), none, .mv (.c (.bool true))⟩])
          .ret)))) }
/- slices.Equal[[]int,int] -/
def f39 : MFun := { nt := 26, np := 2, no := 0, res := [.slot 4], body :=
  (.seq
    (.region false [
      ⟨(some 4), none, .mv (.c (.bool false))⟩])
    (.seq
      (.seq
        (.region false [
          ⟨(some 6), none, .mv (.s 0)⟩,
          ⟨(some 7), none, .len (.s 6)⟩,
          ⟨(some 8), none, .mv (.s 1)⟩,
          ⟨(some 9), none, .len (.s 8)⟩,
          ⟨(some 10), none, .bin .neq .int (.s 7) (.s 9)⟩])
        (.cond (.s 10)
          (.seq
            (.region false [
              ⟨(some 4), none, .mv (.c (.bool false))⟩])
            .ret)
          .skip))
      (.seq
        (.seq
          (.region false [
            ⟨(some 11), none, .mv (.s 0)⟩,
            ⟨(some 12), none, .len (.s 11)⟩,
            ⟨(some 13), none, .mv (.c (.int .i64 0))⟩])
          (.block 0
            (.loop [0, 1, 12, 13] []
              (.seq
                (.region false [
                  ⟨(some 14), none, .bin .lss .int (.s 13) (.s 12)⟩])
                (.seq
                  (.cond (.s 14)
                    .skip
                    (.exit 0))
                  (.seq
                    (.block 1
                      (.seq
                        (.region false [
                          ⟨(some 15), none, .mv (.s 13)⟩,
                          ⟨(some 5), none, .mv (.s 15)⟩])
                        (.seq
                          (.region true [
                            ⟨(some 16), none, .mv (.s 0)⟩,
                            ⟨(some 17), none, .mv (.s 5)⟩,
                            ⟨(some 18), none, .iaddrS 1 (.s 16) (.s 17)⟩,
                            ⟨(some 19), none, .load none none (.s 18)⟩,
                            ⟨(some 20), none, .mv (.s 1)⟩,
                            ⟨(some 21), none, .mv (.s 5)⟩,
                            ⟨(some 22), none, .iaddrS 1 (.s 20) (.s 21)⟩,
                            ⟨(some 23), none, .load none none (.s 22)⟩,
                            ⟨(some 24), none, .bin .neq .int (.s 19) (.s 23)⟩])
                          (.cond (.s 24)
                            (.seq
                              (.region false [
                                ⟨(some 4), none, .mv (.c (.bool false))⟩])
                              .ret)
                            .skip))))
                    (.region false [
                      ⟨(some 25), none, .bin .add .int (.s 13) (.c (.int .i64 1))⟩,
                      ⟨(some 13), none, .mv (.s 25)⟩])))))))
        (.seq
          (.region false [
            ⟨(some 4), none, .mv (.c (.bool true))⟩])
          .ret)))) }
/- slices.EqualFunc[[][]int,[][]int,[]int,[]int] -/
def f40 : MFun := { nt := 32, np := 3, no := 0, res := [.slot 6], body :=
  (.seq
    (.region false [
      ⟨(some 6), none, .mv (.c (.bool false))⟩])
    (.seq
      (.seq
        (.region false [
          ⟨(some 10), none, .mv (.s 0)⟩,
          ⟨(some 11), none, .len (.s 10)⟩,
          ⟨(some 12), none, .mv (.s 1)⟩,
          ⟨(some 13), none, .len (.s 12)⟩,
          ⟨(some 14), none, .bin .neq .int (.s 11) (.s 13)⟩])
        (.cond (.s 14)
          (.seq
            (.region false [
              ⟨(some 6), none, .mv (.c (.bool false))⟩])
            .ret)
          .skip))
      (.seq
        (.seq
          (.region false [
            ⟨(some 15), none, .mv (.s 0)⟩,
            ⟨(some 16), none, .len (.s 15)⟩,
            ⟨(some 17), none, .mv (.c (.int .i64 0))⟩])
          (.block 0
            (.loop [1, 2, 15, 16, 17] []
              (.seq
                (.region false [
                  ⟨(some 18), none, .bin .lss .int (.s 17) (.s 16)⟩])
                (.seq
                  (.cond (.s 18)
                    .skip
                    (.exit 0))
                  (.seq
                    (.block 1
                      (.seq
                        (.region false [
                          ⟨(some 19), none, .mv (.s 17)⟩,
                          ⟨(some 20), none, .iaddrS 1 (.s 15) (.s 17)⟩,
                          ⟨(some 21), none, .load none none (.s 20)⟩,
                          ⟨(some 7), none, .mv (.s 19)⟩,
                          ⟨(some 8), none, .mv (.s 21)⟩])
                        (.seq
                          (.region false [
                            ⟨(some 22), none, .mv (.s 1)⟩,
                            ⟨(some 23), none, .mv (.s 7)⟩,
                            ⟨(some 24), none, .iaddrS 1 (.s 22) (.s 23)⟩,
                            ⟨(some 25), none, .load none none (.s 24)⟩,
                            ⟨(some 9), none, .mv (.s 25)⟩])
                          (.seq
                            (.region false [
                              ⟨(some 26), none, .mv (.s 2)⟩,
                              ⟨(some 27), none, .mv (.s 8)⟩,
                              ⟨(some 28), none, .mv (.s 9)⟩,
                              ⟨(some 29), none, .call (.s 26) [(.s 27), (.s 28)] [] [] [] false⟩,
                              ⟨(some 30), none, .un .not (.s 29)⟩])
                            (.cond (.s 30)
                              (.seq
                                (.region false [
                                  ⟨(some 6), none, .mv (.c (.bool false))⟩])
                                .ret)
                              .skip)))))
                    (.region false [
                      ⟨(some 31), none, .bin .add .int (.s 17) (.c (.int .i64 1))⟩,
                      ⟨(some 17), none, .mv (.s 31)⟩])))))))
        (.seq
          (.region false [
            ⟨(some 6), none, .mv (.c (.bool true))⟩])
          .ret)))) }
/- cuboid/schema.same -/
def f29 : MFun := { nt := 17, np := 2, no := 2, res := [.slot 4], body :=
  (.seq
    (.region false [
      ⟨(some 2), none, .box 0 (.s 0)⟩,
      ⟨(some 3), none, .box 1 (.s 1)⟩,
      ⟨(some 4), none, .mv (.c (.bool false))⟩])
    (.seq
      (.region false [
        ⟨(some 5), none, .faddr 0 (.s 2)⟩,
        ⟨(some 6), none, .load none (some 0) (.s 5)⟩,
        ⟨(some 7), none, .faddr 0 (.s 3)⟩,
        ⟨(some 8), none, .load none (some 1) (.s 7)⟩,
        ⟨(some 9), none, .call (.c (.fn 39 [] [])) [(.s 6), (.s 8)] [] [] [] false⟩,
        ⟨(some 10), none, .mv (.s 9)⟩,
        ⟨(some 11), (some (10, true)), .faddr 1 (.s 2)⟩,
        ⟨(some 12), (some (10, true)), .load none (some 0) (.s 11)⟩,
        ⟨(some 13), (some (10, true)), .faddr 1 (.s 3)⟩,
        ⟨(some 14), (some (10, true)), .load none (some 1) (.s 13)⟩,
        ⟨(some 15), (some (10, true)), .call (.c (.fn 40 [] [])) [(.s 12), (.s 14), (.c (.fn 39 [] []))] [] [] [] false⟩,
        ⟨(some 16), none, .pick (.s 10) (.s 15) (.c (.bool false))⟩,
        ⟨(some 4), none, .mv (.s 16)⟩])
      .ret)) }
/- cuboid/schema.Same -/
def f16 : MFun := { nt := 17, np := 2, no := 2, res := [.slot 4], body :=
  (.seq
    (.region false [
      ⟨(some 2), none, .box 0 (.s 0)⟩,
      ⟨(some 3), none, .box 1 (.s 1)⟩,
      ⟨(some 4), none, .mv (.c (.bool false))⟩])
    (.seq
      (.region false [
        ⟨(some 5), none, .faddr 1 (.s 2)⟩,
        ⟨(some 6), none, .load none (some 0) (.s 5)⟩,
        ⟨(some 7), none, .faddr 1 (.s 3)⟩,
        ⟨(some 8), none, .load none (some 1) (.s 7)⟩,
        ⟨(some 9), none, .bin .eql .int (.s 6) (.s 8)⟩,
        ⟨(some 10), none, .mv (.s 9)⟩,
        ⟨(some 11), (some (10, true)), .faddr 0 (.s 2)⟩,
        ⟨(some 12), (some (10, true)), .load none (some 0) (.s 11)⟩,
        ⟨(some 13), (some (10, true)), .faddr 0 (.s 3)⟩,
        ⟨(some 14), (some (10, true)), .load none (some 1) (.s 13)⟩,
        ⟨(some 15), (some (10, true)), .call (.c (.fn 28 [] [])) [(.s 12), (.s 14), (.c (.fn 29 [] []))] [] [] [] false⟩,
        ⟨(some 16), none, .pick (.s 10) (.s 15) (.c (.bool false))⟩,
        ⟨(some 4), none, .mv (.s 16)⟩])
      .ret)) }
/- slices.Clone[[]byte,byte] -/
def f45 : MFun := { nt := 8, np := 1, no := 1, res := [.slot 2], body :=
  (.seq
    (.region false [
      ⟨(some 2), none, .mv (.c .nilsl)⟩])
    (.seq
      (.seq
        (.region false [
          ⟨(some 3), none, .mv (.s 0)⟩,
          ⟨(some 4), none, .bin .eql .sl (.s 3) (.c .nilsl)⟩])
        (.cond (.s 4)
          (.seq
            (.region false [
              ⟨(some 2), none, .mv (.c .nilsl)⟩])
            .ret)
          .skip))
      (.seq
        (.region false [
          ⟨(some 5), none, .lit (some 0) [] 0 1 [.int .u8 0] []⟩,
          ⟨(some 6), none, .mv (.s 0)⟩,
          ⟨(some 7), none, .append 1 1 0 none (.s 5) (.s 6)⟩,
          ⟨(some 2), none, .mv (.s 7)⟩])
        .ret))) }
/- cuboid/code.Put -/
def f41 : MFun := { nt := 23, np := 2, no := 1, res := [.slot 4], body :=
  (.seq
    (.region false [
      ⟨(some 4), none, .mv (.c .nilsl)⟩])
    (.seq
      (.region false [
        ⟨(some 6), none, .mv (.s 0)⟩,
        ⟨(some 7), none, .call (.c (.fn 45 [] [])) [(.s 6)] [] [] [(0, 0)] true⟩,
        ⟨(some 5), none, .mv (.s 7)⟩])
      (.seq
        (.block 0
          (.loop [1, 5] [0]
            (.seq
              (.seq
                (.region false [
                  ⟨(some 8), none, .mv (.s 1)⟩,
                  ⟨(some 9), none, .bin .geq .int (.s 8) (.c (.int .u64 128))⟩])
                (.cond (.s 9)
                  .skip
                  (.exit 0)))
              (.block 1
                (.seq
                  (.region false [
                    ⟨(some 10), none, .mv (.s 5)⟩,
                    ⟨(some 11), none, .mv (.s 1)⟩,
                    ⟨(some 12), none, .conv .u8 (.s 11)⟩,
                    ⟨(some 13), none, .bin .or .int (.s 12) (.c (.int .u8 128))⟩,
                    ⟨(some 14), none, .lit none [] 1 1 [.int .u8 0] [(0, 1, (.s 13))]⟩,
                    ⟨(some 15), none, .append 1 1 0 none (.s 10) (.s 14)⟩,
                    ⟨(some 5), none, .mv (.s 15)⟩])
                  (.region false [
                    ⟨(some 16), none, .mv (.s 1)⟩,
                    ⟨(some 17), none, .bin .shr .int (.s 16) (.c (.int .u64 7))⟩,
                    ⟨(some 1), none, .mv (.s 17)⟩]))))))
        (.seq
          (.region false [
            ⟨(some 18), none, .mv (.s 5)⟩,
            ⟨(some 19), none, .mv (.s 1)⟩,
            ⟨(some 20), none, .conv .u8 (.s 19)⟩,
            ⟨(some 21), none, .lit none [] 1 1 [.int .u8 0] [(0, 1, (.s 20))]⟩,
            ⟨(some 22), none, .append 1 1 0 none (.s 18) (.s 21)⟩,
            ⟨(some 4), none, .mv (.s 22)⟩])
          .ret)))) }
/- (*cuboid/schema.writer).put -/
def f30 : MFun := { nt := 23, np := 2, no := 0, res := [], body :=
  (.seq
    (.region false [
      ⟨(some 6), none, .mv (.s 1)⟩,
      ⟨(some 7), none, .len (.s 6)⟩,
      ⟨(some 8), none, .mv (.c (.int .i64 0))⟩])
    (.block 0
      (.loop [0, 6, 7, 8] []
        (.seq
          (.region false [
            ⟨(some 9), none, .bin .lss .int (.s 8) (.s 7)⟩])
          (.seq
            (.cond (.s 9)
              .skip
              (.exit 0))
            (.seq
              (.block 1
                (.seq
                  (.region false [
                    ⟨(some 10), none, .iaddrS 1 (.s 6) (.s 8)⟩,
                    ⟨(some 11), none, .load none none (.s 10)⟩,
                    ⟨(some 5), none, .mv (.s 11)⟩])
                  (.region false [
                    ⟨(some 12), none, .mv (.s 0)⟩,
                    ⟨(some 13), none, .mv (.s 0)⟩,
                    ⟨(some 14), none, .nilchk (.s 13)⟩,
                    ⟨(some 15), none, .faddr 0 (.s 14)⟩,
                    ⟨(some 16), none, .load none (some 0) (.s 15)⟩,
                    ⟨(some 17), none, .mv (.s 5)⟩,
                    ⟨(some 18), none, .conv .u64 (.s 17)⟩,
                    ⟨(some 19), none, .call (.c (.fn 41 [] [])) [(.s 16), (.s 18)] [] [] [] true⟩,
                    ⟨(some 20), none, .nilchk (.s 12)⟩,
                    ⟨(some 21), none, .faddr 0 (.s 20)⟩,
                    ⟨none, none, .store 1 0 [] (.s 21) (.s 19)⟩])))
              (.region false [
                ⟨(some 22), none, .bin .add .int (.s 8) (.c (.int .i64 1))⟩,
                ⟨(some 8), none, .mv (.s 22)⟩]))))))) }
/- cuboid/schema.Bytes -/
def f17 : MFun := { nt := 46, np := 1, no := 3, res := [.slot 2], body :=
  (.seq
    (.region false [
      ⟨(some 1), none, .box 0 (.s 0)⟩,
      ⟨(some 2), none, .mv (.c .nilsl)⟩])
    (.seq
      (.seq
        (.region false [
          ⟨(some 8), none, .load (some 2) (some 0) (.s 1)⟩,
          ⟨(some 9), none, .call (.c (.fn 12 [] [])) [(.s 8)] [] [] [] false⟩,
          ⟨(some 10), none, .un .not (.s 9)⟩])
        (.cond (.s 10)
          (.seq
            (.region false [
              ⟨(some 2), none, .mv (.c .nilsl)⟩])
            .ret)
          .skip))
      (.seq
        (.region false [
          ⟨(some 3), none, .alloc 1 [.nilsl]⟩])
        (.seq
          (.region false [
            ⟨(some 11), none, .faddr 1 (.s 1)⟩,
            ⟨(some 12), none, .load none (some 0) (.s 11)⟩,
            ⟨(some 13), none, .faddr 0 (.s 1)⟩,
            ⟨(some 14), none, .load none (some 0) (.s 13)⟩,
            ⟨(some 15), none, .len (.s 14)⟩,
            ⟨(some 16), none, .lit none [] 2 1 [.int .i64 0] [(0, 1, (.s 12)), (1, 1, (.s 15))]⟩,
            ⟨(some 17), none, .call (.c (.fn 30 [] [])) [(.s 3), (.s 16)] [1] [] [] true⟩])
          (.seq
            (.seq
              (.region false [
                ⟨(some 18), none, .faddr 0 (.s 1)⟩,
                ⟨(some 19), none, .load none (some 0) (.s 18)⟩,
                ⟨(some 20), none, .len (.s 19)⟩,
                ⟨(some 21), none, .mv (.c (.int .i64 0))⟩])
              (.block 0
                (.loop [3, 19, 20, 21] [1]
                  (.seq
                    (.region false [
                      ⟨(some 22), none, .bin .lss .int (.s 21) (.s 20)⟩])
                    (.seq
                      (.cond (.s 22)
                        .skip
                        (.exit 0))
                      (.seq
                        (.block 1
                          (.seq
                            (.region false [
                              ⟨(some 23), none, .iaddrS 2 (.s 19) (.s 21)⟩,
                              ⟨(some 24), none, .load (some 2) none (.s 23)⟩,
                              ⟨(some 5), none, .alloc 2 [.nilsl, .nilsl]⟩,
                              ⟨none, none, .store 2 2 [] (.s 5) (.s 24)⟩])
                            (.seq
                              (.region false [
                                ⟨(some 25), none, .faddr 0 (.s 5)⟩,
                                ⟨(some 26), none, .load none (some 2) (.s 25)⟩,
                                ⟨(some 27), none, .len (.s 26)⟩,
                                ⟨(some 28), none, .lit none [] 1 1 [.int .i64 0] [(0, 1, (.s 27))]⟩,
                                ⟨(some 29), none, .call (.c (.fn 30 [] [])) [(.s 3), (.s 28)] [1] [] [] true⟩])
                              (.seq
                                (.region false [
                                  ⟨(some 30), none, .faddr 0 (.s 5)⟩,
                                  ⟨(some 31), none, .load none (some 2) (.s 30)⟩,
                                  ⟨(some 32), none, .call (.c (.fn 30 [] [])) [(.s 3), (.s 31)] [1] [] [] true⟩])
                                (.seq
                                  (.region false [
                                    ⟨(some 33), none, .faddr 1 (.s 5)⟩,
                                    ⟨(some 34), none, .load none (some 2) (.s 33)⟩,
                                    ⟨(some 35), none, .len (.s 34)⟩,
                                    ⟨(some 36), none, .mv (.c (.int .i64 0))⟩])
                                  (.block 2
                                    (.loop [3, 19, 20, 21, 34, 35, 36] [1]
                                      (.seq
                                        (.region false [
                                          ⟨(some 37), none, .bin .lss .int (.s 36) (.s 35)⟩])
                                        (.seq
                                          (.cond (.s 37)
                                            .skip
                                            (.exit 2))
                                          (.seq
                                            (.block 3
                                              (.seq
                                                (.region false [
                                                  ⟨(some 38), none, .iaddrS 1 (.s 34) (.s 36)⟩,
                                                  ⟨(some 39), none, .load none none (.s 38)⟩,
                                                  ⟨(some 7), none, .mv (.s 39)⟩])
                                                (.region false [
                                                  ⟨(some 40), none, .mv (.s 7)⟩,
                                                  ⟨(some 41), none, .call (.c (.fn 30 [] [])) [(.s 3), (.s 40)] [1] [] [] true⟩])))
                                            (.region false [
                                              ⟨(some 42), none, .bin .add .int (.s 36) (.c (.int .i64 1))⟩,
                                              ⟨(some 36), none, .mv (.s 42)⟩])))))))))))
                        (.region false [
                          ⟨(some 43), none, .bin .add .int (.s 21) (.c (.int .i64 1))⟩,
                          ⟨(some 21), none, .mv (.s 43)⟩])))))))
            (.seq
              (.region false [
                ⟨(some 44), none, .faddr 0 (.s 3)⟩,
                ⟨(some 45), none, .load none (some 1) (.s 44)⟩,
                ⟨(some 2), none, .mv (.s 45)⟩])
              .ret)))))) }
/- cuboid/code.Get -/
def f42 : MFun := { nt := 47, np := 1, no := 0, res := [.slot 2, .slot 3, .slot 4], body :=
  (.seq
    (.region false [
      ⟨(some 2), none, .mv (.c (.int .u64 0))⟩,
      ⟨(some 3), none, .mv (.c (.int .i64 0))⟩,
      ⟨(some 4), none, .mv (.c (.bool false))⟩])
    (.seq
      (.region false [
        ⟨(some 5), none, .mv (.c (.int .u64 0))⟩])
      (.seq
        (.seq
          (.region false [
            ⟨(some 8), none, .mv (.s 0)⟩,
            ⟨(some 9), none, .mv (.s 0)⟩,
            ⟨(some 10), none, .len (.s 9)⟩,
            ⟨(some 11), none, .minmax false [(.s 10), (.c (.int .i64 10))]⟩,
            ⟨(some 12), none, .sliceS 1 (.s 8) none (some (.s 11))⟩,
            ⟨(some 13), none, .len (.s 12)⟩,
            ⟨(some 14), none, .mv (.c (.int .i64 0))⟩])
          (.block 0
            (.loop [5, 12, 13, 14] []
              (.seq
                (.region false [
                  ⟨(some 15), none, .bin .lss .int (.s 14) (.s 13)⟩])
                (.seq
                  (.cond (.s 15)
                    .skip
                    (.exit 0))
                  (.seq
                    (.block 1
                      (.seq
                        (.region false [
                          ⟨(some 16), none, .mv (.s 14)⟩,
                          ⟨(some 17), none, .iaddrS 1 (.s 12) (.s 14)⟩,
                          ⟨(some 18), none, .load none none (.s 17)⟩,
                          ⟨(some 6), none, .mv (.s 16)⟩,
                          ⟨(some 7), none, .mv (.s 18)⟩])
                        (.seq
                          (.region false [
                            ⟨(some 19), none, .mv (.s 5)⟩,
                            ⟨(some 20), none, .mv (.s 7)⟩,
                            ⟨(some 21), none, .bin .and .int (.s 20) (.c (.int .u8 127))⟩,
                            ⟨(some 22), none, .conv .u64 (.s 21)⟩,
                            ⟨(some 23), none, .mv (.s 6)⟩,
                            ⟨(some 24), none, .bin .mul .int (.c (.int .i64 7)) (.s 23)⟩,
                            ⟨(some 25), none, .bin .shl .int (.s 22) (.s 24)⟩,
                            ⟨(some 26), none, .bin .or .int (.s 19) (.s 25)⟩,
                            ⟨(some 5), none, .mv (.s 26)⟩])
                          (.seq
                            (.seq
                              (.region false [
                                ⟨(some 27), none, .mv (.s 7)⟩,
                                ⟨(some 28), none, .bin .geq .int (.s 27) (.c (.int .u8 128))⟩])
                              (.cond (.s 28)
                                (.exit 1)
                                .skip))
                            (.seq
                              (.seq
                                (.region false [
                                  ⟨(some 29), none, .mv (.s 6)⟩,
                                  ⟨(some 30), none, .bin .eql .int (.s 29) (.c (.int .i64 9))⟩,
                                  ⟨(some 31), none, .mv (.s 30)⟩,
                                  ⟨(some 32), (some (31, true)), .mv (.s 7)⟩,
                                  ⟨(some 33), (some (31, true)), .bin .gtr .int (.s 32) (.c (.int .u8 1))⟩,
                                  ⟨(some 34), none, .pick (.s 31) (.s 33) (.c (.bool false))⟩,
                                  ⟨(some 35), none, .mv (.s 34)⟩,
                                  ⟨(some 36), (some (35, false)), .mv (.s 6)⟩,
                                  ⟨(some 37), (some (35, false)), .bin .gtr .int (.s 36) (.c (.int .i64 0))⟩,
                                  ⟨(some 38), (some (35, false)), .mv (.s 37)⟩,
                                  ⟨(some 39), (some (38, true)), .mv (.s 7)⟩,
                                  ⟨(some 40), (some (38, true)), .bin .eql .int (.s 39) (.c (.int .u8 0))⟩,
                                  ⟨(some 41), (some (35, false)), .pick (.s 38) (.s 40) (.c (.bool false))⟩,
                                  ⟨(some 42), none, .pick (.s 35) (.c (.bool true)) (.s 41)⟩])
                                (.cond (.s 42)
                                  (.seq
                                    (.region false [
                                      ⟨(some 2), none, .mv (.c (.int .u64 0))⟩,
                                      ⟨(some 3), none, .mv (.c (.int .i64 0))⟩,
                                      ⟨(some 4), none, .mv (.c (.bool false))⟩])
                                    .ret)
                                  .skip))
                              (.seq
                                (.region false [
                                  ⟨(some 43), none, .mv (.s 5)⟩,
                                  ⟨(some 44), none, .mv (.s 6)⟩,
                                  ⟨(some 45), none, .bin .add .int (.s 44) (.c (.int .i64 1))⟩,
                                  ⟨(some 2), none, .mv (.s 43)⟩,
                                  ⟨(some 3), none, .mv (.s 45)⟩,
                                  ⟨(some 4), none, .mv (.c (.bool true))⟩])
                                .ret))))))
                    (.region false [
                      ⟨(some 46), none, .bin .add .int (.s 14) (.c (.int .i64 1))⟩,
                      ⟨(some 14), none, .mv (.s 46)⟩])))))))
        (.seq
          (.region false [
            ⟨(some 2), none, .mv (.c (.int .u64 0))⟩,
            ⟨(some 3), none, .mv (.c (.int .i64 0))⟩,
            ⟨(some 4), none, .mv (.c (.bool false))⟩])
          .ret)))) }
/- (*cuboid/schema.reader).num -/
def f34 : MFun := { nt := 49, np := 2, no := 0, res := [.slot 4], body :=
  (.seq
    (.region false [
      ⟨(some 4), none, .mv (.c (.int .i64 0))⟩])
    (.seq
      (.region false [
        ⟨(some 9), none, .mv (.s 0)⟩,
        ⟨(some 10), none, .nilchk (.s 9)⟩,
        ⟨(some 11), none, .faddr 0 (.s 10)⟩,
        ⟨(some 12), none, .load none (some 0) (.s 11)⟩,
        ⟨(some 13), none, .call (.c (.fn 42 [] [])) [(.s 12)] [] [] [] false⟩,
        ⟨(some 8), none, .mv (.s 13)⟩,
        ⟨(some 14), none, .extract (.s 8) 0⟩,
        ⟨(some 15), none, .extract (.s 8) 1⟩,
        ⟨(some 16), none, .extract (.s 8) 2⟩,
        ⟨(some 5), none, .mv (.s 14)⟩,
        ⟨(some 6), none, .mv (.s 15)⟩,
        ⟨(some 7), none, .mv (.s 16)⟩])
      (.seq
        (.seq
          (.region false [
            ⟨(some 17), none, .mv (.s 0)⟩,
            ⟨(some 18), none, .mv (.s 0)⟩,
            ⟨(some 19), none, .nilchk (.s 18)⟩,
            ⟨(some 20), none, .faddr 1 (.s 19)⟩,
            ⟨(some 21), none, .load none (some 0) (.s 20)⟩,
            ⟨(some 22), none, .mv (.s 21)⟩,
            ⟨(some 23), (some (22, false)), .mv (.s 7)⟩,
            ⟨(some 24), (some (22, false)), .un .not (.s 23)⟩,
            ⟨(some 25), none, .pick (.s 22) (.c (.bool true)) (.s 24)⟩,
            ⟨(some 26), none, .mv (.s 25)⟩,
            ⟨(some 27), (some (26, false)), .mv (.s 5)⟩,
            ⟨(some 28), (some (26, false)), .mv (.s 1)⟩,
            ⟨(some 29), (some (26, false)), .conv .u64 (.s 28)⟩,
            ⟨(some 30), (some (26, false)), .bin .gtr .int (.s 27) (.s 29)⟩,
            ⟨(some 31), none, .pick (.s 26) (.c (.bool true)) (.s 30)⟩,
            ⟨(some 32), none, .nilchk (.s 17)⟩,
            ⟨(some 33), none, .faddr 1 (.s 32)⟩,
            ⟨none, none, .store 1 0 [] (.s 33) (.s 31)⟩])
          (.seq
            (.region false [
              ⟨(some 34), none, .mv (.s 0)⟩,
              ⟨(some 35), none, .nilchk (.s 34)⟩,
              ⟨(some 36), none, .faddr 1 (.s 35)⟩,
              ⟨(some 37), none, .load none (some 0) (.s 36)⟩])
            (.cond (.s 37)
              (.seq
                (.region false [
                  ⟨(some 4), none, .mv (.c (.int .i64 0))⟩])
                .ret)
              .skip)))
        (.seq
          (.region false [
            ⟨(some 38), none, .mv (.s 0)⟩,
            ⟨(some 39), none, .mv (.s 0)⟩,
            ⟨(some 40), none, .nilchk (.s 39)⟩,
            ⟨(some 41), none, .faddr 0 (.s 40)⟩,
            ⟨(some 42), none, .load none (some 0) (.s 41)⟩,
            ⟨(some 43), none, .mv (.s 6)⟩,
            ⟨(some 44), none, .sliceS 1 (.s 42) (some (.s 43)) none⟩,
            ⟨(some 45), none, .nilchk (.s 38)⟩,
            ⟨(some 46), none, .faddr 0 (.s 45)⟩,
            ⟨none, none, .store 1 0 [] (.s 46) (.s 44)⟩])
          (.seq
            (.region false [
              ⟨(some 47), none, .mv (.s 5)⟩,
              ⟨(some 48), none, .conv .i64 (.s 47)⟩,
              ⟨(some 4), none, .mv (.s 48)⟩])
            .ret))))) }
/- (*cuboid/schema.reader).list -/
def f43 : MFun := { nt := 19, np := 3, no := 1, res := [.slot 6], body :=
  (.seq
    (.region false [
      ⟨(some 6), none, .mv (.c .nilsl)⟩])
    (.seq
      (.region false [
        ⟨(some 7), none, .vnil 1 1⟩])
      (.seq
        (.seq
          (.region false [
            ⟨(some 8), none, .mv (.s 1)⟩,
            ⟨(some 9), none, .mv (.c (.int .i64 0))⟩])
          (.block 0
            (.loop [0, 2, 7, 8, 9] [1]
              (.seq
                (.region false [
                  ⟨(some 10), none, .bin .lss .int (.s 9) (.s 8)⟩])
                (.seq
                  (.cond (.s 10)
                    .skip
                    (.exit 0))
                  (.seq
                    (.block 1
                      (.region false [
                        ⟨(some 11), none, .mv (.s 7)⟩,
                        ⟨(some 12), none, .mv (.s 0)⟩,
                        ⟨(some 13), none, .mv (.s 2)⟩,
                        ⟨(some 14), none, .call (.c (.fn 34 [] [])) [(.s 12), (.s 13)] [0] [] [] true⟩,
                        ⟨(some 15), none, .lit none [] 1 1 [.int .i64 0] [(0, 1, (.s 14))]⟩,
                        ⟨(some 16), none, .append 8 1 1 none (.s 11) (.s 15)⟩,
                        ⟨(some 7), none, .mv (.s 16)⟩]))
                    (.region false [
                      ⟨(some 17), none, .bin .add .int (.s 9) (.c (.int .i64 1))⟩,
                      ⟨(some 9), none, .mv (.s 17)⟩])))))))
        (.seq
          (.region false [
            ⟨(some 18), none, .mv (.s 7)⟩,
            ⟨(some 6), none, .mv (.s 18)⟩])
          .ret)))) }
/- (*cuboid/schema.reader).dim -/
def f35 : MFun := { nt := 31, np := 1, no := 3, res := [.cell 2 1 (some 2)], body :=
  (.seq
    (.region false [
      ⟨(some 2), none, .alloc 1 [.nilsl, .nilsl]⟩])
    (.seq
      (.region false [
        ⟨(some 5), none, .mv (.s 0)⟩,
        ⟨(some 6), none, .mv (.s 0)⟩,
        ⟨(some 7), none, .call (.c (.fn 34 [] [])) [(.s 6), (.c (.int .i64 4))] [0] [] [] true⟩,
        ⟨(some 8), none, .call (.c (.fn 43 [] [])) [(.s 5), (.s 7), (.c (.int .i64 40))] [0] [] [] true⟩,
        ⟨(some 9), none, .build [.nilsl, .nilsl] [(0, 1, (.s 8))]⟩,
        ⟨(some 3), none, .alloc 2 [.nilsl, .nilsl]⟩,
        ⟨none, none, .store 2 2 [] (.s 3) (.s 9)⟩])
      (.seq
        (.seq
          (.region false [
            ⟨(some 10), none, .faddr 0 (.s 3)⟩,
            ⟨(some 11), none, .load none (some 2) (.s 10)⟩,
            ⟨(some 12), none, .len (.s 11)⟩,
            ⟨(some 13), none, .bin .sub .int (.s 12) (.c (.int .i64 1))⟩,
            ⟨(some 14), none, .mv (.c (.int .i64 0))⟩])
          (.block 0
            (.loop [0, 2, 3, 13, 14] [1, 2, 3]
              (.seq
                (.region false [
                  ⟨(some 15), none, .bin .lss .int (.s 14) (.s 13)⟩])
                (.seq
                  (.cond (.s 15)
                    .skip
                    (.exit 0))
                  (.seq
                    (.block 1
                      (.seq
                        (.region false [
                          ⟨(some 16), none, .mv (.s 14)⟩,
                          ⟨(some 4), none, .mv (.s 16)⟩])
                        (.region true [
                          ⟨(some 17), none, .faddr 1 (.s 3)⟩,
                          ⟨(some 18), none, .load none (some 2) (.s 17)⟩,
                          ⟨(some 19), none, .mv (.s 0)⟩,
                          ⟨(some 20), none, .faddr 0 (.s 3)⟩,
                          ⟨(some 21), none, .load none (some 2) (.s 20)⟩,
                          ⟨(some 22), none, .mv (.s 4)⟩,
                          ⟨(some 23), none, .iaddrS 1 (.s 21) (.s 22)⟩,
                          ⟨(some 24), none, .load none none (.s 23)⟩,
                          ⟨(some 25), none, .call (.c (.fn 43 [] [])) [(.s 19), (.s 24), (.c (.int .i64 40))] [0] [] [] true⟩,
                          ⟨(some 26), none, .lit none [] 1 1 [.nilsl] [(0, 1, (.s 25))]⟩,
                          ⟨(some 27), none, .append 24 1 3 none (.s 18) (.s 26)⟩,
                          ⟨(some 28), none, .faddr 1 (.s 3)⟩,
                          ⟨none, none, .store 1 2 [] (.s 28) (.s 27)⟩])))
                    (.region false [
                      ⟨(some 29), none, .bin .add .int (.s 14) (.c (.int .i64 1))⟩,
                      ⟨(some 14), none, .mv (.s 29)⟩])))))))
        (.seq
          (.region false [
            ⟨(some 30), none, .load (some 2) (some 2) (.s 3)⟩,
            ⟨none, none, .store 2 1 [] (.s 2) (.s 30)⟩])
          .ret)))) }
/- cuboid/schema.Read -/
def f20 : MFun := { nt := 43, np := 1, no := 4, res := [.cell 2 0 (some 2), .slot 3], body :=
  (.seq
    (.region false [
      ⟨(some 2), none, .alloc 0 [.nilsl, .int .i64 0]⟩,
      ⟨(some 3), none, .mv (.c (.bool false))⟩])
    (.seq
      (.region false [
        ⟨(some 6), none, .mv (.s 0)⟩,
        ⟨(some 7), none, .build [.nilsl, .bool false] [(0, 1, (.s 6))]⟩,
        ⟨(some 8), none, .box 1 (.s 7)⟩,
        ⟨(some 4), none, .mv (.s 8)⟩])
      (.seq
        (.region false [
          ⟨(some 9), none, .mv (.s 4)⟩,
          ⟨(some 10), none, .call (.c (.fn 34 [] [])) [(.s 9), (.c (.int .i64 2))] [1] [] [] true⟩,
          ⟨(some 11), none, .build [.nilsl, .int .i64 0] [(1, 1, (.s 10))]⟩,
          ⟨(some 5), none, .alloc 2 [.nilsl, .int .i64 0]⟩,
          ⟨none, none, .store 2 2 [] (.s 5) (.s 11)⟩])
        (.seq
          (.seq
            (.region false [
              ⟨(some 12), none, .mv (.s 4)⟩,
              ⟨(some 13), none, .call (.c (.fn 34 [] [])) [(.s 12), (.c (.int .i64 4))] [1] [] [] true⟩,
              ⟨(some 14), none, .mv (.c (.int .i64 0))⟩])
            (.block 0
              (.loop [2, 4, 5, 13, 14] [0, 1, 2, 3]
                (.seq
                  (.region false [
                    ⟨(some 15), none, .bin .lss .int (.s 14) (.s 13)⟩])
                  (.seq
                    (.cond (.s 15)
                      .skip
                      (.exit 0))
                    (.seq
                      (.block 1
                        (.region true [
                          ⟨(some 16), none, .faddr 0 (.s 5)⟩,
                          ⟨(some 17), none, .load none (some 2) (.s 16)⟩,
                          ⟨(some 18), none, .mv (.s 4)⟩,
                          ⟨(some 19), none, .call (.c (.fn 35 [] [])) [(.s 18)] [1] [] [] true⟩,
                          ⟨(some 20), none, .lit none [] 1 2 [.nilsl, .nilsl] [(0, 2, (.s 19))]⟩,
                          ⟨(some 21), none, .append 48 2 3 none (.s 17) (.s 20)⟩,
                          ⟨(some 22), none, .faddr 0 (.s 5)⟩,
                          ⟨none, none, .store 1 2 [] (.s 22) (.s 21)⟩]))
                      (.region false [
                        ⟨(some 23), none, .bin .add .int (.s 14) (.c (.int .i64 1))⟩,
                        ⟨(some 14), none, .mv (.s 23)⟩])))))))
          (.seq
            (.seq
              (.region false [
                ⟨(some 24), none, .mv (.s 4)⟩,
                ⟨(some 25), none, .nilchk (.s 24)⟩,
                ⟨(some 26), none, .faddr 1 (.s 25)⟩,
                ⟨(some 27), none, .load none (some 1) (.s 26)⟩,
                ⟨(some 28), none, .mv (.s 27)⟩,
                ⟨(some 29), (some (28, false)), .mv (.s 4)⟩,
                ⟨(some 30), (some (28, false)), .nilchk (.s 29)⟩,
                ⟨(some 31), (some (28, false)), .faddr 0 (.s 30)⟩,
                ⟨(some 32), (some (28, false)), .load none (some 1) (.s 31)⟩,
                ⟨(some 33), (some (28, false)), .len (.s 32)⟩,
                ⟨(some 34), (some (28, false)), .bin .gtr .int (.s 33) (.c (.int .i64 0))⟩,
                ⟨(some 35), none, .pick (.s 28) (.c (.bool true)) (.s 34)⟩,
                ⟨(some 36), none, .mv (.s 35)⟩,
                ⟨(some 37), (some (36, false)), .load (some 2) (some 2) (.s 5)⟩,
                ⟨(some 38), (some (36, false)), .call (.c (.fn 12 [] [])) [(.s 37)] [] [3] [] false⟩,
                ⟨(some 39), (some (36, false)), .un .not (.s 38)⟩,
                ⟨(some 40), none, .pick (.s 36) (.c (.bool true)) (.s 39)⟩])
              (.cond (.s 40)
                (.seq
                  (.region false [
                    ⟨(some 41), none, .build [.nilsl, .int .i64 0] []⟩,
                    ⟨none, none, .store 2 0 [] (.s 2) (.s 41)⟩,
                    ⟨(some 3), none, .mv (.c (.bool false))⟩])
                  .ret)
                .skip))
            (.seq
              (.region false [
                ⟨(some 42), none, .load (some 2) (some 2) (.s 5)⟩,
                ⟨none, none, .store 2 0 [] (.s 2) (.s 42)⟩,
                ⟨(some 3), none, .mv (.c (.bool true))⟩])
              .ret)))))) }
/- cuboid/cuboidlaw04.wakes -/
def f9 : MFun := { nt := 60, np := 0, no := 3, res := [.slot 0], body :=
  (.seq
    (.region false [
      ⟨(some 0), none, .mv (.c (.bool false))⟩])
    (.seq
      (.region false [
        ⟨(some 7), none, .lit none [] 1 1 [.int .i64 0] [(0, 1, (.c (.int .i64 3)))]⟩,
        ⟨(some 8), none, .build [.nilsl, .nilsl] [(0, 1, (.s 7))]⟩,
        ⟨(some 9), none, .lit none [] 1 2 [.nilsl, .nilsl] [(0, 2, (.s 8))]⟩,
        ⟨(some 10), none, .build [.nilsl, .int .i64 0] [(0, 1, (.s 9)), (1, 1, (.c (.int .i64 1)))]⟩,
        ⟨(some 1), none, .alloc 0 [.nilsl, .int .i64 0]⟩,
        ⟨none, none, .store 2 0 [] (.s 1) (.s 10)⟩])
      (.seq
        (.region false [
          ⟨(some 11), none, .load (some 2) (some 0) (.s 1)⟩,
          ⟨(some 12), none, .call (.c (.fn 17 [] [])) [(.s 11)] [] [] [] true⟩,
          ⟨(some 2), none, .mv (.s 12)⟩])
        (.seq
          (.region false [
            ⟨(some 14), none, .lit none [] 4 1 [.int .u8 0] [(0, 1, (.c (.int .u8 1))), (1, 1, (.c (.int .u8 1))), (2, 1, (.c (.int .u8 1))), (3, 1, (.c (.int .u8 3)))]⟩,
            ⟨(some 15), none, .call (.c (.fn 20 [] [])) [(.s 14)] [] [] [] true⟩,
            ⟨(some 13), none, .mv (.s 15)⟩,
            ⟨(some 16), none, .extract (.s 13) 0⟩,
            ⟨(some 17), none, .extract (.s 13) 1⟩,
            ⟨(some 3), none, .alloc 1 [.nilsl, .int .i64 0]⟩,
            ⟨none, none, .store 2 1 [] (.s 3) (.s 16)⟩,
            ⟨(some 4), none, .mv (.s 17)⟩])
          (.seq
            (.region false [
              ⟨(some 19), none, .lit none [] 5 1 [.int .u8 0] [(0, 1, (.c (.int .u8 1))), (1, 1, (.c (.int .u8 1))), (2, 1, (.c (.int .u8 1))), (3, 1, (.c (.int .u8 3))), (4, 1, (.c (.int .u8 0)))]⟩,
              ⟨(some 20), none, .call (.c (.fn 20 [] [])) [(.s 19)] [] [] [] true⟩,
              ⟨(some 18), none, .mv (.s 20)⟩,
              ⟨(some 21), none, .extract (.s 18) 0⟩,
              ⟨(some 22), none, .extract (.s 18) 1⟩,
              ⟨(some 5), none, .alloc 2 [.nilsl, .int .i64 0]⟩,
              ⟨none, none, .store 2 2 [] (.s 5) (.s 21)⟩,
              ⟨(some 6), none, .mv (.s 22)⟩])
            (.seq
              (.region false [
                ⟨(some 23), none, .load (some 2) (some 0) (.s 1)⟩,
                ⟨(some 24), none, .call (.c (.fn 12 [] [])) [(.s 23)] [] [] [] false⟩,
                ⟨(some 25), none, .mv (.s 24)⟩,
                ⟨(some 26), (some (25, true)), .mv (.s 2)⟩,
                ⟨(some 27), (some (25, true)), .b2s none (.s 26)⟩,
                ⟨(some 28), (some (25, true)), .bin .eql .str (.s 27) (.c (.str [1, 1, 1, 3]))⟩,
                ⟨(some 29), none, .pick (.s 25) (.s 28) (.c (.bool false))⟩,
                ⟨(some 30), none, .mv (.s 29)⟩,
                ⟨(some 31), (some (30, true)), .mv (.s 4)⟩,
                ⟨(some 32), none, .pick (.s 30) (.s 31) (.c (.bool false))⟩,
                ⟨(some 33), none, .mv (.s 32)⟩,
                ⟨(some 34), (some (33, true)), .load (some 2) (some 0) (.s 1)⟩,
                ⟨(some 35), (some (33, true)), .load (some 2) (some 1) (.s 3)⟩,
                ⟨(some 36), (some (33, true)), .call (.c (.fn 16 [] [])) [(.s 34), (.s 35)] [] [] [] false⟩,
                ⟨(some 37), none, .pick (.s 33) (.s 36) (.c (.bool false))⟩,
                ⟨(some 38), none, .mv (.s 37)⟩,
                ⟨(some 39), (some (38, true)), .mv (.s 6)⟩,
                ⟨(some 40), (some (38, true)), .un .not (.s 39)⟩,
                ⟨(some 41), none, .pick (.s 38) (.s 40) (.c (.bool false))⟩,
                ⟨(some 42), none, .mv (.s 41)⟩,
                ⟨(some 43), (some (42, true)), .load (some 2) (some 0) (.s 1)⟩,
                ⟨(some 44), (some (42, true)), .call (.c (.fn 10 [] [])) [(.s 43), (.c (.int .i64 0))] [] [] [] false⟩,
                ⟨(some 45), (some (42, true)), .bin .eql .int (.s 44) (.c (.int .i64 2))⟩,
                ⟨(some 46), none, .pick (.s 42) (.s 45) (.c (.bool false))⟩,
                ⟨(some 47), none, .mv (.s 46)⟩,
                ⟨(some 48), (some (47, true)), .load (some 2) (some 0) (.s 1)⟩,
                ⟨(some 49), (some (47, true)), .build [.int .u8 0, .int .u8 0, .int .u8 0, .int .u8 0] [(0, 1, (.c (.int .u8 1)))]⟩,
                ⟨(some 50), (some (47, true)), .build [.int .u8 0, .int .u8 0, .int .u8 0, .int .u8 0] []⟩,
                ⟨(some 51), (some (47, true)), .call (.c (.fn 14 [] [])) [(.s 48), (.s 49), (.s 50)] [] [] [] false⟩,
                ⟨(some 52), none, .pick (.s 47) (.s 51) (.c (.bool false))⟩,
                ⟨(some 53), none, .mv (.s 52)⟩,
                ⟨(some 54), (some (53, true)), .load (some 2) (some 0) (.s 1)⟩,
                ⟨(some 55), (some (53, true)), .build [.int .u8 0, .int .u8 0, .int .u8 0, .int .u8 0] []⟩,
                ⟨(some 56), (some (53, true)), .build [.int .u8 0, .int .u8 0, .int .u8 0, .int .u8 0] [(0, 1, (.c (.int .u8 3)))]⟩,
                ⟨(some 57), (some (53, true)), .call (.c (.fn 14 [] [])) [(.s 54), (.s 55), (.s 56)] [] [] [] false⟩,
                ⟨(some 58), (some (53, true)), .un .not (.s 57)⟩,
                ⟨(some 59), none, .pick (.s 53) (.s 58) (.c (.bool false))⟩,
                ⟨(some 0), none, .mv (.s 59)⟩])
              .ret)))))) }
/- cuboid/cuboidref03.Good -/
def f25 : MFun := { nt := 97, np := 1, no := 1, res := [.slot 2], body :=
  (.seq
    (.region false [
      ⟨(some 1), none, .box 0 (.s 0)⟩,
      ⟨(some 2), none, .mv (.c (.bool false))⟩])
    (.seq
      (.region false [
        ⟨(some 7), none, .faddr 0 (.s 1)⟩,
        ⟨(some 8), none, .load none (some 0) (.s 7)⟩,
        ⟨(some 9), none, .len (.s 8)⟩,
        ⟨(some 3), none, .mv (.s 9)⟩])
      (.seq
        (.seq
          (.region false [
            ⟨(some 10), none, .mv (.s 3)⟩,
            ⟨(some 11), none, .bin .lss .int (.s 10) (.c (.int .i64 1))⟩,
            ⟨(some 12), none, .mv (.s 11)⟩,
            ⟨(some 13), (some (12, false)), .mv (.s 3)⟩,
            ⟨(some 14), (some (12, false)), .bin .gtr .int (.s 13) (.c (.int .i64 4))⟩,
            ⟨(some 15), none, .pick (.s 12) (.c (.bool true)) (.s 14)⟩,
            ⟨(some 16), none, .mv (.s 15)⟩,
            ⟨(some 17), (some (16, false)), .faddr 1 (.s 1)⟩,
            ⟨(some 18), (some (16, false)), .load none (some 0) (.s 17)⟩,
            ⟨(some 19), (some (16, false)), .len (.s 18)⟩,
            ⟨(some 20), (some (16, false)), .mv (.s 3)⟩,
            ⟨(some 21), (some (16, false)), .bin .sub .int (.s 20) (.c (.int .i64 1))⟩,
            ⟨(some 22), (some (16, false)), .bin .neq .int (.s 19) (.s 21)⟩,
            ⟨(some 23), none, .pick (.s 16) (.c (.bool true)) (.s 22)⟩])
          (.cond (.s 23)
            (.seq
              (.region false [
                ⟨(some 2), none, .mv (.c (.bool false))⟩])
              .ret)
            .skip))
        (.seq
          (.seq
            (.region false [
              ⟨(some 4), none, .mv (.c (.int .i64 0))⟩])
            (.block 0
              (.loop [1, 3, 4] [0]
                (.seq
                  (.seq
                    (.region false [
                      ⟨(some 24), none, .mv (.s 4)⟩,
                      ⟨(some 25), none, .mv (.s 3)⟩,
                      ⟨(some 26), none, .bin .lss .int (.s 24) (.s 25)⟩])
                    (.cond (.s 26)
                      .skip
                      (.exit 0)))
                  (.seq
                    (.block 1
                      (.seq
                        (.region false [
                          ⟨(some 29), none, .faddr 0 (.s 1)⟩,
                          ⟨(some 30), none, .load none (some 0) (.s 29)⟩,
                          ⟨(some 31), none, .mv (.s 4)⟩,
                          ⟨(some 32), none, .iaddrS 1 (.s 30) (.s 31)⟩,
                          ⟨(some 33), none, .load none none (.s 32)⟩,
                          ⟨(some 34), none, .bin .lss .int (.s 33) (.c (.int .i64 1))⟩,
                          ⟨(some 35), none, .mv (.s 34)⟩,
                          ⟨(some 36), (some (35, false)), .faddr 0 (.s 1)⟩,
                          ⟨(some 37), (some (35, false)), .load none (some 0) (.s 36)⟩,
                          ⟨(some 38), (some (35, false)), .mv (.s 4)⟩,
                          ⟨(some 39), (some (35, false)), .iaddrS 1 (.s 37) (.s 38)⟩,
                          ⟨(some 40), (some (35, false)), .load none none (.s 39)⟩,
                          ⟨(some 41), (some (35, false)), .bin .gtr .int (.s 40) (.c (.int .i64 40))⟩,
                          ⟨(some 42), none, .pick (.s 35) (.c (.bool true)) (.s 41)⟩])
                        (.cond (.s 42)
                          (.seq
                            (.region false [
                              ⟨(some 2), none, .mv (.c (.bool false))⟩])
                            .ret)
                          .skip)))
                    (.region false [
                      ⟨(some 27), none, .mv (.s 4)⟩,
                      ⟨(some 28), none, .bin .add .int (.s 27) (.c (.int .i64 1))⟩,
                      ⟨(some 4), none, .mv (.s 28)⟩]))))))
          (.seq
            (.seq
              (.region false [
                ⟨(some 5), none, .mv (.c (.int .i64 0))⟩])
              (.block 2
                (.loop [1, 3, 5] [0]
                  (.seq
                    (.seq
                      (.region false [
                        ⟨(some 43), none, .mv (.s 5)⟩,
                        ⟨(some 44), none, .mv (.s 3)⟩,
                        ⟨(some 45), none, .bin .sub .int (.s 44) (.c (.int .i64 1))⟩,
                        ⟨(some 46), none, .bin .lss .int (.s 43) (.s 45)⟩])
                      (.cond (.s 46)
                        .skip
                        (.exit 2)))
                    (.seq
                      (.block 3
                        (.seq
                          (.seq
                            (.region true [
                              ⟨(some 49), none, .faddr 1 (.s 1)⟩,
                              ⟨(some 50), none, .load none (some 0) (.s 49)⟩,
                              ⟨(some 51), none, .mv (.s 5)⟩,
                              ⟨(some 52), none, .iaddrS 1 (.s 50) (.s 51)⟩,
                              ⟨(some 53), none, .load none none (.s 52)⟩,
                              ⟨(some 54), none, .len (.s 53)⟩,
                              ⟨(some 55), none, .faddr 0 (.s 1)⟩,
                              ⟨(some 56), none, .load none (some 0) (.s 55)⟩,
                              ⟨(some 57), none, .mv (.s 5)⟩,
                              ⟨(some 58), none, .iaddrS 1 (.s 56) (.s 57)⟩,
                              ⟨(some 59), none, .load none none (.s 58)⟩,
                              ⟨(some 60), none, .bin .neq .int (.s 54) (.s 59)⟩])
                            (.cond (.s 60)
                              (.seq
                                (.region false [
                                  ⟨(some 2), none, .mv (.c (.bool false))⟩])
                                .ret)
                              .skip))
                          (.seq
                            (.region false [
                              ⟨(some 6), none, .mv (.c (.int .i64 0))⟩])
                            (.block 4
                              (.loop [1, 3, 5, 6] [0]
                                (.seq
                                  (.seq
                                    (.region false [
                                      ⟨(some 61), none, .mv (.s 6)⟩,
                                      ⟨(some 62), none, .faddr 1 (.s 1)⟩,
                                      ⟨(some 63), none, .load none (some 0) (.s 62)⟩,
                                      ⟨(some 64), none, .mv (.s 5)⟩,
                                      ⟨(some 65), none, .iaddrS 1 (.s 63) (.s 64)⟩,
                                      ⟨(some 66), none, .load none none (.s 65)⟩,
                                      ⟨(some 67), none, .len (.s 66)⟩,
                                      ⟨(some 68), none, .bin .lss .int (.s 61) (.s 67)⟩])
                                    (.cond (.s 68)
                                      .skip
                                      (.exit 4)))
                                  (.seq
                                    (.block 5
                                      (.seq
                                        (.region true [
                                          ⟨(some 71), none, .faddr 1 (.s 1)⟩,
                                          ⟨(some 72), none, .load none (some 0) (.s 71)⟩,
                                          ⟨(some 73), none, .mv (.s 5)⟩,
                                          ⟨(some 74), none, .iaddrS 1 (.s 72) (.s 73)⟩,
                                          ⟨(some 75), none, .load none none (.s 74)⟩,
                                          ⟨(some 76), none, .mv (.s 6)⟩,
                                          ⟨(some 77), none, .iaddrS 1 (.s 75) (.s 76)⟩,
                                          ⟨(some 78), none, .load none none (.s 77)⟩,
                                          ⟨(some 79), none, .bin .lss .int (.s 78) (.c (.int .i64 0))⟩,
                                          ⟨(some 80), none, .mv (.s 79)⟩,
                                          ⟨(some 81), (some (80, false)), .faddr 1 (.s 1)⟩,
                                          ⟨(some 82), (some (80, false)), .load none (some 0) (.s 81)⟩,
                                          ⟨(some 83), (some (80, false)), .mv (.s 5)⟩,
                                          ⟨(some 84), (some (80, false)), .iaddrS 1 (.s 82) (.s 83)⟩,
                                          ⟨(some 85), (some (80, false)), .load none none (.s 84)⟩,
                                          ⟨(some 86), (some (80, false)), .mv (.s 6)⟩,
                                          ⟨(some 87), (some (80, false)), .iaddrS 1 (.s 85) (.s 86)⟩,
                                          ⟨(some 88), (some (80, false)), .load none none (.s 87)⟩,
                                          ⟨(some 89), (some (80, false)), .faddr 0 (.s 1)⟩,
                                          ⟨(some 90), (some (80, false)), .load none (some 0) (.s 89)⟩,
                                          ⟨(some 91), (some (80, false)), .mv (.s 5)⟩,
                                          ⟨(some 92), (some (80, false)), .bin .add .int (.s 91) (.c (.int .i64 1))⟩,
                                          ⟨(some 93), (some (80, false)), .iaddrS 1 (.s 90) (.s 92)⟩,
                                          ⟨(some 94), (some (80, false)), .load none none (.s 93)⟩,
                                          ⟨(some 95), (some (80, false)), .bin .geq .int (.s 88) (.s 94)⟩,
                                          ⟨(some 96), none, .pick (.s 80) (.c (.bool true)) (.s 95)⟩])
                                        (.cond (.s 96)
                                          (.seq
                                            (.region false [
                                              ⟨(some 2), none, .mv (.c (.bool false))⟩])
                                            .ret)
                                          .skip)))
                                    (.region false [
                                      ⟨(some 69), none, .mv (.s 6)⟩,
                                      ⟨(some 70), none, .bin .add .int (.s 69) (.c (.int .i64 1))⟩,
                                      ⟨(some 6), none, .mv (.s 70)⟩]))))))))
                      (.region false [
                        ⟨(some 47), none, .mv (.s 5)⟩,
                        ⟨(some 48), none, .bin .add .int (.s 47) (.c (.int .i64 1))⟩,
                        ⟨(some 5), none, .mv (.s 48)⟩]))))))
            (.seq
              (.region false [
                ⟨(some 2), none, .mv (.c (.bool true))⟩])
              .ret)))))) }
/- cuboid/cuboidref04.Good -/
def f13 : MFun := { nt := 38, np := 1, no := 1, res := [.slot 2], body :=
  (.seq
    (.region false [
      ⟨(some 1), none, .box 0 (.s 0)⟩,
      ⟨(some 2), none, .mv (.c (.bool false))⟩])
    (.seq
      (.seq
        (.region false [
          ⟨(some 4), none, .faddr 0 (.s 1)⟩,
          ⟨(some 5), none, .load none (some 0) (.s 4)⟩,
          ⟨(some 6), none, .len (.s 5)⟩,
          ⟨(some 7), none, .bin .lss .int (.s 6) (.c (.int .i64 1))⟩,
          ⟨(some 8), none, .mv (.s 7)⟩,
          ⟨(some 9), (some (8, false)), .faddr 0 (.s 1)⟩,
          ⟨(some 10), (some (8, false)), .load none (some 0) (.s 9)⟩,
          ⟨(some 11), (some (8, false)), .len (.s 10)⟩,
          ⟨(some 12), (some (8, false)), .bin .gtr .int (.s 11) (.c (.int .i64 4))⟩,
          ⟨(some 13), none, .pick (.s 8) (.c (.bool true)) (.s 12)⟩,
          ⟨(some 14), none, .mv (.s 13)⟩,
          ⟨(some 15), (some (14, false)), .faddr 1 (.s 1)⟩,
          ⟨(some 16), (some (14, false)), .load none (some 0) (.s 15)⟩,
          ⟨(some 17), (some (14, false)), .bin .lss .int (.s 16) (.c (.int .i64 1))⟩,
          ⟨(some 18), none, .pick (.s 14) (.c (.bool true)) (.s 17)⟩,
          ⟨(some 19), none, .mv (.s 18)⟩,
          ⟨(some 20), (some (19, false)), .faddr 1 (.s 1)⟩,
          ⟨(some 21), (some (19, false)), .load none (some 0) (.s 20)⟩,
          ⟨(some 22), (some (19, false)), .bin .gtr .int (.s 21) (.c (.int .i64 2))⟩,
          ⟨(some 23), none, .pick (.s 19) (.c (.bool true)) (.s 22)⟩])
        (.cond (.s 23)
          (.seq
            (.region false [
              ⟨(some 2), none, .mv (.c (.bool false))⟩])
            .ret)
          .skip))
      (.seq
        (.seq
          (.region false [
            ⟨(some 3), none, .mv (.c (.int .i64 0))⟩])
          (.block 0
            (.loop [1, 3] [0]
              (.seq
                (.seq
                  (.region false [
                    ⟨(some 24), none, .mv (.s 3)⟩,
                    ⟨(some 25), none, .faddr 0 (.s 1)⟩,
                    ⟨(some 26), none, .load none (some 0) (.s 25)⟩,
                    ⟨(some 27), none, .len (.s 26)⟩,
                    ⟨(some 28), none, .bin .lss .int (.s 24) (.s 27)⟩])
                  (.cond (.s 28)
                    .skip
                    (.exit 0)))
                (.seq
                  (.block 1
                    (.seq
                      (.region false [
                        ⟨(some 31), none, .faddr 0 (.s 1)⟩,
                        ⟨(some 32), none, .load none (some 0) (.s 31)⟩,
                        ⟨(some 33), none, .mv (.s 3)⟩,
                        ⟨(some 34), none, .iaddrS 2 (.s 32) (.s 33)⟩,
                        ⟨(some 35), none, .load (some 2) none (.s 34)⟩,
                        ⟨(some 36), none, .call (.c (.fn 25 [] [])) [(.s 35)] [] [] [] false⟩,
                        ⟨(some 37), none, .un .not (.s 36)⟩])
                      (.cond (.s 37)
                        (.seq
                          (.region false [
                            ⟨(some 2), none, .mv (.c (.bool false))⟩])
                          .ret)
                        .skip)))
                  (.region false [
                    ⟨(some 29), none, .mv (.s 3)⟩,
                    ⟨(some 30), none, .bin .add .int (.s 29) (.c (.int .i64 1))⟩,
                    ⟨(some 3), none, .mv (.s 30)⟩]))))))
        (.seq
          (.region false [
            ⟨(some 2), none, .mv (.c (.bool true))⟩])
          .ret)))) }
/- cuboid/cuboidref04.Levels -/
def f11 : MFun := { nt := 27, np := 2, no := 1, res := [.slot 4], body :=
  (.seq
    (.region false [
      ⟨(some 2), none, .box 0 (.s 0)⟩,
      ⟨(some 4), none, .mv (.c (.int .i64 0))⟩])
    (.seq
      (.seq
        (.region false [
          ⟨(some 5), none, .load (some 2) (some 0) (.s 2)⟩,
          ⟨(some 6), none, .call (.c (.fn 13 [] [])) [(.s 5)] [] [] [] false⟩,
          ⟨(some 7), none, .un .not (.s 6)⟩,
          ⟨(some 8), none, .mv (.s 7)⟩,
          ⟨(some 9), (some (8, false)), .mv (.s 1)⟩,
          ⟨(some 10), (some (8, false)), .bin .lss .int (.s 9) (.c (.int .i64 0))⟩,
          ⟨(some 11), none, .pick (.s 8) (.c (.bool true)) (.s 10)⟩,
          ⟨(some 12), none, .mv (.s 11)⟩,
          ⟨(some 13), (some (12, false)), .mv (.s 1)⟩,
          ⟨(some 14), (some (12, false)), .faddr 0 (.s 2)⟩,
          ⟨(some 15), (some (12, false)), .load none (some 0) (.s 14)⟩,
          ⟨(some 16), (some (12, false)), .len (.s 15)⟩,
          ⟨(some 17), (some (12, false)), .bin .geq .int (.s 13) (.s 16)⟩,
          ⟨(some 18), none, .pick (.s 12) (.c (.bool true)) (.s 17)⟩])
        (.cond (.s 18)
          (.seq
            (.region false [
              ⟨(some 4), none, .mv (.c (.int .i64 0))⟩])
            .ret)
          .skip))
      (.seq
        (.region false [
          ⟨(some 19), none, .faddr 0 (.s 2)⟩,
          ⟨(some 20), none, .load none (some 0) (.s 19)⟩,
          ⟨(some 21), none, .mv (.s 1)⟩,
          ⟨(some 22), none, .iaddrS 2 (.s 20) (.s 21)⟩,
          ⟨(some 23), none, .faddr 0 (.s 22)⟩,
          ⟨(some 24), none, .load none none (.s 23)⟩,
          ⟨(some 25), none, .len (.s 24)⟩,
          ⟨(some 26), none, .bin .add .int (.s 25) (.c (.int .i64 1))⟩,
          ⟨(some 4), none, .mv (.s 26)⟩])
        .ret))) }
/- cuboid/cuboidref03.Size -/
def f27 : MFun := { nt := 31, np := 2, no := 1, res := [.slot 4], body :=
  (.seq
    (.region false [
      ⟨(some 2), none, .box 0 (.s 0)⟩,
      ⟨(some 4), none, .mv (.c (.int .i64 0))⟩])
    (.seq
      (.block 0
        (.seq
          (.region false [
            ⟨(some 6), none, .load (some 2) (some 0) (.s 2)⟩,
            ⟨(some 7), none, .call (.c (.fn 25 [] [])) [(.s 6)] [] [] [] false⟩,
            ⟨(some 8), none, .un .not (.s 7)⟩,
            ⟨(some 9), none, .mv (.s 8)⟩,
            ⟨(some 10), (some (9, false)), .mv (.s 1)⟩,
            ⟨(some 11), (some (9, false)), .bin .lss .int (.s 10) (.c (.int .i64 0))⟩,
            ⟨(some 12), none, .pick (.s 9) (.c (.bool true)) (.s 11)⟩,
            ⟨(some 13), none, .mv (.s 12)⟩,
            ⟨(some 14), (some (13, false)), .mv (.s 1)⟩,
            ⟨(some 15), (some (13, false)), .faddr 0 (.s 2)⟩,
            ⟨(some 16), (some (13, false)), .load none (some 0) (.s 15)⟩,
            ⟨(some 17), (some (13, false)), .len (.s 16)⟩,
            ⟨(some 18), (some (13, false)), .bin .gtr .int (.s 14) (.s 17)⟩,
            ⟨(some 19), none, .pick (.s 13) (.c (.bool true)) (.s 18)⟩,
            ⟨(some 5), none, .mv (.s 19)⟩])
          (.cond (.s 5)
            (.seq
              (.region false [
                ⟨(some 4), none, .mv (.c (.int .i64 0))⟩])
              .ret)
            (.seq
              (.region false [
                ⟨(some 21), none, .mv (.s 1)⟩,
                ⟨(some 22), none, .faddr 0 (.s 2)⟩,
                ⟨(some 23), none, .load none (some 0) (.s 22)⟩,
                ⟨(some 24), none, .len (.s 23)⟩,
                ⟨(some 25), none, .bin .eql .int (.s 21) (.s 24)⟩,
                ⟨(some 20), none, .mv (.s 25)⟩])
              (.cond (.s 20)
                (.seq
                  (.region false [
                    ⟨(some 4), none, .mv (.c (.int .i64 1))⟩])
                  .ret)
                .skip)))))
      (.seq
        (.region false [
          ⟨(some 26), none, .faddr 0 (.s 2)⟩,
          ⟨(some 27), none, .load none (some 0) (.s 26)⟩,
          ⟨(some 28), none, .mv (.s 1)⟩,
          ⟨(some 29), none, .iaddrS 1 (.s 27) (.s 28)⟩,
          ⟨(some 30), none, .load none none (.s 29)⟩,
          ⟨(some 4), none, .mv (.s 30)⟩])
        .ret))) }
/- cuboid/cuboidref04.Right -/
def f15 : MFun := { nt := 45, np := 3, no := 3, res := [.slot 6], body :=
  (.seq
    (.region false [
      ⟨(some 3), none, .box 0 (.s 0)⟩,
      ⟨(some 4), none, .box 1 (.s 1)⟩,
      ⟨(some 5), none, .box 2 (.s 2)⟩,
      ⟨(some 6), none, .mv (.c (.bool false))⟩])
    (.seq
      (.seq
        (.region false [
          ⟨(some 8), none, .load (some 2) (some 0) (.s 3)⟩,
          ⟨(some 9), none, .call (.c (.fn 13 [] [])) [(.s 8)] [] [] [] false⟩,
          ⟨(some 10), none, .un .not (.s 9)⟩])
        (.cond (.s 10)
          (.seq
            (.region false [
              ⟨(some 6), none, .mv (.c (.bool false))⟩])
            .ret)
          .skip))
      (.seq
        (.seq
          (.region false [
            ⟨(some 7), none, .mv (.c (.int .i64 0))⟩])
          (.block 0
            (.loop [3, 4, 5, 7] [0, 1, 2]
              (.seq
                (.seq
                  (.region false [
                    ⟨(some 11), none, .mv (.s 7)⟩,
                    ⟨(some 12), none, .bin .lss .int (.s 11) (.c (.int .i64 4))⟩])
                  (.cond (.s 12)
                    .skip
                    (.exit 0)))
                (.seq
                  (.block 1
                    (.seq
                      (.region false [
                        ⟨(some 15), none, .mv (.s 7)⟩,
                        ⟨(some 16), none, .faddr 0 (.s 3)⟩,
                        ⟨(some 17), none, .load none (some 0) (.s 16)⟩,
                        ⟨(some 18), none, .len (.s 17)⟩,
                        ⟨(some 19), none, .bin .geq .int (.s 15) (.s 18)⟩])
                      (.cond (.s 19)
                        (.seq
                          (.region false [
                            ⟨(some 20), none, .mv (.s 7)⟩,
                            ⟨(some 21), none, .iaddrA 4 1 (.s 4) (.s 20)⟩,
                            ⟨(some 22), none, .load none (some 1) (.s 21)⟩,
                            ⟨(some 23), none, .bin .neq .int (.s 22) (.c (.int .u8 0))⟩,
                            ⟨(some 24), none, .mv (.s 23)⟩,
                            ⟨(some 25), (some (24, false)), .mv (.s 7)⟩,
                            ⟨(some 26), (some (24, false)), .iaddrA 4 1 (.s 5) (.s 25)⟩,
                            ⟨(some 27), (some (24, false)), .load none (some 2) (.s 26)⟩,
                            ⟨(some 28), (some (24, false)), .bin .neq .int (.s 27) (.c (.int .u8 0))⟩,
                            ⟨(some 29), none, .pick (.s 24) (.c (.bool true)) (.s 28)⟩])
                          (.cond (.s 29)
                            (.seq
                              (.region false [
                                ⟨(some 6), none, .mv (.c (.bool false))⟩])
                              .ret)
                            .skip))
                        (.seq
                          (.region true [
                            ⟨(some 30), none, .mv (.s 7)⟩,
                            ⟨(some 31), none, .iaddrA 4 1 (.s 5) (.s 30)⟩,
                            ⟨(some 32), none, .load none (some 2) (.s 31)⟩,
                            ⟨(some 33), none, .conv .i64 (.s 32)⟩,
                            ⟨(some 34), none, .faddr 0 (.s 3)⟩,
                            ⟨(some 35), none, .load none (some 0) (.s 34)⟩,
                            ⟨(some 36), none, .mv (.s 7)⟩,
                            ⟨(some 37), none, .iaddrS 2 (.s 35) (.s 36)⟩,
                            ⟨(some 38), none, .load (some 2) none (.s 37)⟩,
                            ⟨(some 39), none, .mv (.s 7)⟩,
                            ⟨(some 40), none, .iaddrA 4 1 (.s 4) (.s 39)⟩,
                            ⟨(some 41), none, .load none (some 1) (.s 40)⟩,
                            ⟨(some 42), none, .conv .i64 (.s 41)⟩,
                            ⟨(some 43), none, .call (.c (.fn 27 [] [])) [(.s 38), (.s 42)] [] [] [] false⟩,
                            ⟨(some 44), none, .bin .geq .int (.s 33) (.s 43)⟩])
                          (.cond (.s 44)
                            (.seq
                              (.region false [
                                ⟨(some 6), none, .mv (.c (.bool false))⟩])
                              .ret)
                            .skip)))))
                  (.region false [
                    ⟨(some 13), none, .mv (.s 7)⟩,
                    ⟨(some 14), none, .bin .add .int (.s 13) (.c (.int .i64 1))⟩,
                    ⟨(some 7), none, .mv (.s 14)⟩]))))))
        (.seq
          (.region false [
            ⟨(some 6), none, .mv (.c (.bool true))⟩])
          .ret)))) }
/- cuboid/cuboidref02.Bytes -/
def f31 : MFun := { nt := 10, np := 2, no := 1, res := [.slot 4], body :=
  (.seq
    (.region false [
      ⟨(some 4), none, .mv (.c .nilsl)⟩])
    (.seq
      (.region false [
        ⟨(some 5), none, .lit (some 0) [] 0 1 [.int .u8 0] []⟩,
        ⟨(some 6), none, .mv (.s 0)⟩,
        ⟨(some 7), none, .append 1 1 0 none (.s 5) (.s 6)⟩,
        ⟨(some 8), none, .mv (.s 1)⟩,
        ⟨(some 9), none, .append 1 1 0 none (.s 7) (.s 8)⟩,
        ⟨(some 4), none, .mv (.s 9)⟩])
      .ret)) }
/- cuboid/cuboidref02.Digits -/
def f32 : MFun := { nt := 20, np := 1, no := 1, res := [.slot 2], body :=
  (.seq
    (.region false [
      ⟨(some 2), none, .mv (.c .nilsl)⟩])
    (.seq
      (.region false [
        ⟨(some 3), none, .vnil 0 1⟩])
      (.seq
        (.block 0
          (.loop [0, 3] [0]
            (.seq
              (.seq
                (.region false [
                  ⟨(some 4), none, .mv (.s 0)⟩,
                  ⟨(some 5), none, .bin .gtr .int (.s 4) (.c (.int .u64 127))⟩])
                (.cond (.s 5)
                  .skip
                  (.exit 0)))
              (.block 1
                (.seq
                  (.region false [
                    ⟨(some 6), none, .mv (.s 3)⟩,
                    ⟨(some 7), none, .mv (.s 0)⟩,
                    ⟨(some 8), none, .bin .rem .int (.s 7) (.c (.int .u64 128))⟩,
                    ⟨(some 9), none, .conv .u8 (.s 8)⟩,
                    ⟨(some 10), none, .bin .add .int (.s 9) (.c (.int .u8 128))⟩,
                    ⟨(some 11), none, .lit none [] 1 1 [.int .u8 0] [(0, 1, (.s 10))]⟩,
                    ⟨(some 12), none, .append 1 1 0 none (.s 6) (.s 11)⟩,
                    ⟨(some 3), none, .mv (.s 12)⟩])
                  (.region false [
                    ⟨(some 13), none, .mv (.s 0)⟩,
                    ⟨(some 14), none, .bin .quo .int (.s 13) (.c (.int .u64 128))⟩,
                    ⟨(some 0), none, .mv (.s 14)⟩]))))))
        (.seq
          (.region false [
            ⟨(some 15), none, .mv (.s 3)⟩,
            ⟨(some 16), none, .mv (.s 0)⟩,
            ⟨(some 17), none, .conv .u8 (.s 16)⟩,
            ⟨(some 18), none, .lit none [] 1 1 [.int .u8 0] [(0, 1, (.s 17))]⟩,
            ⟨(some 19), none, .append 1 1 0 none (.s 15) (.s 18)⟩,
            ⟨(some 2), none, .mv (.s 19)⟩])
          .ret)))) }
/- cuboid/cuboidref04.Bytes -/
def f18 : MFun := { nt := 87, np := 1, no := 3, res := [.slot 2], body :=
  (.seq
    (.region false [
      ⟨(some 1), none, .box 0 (.s 0)⟩,
      ⟨(some 2), none, .mv (.c .nilsl)⟩])
    (.seq
      (.seq
        (.region false [
          ⟨(some 9), none, .load (some 2) (some 0) (.s 1)⟩,
          ⟨(some 10), none, .call (.c (.fn 13 [] [])) [(.s 9)] [] [] [] false⟩,
          ⟨(some 11), none, .un .not (.s 10)⟩])
        (.cond (.s 11)
          (.seq
            (.region false [
              ⟨(some 2), none, .mv (.c .nilsl)⟩])
            .ret)
          .skip))
      (.seq
        (.region true [
          ⟨(some 12), none, .faddr 1 (.s 1)⟩,
          ⟨(some 13), none, .load none (some 0) (.s 12)⟩,
          ⟨(some 14), none, .conv .u64 (.s 13)⟩,
          ⟨(some 15), none, .call (.c (.fn 32 [] [])) [(.s 14)] [] [] [] true⟩,
          ⟨(some 16), none, .faddr 0 (.s 1)⟩,
          ⟨(some 17), none, .load none (some 0) (.s 16)⟩,
          ⟨(some 18), none, .len (.s 17)⟩,
          ⟨(some 19), none, .conv .u64 (.s 18)⟩,
          ⟨(some 20), none, .call (.c (.fn 32 [] [])) [(.s 19)] [] [] [] true⟩,
          ⟨(some 21), none, .call (.c (.fn 31 [] [])) [(.s 15), (.s 20)] [] [] [(0, 1)] true⟩,
          ⟨(some 3), none, .mv (.s 21)⟩])
        (.seq
          (.seq
            (.region false [
              ⟨(some 4), none, .mv (.c (.int .i64 0))⟩])
            (.block 0
              (.loop [1, 3, 4] [0, 1]
                (.seq
                  (.seq
                    (.region false [
                      ⟨(some 22), none, .mv (.s 4)⟩,
                      ⟨(some 23), none, .faddr 0 (.s 1)⟩,
                      ⟨(some 24), none, .load none (some 0) (.s 23)⟩,
                      ⟨(some 25), none, .len (.s 24)⟩,
                      ⟨(some 26), none, .bin .lss .int (.s 22) (.s 25)⟩])
                    (.cond (.s 26)
                      .skip
                      (.exit 0)))
                  (.seq
                    (.block 1
                      (.seq
                        (.region false [
                          ⟨(some 29), none, .faddr 0 (.s 1)⟩,
                          ⟨(some 30), none, .load none (some 0) (.s 29)⟩,
                          ⟨(some 31), none, .mv (.s 4)⟩,
                          ⟨(some 32), none, .iaddrS 2 (.s 30) (.s 31)⟩,
                          ⟨(some 33), none, .load (some 2) none (.s 32)⟩,
                          ⟨(some 5), none, .alloc 2 [.nilsl, .nilsl]⟩,
                          ⟨none, none, .store 2 2 [] (.s 5) (.s 33)⟩])
                        (.seq
                          (.region false [
                            ⟨(some 34), none, .mv (.s 3)⟩,
                            ⟨(some 35), none, .faddr 0 (.s 5)⟩,
                            ⟨(some 36), none, .load none (some 2) (.s 35)⟩,
                            ⟨(some 37), none, .len (.s 36)⟩,
                            ⟨(some 38), none, .conv .u64 (.s 37)⟩,
                            ⟨(some 39), none, .call (.c (.fn 32 [] [])) [(.s 38)] [] [] [] true⟩,
                            ⟨(some 40), none, .append 1 1 1 none (.s 34) (.s 39)⟩,
                            ⟨(some 3), none, .mv (.s 40)⟩])
                          (.seq
                            (.seq
                              (.region false [
                                ⟨(some 6), none, .mv (.c (.int .i64 0))⟩])
                              (.block 2
                                (.loop [1, 3, 4, 5, 6] [0, 1, 2]
                                  (.seq
                                    (.seq
                                      (.region false [
                                        ⟨(some 41), none, .mv (.s 6)⟩,
                                        ⟨(some 42), none, .faddr 0 (.s 5)⟩,
                                        ⟨(some 43), none, .load none (some 2) (.s 42)⟩,
                                        ⟨(some 44), none, .len (.s 43)⟩,
                                        ⟨(some 45), none, .bin .lss .int (.s 41) (.s 44)⟩])
                                      (.cond (.s 45)
                                        .skip
                                        (.exit 2)))
                                    (.seq
                                      (.block 3
                                        (.region false [
                                          ⟨(some 48), none, .mv (.s 3)⟩,
                                          ⟨(some 49), none, .faddr 0 (.s 5)⟩,
                                          ⟨(some 50), none, .load none (some 2) (.s 49)⟩,
                                          ⟨(some 51), none, .mv (.s 6)⟩,
                                          ⟨(some 52), none, .iaddrS 1 (.s 50) (.s 51)⟩,
                                          ⟨(some 53), none, .load none none (.s 52)⟩,
                                          ⟨(some 54), none, .conv .u64 (.s 53)⟩,
                                          ⟨(some 55), none, .call (.c (.fn 32 [] [])) [(.s 54)] [] [] [] true⟩,
                                          ⟨(some 56), none, .append 1 1 1 none (.s 48) (.s 55)⟩,
                                          ⟨(some 3), none, .mv (.s 56)⟩]))
                                      (.region false [
                                        ⟨(some 46), none, .mv (.s 6)⟩,
                                        ⟨(some 47), none, .bin .add .int (.s 46) (.c (.int .i64 1))⟩,
                                        ⟨(some 6), none, .mv (.s 47)⟩]))))))
                            (.seq
                              (.region false [
                                ⟨(some 7), none, .mv (.c (.int .i64 0))⟩])
                              (.block 4
                                (.loop [1, 3, 4, 5, 7] [0, 1, 2]
                                  (.seq
                                    (.seq
                                      (.region false [
                                        ⟨(some 57), none, .mv (.s 7)⟩,
                                        ⟨(some 58), none, .faddr 1 (.s 5)⟩,
                                        ⟨(some 59), none, .load none (some 2) (.s 58)⟩,
                                        ⟨(some 60), none, .len (.s 59)⟩,
                                        ⟨(some 61), none, .bin .lss .int (.s 57) (.s 60)⟩])
                                      (.cond (.s 61)
                                        .skip
                                        (.exit 4)))
                                    (.seq
                                      (.block 5
                                        (.seq
                                          (.region false [
                                            ⟨(some 8), none, .mv (.c (.int .i64 0))⟩])
                                          (.block 6
                                            (.loop [1, 3, 4, 5, 7, 8] [0, 1, 2]
                                              (.seq
                                                (.seq
                                                  (.region false [
                                                    ⟨(some 64), none, .mv (.s 8)⟩,
                                                    ⟨(some 65), none, .faddr 1 (.s 5)⟩,
                                                    ⟨(some 66), none, .load none (some 2) (.s 65)⟩,
                                                    ⟨(some 67), none, .mv (.s 7)⟩,
                                                    ⟨(some 68), none, .iaddrS 1 (.s 66) (.s 67)⟩,
                                                    ⟨(some 69), none, .load none none (.s 68)⟩,
                                                    ⟨(some 70), none, .len (.s 69)⟩,
                                                    ⟨(some 71), none, .bin .lss .int (.s 64) (.s 70)⟩])
                                                  (.cond (.s 71)
                                                    .skip
                                                    (.exit 6)))
                                                (.seq
                                                  (.block 7
                                                    (.region false [
                                                      ⟨(some 74), none, .mv (.s 3)⟩,
                                                      ⟨(some 75), none, .faddr 1 (.s 5)⟩,
                                                      ⟨(some 76), none, .load none (some 2) (.s 75)⟩,
                                                      ⟨(some 77), none, .mv (.s 7)⟩,
                                                      ⟨(some 78), none, .iaddrS 1 (.s 76) (.s 77)⟩,
                                                      ⟨(some 79), none, .load none none (.s 78)⟩,
                                                      ⟨(some 80), none, .mv (.s 8)⟩,
                                                      ⟨(some 81), none, .iaddrS 1 (.s 79) (.s 80)⟩,
                                                      ⟨(some 82), none, .load none none (.s 81)⟩,
                                                      ⟨(some 83), none, .conv .u64 (.s 82)⟩,
                                                      ⟨(some 84), none, .call (.c (.fn 32 [] [])) [(.s 83)] [] [] [] true⟩,
                                                      ⟨(some 85), none, .append 1 1 1 none (.s 74) (.s 84)⟩,
                                                      ⟨(some 3), none, .mv (.s 85)⟩]))
                                                  (.region false [
                                                    ⟨(some 72), none, .mv (.s 8)⟩,
                                                    ⟨(some 73), none, .bin .add .int (.s 72) (.c (.int .i64 1))⟩,
                                                    ⟨(some 8), none, .mv (.s 73)⟩])))))))
                                      (.region false [
                                        ⟨(some 62), none, .mv (.s 7)⟩,
                                        ⟨(some 63), none, .bin .add .int (.s 62) (.c (.int .i64 1))⟩,
                                        ⟨(some 7), none, .mv (.s 63)⟩]))))))))))
                    (.region false [
                      ⟨(some 27), none, .mv (.s 4)⟩,
                      ⟨(some 28), none, .bin .add .int (.s 27) (.c (.int .i64 1))⟩,
                      ⟨(some 4), none, .mv (.s 28)⟩]))))))
          (.seq
            (.region false [
              ⟨(some 86), none, .mv (.s 3)⟩,
              ⟨(some 2), none, .mv (.s 86)⟩])
            .ret))))) }
/- cuboid/cuboidlaw04.SchemaTells -/
def f3 : MFun := { nt := 56, np := 3, no := 3, res := [.slot 6], body :=
  (.seq
    (.region false [
      ⟨(some 3), none, .box 0 (.s 0)⟩,
      ⟨(some 4), none, .box 1 (.s 1)⟩,
      ⟨(some 5), none, .box 2 (.s 2)⟩,
      ⟨(some 6), none, .mv (.c (.bool false))⟩])
    (.seq
      (.seq
        (.region false [
          ⟨(some 8), none, .load (some 2) (some 0) (.s 3)⟩,
          ⟨(some 9), none, .call (.c (.fn 8 [] [])) [(.s 8)] [] [] [] false⟩,
          ⟨(some 10), none, .un .not (.s 9)⟩])
        (.cond (.s 10)
          (.seq
            (.region false [
              ⟨(some 11), none, .call (.c (.fn 9 [] [])) [] [] [] [] false⟩,
              ⟨(some 6), none, .mv (.s 11)⟩])
            .ret)
          .skip))
      (.seq
        (.seq
          (.region false [
            ⟨(some 7), none, .mv (.c (.int .i64 (-1)))⟩])
          (.block 0
            (.loop [3, 4, 5, 7] [0, 1, 2]
              (.seq
                (.seq
                  (.region false [
                    ⟨(some 12), none, .mv (.s 7)⟩,
                    ⟨(some 13), none, .bin .leq .int (.s 12) (.c (.int .i64 8))⟩])
                  (.cond (.s 13)
                    .skip
                    (.exit 0)))
                (.seq
                  (.block 1
                    (.seq
                      (.region true [
                        ⟨(some 16), none, .load (some 2) (some 0) (.s 3)⟩,
                        ⟨(some 17), none, .mv (.s 7)⟩,
                        ⟨(some 18), none, .call (.c (.fn 10 [] [])) [(.s 16), (.s 17)] [] [] [] false⟩,
                        ⟨(some 19), none, .load (some 2) (some 0) (.s 3)⟩,
                        ⟨(some 20), none, .mv (.s 7)⟩,
                        ⟨(some 21), none, .call (.c (.fn 11 [] [])) [(.s 19), (.s 20)] [] [] [] false⟩,
                        ⟨(some 22), none, .bin .neq .int (.s 18) (.s 21)⟩])
                      (.cond (.s 22)
                        (.seq
                          (.region false [
                            ⟨(some 6), none, .mv (.c (.bool false))⟩])
                          .ret)
                        .skip)))
                  (.region false [
                    ⟨(some 14), none, .mv (.s 7)⟩,
                    ⟨(some 15), none, .bin .add .int (.s 14) (.c (.int .i64 1))⟩,
                    ⟨(some 7), none, .mv (.s 15)⟩]))))))
        (.seq
          (.region true [
            ⟨(some 23), none, .load (some 2) (some 0) (.s 3)⟩,
            ⟨(some 24), none, .call (.c (.fn 12 [] [])) [(.s 23)] [] [] [] false⟩,
            ⟨(some 25), none, .load (some 2) (some 0) (.s 3)⟩,
            ⟨(some 26), none, .call (.c (.fn 13 [] [])) [(.s 25)] [] [] [] false⟩,
            ⟨(some 27), none, .bin .eql .bool (.s 24) (.s 26)⟩,
            ⟨(some 28), none, .mv (.s 27)⟩,
            ⟨(some 29), (some (28, true)), .load (some 2) (some 0) (.s 3)⟩,
            ⟨(some 30), (some (28, true)), .load (some 4) (some 1) (.s 4)⟩,
            ⟨(some 31), (some (28, true)), .load (some 4) (some 2) (.s 5)⟩,
            ⟨(some 32), (some (28, true)), .call (.c (.fn 14 [] [])) [(.s 29), (.s 30), (.s 31)] [] [] [] false⟩,
            ⟨(some 33), (some (28, true)), .load (some 2) (some 0) (.s 3)⟩,
            ⟨(some 34), (some (28, true)), .load (some 4) (some 1) (.s 4)⟩,
            ⟨(some 35), (some (28, true)), .load (some 4) (some 2) (.s 5)⟩,
            ⟨(some 36), (some (28, true)), .call (.c (.fn 15 [] [])) [(.s 33), (.s 34), (.s 35)] [] [] [] false⟩,
            ⟨(some 37), (some (28, true)), .bin .eql .bool (.s 32) (.s 36)⟩,
            ⟨(some 38), none, .pick (.s 28) (.s 37) (.c (.bool false))⟩,
            ⟨(some 39), none, .mv (.s 38)⟩,
            ⟨(some 40), (some (39, true)), .load (some 2) (some 0) (.s 3)⟩,
            ⟨(some 41), (some (39, true)), .load (some 2) (some 0) (.s 3)⟩,
            ⟨(some 42), (some (39, true)), .call (.c (.fn 16 [] [])) [(.s 40), (.s 41)] [] [] [] false⟩,
            ⟨(some 43), none, .pick (.s 39) (.s 42) (.c (.bool false))⟩,
            ⟨(some 44), none, .mv (.s 43)⟩,
            ⟨(some 45), (some (44, true)), .load (some 2) (some 0) (.s 3)⟩,
            ⟨(some 46), (some (44, true)), .call (.c (.fn 17 [] [])) [(.s 45)] [] [] [] true⟩,
            ⟨(some 47), (some (44, true)), .b2s none (.s 46)⟩,
            ⟨(some 48), (some (44, true)), .load (some 2) (some 0) (.s 3)⟩,
            ⟨(some 49), (some (44, true)), .call (.c (.fn 18 [] [])) [(.s 48)] [] [] [] true⟩,
            ⟨(some 50), (some (44, true)), .b2s none (.s 49)⟩,
            ⟨(some 51), (some (44, true)), .bin .eql .str (.s 47) (.s 50)⟩,
            ⟨(some 52), none, .pick (.s 44) (.s 51) (.c (.bool false))⟩,
            ⟨(some 53), none, .mv (.s 52)⟩,
            ⟨(some 54), (some (53, true)), .call (.c (.fn 9 [] [])) [] [] [] [] false⟩,
            ⟨(some 55), none, .pick (.s 53) (.s 54) (.c (.bool false))⟩,
            ⟨(some 6), none, .mv (.s 55)⟩])
          .ret)))) }
/- cuboid/cuboidref04.ints -/
def f33 : MFun := { nt := 26, np := 2, no := 0, res := [.slot 4], body :=
  (.seq
    (.region false [
      ⟨(some 4), none, .mv (.c (.bool false))⟩])
    (.seq
      (.seq
        (.region false [
          ⟨(some 6), none, .mv (.s 0)⟩,
          ⟨(some 7), none, .len (.s 6)⟩,
          ⟨(some 8), none, .mv (.s 1)⟩,
          ⟨(some 9), none, .len (.s 8)⟩,
          ⟨(some 10), none, .bin .neq .int (.s 7) (.s 9)⟩])
        (.cond (.s 10)
          (.seq
            (.region false [
              ⟨(some 4), none, .mv (.c (.bool false))⟩])
            .ret)
          .skip))
      (.seq
        (.seq
          (.region false [
            ⟨(some 5), none, .mv (.c (.int .i64 0))⟩])
          (.block 0
            (.loop [0, 1, 5] []
              (.seq
                (.seq
                  (.region false [
                    ⟨(some 11), none, .mv (.s 5)⟩,
                    ⟨(some 12), none, .mv (.s 0)⟩,
                    ⟨(some 13), none, .len (.s 12)⟩,
                    ⟨(some 14), none, .bin .lss .int (.s 11) (.s 13)⟩])
                  (.cond (.s 14)
                    .skip
                    (.exit 0)))
                (.seq
                  (.block 1
                    (.seq
                      (.region true [
                        ⟨(some 17), none, .mv (.s 0)⟩,
                        ⟨(some 18), none, .mv (.s 5)⟩,
                        ⟨(some 19), none, .iaddrS 1 (.s 17) (.s 18)⟩,
                        ⟨(some 20), none, .load none none (.s 19)⟩,
                        ⟨(some 21), none, .mv (.s 1)⟩,
                        ⟨(some 22), none, .mv (.s 5)⟩,
                        ⟨(some 23), none, .iaddrS 1 (.s 21) (.s 22)⟩,
                        ⟨(some 24), none, .load none none (.s 23)⟩,
                        ⟨(some 25), none, .bin .neq .int (.s 20) (.s 24)⟩])
                      (.cond (.s 25)
                        (.seq
                          (.region false [
                            ⟨(some 4), none, .mv (.c (.bool false))⟩])
                          .ret)
                        .skip)))
                  (.region false [
                    ⟨(some 15), none, .mv (.s 5)⟩,
                    ⟨(some 16), none, .bin .add .int (.s 15) (.c (.int .i64 1))⟩,
                    ⟨(some 5), none, .mv (.s 16)⟩]))))))
        (.seq
          (.region false [
            ⟨(some 4), none, .mv (.c (.bool true))⟩])
          .ret)))) }
/- cuboid/cuboidref04.Same -/
def f19 : MFun := { nt := 74, np := 2, no := 4, res := [.slot 4], body :=
  (.seq
    (.region false [
      ⟨(some 2), none, .box 0 (.s 0)⟩,
      ⟨(some 3), none, .box 1 (.s 1)⟩,
      ⟨(some 4), none, .mv (.c (.bool false))⟩])
    (.seq
      (.seq
        (.region false [
          ⟨(some 9), none, .faddr 1 (.s 2)⟩,
          ⟨(some 10), none, .load none (some 0) (.s 9)⟩,
          ⟨(some 11), none, .faddr 1 (.s 3)⟩,
          ⟨(some 12), none, .load none (some 1) (.s 11)⟩,
          ⟨(some 13), none, .bin .neq .int (.s 10) (.s 12)⟩,
          ⟨(some 14), none, .mv (.s 13)⟩,
          ⟨(some 15), (some (14, false)), .faddr 0 (.s 2)⟩,
          ⟨(some 16), (some (14, false)), .load none (some 0) (.s 15)⟩,
          ⟨(some 17), (some (14, false)), .len (.s 16)⟩,
          ⟨(some 18), (some (14, false)), .faddr 0 (.s 3)⟩,
          ⟨(some 19), (some (14, false)), .load none (some 1) (.s 18)⟩,
          ⟨(some 20), (some (14, false)), .len (.s 19)⟩,
          ⟨(some 21), (some (14, false)), .bin .neq .int (.s 17) (.s 20)⟩,
          ⟨(some 22), none, .pick (.s 14) (.c (.bool true)) (.s 21)⟩])
        (.cond (.s 22)
          (.seq
            (.region false [
              ⟨(some 4), none, .mv (.c (.bool false))⟩])
            .ret)
          .skip))
      (.seq
        (.seq
          (.region false [
            ⟨(some 5), none, .mv (.c (.int .i64 0))⟩])
          (.block 0
            (.loop [2, 3, 5] [0, 1]
              (.seq
                (.seq
                  (.region false [
                    ⟨(some 23), none, .mv (.s 5)⟩,
                    ⟨(some 24), none, .faddr 0 (.s 2)⟩,
                    ⟨(some 25), none, .load none (some 0) (.s 24)⟩,
                    ⟨(some 26), none, .len (.s 25)⟩,
                    ⟨(some 27), none, .bin .lss .int (.s 23) (.s 26)⟩])
                  (.cond (.s 27)
                    .skip
                    (.exit 0)))
                (.seq
                  (.block 1
                    (.seq
                      (.region true [
                        ⟨(some 30), none, .faddr 0 (.s 2)⟩,
                        ⟨(some 31), none, .load none (some 0) (.s 30)⟩,
                        ⟨(some 32), none, .mv (.s 5)⟩,
                        ⟨(some 33), none, .iaddrS 2 (.s 31) (.s 32)⟩,
                        ⟨(some 34), none, .load (some 2) none (.s 33)⟩,
                        ⟨(some 35), none, .faddr 0 (.s 3)⟩,
                        ⟨(some 36), none, .load none (some 1) (.s 35)⟩,
                        ⟨(some 37), none, .mv (.s 5)⟩,
                        ⟨(some 38), none, .iaddrS 2 (.s 36) (.s 37)⟩,
                        ⟨(some 39), none, .load (some 2) none (.s 38)⟩,
                        ⟨(some 6), none, .alloc 2 [.nilsl, .nilsl]⟩,
                        ⟨(some 7), none, .alloc 3 [.nilsl, .nilsl]⟩,
                        ⟨none, none, .store 2 2 [] (.s 6) (.s 34)⟩,
                        ⟨none, none, .store 2 3 [] (.s 7) (.s 39)⟩])
                      (.seq
                        (.seq
                          (.region false [
                            ⟨(some 40), none, .faddr 0 (.s 6)⟩,
                            ⟨(some 41), none, .load none (some 2) (.s 40)⟩,
                            ⟨(some 42), none, .faddr 0 (.s 7)⟩,
                            ⟨(some 43), none, .load none (some 3) (.s 42)⟩,
                            ⟨(some 44), none, .call (.c (.fn 33 [] [])) [(.s 41), (.s 43)] [] [] [] false⟩,
                            ⟨(some 45), none, .un .not (.s 44)⟩,
                            ⟨(some 46), none, .mv (.s 45)⟩,
                            ⟨(some 47), (some (46, false)), .faddr 1 (.s 6)⟩,
                            ⟨(some 48), (some (46, false)), .load none (some 2) (.s 47)⟩,
                            ⟨(some 49), (some (46, false)), .len (.s 48)⟩,
                            ⟨(some 50), (some (46, false)), .faddr 1 (.s 7)⟩,
                            ⟨(some 51), (some (46, false)), .load none (some 3) (.s 50)⟩,
                            ⟨(some 52), (some (46, false)), .len (.s 51)⟩,
                            ⟨(some 53), (some (46, false)), .bin .neq .int (.s 49) (.s 52)⟩,
                            ⟨(some 54), none, .pick (.s 46) (.c (.bool true)) (.s 53)⟩])
                          (.cond (.s 54)
                            (.seq
                              (.region false [
                                ⟨(some 4), none, .mv (.c (.bool false))⟩])
                              .ret)
                            .skip))
                        (.seq
                          (.region false [
                            ⟨(some 8), none, .mv (.c (.int .i64 0))⟩])
                          (.block 2
                            (.loop [2, 3, 5, 6, 7, 8] [0, 1, 2, 3]
                              (.seq
                                (.seq
                                  (.region false [
                                    ⟨(some 55), none, .mv (.s 8)⟩,
                                    ⟨(some 56), none, .faddr 1 (.s 6)⟩,
                                    ⟨(some 57), none, .load none (some 2) (.s 56)⟩,
                                    ⟨(some 58), none, .len (.s 57)⟩,
                                    ⟨(some 59), none, .bin .lss .int (.s 55) (.s 58)⟩])
                                  (.cond (.s 59)
                                    .skip
                                    (.exit 2)))
                                (.seq
                                  (.block 3
                                    (.seq
                                      (.region true [
                                        ⟨(some 62), none, .faddr 1 (.s 6)⟩,
                                        ⟨(some 63), none, .load none (some 2) (.s 62)⟩,
                                        ⟨(some 64), none, .mv (.s 8)⟩,
                                        ⟨(some 65), none, .iaddrS 1 (.s 63) (.s 64)⟩,
                                        ⟨(some 66), none, .load none none (.s 65)⟩,
                                        ⟨(some 67), none, .faddr 1 (.s 7)⟩,
                                        ⟨(some 68), none, .load none (some 3) (.s 67)⟩,
                                        ⟨(some 69), none, .mv (.s 8)⟩,
                                        ⟨(some 70), none, .iaddrS 1 (.s 68) (.s 69)⟩,
                                        ⟨(some 71), none, .load none none (.s 70)⟩,
                                        ⟨(some 72), none, .call (.c (.fn 33 [] [])) [(.s 66), (.s 71)] [] [] [] false⟩,
                                        ⟨(some 73), none, .un .not (.s 72)⟩])
                                      (.cond (.s 73)
                                        (.seq
                                          (.region false [
                                            ⟨(some 4), none, .mv (.c (.bool false))⟩])
                                          .ret)
                                        .skip)))
                                  (.region false [
                                    ⟨(some 60), none, .mv (.s 8)⟩,
                                    ⟨(some 61), none, .bin .add .int (.s 60) (.c (.int .i64 1))⟩,
                                    ⟨(some 8), none, .mv (.s 61)⟩])))))))))
                  (.region false [
                    ⟨(some 28), none, .mv (.s 5)⟩,
                    ⟨(some 29), none, .bin .add .int (.s 28) (.c (.int .i64 1))⟩,
                    ⟨(some 5), none, .mv (.s 29)⟩]))))))
        (.seq
          (.region false [
            ⟨(some 4), none, .mv (.c (.bool true))⟩])
          .ret)))) }
/- cuboid/cuboidlaw04.SchemaSame -/
def f4 : MFun := { nt := 117, np := 3, no := 8, res := [.slot 6], body :=
  (.seq
    (.region false [
      ⟨(some 3), none, .box 0 (.s 0)⟩,
      ⟨(some 4), none, .box 1 (.s 1)⟩,
      ⟨(some 5), none, .box 2 (.s 2)⟩,
      ⟨(some 6), none, .mv (.c (.bool false))⟩])
    (.seq
      (.seq
        (.region false [
          ⟨(some 12), none, .load (some 2) (some 0) (.s 3)⟩,
          ⟨(some 13), none, .call (.c (.fn 8 [] [])) [(.s 12)] [] [] [] false⟩,
          ⟨(some 14), none, .un .not (.s 13)⟩,
          ⟨(some 15), none, .mv (.s 14)⟩,
          ⟨(some 16), (some (15, false)), .load (some 2) (some 1) (.s 4)⟩,
          ⟨(some 17), (some (15, false)), .call (.c (.fn 8 [] [])) [(.s 16)] [] [] [] false⟩,
          ⟨(some 18), (some (15, false)), .un .not (.s 17)⟩,
          ⟨(some 19), none, .pick (.s 15) (.c (.bool true)) (.s 18)⟩])
        (.cond (.s 19)
          (.seq
            (.region false [
              ⟨(some 20), none, .call (.c (.fn 9 [] [])) [] [] [] [] false⟩,
              ⟨(some 6), none, .mv (.s 20)⟩])
            .ret)
          .skip))
      (.seq
        (.seq
          (.region true [
            ⟨(some 21), none, .load (some 2) (some 0) (.s 3)⟩,
            ⟨(some 22), none, .load (some 2) (some 1) (.s 4)⟩,
            ⟨(some 23), none, .call (.c (.fn 16 [] [])) [(.s 21), (.s 22)] [] [] [] false⟩,
            ⟨(some 24), none, .load (some 2) (some 0) (.s 3)⟩,
            ⟨(some 25), none, .load (some 2) (some 1) (.s 4)⟩,
            ⟨(some 26), none, .call (.c (.fn 19 [] [])) [(.s 24), (.s 25)] [] [] [] false⟩,
            ⟨(some 27), none, .bin .neq .bool (.s 23) (.s 26)⟩,
            ⟨(some 28), none, .mv (.s 27)⟩,
            ⟨(some 29), (some (28, false)), .load (some 2) (some 1) (.s 4)⟩,
            ⟨(some 30), (some (28, false)), .load (some 2) (some 0) (.s 3)⟩,
            ⟨(some 31), (some (28, false)), .call (.c (.fn 16 [] [])) [(.s 29), (.s 30)] [] [] [] false⟩,
            ⟨(some 32), (some (28, false)), .load (some 2) (some 0) (.s 3)⟩,
            ⟨(some 33), (some (28, false)), .load (some 2) (some 1) (.s 4)⟩,
            ⟨(some 34), (some (28, false)), .call (.c (.fn 19 [] [])) [(.s 32), (.s 33)] [] [] [] false⟩,
            ⟨(some 35), (some (28, false)), .bin .neq .bool (.s 31) (.s 34)⟩,
            ⟨(some 36), none, .pick (.s 28) (.c (.bool true)) (.s 35)⟩])
          (.cond (.s 36)
            (.seq
              (.region false [
                ⟨(some 6), none, .mv (.c (.bool false))⟩])
              .ret)
            .skip))
        (.seq
          (.region false [
            ⟨(some 37), none, .load (some 2) (some 0) (.s 3)⟩,
            ⟨(some 7), none, .alloc 3 [.nilsl, .int .i64 0]⟩,
            ⟨none, none, .store 2 3 [] (.s 7) (.s 37)⟩])
          (.seq
            (.region false [
              ⟨(some 38), none, .faddr 1 (.s 7)⟩,
              ⟨(some 39), none, .load none (some 3) (.s 38)⟩,
              ⟨(some 40), none, .bin .xor .int (.s 39) (.c (.int .i64 1))⟩,
              ⟨(some 41), none, .faddr 1 (.s 7)⟩,
              ⟨none, none, .store 1 3 [] (.s 41) (.s 40)⟩])
            (.seq
              (.seq
                (.region false [
                  ⟨(some 42), none, .faddr 0 (.s 3)⟩,
                  ⟨(some 43), none, .load none (some 0) (.s 42)⟩,
                  ⟨(some 44), none, .len (.s 43)⟩,
                  ⟨(some 45), none, .bin .gtr .int (.s 44) (.c (.int .i64 0))⟩])
                (.cond (.s 45)
                  (.seq
                    (.region false [
                      ⟨(some 46), none, .iaddrA 3 1 (.s 5) (.c (.int .i64 0))⟩,
                      ⟨(some 47), none, .load none (some 2) (.s 46)⟩,
                      ⟨(some 48), none, .conv .i64 (.s 47)⟩,
                      ⟨(some 49), none, .faddr 0 (.s 3)⟩,
                      ⟨(some 50), none, .load none (some 0) (.s 49)⟩,
                      ⟨(some 51), none, .len (.s 50)⟩,
                      ⟨(some 52), none, .bin .rem .int (.s 48) (.s 51)⟩,
                      ⟨(some 8), none, .mv (.s 52)⟩])
                    (.seq
                      (.region false [
                        ⟨(some 53), none, .faddr 0 (.s 3)⟩,
                        ⟨(some 54), none, .load none (some 0) (.s 53)⟩,
                        ⟨(some 55), none, .mv (.s 8)⟩,
                        ⟨(some 56), none, .iaddrS 2 (.s 54) (.s 55)⟩,
                        ⟨(some 57), none, .load (some 2) none (.s 56)⟩,
                        ⟨(some 9), none, .alloc 4 [.nilsl, .nilsl]⟩,
                        ⟨none, none, .store 2 4 [] (.s 9) (.s 57)⟩])
                      (.seq
                        (.region false [
                          ⟨(some 58), none, .faddr 0 (.s 9)⟩,
                          ⟨(some 59), none, .load none (some 4) (.s 58)⟩,
                          ⟨(some 60), none, .len (.s 59)⟩,
                          ⟨(some 61), none, .bin .gtr .int (.s 60) (.c (.int .i64 0))⟩])
                        (.cond (.s 61)
                          (.seq
                            (.region false [
                              ⟨(some 62), none, .iaddrA 3 1 (.s 5) (.c (.int .i64 1))⟩,
                              ⟨(some 63), none, .load none (some 2) (.s 62)⟩,
                              ⟨(some 64), none, .conv .i64 (.s 63)⟩,
                              ⟨(some 65), none, .faddr 0 (.s 9)⟩,
                              ⟨(some 66), none, .load none (some 4) (.s 65)⟩,
                              ⟨(some 67), none, .len (.s 66)⟩,
                              ⟨(some 68), none, .bin .rem .int (.s 64) (.s 67)⟩,
                              ⟨(some 10), none, .mv (.s 68)⟩])
                            (.seq
                              (.region false [
                                ⟨(some 69), none, .lit (some 5) [] 0 1 [.int .i64 0] []⟩,
                                ⟨(some 70), none, .faddr 0 (.s 9)⟩,
                                ⟨(some 71), none, .load none (some 4) (.s 70)⟩,
                                ⟨(some 72), none, .append 8 1 5 (some 5) (.s 69) (.s 71)⟩,
                                ⟨(some 73), none, .faddr 0 (.s 9)⟩,
                                ⟨none, none, .store 1 4 [] (.s 73) (.s 72)⟩])
                              (.seq
                                (.region true [
                                  ⟨(some 74), none, .faddr 0 (.s 9)⟩,
                                  ⟨(some 75), none, .load none (some 4) (.s 74)⟩,
                                  ⟨(some 76), none, .mv (.s 10)⟩,
                                  ⟨(some 77), none, .iaddrS 1 (.s 75) (.s 76)⟩,
                                  ⟨(some 78), none, .load none (some 5) (.s 77)⟩,
                                  ⟨(some 79), none, .iaddrA 3 1 (.s 5) (.c (.int .i64 2))⟩,
                                  ⟨(some 80), none, .load none (some 2) (.s 79)⟩,
                                  ⟨(some 81), none, .conv .i64 (.s 80)⟩,
                                  ⟨(some 82), none, .bin .add .int (.c (.int .i64 1)) (.s 81)⟩,
                                  ⟨(some 83), none, .bin .xor .int (.s 78) (.s 82)⟩,
                                  ⟨(some 84), none, .iaddrS 1 (.s 75) (.s 76)⟩,
                                  ⟨none, none, .store 1 5 [] (.s 84) (.s 83)⟩])
                                (.seq
                                  (.region false [
                                    ⟨(some 85), none, .load (some 2) (some 0) (.s 3)⟩,
                                    ⟨(some 11), none, .alloc 6 [.nilsl, .int .i64 0]⟩,
                                    ⟨none, none, .store 2 6 [] (.s 11) (.s 85)⟩])
                                  (.seq
                                    (.region true [
                                      ⟨(some 86), none, .lit (some 7) [] 0 2 [.nilsl, .nilsl] []⟩,
                                      ⟨(some 87), none, .faddr 0 (.s 3)⟩,
                                      ⟨(some 88), none, .load none (some 0) (.s 87)⟩,
                                      ⟨(some 89), none, .mv (.s 8)⟩,
                                      ⟨(some 90), none, .sliceS 2 (.s 88) none (some (.s 89))⟩,
                                      ⟨(some 91), none, .append 48 2 7 none (.s 86) (.s 90)⟩,
                                      ⟨(some 92), none, .load (some 2) (some 4) (.s 9)⟩,
                                      ⟨(some 93), none, .lit none [5] 1 2 [.nilsl, .nilsl] [(0, 2, (.s 92))]⟩,
                                      ⟨(some 94), none, .append 48 2 7 none (.s 91) (.s 93)⟩,
                                      ⟨(some 95), none, .faddr 0 (.s 3)⟩,
                                      ⟨(some 96), none, .load none (some 0) (.s 95)⟩,
                                      ⟨(some 97), none, .mv (.s 8)⟩,
                                      ⟨(some 98), none, .bin .add .int (.s 97) (.c (.int .i64 1))⟩,
                                      ⟨(some 99), none, .sliceS 2 (.s 96) (some (.s 98)) none⟩,
                                      ⟨(some 100), none, .append 48 2 7 none (.s 94) (.s 99)⟩,
                                      ⟨(some 101), none, .faddr 0 (.s 11)⟩,
                                      ⟨none, none, .store 1 6 [] (.s 101) (.s 100)⟩])
                                    (.seq
                                      (.region false [
                                        ⟨(some 102), none, .load (some 2) (some 0) (.s 3)⟩,
                                        ⟨(some 103), none, .load (some 2) (some 6) (.s 11)⟩,
                                        ⟨(some 104), none, .call (.c (.fn 16 [] [])) [(.s 102), (.s 103)] [] [7] [] false⟩,
                                        ⟨(some 105), none, .mv (.s 104)⟩,
                                        ⟨(some 106), (some (105, false)), .load (some 2) (some 6) (.s 11)⟩,
                                        ⟨(some 107), (some (105, false)), .load (some 2) (some 0) (.s 3)⟩,
                                        ⟨(some 108), (some (105, false)), .call (.c (.fn 16 [] [])) [(.s 106), (.s 107)] [] [7] [] false⟩,
                                        ⟨(some 109), none, .pick (.s 105) (.c (.bool true)) (.s 108)⟩])
                                      (.cond (.s 109)
                                        (.seq
                                          (.region false [
                                            ⟨(some 6), none, .mv (.c (.bool false))⟩])
                                          .ret)
                                        .skip)))))))
                          .skip))))
                  .skip))
              (.seq
                (.region false [
                  ⟨(some 110), none, .load (some 2) (some 0) (.s 3)⟩,
                  ⟨(some 111), none, .load (some 2) (some 3) (.s 7)⟩,
                  ⟨(some 112), none, .call (.c (.fn 16 [] [])) [(.s 110), (.s 111)] [] [] [] false⟩,
                  ⟨(some 113), none, .un .not (.s 112)⟩,
                  ⟨(some 114), none, .mv (.s 113)⟩,
                  ⟨(some 115), (some (114, true)), .call (.c (.fn 9 [] [])) [] [] [] [] false⟩,
                  ⟨(some 116), none, .pick (.s 114) (.s 115) (.c (.bool false))⟩,
                  ⟨(some 6), none, .mv (.s 116)⟩])
                .ret))))))) }
/- cuboid/cuboidlaw04.SchemaBack -/
def f5 : MFun := { nt := 81, np := 3, no := 6, res := [.slot 6], body :=
  (.seq
    (.region false [
      ⟨(some 3), none, .box 0 (.s 0)⟩,
      ⟨(some 4), none, .box 1 (.s 1)⟩,
      ⟨(some 6), none, .mv (.c (.bool false))⟩])
    (.seq
      (.seq
        (.region false [
          ⟨(some 14), none, .load (some 2) (some 1) (.s 4)⟩,
          ⟨(some 15), none, .call (.c (.fn 8 [] [])) [(.s 14)] [] [] [] false⟩,
          ⟨(some 16), none, .un .not (.s 15)⟩,
          ⟨(some 17), none, .mv (.s 16)⟩,
          ⟨(some 18), (some (17, false)), .load (some 2) (some 0) (.s 3)⟩,
          ⟨(some 19), (some (17, false)), .call (.c (.fn 13 [] [])) [(.s 18)] [] [] [] false⟩,
          ⟨(some 20), (some (17, false)), .un .not (.s 19)⟩,
          ⟨(some 21), none, .pick (.s 17) (.c (.bool true)) (.s 20)⟩])
        (.cond (.s 21)
          (.seq
            (.region false [
              ⟨(some 22), none, .call (.c (.fn 9 [] [])) [] [] [] [] false⟩,
              ⟨(some 6), none, .mv (.s 22)⟩])
            .ret)
          .skip))
      (.seq
        (.region false [
          ⟨(some 23), none, .load (some 2) (some 0) (.s 3)⟩,
          ⟨(some 24), none, .call (.c (.fn 17 [] [])) [(.s 23)] [] [] [] true⟩,
          ⟨(some 7), none, .mv (.s 24)⟩])
        (.seq
          (.seq
            (.region false [
              ⟨(some 25), none, .mv (.s 7)⟩,
              ⟨(some 26), none, .len (.s 25)⟩,
              ⟨(some 27), none, .bin .eql .int (.s 26) (.c (.int .i64 0))⟩])
            (.cond (.s 27)
              (.seq
                (.region false [
                  ⟨(some 6), none, .mv (.c (.bool false))⟩])
                .ret)
              .skip))
          (.seq
            (.region false [
              ⟨(some 29), none, .mv (.s 7)⟩,
              ⟨(some 30), none, .call (.c (.fn 20 [] [])) [(.s 29)] [] [] [] true⟩,
              ⟨(some 28), none, .mv (.s 30)⟩,
              ⟨(some 31), none, .extract (.s 28) 0⟩,
              ⟨(some 32), none, .extract (.s 28) 1⟩,
              ⟨(some 8), none, .alloc 2 [.nilsl, .int .i64 0]⟩,
              ⟨none, none, .store 2 2 [] (.s 8) (.s 31)⟩,
              ⟨(some 9), none, .mv (.s 32)⟩])
            (.seq
              (.region false [
                ⟨(some 34), none, .lit (some 3) [] 0 1 [.int .u8 0] []⟩,
                ⟨(some 35), none, .mv (.s 7)⟩,
                ⟨(some 36), none, .append 1 1 3 none (.s 34) (.s 35)⟩,
                ⟨(some 37), none, .mv (.s 2)⟩,
                ⟨(some 38), none, .lit none [] 1 1 [.int .u8 0] [(0, 1, (.s 37))]⟩,
                ⟨(some 39), none, .append 1 1 3 none (.s 36) (.s 38)⟩,
                ⟨(some 40), none, .call (.c (.fn 20 [] [])) [(.s 39)] [] [3] [] true⟩,
                ⟨(some 33), none, .mv (.s 40)⟩,
                ⟨(some 41), none, .extract (.s 33) 0⟩,
                ⟨(some 42), none, .extract (.s 33) 1⟩,
                ⟨(some 10), none, .alloc 4 [.nilsl, .int .i64 0]⟩,
                ⟨none, none, .store 2 4 [] (.s 10) (.s 41)⟩,
                ⟨(some 11), none, .mv (.s 42)⟩])
              (.seq
                (.region false [
                  ⟨(some 44), none, .mv (.s 7)⟩,
                  ⟨(some 45), none, .mv (.s 7)⟩,
                  ⟨(some 46), none, .len (.s 45)⟩,
                  ⟨(some 47), none, .bin .sub .int (.s 46) (.c (.int .i64 1))⟩,
                  ⟨(some 48), none, .sliceS 1 (.s 44) none (some (.s 47))⟩,
                  ⟨(some 49), none, .call (.c (.fn 20 [] [])) [(.s 48)] [] [] [] true⟩,
                  ⟨(some 43), none, .mv (.s 49)⟩,
                  ⟨(some 50), none, .extract (.s 43) 0⟩,
                  ⟨(some 51), none, .extract (.s 43) 1⟩,
                  ⟨(some 12), none, .alloc 5 [.nilsl, .int .i64 0]⟩,
                  ⟨none, none, .store 2 5 [] (.s 12) (.s 50)⟩,
                  ⟨(some 13), none, .mv (.s 51)⟩])
                (.seq
                  (.region true [
                    ⟨(some 52), none, .mv (.s 9)⟩,
                    ⟨(some 53), none, .mv (.s 52)⟩,
                    ⟨(some 54), (some (53, true)), .load (some 2) (some 2) (.s 8)⟩,
                    ⟨(some 55), (some (53, true)), .load (some 2) (some 0) (.s 3)⟩,
                    ⟨(some 56), (some (53, true)), .call (.c (.fn 16 [] [])) [(.s 54), (.s 55)] [] [] [] false⟩,
                    ⟨(some 57), none, .pick (.s 53) (.s 56) (.c (.bool false))⟩,
                    ⟨(some 58), none, .mv (.s 57)⟩,
                    ⟨(some 59), (some (58, true)), .mv (.s 11)⟩,
                    ⟨(some 60), (some (58, true)), .un .not (.s 59)⟩,
                    ⟨(some 61), none, .pick (.s 58) (.s 60) (.c (.bool false))⟩,
                    ⟨(some 62), none, .mv (.s 61)⟩,
                    ⟨(some 63), (some (62, true)), .mv (.s 13)⟩,
                    ⟨(some 64), (some (62, true)), .un .not (.s 63)⟩,
                    ⟨(some 65), none, .pick (.s 62) (.s 64) (.c (.bool false))⟩,
                    ⟨(some 66), none, .mv (.s 65)⟩,
                    ⟨(some 67), (some (66, true)), .load (some 2) (some 1) (.s 4)⟩,
                    ⟨(some 68), (some (66, true)), .call (.c (.fn 17 [] [])) [(.s 67)] [] [] [] true⟩,
                    ⟨(some 69), (some (66, true)), .b2s none (.s 68)⟩,
                    ⟨(some 70), (some (66, true)), .mv (.s 7)⟩,
                    ⟨(some 71), (some (66, true)), .b2s none (.s 70)⟩,
                    ⟨(some 72), (some (66, true)), .bin .eql .str (.s 69) (.s 71)⟩,
                    ⟨(some 73), (some (66, true)), .load (some 2) (some 0) (.s 3)⟩,
                    ⟨(some 74), (some (66, true)), .load (some 2) (some 1) (.s 4)⟩,
                    ⟨(some 75), (some (66, true)), .call (.c (.fn 16 [] [])) [(.s 73), (.s 74)] [] [] [] false⟩,
                    ⟨(some 76), (some (66, true)), .bin .eql .bool (.s 72) (.s 75)⟩,
                    ⟨(some 77), none, .pick (.s 66) (.s 76) (.c (.bool false))⟩,
                    ⟨(some 78), none, .mv (.s 77)⟩,
                    ⟨(some 79), (some (78, true)), .call (.c (.fn 9 [] [])) [] [] [] [] false⟩,
                    ⟨(some 80), none, .pick (.s 78) (.s 79) (.c (.bool false))⟩,
                    ⟨(some 6), none, .mv (.s 80)⟩])
                  .ret)))))))) }
/- cuboid/cuboidref02.Get -/
def f44 : MFun := { nt := 67, np := 1, no := 0, res := [.slot 2, .slot 3], body :=
  (.seq
    (.region false [
      ⟨(some 2), none, .mv (.c (.int .u64 0))⟩,
      ⟨(some 3), none, .mv (.c (.int .i64 0))⟩])
    (.seq
      (.region false [
        ⟨(some 4), none, .mv (.c (.int .i64 0))⟩])
      (.seq
        (.block 0
          (.loop [0, 4] []
            (.seq
              (.seq
                (.region false [
                  ⟨(some 7), none, .mv (.s 4)⟩,
                  ⟨(some 8), none, .mv (.s 0)⟩,
                  ⟨(some 9), none, .len (.s 8)⟩,
                  ⟨(some 10), none, .bin .lss .int (.s 7) (.s 9)⟩,
                  ⟨(some 11), none, .mv (.s 10)⟩,
                  ⟨(some 12), (some (11, true)), .mv (.s 0)⟩,
                  ⟨(some 13), (some (11, true)), .mv (.s 4)⟩,
                  ⟨(some 14), (some (11, true)), .iaddrS 1 (.s 12) (.s 13)⟩,
                  ⟨(some 15), (some (11, true)), .load none none (.s 14)⟩,
                  ⟨(some 16), (some (11, true)), .bin .gtr .int (.s 15) (.c (.int .u8 127))⟩,
                  ⟨(some 17), none, .pick (.s 11) (.s 16) (.c (.bool false))⟩])
                (.cond (.s 17)
                  .skip
                  (.exit 0)))
              (.block 1
                (.region false [
                  ⟨(some 18), none, .mv (.s 4)⟩,
                  ⟨(some 19), none, .bin .add .int (.s 18) (.c (.int .i64 1))⟩,
                  ⟨(some 4), none, .mv (.s 19)⟩])))))
        (.seq
          (.seq
            (.region false [
              ⟨(some 20), none, .mv (.s 4)⟩,
              ⟨(some 21), none, .mv (.s 0)⟩,
              ⟨(some 22), none, .len (.s 21)⟩,
              ⟨(some 23), none, .bin .geq .int (.s 20) (.s 22)⟩,
              ⟨(some 24), none, .mv (.s 23)⟩,
              ⟨(some 25), (some (24, false)), .mv (.s 4)⟩,
              ⟨(some 26), (some (24, false)), .bin .gtr .int (.s 25) (.c (.int .i64 9))⟩,
              ⟨(some 27), none, .pick (.s 24) (.c (.bool true)) (.s 26)⟩,
              ⟨(some 28), none, .mv (.s 27)⟩,
              ⟨(some 29), (some (28, false)), .mv (.s 4)⟩,
              ⟨(some 30), (some (28, false)), .bin .gtr .int (.s 29) (.c (.int .i64 0))⟩,
              ⟨(some 31), (some (28, false)), .mv (.s 30)⟩,
              ⟨(some 32), (some (31, true)), .mv (.s 0)⟩,
              ⟨(some 33), (some (31, true)), .mv (.s 4)⟩,
              ⟨(some 34), (some (31, true)), .iaddrS 1 (.s 32) (.s 33)⟩,
              ⟨(some 35), (some (31, true)), .load none none (.s 34)⟩,
              ⟨(some 36), (some (31, true)), .bin .eql .int (.s 35) (.c (.int .u8 0))⟩,
              ⟨(some 37), (some (28, false)), .pick (.s 31) (.s 36) (.c (.bool false))⟩,
              ⟨(some 38), none, .pick (.s 28) (.c (.bool true)) (.s 37)⟩,
              ⟨(some 39), none, .mv (.s 38)⟩,
              ⟨(some 40), (some (39, false)), .mv (.s 4)⟩,
              ⟨(some 41), (some (39, false)), .bin .eql .int (.s 40) (.c (.int .i64 9))⟩,
              ⟨(some 42), (some (39, false)), .mv (.s 41)⟩,
              ⟨(some 43), (some (42, true)), .mv (.s 0)⟩,
              ⟨(some 44), (some (42, true)), .mv (.s 4)⟩,
              ⟨(some 45), (some (42, true)), .iaddrS 1 (.s 43) (.s 44)⟩,
              ⟨(some 46), (some (42, true)), .load none none (.s 45)⟩,
              ⟨(some 47), (some (42, true)), .bin .gtr .int (.s 46) (.c (.int .u8 1))⟩,
              ⟨(some 48), (some (39, false)), .pick (.s 42) (.s 47) (.c (.bool false))⟩,
              ⟨(some 49), none, .pick (.s 39) (.c (.bool true)) (.s 48)⟩])
            (.cond (.s 49)
              (.seq
                (.region false [
                  ⟨(some 2), none, .mv (.c (.int .u64 0))⟩,
                  ⟨(some 3), none, .mv (.c (.int .i64 0))⟩])
                .ret)
              .skip))
          (.seq
            (.region false [
              ⟨(some 5), none, .mv (.c (.int .u64 0))⟩])
            (.seq
              (.seq
                (.region false [
                  ⟨(some 50), none, .mv (.s 4)⟩,
                  ⟨(some 6), none, .mv (.s 50)⟩])
                (.block 2
                  (.loop [0, 4, 5, 6] []
                    (.seq
                      (.seq
                        (.region false [
                          ⟨(some 51), none, .mv (.s 6)⟩,
                          ⟨(some 52), none, .bin .geq .int (.s 51) (.c (.int .i64 0))⟩])
                        (.cond (.s 52)
                          .skip
                          (.exit 2)))
                      (.seq
                        (.block 3
                          (.region false [
                            ⟨(some 55), none, .mv (.s 5)⟩,
                            ⟨(some 56), none, .bin .mul .int (.s 55) (.c (.int .u64 128))⟩,
                            ⟨(some 57), none, .mv (.s 0)⟩,
                            ⟨(some 58), none, .mv (.s 6)⟩,
                            ⟨(some 59), none, .iaddrS 1 (.s 57) (.s 58)⟩,
                            ⟨(some 60), none, .load none none (.s 59)⟩,
                            ⟨(some 61), none, .bin .rem .int (.s 60) (.c (.int .u8 128))⟩,
                            ⟨(some 62), none, .conv .u64 (.s 61)⟩,
                            ⟨(some 63), none, .bin .add .int (.s 56) (.s 62)⟩,
                            ⟨(some 5), none, .mv (.s 63)⟩]))
                        (.region false [
                          ⟨(some 53), none, .mv (.s 6)⟩,
                          ⟨(some 54), none, .bin .sub .int (.s 53) (.c (.int .i64 1))⟩,
                          ⟨(some 6), none, .mv (.s 54)⟩]))))))
              (.seq
                (.region false [
                  ⟨(some 64), none, .mv (.s 5)⟩,
                  ⟨(some 65), none, .mv (.s 4)⟩,
                  ⟨(some 66), none, .bin .add .int (.s 65) (.c (.int .i64 1))⟩,
                  ⟨(some 2), none, .mv (.s 64)⟩,
                  ⟨(some 3), none, .mv (.s 66)⟩])
                .ret))))))) }
/- (*cuboid/cuboidref04.reader).number -/
def f36 : MFun := { nt := 33, np := 1, no := 0, res := [.slot 2], body :=
  (.seq
    (.region false [
      ⟨(some 2), none, .mv (.c (.int .i64 0))⟩])
    (.seq
      (.region false [
        ⟨(some 6), none, .mv (.s 0)⟩,
        ⟨(some 7), none, .nilchk (.s 6)⟩,
        ⟨(some 8), none, .faddr 0 (.s 7)⟩,
        ⟨(some 9), none, .load none (some 0) (.s 8)⟩,
        ⟨(some 10), none, .call (.c (.fn 44 [] [])) [(.s 9)] [] [] [] false⟩,
        ⟨(some 5), none, .mv (.s 10)⟩,
        ⟨(some 11), none, .extract (.s 5) 0⟩,
        ⟨(some 12), none, .extract (.s 5) 1⟩,
        ⟨(some 3), none, .mv (.s 11)⟩,
        ⟨(some 4), none, .mv (.s 12)⟩])
      (.seq
        (.seq
          (.region false [
            ⟨(some 13), none, .mv (.s 4)⟩,
            ⟨(some 14), none, .bin .eql .int (.s 13) (.c (.int .i64 0))⟩,
            ⟨(some 15), none, .mv (.s 14)⟩,
            ⟨(some 16), (some (15, false)), .mv (.s 3)⟩,
            ⟨(some 17), (some (15, false)), .bin .gtr .int (.s 16) (.c (.int .u64 40))⟩,
            ⟨(some 18), none, .pick (.s 15) (.c (.bool true)) (.s 17)⟩])
          (.cond (.s 18)
            (.seq
              (.region false [
                ⟨(some 19), none, .mv (.s 0)⟩,
                ⟨(some 20), none, .nilchk (.s 19)⟩,
                ⟨(some 21), none, .faddr 1 (.s 20)⟩,
                ⟨none, none, .store 1 0 [] (.s 21) (.c (.bool true))⟩])
              (.seq
                (.region false [
                  ⟨(some 2), none, .mv (.c (.int .i64 0))⟩])
                .ret))
            .skip))
        (.seq
          (.region false [
            ⟨(some 22), none, .mv (.s 0)⟩,
            ⟨(some 23), none, .mv (.s 0)⟩,
            ⟨(some 24), none, .nilchk (.s 23)⟩,
            ⟨(some 25), none, .faddr 0 (.s 24)⟩,
            ⟨(some 26), none, .load none (some 0) (.s 25)⟩,
            ⟨(some 27), none, .mv (.s 4)⟩,
            ⟨(some 28), none, .sliceS 1 (.s 26) (some (.s 27)) none⟩,
            ⟨(some 29), none, .nilchk (.s 22)⟩,
            ⟨(some 30), none, .faddr 0 (.s 29)⟩,
            ⟨none, none, .store 1 0 [] (.s 30) (.s 28)⟩])
          (.seq
            (.region false [
              ⟨(some 31), none, .mv (.s 3)⟩,
              ⟨(some 32), none, .conv .i64 (.s 31)⟩,
              ⟨(some 2), none, .mv (.s 32)⟩])
            .ret))))) }
/- cuboid/cuboidref04.Read -/
def f21 : MFun := { nt := 128, np := 1, no := 8, res := [.cell 2 0 (some 2), .slot 3], body :=
  (.seq
    (.region false [
      ⟨(some 2), none, .alloc 0 [.nilsl, .int .i64 0]⟩,
      ⟨(some 3), none, .mv (.c (.bool false))⟩])
    (.seq
      (.region false [
        ⟨(some 14), none, .mv (.s 0)⟩,
        ⟨(some 15), none, .build [.nilsl, .bool false] [(0, 1, (.s 14))]⟩,
        ⟨(some 16), none, .box 1 (.s 15)⟩,
        ⟨(some 4), none, .mv (.s 16)⟩])
      (.seq
        (.region false [
          ⟨(some 5), none, .alloc 2 [.nilsl, .int .i64 0]⟩])
        (.seq
          (.region false [
            ⟨(some 17), none, .mv (.s 4)⟩,
            ⟨(some 18), none, .call (.c (.fn 36 [] [])) [(.s 17)] [1] [] [] true⟩,
            ⟨(some 19), none, .faddr 1 (.s 5)⟩,
            ⟨none, none, .store 1 2 [] (.s 19) (.s 18)⟩])
          (.seq
            (.region false [
              ⟨(some 20), none, .mv (.s 4)⟩,
              ⟨(some 21), none, .call (.c (.fn 36 [] [])) [(.s 20)] [1] [] [] true⟩,
              ⟨(some 6), none, .mv (.s 21)⟩])
            (.seq
              (.seq
                (.region false [
                  ⟨(some 7), none, .mv (.c (.int .i64 0))⟩])
                (.block 0
                  (.loop [0, 2, 4, 5, 6, 7] [0, 1, 2, 7]
                    (.seq
                      (.seq
                        (.region false [
                          ⟨(some 22), none, .mv (.s 7)⟩,
                          ⟨(some 23), none, .mv (.s 6)⟩,
                          ⟨(some 24), none, .bin .lss .int (.s 22) (.s 23)⟩,
                          ⟨(some 25), none, .mv (.s 24)⟩,
                          ⟨(some 26), (some (25, true)), .mv (.s 4)⟩,
                          ⟨(some 27), (some (25, true)), .nilchk (.s 26)⟩,
                          ⟨(some 28), (some (25, true)), .faddr 1 (.s 27)⟩,
                          ⟨(some 29), (some (25, true)), .load none (some 1) (.s 28)⟩,
                          ⟨(some 30), (some (25, true)), .un .not (.s 29)⟩,
                          ⟨(some 31), none, .pick (.s 25) (.s 30) (.c (.bool false))⟩])
                        (.cond (.s 31)
                          .skip
                          (.exit 0)))
                      (.seq
                        (.block 1
                          (.seq
                            (.region false [
                              ⟨(some 8), none, .alloc 3 [.nilsl, .nilsl]⟩])
                            (.seq
                              (.region false [
                                ⟨(some 34), none, .mv (.s 4)⟩,
                                ⟨(some 35), none, .call (.c (.fn 36 [] [])) [(.s 34)] [1] [] [] true⟩,
                                ⟨(some 9), none, .mv (.s 35)⟩])
                              (.seq
                                (.seq
                                  (.region false [
                                    ⟨(some 10), none, .mv (.c (.int .i64 0))⟩])
                                  (.block 2
                                    (.loop [0, 2, 4, 5, 6, 7, 8, 9, 10] [0, 1, 2, 3, 4, 6, 7]
                                      (.seq
                                        (.seq
                                          (.region false [
                                            ⟨(some 36), none, .mv (.s 10)⟩,
                                            ⟨(some 37), none, .mv (.s 9)⟩,
                                            ⟨(some 38), none, .bin .lss .int (.s 36) (.s 37)⟩,
                                            ⟨(some 39), none, .mv (.s 38)⟩,
                                            ⟨(some 40), (some (39, true)), .mv (.s 4)⟩,
                                            ⟨(some 41), (some (39, true)), .nilchk (.s 40)⟩,
                                            ⟨(some 42), (some (39, true)), .faddr 1 (.s 41)⟩,
                                            ⟨(some 43), (some (39, true)), .load none (some 1) (.s 42)⟩,
                                            ⟨(some 44), (some (39, true)), .un .not (.s 43)⟩,
                                            ⟨(some 45), none, .pick (.s 39) (.s 44) (.c (.bool false))⟩])
                                          (.cond (.s 45)
                                            .skip
                                            (.exit 2)))
                                        (.seq
                                          (.block 3
                                            (.region true [
                                              ⟨(some 48), none, .faddr 0 (.s 8)⟩,
                                              ⟨(some 49), none, .load none (some 3) (.s 48)⟩,
                                              ⟨(some 50), none, .mv (.s 4)⟩,
                                              ⟨(some 51), none, .call (.c (.fn 36 [] [])) [(.s 50)] [1] [] [] true⟩,
                                              ⟨(some 52), none, .lit none [] 1 1 [.int .i64 0] [(0, 1, (.s 51))]⟩,
                                              ⟨(some 53), none, .append 8 1 4 none (.s 49) (.s 52)⟩,
                                              ⟨(some 54), none, .faddr 0 (.s 8)⟩,
                                              ⟨none, none, .store 1 3 [] (.s 54) (.s 53)⟩]))
                                          (.region false [
                                            ⟨(some 46), none, .mv (.s 10)⟩,
                                            ⟨(some 47), none, .bin .add .int (.s 46) (.c (.int .i64 1))⟩,
                                            ⟨(some 10), none, .mv (.s 47)⟩]))))))
                                (.seq
                                  (.seq
                                    (.region false [
                                      ⟨(some 11), none, .mv (.c (.int .i64 0))⟩])
                                    (.block 4
                                      (.loop [0, 2, 4, 5, 6, 7, 8, 9, 11] [0, 1, 2, 3, 4, 6, 7]
                                        (.seq
                                          (.seq
                                            (.region false [
                                              ⟨(some 55), none, .mv (.s 11)⟩,
                                              ⟨(some 56), none, .bin .add .int (.s 55) (.c (.int .i64 1))⟩,
                                              ⟨(some 57), none, .mv (.s 9)⟩,
                                              ⟨(some 58), none, .bin .lss .int (.s 56) (.s 57)⟩,
                                              ⟨(some 59), none, .mv (.s 58)⟩,
                                              ⟨(some 60), (some (59, true)), .mv (.s 4)⟩,
                                              ⟨(some 61), (some (59, true)), .nilchk (.s 60)⟩,
                                              ⟨(some 62), (some (59, true)), .faddr 1 (.s 61)⟩,
                                              ⟨(some 63), (some (59, true)), .load none (some 1) (.s 62)⟩,
                                              ⟨(some 64), (some (59, true)), .un .not (.s 63)⟩,
                                              ⟨(some 65), none, .pick (.s 59) (.s 64) (.c (.bool false))⟩])
                                            (.cond (.s 65)
                                              .skip
                                              (.exit 4)))
                                          (.seq
                                            (.block 5
                                              (.seq
                                                (.region false [
                                                  ⟨(some 12), none, .vnil 5 1⟩])
                                                (.seq
                                                  (.seq
                                                    (.region false [
                                                      ⟨(some 13), none, .mv (.c (.int .i64 0))⟩])
                                                    (.block 6
                                                      (.loop [0, 2, 4, 5, 6, 7, 8, 9, 11, 12, 13] [0, 1, 2, 3, 4, 5, 6, 7]
                                                        (.seq
                                                          (.seq
                                                            (.region false [
                                                              ⟨(some 68), none, .mv (.s 13)⟩,
                                                              ⟨(some 69), none, .faddr 0 (.s 8)⟩,
                                                              ⟨(some 70), none, .load none (some 3) (.s 69)⟩,
                                                              ⟨(some 71), none, .mv (.s 11)⟩,
                                                              ⟨(some 72), none, .iaddrS 1 (.s 70) (.s 71)⟩,
                                                              ⟨(some 73), none, .load none (some 4) (.s 72)⟩,
                                                              ⟨(some 74), none, .bin .lss .int (.s 68) (.s 73)⟩,
                                                              ⟨(some 75), none, .mv (.s 74)⟩,
                                                              ⟨(some 76), (some (75, true)), .mv (.s 4)⟩,
                                                              ⟨(some 77), (some (75, true)), .nilchk (.s 76)⟩,
                                                              ⟨(some 78), (some (75, true)), .faddr 1 (.s 77)⟩,
                                                              ⟨(some 79), (some (75, true)), .load none (some 1) (.s 78)⟩,
                                                              ⟨(some 80), (some (75, true)), .un .not (.s 79)⟩,
                                                              ⟨(some 81), none, .pick (.s 75) (.s 80) (.c (.bool false))⟩])
                                                            (.cond (.s 81)
                                                              .skip
                                                              (.exit 6)))
                                                          (.seq
                                                            (.block 7
                                                              (.region false [
                                                                ⟨(some 84), none, .mv (.s 12)⟩,
                                                                ⟨(some 85), none, .mv (.s 4)⟩,
                                                                ⟨(some 86), none, .call (.c (.fn 36 [] [])) [(.s 85)] [1] [] [] true⟩,
                                                                ⟨(some 87), none, .lit none [] 1 1 [.int .i64 0] [(0, 1, (.s 86))]⟩,
                                                                ⟨(some 88), none, .append 8 1 5 none (.s 84) (.s 87)⟩,
                                                                ⟨(some 12), none, .mv (.s 88)⟩]))
                                                            (.region false [
                                                              ⟨(some 82), none, .mv (.s 13)⟩,
                                                              ⟨(some 83), none, .bin .add .int (.s 82) (.c (.int .i64 1))⟩,
                                                              ⟨(some 13), none, .mv (.s 83)⟩]))))))
                                                  (.region false [
                                                    ⟨(some 89), none, .faddr 1 (.s 8)⟩,
                                                    ⟨(some 90), none, .load none (some 3) (.s 89)⟩,
                                                    ⟨(some 91), none, .mv (.s 12)⟩,
                                                    ⟨(some 92), none, .lit none [5] 1 1 [.nilsl] [(0, 1, (.s 91))]⟩,
                                                    ⟨(some 93), none, .append 24 1 6 none (.s 90) (.s 92)⟩,
                                                    ⟨(some 94), none, .faddr 1 (.s 8)⟩,
                                                    ⟨none, none, .store 1 3 [] (.s 94) (.s 93)⟩]))))
                                            (.region false [
                                              ⟨(some 66), none, .mv (.s 11)⟩,
                                              ⟨(some 67), none, .bin .add .int (.s 66) (.c (.int .i64 1))⟩,
                                              ⟨(some 11), none, .mv (.s 67)⟩]))))))
                                  (.region false [
                                    ⟨(some 95), none, .faddr 0 (.s 5)⟩,
                                    ⟨(some 96), none, .load none (some 2) (.s 95)⟩,
                                    ⟨(some 97), none, .load (some 2) (some 3) (.s 8)⟩,
                                    ⟨(some 98), none, .lit none [4, 6] 1 2 [.nilsl, .nilsl] [(0, 2, (.s 97))]⟩,
                                    ⟨(some 99), none, .append 48 2 7 none (.s 96) (.s 98)⟩,
                                    ⟨(some 100), none, .faddr 0 (.s 5)⟩,
                                    ⟨none, none, .store 1 2 [] (.s 100) (.s 99)⟩]))))))
                        (.region false [
                          ⟨(some 32), none, .mv (.s 7)⟩,
                          ⟨(some 33), none, .bin .add .int (.s 32) (.c (.int .i64 1))⟩,
                          ⟨(some 7), none, .mv (.s 33)⟩]))))))
              (.seq
                (.seq
                  (.region true [
                    ⟨(some 101), none, .mv (.s 4)⟩,
                    ⟨(some 102), none, .nilchk (.s 101)⟩,
                    ⟨(some 103), none, .faddr 1 (.s 102)⟩,
                    ⟨(some 104), none, .load none (some 1) (.s 103)⟩,
                    ⟨(some 105), none, .mv (.s 104)⟩,
                    ⟨(some 106), (some (105, false)), .mv (.s 4)⟩,
                    ⟨(some 107), (some (105, false)), .nilchk (.s 106)⟩,
                    ⟨(some 108), (some (105, false)), .faddr 0 (.s 107)⟩,
                    ⟨(some 109), (some (105, false)), .load none (some 1) (.s 108)⟩,
                    ⟨(some 110), (some (105, false)), .len (.s 109)⟩,
                    ⟨(some 111), (some (105, false)), .bin .gtr .int (.s 110) (.c (.int .i64 0))⟩,
                    ⟨(some 112), none, .pick (.s 105) (.c (.bool true)) (.s 111)⟩,
                    ⟨(some 113), none, .mv (.s 112)⟩,
                    ⟨(some 114), (some (113, false)), .load (some 2) (some 2) (.s 5)⟩,
                    ⟨(some 115), (some (113, false)), .call (.c (.fn 13 [] [])) [(.s 114)] [] [7] [] false⟩,
                    ⟨(some 116), (some (113, false)), .un .not (.s 115)⟩,
                    ⟨(some 117), none, .pick (.s 113) (.c (.bool true)) (.s 116)⟩,
                    ⟨(some 118), none, .mv (.s 117)⟩,
                    ⟨(some 119), (some (118, false)), .load (some 2) (some 2) (.s 5)⟩,
                    ⟨(some 120), (some (118, false)), .call (.c (.fn 18 [] [])) [(.s 119)] [] [7] [] true⟩,
                    ⟨(some 121), (some (118, false)), .b2s none (.s 120)⟩,
                    ⟨(some 122), (some (118, false)), .mv (.s 0)⟩,
                    ⟨(some 123), (some (118, false)), .b2s none (.s 122)⟩,
                    ⟨(some 124), (some (118, false)), .bin .neq .str (.s 121) (.s 123)⟩,
                    ⟨(some 125), none, .pick (.s 118) (.c (.bool true)) (.s 124)⟩])
                  (.cond (.s 125)
                    (.seq
                      (.region false [
                        ⟨(some 126), none, .build [.nilsl, .int .i64 0] []⟩,
                        ⟨none, none, .store 2 0 [] (.s 2) (.s 126)⟩,
                        ⟨(some 3), none, .mv (.c (.bool false))⟩])
                      .ret)
                    .skip))
                (.seq
                  (.region false [
                    ⟨(some 127), none, .load (some 2) (some 2) (.s 5)⟩,
                    ⟨none, none, .store 2 0 [] (.s 2) (.s 127)⟩,
                    ⟨(some 3), none, .mv (.c (.bool true))⟩])
                  .ret)))))))) }
/- cuboid/cuboidlaw04.SchemaReads -/
def f6 : MFun := { nt := 73, np := 3, no := 5, res := [.slot 6], body :=
  (.seq
    (.region false [
      ⟨(some 4), none, .box 0 (.s 1)⟩,
      ⟨(some 5), none, .box 1 (.s 2)⟩,
      ⟨(some 6), none, .mv (.c (.bool false))⟩])
    (.seq
      (.seq
        (.region false [
          ⟨(some 14), none, .mv (.s 0)⟩,
          ⟨(some 15), none, .len (.s 14)⟩,
          ⟨(some 16), none, .bin .gtr .int (.s 15) (.c (.int .i64 1500))⟩,
          ⟨(some 17), none, .mv (.s 16)⟩,
          ⟨(some 18), (some (17, false)), .load (some 2) (some 0) (.s 4)⟩,
          ⟨(some 19), (some (17, false)), .call (.c (.fn 8 [] [])) [(.s 18)] [] [] [] false⟩,
          ⟨(some 20), (some (17, false)), .un .not (.s 19)⟩,
          ⟨(some 21), none, .pick (.s 17) (.c (.bool true)) (.s 20)⟩])
        (.cond (.s 21)
          (.seq
            (.region false [
              ⟨(some 22), none, .call (.c (.fn 9 [] [])) [] [] [] [] false⟩,
              ⟨(some 6), none, .mv (.s 22)⟩])
            .ret)
          .skip))
      (.seq
        (.region false [
          ⟨(some 23), none, .lit (some 2) [] 1 1 [.int .u8 0] [(0, 1, (.c (.int .u8 0)))]⟩,
          ⟨(some 24), none, .load (some 2) (some 0) (.s 4)⟩,
          ⟨(some 25), none, .call (.c (.fn 18 [] [])) [(.s 24)] [] [] [] true⟩,
          ⟨(some 26), none, .append 1 1 2 none (.s 23) (.s 25)⟩,
          ⟨(some 27), none, .sliceS 1 (.s 26) (some (.c (.int .i64 1))) none⟩,
          ⟨(some 7), none, .mv (.s 27)⟩])
        (.seq
          (.seq
            (.region false [
              ⟨(some 28), none, .mv (.s 7)⟩,
              ⟨(some 29), none, .len (.s 28)⟩,
              ⟨(some 30), none, .bin .gtr .int (.s 29) (.c (.int .i64 0))⟩])
            (.cond (.s 30)
              (.region true [
                ⟨(some 31), none, .mv (.s 7)⟩,
                ⟨(some 32), none, .iaddrA 2 1 (.s 5) (.c (.int .i64 0))⟩,
                ⟨(some 33), none, .load none (some 1) (.s 32)⟩,
                ⟨(some 34), none, .conv .i64 (.s 33)⟩,
                ⟨(some 35), none, .mv (.s 7)⟩,
                ⟨(some 36), none, .len (.s 35)⟩,
                ⟨(some 37), none, .bin .rem .int (.s 34) (.s 36)⟩,
                ⟨(some 38), none, .iaddrS 1 (.s 31) (.s 37)⟩,
                ⟨(some 39), none, .load none (some 2) (.s 38)⟩,
                ⟨(some 40), none, .iaddrA 2 1 (.s 5) (.c (.int .i64 1))⟩,
                ⟨(some 41), none, .load none (some 1) (.s 40)⟩,
                ⟨(some 42), none, .bin .xor .int (.s 39) (.s 41)⟩,
                ⟨(some 43), none, .iaddrS 1 (.s 31) (.s 37)⟩,
                ⟨none, none, .store 1 2 [] (.s 43) (.s 42)⟩])
              .skip))
          (.seq
            (.seq
              (.region false [
                ⟨(some 44), none, .mv (.s 0)⟩,
                ⟨(some 45), none, .mv (.s 7)⟩,
                ⟨(some 46), none, .lit none [2] 2 1 [.nilsl] [(0, 1, (.s 44)), (1, 1, (.s 45))]⟩,
                ⟨(some 47), none, .len (.s 46)⟩,
                ⟨(some 48), none, .mv (.c (.int .i64 0))⟩])
              (.block 0
                (.loop [46, 47, 48] []
                  (.seq
                    (.region false [
                      ⟨(some 49), none, .bin .lss .int (.s 48) (.s 47)⟩])
                    (.seq
                      (.cond (.s 49)
                        .skip
                        (.exit 0))
                      (.seq
                        (.block 1
                          (.seq
                            (.region false [
                              ⟨(some 50), none, .iaddrS 1 (.s 46) (.s 48)⟩,
                              ⟨(some 51), none, .load none none (.s 50)⟩,
                              ⟨(some 9), none, .mv (.s 51)⟩])
                            (.seq
                              (.region false [
                                ⟨(some 53), none, .mv (.s 9)⟩,
                                ⟨(some 54), none, .call (.c (.fn 20 [] [])) [(.s 53)] [] [] [] true⟩,
                                ⟨(some 52), none, .mv (.s 54)⟩,
                                ⟨(some 55), none, .extract (.s 52) 0⟩,
                                ⟨(some 56), none, .extract (.s 52) 1⟩,
                                ⟨(some 10), none, .alloc 3 [.nilsl, .int .i64 0]⟩,
                                ⟨none, none, .store 2 3 [] (.s 10) (.s 55)⟩,
                                ⟨(some 11), none, .mv (.s 56)⟩])
                              (.seq
                                (.region false [
                                  ⟨(some 58), none, .mv (.s 9)⟩,
                                  ⟨(some 59), none, .call (.c (.fn 21 [] [])) [(.s 58)] [] [] [] true⟩,
                                  ⟨(some 57), none, .mv (.s 59)⟩,
                                  ⟨(some 60), none, .extract (.s 57) 0⟩,
                                  ⟨(some 61), none, .extract (.s 57) 1⟩,
                                  ⟨(some 12), none, .alloc 4 [.nilsl, .int .i64 0]⟩,
                                  ⟨none, none, .store 2 4 [] (.s 12) (.s 60)⟩,
                                  ⟨(some 13), none, .mv (.s 61)⟩])
                                (.seq
                                  (.region false [
                                    ⟨(some 62), none, .mv (.s 11)⟩,
                                    ⟨(some 63), none, .mv (.s 13)⟩,
                                    ⟨(some 64), none, .bin .neq .bool (.s 62) (.s 63)⟩,
                                    ⟨(some 65), none, .mv (.s 64)⟩,
                                    ⟨(some 66), (some (65, false)), .load (some 2) (some 3) (.s 10)⟩,
                                    ⟨(some 67), (some (65, false)), .load (some 2) (some 4) (.s 12)⟩,
                                    ⟨(some 68), (some (65, false)), .call (.c (.fn 19 [] [])) [(.s 66), (.s 67)] [] [] [] false⟩,
                                    ⟨(some 69), (some (65, false)), .un .not (.s 68)⟩,
                                    ⟨(some 70), none, .pick (.s 65) (.c (.bool true)) (.s 69)⟩])
                                  (.cond (.s 70)
                                    (.seq
                                      (.region false [
                                        ⟨(some 6), none, .mv (.c (.bool false))⟩])
                                      .ret)
                                    .skip))))))
                        (.region false [
                          ⟨(some 71), none, .bin .add .int (.s 48) (.c (.int .i64 1))⟩,
                          ⟨(some 48), none, .mv (.s 71)⟩])))))))
            (.seq
              (.region false [
                ⟨(some 72), none, .call (.c (.fn 9 [] [])) [] [] [] [] false⟩,
                ⟨(some 6), none, .mv (.s 72)⟩])
              .ret)))))) }
/- cuboid/cuboidlaw04.SchemaPlaces -/
def f7 : MFun := { nt := 93, np := 3, no := 3, res := [.slot 6], body :=
  (.seq
    (.region false [
      ⟨(some 3), none, .box 0 (.s 0)⟩,
      ⟨(some 6), none, .mv (.c (.bool false))⟩])
    (.seq
      (.seq
        (.region false [
          ⟨(some 10), none, .faddr 0 (.s 3)⟩,
          ⟨(some 11), none, .load (some 2) (some 0) (.s 10)⟩,
          ⟨(some 12), none, .faddr 2 (.s 3)⟩,
          ⟨(some 13), none, .load (some 4) (some 0) (.s 12)⟩,
          ⟨(some 14), none, .faddr 6 (.s 3)⟩,
          ⟨(some 15), none, .load (some 4) (some 0) (.s 14)⟩,
          ⟨(some 16), none, .call (.c (.fn 15 [] [])) [(.s 11), (.s 13), (.s 15)] [] [] [] false⟩,
          ⟨(some 17), none, .un .not (.s 16)⟩])
        (.cond (.s 17)
          (.seq
            (.region false [
              ⟨(some 18), none, .call (.c (.fn 9 [] [])) [] [] [] [] false⟩,
              ⟨(some 6), none, .mv (.s 18)⟩])
            .ret)
          .skip))
      (.seq
        (.region false [
          ⟨(some 19), none, .mv (.s 1)⟩,
          ⟨(some 20), none, .conv .i64 (.s 19)⟩,
          ⟨(some 21), none, .bin .rem .int (.s 20) (.c (.int .i64 4))⟩,
          ⟨(some 7), none, .mv (.s 21)⟩])
        (.seq
          (.region true [
            ⟨(some 22), none, .faddr 6 (.s 3)⟩,
            ⟨(some 23), none, .load (some 4) (some 0) (.s 22)⟩,
            ⟨(some 24), none, .faddr 2 (.s 3)⟩,
            ⟨(some 25), none, .load (some 4) (some 0) (.s 24)⟩,
            ⟨(some 8), none, .alloc 1 [.int .u8 0, .int .u8 0, .int .u8 0, .int .u8 0]⟩,
            ⟨(some 9), none, .alloc 2 [.int .u8 0, .int .u8 0, .int .u8 0, .int .u8 0]⟩,
            ⟨none, none, .store 4 1 [] (.s 8) (.s 23)⟩,
            ⟨none, none, .store 4 2 [] (.s 9) (.s 25)⟩])
          (.seq
            (.seq
              (.region false [
                ⟨(some 26), none, .mv (.s 7)⟩,
                ⟨(some 27), none, .faddr 0 (.s 3)⟩,
                ⟨(some 28), none, .faddr 0 (.s 27)⟩,
                ⟨(some 29), none, .load none (some 0) (.s 28)⟩,
                ⟨(some 30), none, .len (.s 29)⟩,
                ⟨(some 31), none, .bin .geq .int (.s 26) (.s 30)⟩])
              (.cond (.s 31)
                (.region false [
                  ⟨(some 32), none, .mv (.s 7)⟩,
                  ⟨(some 33), none, .mv (.s 7)⟩,
                  ⟨(some 34), none, .mv (.s 2)⟩,
                  ⟨(some 35), none, .bin .rem .int (.s 34) (.c (.int .u8 255))⟩,
                  ⟨(some 36), none, .bin .add .int (.c (.int .u8 1)) (.s 35)⟩,
                  ⟨(some 37), none, .mv (.s 2)⟩,
                  ⟨(some 38), none, .bin .rem .int (.s 37) (.c (.int .u8 255))⟩,
                  ⟨(some 39), none, .bin .add .int (.c (.int .u8 1)) (.s 38)⟩,
                  ⟨(some 40), none, .iaddrA 4 1 (.s 8) (.s 32)⟩,
                  ⟨none, none, .store 1 1 [] (.s 40) (.s 36)⟩,
                  ⟨(some 41), none, .iaddrA 4 1 (.s 9) (.s 33)⟩,
                  ⟨none, none, .store 1 2 [] (.s 41) (.s 39)⟩])
                (.seq
                  (.region false [
                    ⟨(some 42), none, .mv (.s 7)⟩,
                    ⟨(some 43), none, .mv (.s 2)⟩,
                    ⟨(some 44), none, .bin .rem .int (.s 43) (.c (.int .u8 100))⟩,
                    ⟨(some 45), none, .bin .add .int (.c (.int .u8 40)) (.s 44)⟩,
                    ⟨(some 46), none, .iaddrA 4 1 (.s 8) (.s 42)⟩,
                    ⟨none, none, .store 1 1 [] (.s 46) (.s 45)⟩])
                  (.region false [
                    ⟨(some 47), none, .mv (.s 7)⟩,
                    ⟨(some 48), none, .faddr 0 (.s 3)⟩,
                    ⟨(some 49), none, .load (some 2) (some 0) (.s 48)⟩,
                    ⟨(some 50), none, .mv (.s 7)⟩,
                    ⟨(some 51), none, .call (.c (.fn 10 [] [])) [(.s 49), (.s 50)] [] [] [] false⟩,
                    ⟨(some 52), none, .conv .u8 (.s 51)⟩,
                    ⟨(some 53), none, .mv (.s 2)⟩,
                    ⟨(some 54), none, .bin .rem .int (.s 53) (.c (.int .u8 100))⟩,
                    ⟨(some 55), none, .bin .add .int (.s 52) (.s 54)⟩,
                    ⟨(some 56), none, .iaddrA 4 1 (.s 9) (.s 47)⟩,
                    ⟨none, none, .store 1 2 [] (.s 56) (.s 55)⟩]))))
            (.seq
              (.region false [
                ⟨(some 57), none, .faddr 0 (.s 3)⟩,
                ⟨(some 58), none, .load (some 2) (some 0) (.s 57)⟩,
                ⟨(some 59), none, .faddr 2 (.s 3)⟩,
                ⟨(some 60), none, .load (some 4) (some 0) (.s 59)⟩,
                ⟨(some 61), none, .faddr 6 (.s 3)⟩,
                ⟨(some 62), none, .load (some 4) (some 0) (.s 61)⟩,
                ⟨(some 63), none, .call (.c (.fn 14 [] [])) [(.s 58), (.s 60), (.s 62)] [] [] [] false⟩,
                ⟨(some 64), none, .mv (.s 63)⟩,
                ⟨(some 65), (some (64, true)), .faddr 0 (.s 3)⟩,
                ⟨(some 66), (some (64, true)), .load (some 2) (some 0) (.s 65)⟩,
                ⟨(some 67), (some (64, true)), .faddr 2 (.s 3)⟩,
                ⟨(some 68), (some (64, true)), .load (some 4) (some 0) (.s 67)⟩,
                ⟨(some 69), (some (64, true)), .load (some 4) (some 1) (.s 8)⟩,
                ⟨(some 70), (some (64, true)), .call (.c (.fn 14 [] [])) [(.s 66), (.s 68), (.s 69)] [] [] [] false⟩,
                ⟨(some 71), (some (64, true)), .un .not (.s 70)⟩,
                ⟨(some 72), none, .pick (.s 64) (.s 71) (.c (.bool false))⟩,
                ⟨(some 73), none, .mv (.s 72)⟩,
                ⟨(some 74), (some (73, true)), .faddr 0 (.s 3)⟩,
                ⟨(some 75), (some (73, true)), .load (some 2) (some 0) (.s 74)⟩,
                ⟨(some 76), (some (73, true)), .load (some 4) (some 2) (.s 9)⟩,
                ⟨(some 77), (some (73, true)), .build [.int .u8 0, .int .u8 0, .int .u8 0, .int .u8 0] []⟩,
                ⟨(some 78), (some (73, true)), .call (.c (.fn 14 [] [])) [(.s 75), (.s 76), (.s 77)] [] [] [] false⟩,
                ⟨(some 79), (some (73, true)), .un .not (.s 78)⟩,
                ⟨(some 80), none, .pick (.s 73) (.s 79) (.c (.bool false))⟩,
                ⟨(some 81), none, .mv (.s 80)⟩,
                ⟨(some 82), (some (81, true)), .faddr 0 (.s 3)⟩,
                ⟨(some 83), (some (81, true)), .load (some 2) (some 0) (.s 82)⟩,
                ⟨(some 84), (some (81, true)), .load (some 4) (some 2) (.s 9)⟩,
                ⟨(some 85), (some (81, true)), .faddr 6 (.s 3)⟩,
                ⟨(some 86), (some (81, true)), .load (some 4) (some 0) (.s 85)⟩,
                ⟨(some 87), (some (81, true)), .call (.c (.fn 14 [] [])) [(.s 83), (.s 84), (.s 86)] [] [] [] false⟩,
                ⟨(some 88), (some (81, true)), .un .not (.s 87)⟩,
                ⟨(some 89), none, .pick (.s 81) (.s 88) (.c (.bool false))⟩,
                ⟨(some 90), none, .mv (.s 89)⟩,
                ⟨(some 91), (some (90, true)), .call (.c (.fn 9 [] [])) [] [] [] [] false⟩,
                ⟨(some 92), none, .pick (.s 90) (.s 91) (.c (.bool false))⟩,
                ⟨(some 6), none, .mv (.s 92)⟩])
              .ret)))))) }
end Mf
theorem mf22_ok : chkFun Try.prog Mf.f22 Try.f22 = true := by kernel_rfl
theorem mf8_ok : chkFun Try.prog Mf.f8 Try.f8 = true := by kernel_rfl
theorem mf23_ok : chkFun Try.prog Mf.f23 Try.f23 = true := by kernel_rfl
theorem mf37_ok : chkFun Try.prog Mf.f37 Try.f37 = true := by kernel_rfl
theorem mf38_ok : chkFun Try.prog Mf.f38 Try.f38 = true := by kernel_rfl
theorem mf24_ok : chkFun Try.prog Mf.f24 Try.f24 = true := by kernel_rfl
theorem mf12_ok : chkFun Try.prog Mf.f12 Try.f12 = true := by kernel_rfl
theorem mf10_ok : chkFun Try.prog Mf.f10 Try.f10 = true := by kernel_rfl
theorem mf26_ok : chkFun Try.prog Mf.f26 Try.f26 = true := by kernel_rfl
theorem mf14_ok : chkFun Try.prog Mf.f14 Try.f14 = true := by kernel_rfl
theorem mf28_ok : chkFun Try.prog Mf.f28 Try.f28 = true := by kernel_rfl
theorem mf39_ok : chkFun Try.prog Mf.f39 Try.f39 = true := by kernel_rfl
theorem mf40_ok : chkFun Try.prog Mf.f40 Try.f40 = true := by kernel_rfl
theorem mf29_ok : chkFun Try.prog Mf.f29 Try.f29 = true := by kernel_rfl
theorem mf16_ok : chkFun Try.prog Mf.f16 Try.f16 = true := by kernel_rfl
theorem mf45_ok : chkFun Try.prog Mf.f45 Try.f45 = true := by kernel_rfl
theorem mf41_ok : chkFun Try.prog Mf.f41 Try.f41 = true := by kernel_rfl
theorem mf30_ok : chkFun Try.prog Mf.f30 Try.f30 = true := by kernel_rfl
theorem mf17_ok : chkFun Try.prog Mf.f17 Try.f17 = true := by kernel_rfl
theorem mf42_ok : chkFun Try.prog Mf.f42 Try.f42 = true := by kernel_rfl
theorem mf34_ok : chkFun Try.prog Mf.f34 Try.f34 = true := by kernel_rfl
theorem mf43_ok : chkFun Try.prog Mf.f43 Try.f43 = true := by kernel_rfl
theorem mf35_ok : chkFun Try.prog Mf.f35 Try.f35 = true := by kernel_rfl
theorem mf20_ok : chkFun Try.prog Mf.f20 Try.f20 = true := by kernel_rfl
theorem mf9_ok : chkFun Try.prog Mf.f9 Try.f9 = true := by kernel_rfl
theorem mf25_ok : chkFun Try.prog Mf.f25 Try.f25 = true := by kernel_rfl
theorem mf13_ok : chkFun Try.prog Mf.f13 Try.f13 = true := by kernel_rfl
theorem mf11_ok : chkFun Try.prog Mf.f11 Try.f11 = true := by kernel_rfl
theorem mf27_ok : chkFun Try.prog Mf.f27 Try.f27 = true := by kernel_rfl
theorem mf15_ok : chkFun Try.prog Mf.f15 Try.f15 = true := by kernel_rfl
theorem mf31_ok : chkFun Try.prog Mf.f31 Try.f31 = true := by kernel_rfl
theorem mf32_ok : chkFun Try.prog Mf.f32 Try.f32 = true := by kernel_rfl
theorem mf18_ok : chkFun Try.prog Mf.f18 Try.f18 = true := by kernel_rfl
theorem mf3_ok : chkFun Try.prog Mf.f3 Try.f3 = true := by kernel_rfl
theorem mf33_ok : chkFun Try.prog Mf.f33 Try.f33 = true := by kernel_rfl
theorem mf19_ok : chkFun Try.prog Mf.f19 Try.f19 = true := by kernel_rfl
theorem mf4_ok : chkFun Try.prog Mf.f4 Try.f4 = true := by kernel_rfl
theorem mf5_ok : chkFun Try.prog Mf.f5 Try.f5 = true := by kernel_rfl
theorem mf44_ok : chkFun Try.prog Mf.f44 Try.f44 = true := by kernel_rfl
theorem mf36_ok : chkFun Try.prog Mf.f36 Try.f36 = true := by kernel_rfl
theorem mf21_ok : chkFun Try.prog Mf.f21 Try.f21 = true := by kernel_rfl
theorem mf6_ok : chkFun Try.prog Mf.f6 Try.f6 = true := by kernel_rfl
theorem mf7_ok : chkFun Try.prog Mf.f7 Try.f7 = true := by kernel_rfl
def fnTab : FuncId → Option MFun
  | 22 => some Mf.f22
  | 8 => some Mf.f8
  | 23 => some Mf.f23
  | 37 => some Mf.f37
  | 38 => some Mf.f38
  | 24 => some Mf.f24
  | 12 => some Mf.f12
  | 10 => some Mf.f10
  | 26 => some Mf.f26
  | 14 => some Mf.f14
  | 28 => some Mf.f28
  | 39 => some Mf.f39
  | 40 => some Mf.f40
  | 29 => some Mf.f29
  | 16 => some Mf.f16
  | 45 => some Mf.f45
  | 41 => some Mf.f41
  | 30 => some Mf.f30
  | 17 => some Mf.f17
  | 42 => some Mf.f42
  | 34 => some Mf.f34
  | 43 => some Mf.f43
  | 35 => some Mf.f35
  | 20 => some Mf.f20
  | 9 => some Mf.f9
  | 25 => some Mf.f25
  | 13 => some Mf.f13
  | 11 => some Mf.f11
  | 27 => some Mf.f27
  | 15 => some Mf.f15
  | 31 => some Mf.f31
  | 32 => some Mf.f32
  | 18 => some Mf.f18
  | 3 => some Mf.f3
  | 33 => some Mf.f33
  | 19 => some Mf.f19
  | 4 => some Mf.f4
  | 5 => some Mf.f5
  | 44 => some Mf.f44
  | 36 => some Mf.f36
  | 21 => some Mf.f21
  | 6 => some Mf.f6
  | 7 => some Mf.f7
  | _ => none
theorem fnTab_ok : ∀ f mf, fnTab f = some mf → ∃ fn, Try.prog.funcs[f]? = some fn ∧ chkFun Try.prog mf fn = true := by
  intro f mf h
  unfold fnTab at h
  split at h
  · cases h; exact ⟨Try.f22, Try.func22, mf22_ok⟩
  · cases h; exact ⟨Try.f8, Try.func8, mf8_ok⟩
  · cases h; exact ⟨Try.f23, Try.func23, mf23_ok⟩
  · cases h; exact ⟨Try.f37, Try.func37, mf37_ok⟩
  · cases h; exact ⟨Try.f38, Try.func38, mf38_ok⟩
  · cases h; exact ⟨Try.f24, Try.func24, mf24_ok⟩
  · cases h; exact ⟨Try.f12, Try.func12, mf12_ok⟩
  · cases h; exact ⟨Try.f10, Try.func10, mf10_ok⟩
  · cases h; exact ⟨Try.f26, Try.func26, mf26_ok⟩
  · cases h; exact ⟨Try.f14, Try.func14, mf14_ok⟩
  · cases h; exact ⟨Try.f28, Try.func28, mf28_ok⟩
  · cases h; exact ⟨Try.f39, Try.func39, mf39_ok⟩
  · cases h; exact ⟨Try.f40, Try.func40, mf40_ok⟩
  · cases h; exact ⟨Try.f29, Try.func29, mf29_ok⟩
  · cases h; exact ⟨Try.f16, Try.func16, mf16_ok⟩
  · cases h; exact ⟨Try.f45, Try.func45, mf45_ok⟩
  · cases h; exact ⟨Try.f41, Try.func41, mf41_ok⟩
  · cases h; exact ⟨Try.f30, Try.func30, mf30_ok⟩
  · cases h; exact ⟨Try.f17, Try.func17, mf17_ok⟩
  · cases h; exact ⟨Try.f42, Try.func42, mf42_ok⟩
  · cases h; exact ⟨Try.f34, Try.func34, mf34_ok⟩
  · cases h; exact ⟨Try.f43, Try.func43, mf43_ok⟩
  · cases h; exact ⟨Try.f35, Try.func35, mf35_ok⟩
  · cases h; exact ⟨Try.f20, Try.func20, mf20_ok⟩
  · cases h; exact ⟨Try.f9, Try.func9, mf9_ok⟩
  · cases h; exact ⟨Try.f25, Try.func25, mf25_ok⟩
  · cases h; exact ⟨Try.f13, Try.func13, mf13_ok⟩
  · cases h; exact ⟨Try.f11, Try.func11, mf11_ok⟩
  · cases h; exact ⟨Try.f27, Try.func27, mf27_ok⟩
  · cases h; exact ⟨Try.f15, Try.func15, mf15_ok⟩
  · cases h; exact ⟨Try.f31, Try.func31, mf31_ok⟩
  · cases h; exact ⟨Try.f32, Try.func32, mf32_ok⟩
  · cases h; exact ⟨Try.f18, Try.func18, mf18_ok⟩
  · cases h; exact ⟨Try.f3, Try.func3, mf3_ok⟩
  · cases h; exact ⟨Try.f33, Try.func33, mf33_ok⟩
  · cases h; exact ⟨Try.f19, Try.func19, mf19_ok⟩
  · cases h; exact ⟨Try.f4, Try.func4, mf4_ok⟩
  · cases h; exact ⟨Try.f5, Try.func5, mf5_ok⟩
  · cases h; exact ⟨Try.f44, Try.func44, mf44_ok⟩
  · cases h; exact ⟨Try.f36, Try.func36, mf36_ok⟩
  · cases h; exact ⟨Try.f21, Try.func21, mf21_ok⟩
  · cases h; exact ⟨Try.f6, Try.func6, mf6_ok⟩
  · cases h; exact ⟨Try.f7, Try.func7, mf7_ok⟩
  · cases h
end Go.Proofs.Ytfodjphcngidbaa
