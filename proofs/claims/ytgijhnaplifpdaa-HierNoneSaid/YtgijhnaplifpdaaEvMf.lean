/- The evaluator's code of each function of this seat, and that it is the loaded one. Printed by a program (gen.py). -/
import Derived.Test.YtgijhnaplifpdaaChecked
import Derived.KernelRfl
import Derived.Test.YtgijhnaplifpdaaEvLaw
set_option linter.unusedSimpArgs false
set_option linter.unusedVariables false
set_option maxRecDepth 100000
namespace Go.Proofs.Ytgijhnaplifpdaa
open Go.Ev
namespace Mf
/- cuboid/cuboidkeep.LightDim -/
def f8 : MFun := { nt := 28, np := 1, no := 1, res := [.slot 2], body :=
  (.seq
    (.region false [
      ⟨(some 1), none, .box 0 (.s 0)⟩,
      ⟨(some 2), none, .mv (.c (.bool false))⟩])
    (.seq
      (.seq
        (.region false [
          ⟨(some 4), none, .faddr 0 (.s 1)⟩,
          ⟨(some 5), none, .load none (some 0) (.s 4)⟩,
          ⟨(some 6), none, .len (.s 5)⟩,
          ⟨(some 7), none, .bin .gtr .int (.s 6) (.c (.int .i64 10))⟩,
          ⟨(some 8), none, .mv (.s 7)⟩,
          ⟨(some 9), (some (8, false)), .faddr 1 (.s 1)⟩,
          ⟨(some 10), (some (8, false)), .load none (some 0) (.s 9)⟩,
          ⟨(some 11), (some (8, false)), .len (.s 10)⟩,
          ⟨(some 12), (some (8, false)), .bin .gtr .int (.s 11) (.c (.int .i64 10))⟩,
          ⟨(some 13), none, .pick (.s 8) (.c (.bool true)) (.s 12)⟩])
        (.cond (.s 13)
          (.seq
            (.region false [
              ⟨(some 2), none, .mv (.c (.bool false))⟩])
            .ret)
          .skip))
      (.seq
        (.seq
          (.region false [
            ⟨(some 3), none, .mv (.c (.int .i64 0))⟩])
          (.block 0
            (.loop [1, 3] [0]
              (.seq
                (.seq
                  (.region false [
                    ⟨(some 14), none, .mv (.s 3)⟩,
                    ⟨(some 15), none, .faddr 1 (.s 1)⟩,
                    ⟨(some 16), none, .load none (some 0) (.s 15)⟩,
                    ⟨(some 17), none, .len (.s 16)⟩,
                    ⟨(some 18), none, .bin .lss .int (.s 14) (.s 17)⟩])
                  (.cond (.s 18)
                    .skip
                    (.exit 0)))
                (.seq
                  (.block 1
                    (.seq
                      (.region false [
                        ⟨(some 21), none, .faddr 1 (.s 1)⟩,
                        ⟨(some 22), none, .load none (some 0) (.s 21)⟩,
                        ⟨(some 23), none, .mv (.s 3)⟩,
                        ⟨(some 24), none, .iaddrS 1 (.s 22) (.s 23)⟩,
                        ⟨(some 25), none, .load none none (.s 24)⟩,
                        ⟨(some 26), none, .len (.s 25)⟩,
                        ⟨(some 27), none, .bin .gtr .int (.s 26) (.c (.int .i64 60))⟩])
                      (.cond (.s 27)
                        (.seq
                          (.region false [
                            ⟨(some 2), none, .mv (.c (.bool false))⟩])
                          .ret)
                        .skip)))
                  (.region false [
                    ⟨(some 19), none, .mv (.s 3)⟩,
                    ⟨(some 20), none, .bin .add .int (.s 19) (.c (.int .i64 1))⟩,
                    ⟨(some 3), none, .mv (.s 20)⟩]))))))
        (.seq
          (.region false [
            ⟨(some 2), none, .mv (.c (.bool true))⟩])
          .ret)))) }
/- cuboid/hier.between -/
def f24 : MFun := { nt := 15, np := 3, no := 0, res := [.slot 6], body :=
  (.seq
    (.region false [
      ⟨(some 6), none, .mv (.c (.bool false))⟩])
    (.seq
      (.region false [
        ⟨(some 7), none, .mv (.s 0)⟩,
        ⟨(some 8), none, .mv (.s 1)⟩,
        ⟨(some 9), none, .bin .geq .int (.s 7) (.s 8)⟩,
        ⟨(some 10), none, .mv (.s 9)⟩,
        ⟨(some 11), (some (10, true)), .mv (.s 0)⟩,
        ⟨(some 12), (some (10, true)), .mv (.s 2)⟩,
        ⟨(some 13), (some (10, true)), .bin .leq .int (.s 11) (.s 12)⟩,
        ⟨(some 14), none, .pick (.s 10) (.s 13) (.c (.bool false))⟩,
        ⟨(some 6), none, .mv (.s 14)⟩])
      .ret)) }
/- cuboid/hier.up -/
def f26 : MFun := { nt := 25, np := 3, no := 0, res := [.slot 6], body :=
  (.seq
    (.region false [
      ⟨(some 6), none, .mv (.c (.bool false))⟩])
    (.seq
      (.seq
        (.region false [
          ⟨(some 9), none, .mv (.s 0)⟩,
          ⟨(some 10), none, .len (.s 9)⟩,
          ⟨(some 11), none, .mv (.s 1)⟩,
          ⟨(some 12), none, .bin .neq .int (.s 10) (.s 11)⟩])
        (.cond (.s 12)
          (.seq
            (.region false [
              ⟨(some 6), none, .mv (.c (.bool false))⟩])
            .ret)
          .skip))
      (.seq
        (.seq
          (.region false [
            ⟨(some 13), none, .mv (.s 0)⟩,
            ⟨(some 14), none, .len (.s 13)⟩,
            ⟨(some 15), none, .mv (.c (.int .i64 0))⟩])
          (.block 0
            (.loop [2, 13, 14, 15] []
              (.seq
                (.region false [
                  ⟨(some 16), none, .bin .lss .int (.s 15) (.s 14)⟩])
                (.seq
                  (.cond (.s 16)
                    .skip
                    (.exit 0))
                  (.seq
                    (.block 1
                      (.seq
                        (.region false [
                          ⟨(some 17), none, .iaddrS 1 (.s 13) (.s 15)⟩,
                          ⟨(some 18), none, .load none none (.s 17)⟩,
                          ⟨(some 8), none, .mv (.s 18)⟩])
                        (.seq
                          (.region false [
                            ⟨(some 19), none, .mv (.s 8)⟩,
                            ⟨(some 20), none, .mv (.s 2)⟩,
                            ⟨(some 21), none, .bin .sub .int (.s 20) (.c (.int .i64 1))⟩,
                            ⟨(some 22), none, .call (.c (.fn 24 [] [])) [(.s 19), (.c (.int .i64 0)), (.s 21)] [] [] [] false⟩,
                            ⟨(some 23), none, .un .not (.s 22)⟩])
                          (.cond (.s 23)
                            (.seq
                              (.region false [
                                ⟨(some 6), none, .mv (.c (.bool false))⟩])
                              .ret)
                            .skip))))
                    (.region false [
                      ⟨(some 24), none, .bin .add .int (.s 15) (.c (.int .i64 1))⟩,
                      ⟨(some 15), none, .mv (.s 24)⟩])))))))
        (.seq
          (.region false [
            ⟨(some 6), none, .mv (.c (.bool true))⟩])
          .ret)))) }
/- cuboid/hier.Good -/
def f18 : MFun := { nt := 57, np := 1, no := 1, res := [.slot 2], body :=
  (.seq
    (.region false [
      ⟨(some 1), none, .box 0 (.s 0)⟩,
      ⟨(some 2), none, .mv (.c (.bool false))⟩])
    (.seq
      (.seq
        (.region false [
          ⟨(some 6), none, .faddr 0 (.s 1)⟩,
          ⟨(some 7), none, .load none (some 0) (.s 6)⟩,
          ⟨(some 8), none, .len (.s 7)⟩,
          ⟨(some 9), none, .call (.c (.fn 24 [] [])) [(.s 8), (.c (.int .i64 1)), (.c (.int .i64 4))] [] [] [] false⟩,
          ⟨(some 10), none, .un .not (.s 9)⟩,
          ⟨(some 11), none, .mv (.s 10)⟩,
          ⟨(some 12), (some (11, false)), .faddr 1 (.s 1)⟩,
          ⟨(some 13), (some (11, false)), .load none (some 0) (.s 12)⟩,
          ⟨(some 14), (some (11, false)), .len (.s 13)⟩,
          ⟨(some 15), (some (11, false)), .faddr 0 (.s 1)⟩,
          ⟨(some 16), (some (11, false)), .load none (some 0) (.s 15)⟩,
          ⟨(some 17), (some (11, false)), .len (.s 16)⟩,
          ⟨(some 18), (some (11, false)), .bin .sub .int (.s 17) (.c (.int .i64 1))⟩,
          ⟨(some 19), (some (11, false)), .bin .neq .int (.s 14) (.s 18)⟩,
          ⟨(some 20), none, .pick (.s 11) (.c (.bool true)) (.s 19)⟩])
        (.cond (.s 20)
          (.seq
            (.region false [
              ⟨(some 2), none, .mv (.c (.bool false))⟩])
            .ret)
          .skip))
      (.seq
        (.seq
          (.region false [
            ⟨(some 21), none, .faddr 0 (.s 1)⟩,
            ⟨(some 22), none, .load none (some 0) (.s 21)⟩,
            ⟨(some 23), none, .len (.s 22)⟩,
            ⟨(some 24), none, .mv (.c (.int .i64 0))⟩])
          (.block 0
            (.loop [1, 22, 23, 24] [0]
              (.seq
                (.region false [
                  ⟨(some 25), none, .bin .lss .int (.s 24) (.s 23)⟩])
                (.seq
                  (.cond (.s 25)
                    .skip
                    (.exit 0))
                  (.seq
                    (.block 1
                      (.seq
                        (.region false [
                          ⟨(some 26), none, .iaddrS 1 (.s 22) (.s 24)⟩,
                          ⟨(some 27), none, .load none none (.s 26)⟩,
                          ⟨(some 4), none, .mv (.s 27)⟩])
                        (.seq
                          (.region false [
                            ⟨(some 28), none, .mv (.s 4)⟩,
                            ⟨(some 29), none, .call (.c (.fn 24 [] [])) [(.s 28), (.c (.int .i64 1)), (.c (.int .i64 40))] [] [] [] false⟩,
                            ⟨(some 30), none, .un .not (.s 29)⟩])
                          (.cond (.s 30)
                            (.seq
                              (.region false [
                                ⟨(some 2), none, .mv (.c (.bool false))⟩])
                              .ret)
                            .skip))))
                    (.region false [
                      ⟨(some 31), none, .bin .add .int (.s 24) (.c (.int .i64 1))⟩,
                      ⟨(some 24), none, .mv (.s 31)⟩])))))))
        (.seq
          (.seq
            (.region false [
              ⟨(some 32), none, .faddr 1 (.s 1)⟩,
              ⟨(some 33), none, .load none (some 0) (.s 32)⟩,
              ⟨(some 34), none, .len (.s 33)⟩,
              ⟨(some 35), none, .mv (.c (.int .i64 0))⟩])
            (.block 2
              (.loop [1, 34, 35] [0]
                (.seq
                  (.region false [
                    ⟨(some 36), none, .bin .lss .int (.s 35) (.s 34)⟩])
                  (.seq
                    (.cond (.s 36)
                      .skip
                      (.exit 2))
                    (.seq
                      (.block 3
                        (.seq
                          (.region false [
                            ⟨(some 37), none, .mv (.s 35)⟩,
                            ⟨(some 5), none, .mv (.s 37)⟩])
                          (.seq
                            (.region true [
                              ⟨(some 38), none, .faddr 1 (.s 1)⟩,
                              ⟨(some 39), none, .load none (some 0) (.s 38)⟩,
                              ⟨(some 40), none, .mv (.s 5)⟩,
                              ⟨(some 41), none, .iaddrS 1 (.s 39) (.s 40)⟩,
                              ⟨(some 42), none, .load none none (.s 41)⟩,
                              ⟨(some 43), none, .faddr 0 (.s 1)⟩,
                              ⟨(some 44), none, .load none (some 0) (.s 43)⟩,
                              ⟨(some 45), none, .mv (.s 5)⟩,
                              ⟨(some 46), none, .iaddrS 1 (.s 44) (.s 45)⟩,
                              ⟨(some 47), none, .load none none (.s 46)⟩,
                              ⟨(some 48), none, .faddr 0 (.s 1)⟩,
                              ⟨(some 49), none, .load none (some 0) (.s 48)⟩,
                              ⟨(some 50), none, .mv (.s 5)⟩,
                              ⟨(some 51), none, .bin .add .int (.s 50) (.c (.int .i64 1))⟩,
                              ⟨(some 52), none, .iaddrS 1 (.s 49) (.s 51)⟩,
                              ⟨(some 53), none, .load none none (.s 52)⟩,
                              ⟨(some 54), none, .call (.c (.fn 26 [] [])) [(.s 42), (.s 47), (.s 53)] [] [] [] false⟩,
                              ⟨(some 55), none, .un .not (.s 54)⟩])
                            (.cond (.s 55)
                              (.seq
                                (.region false [
                                  ⟨(some 2), none, .mv (.c (.bool false))⟩])
                                .ret)
                              .skip))))
                      (.region false [
                        ⟨(some 56), none, .bin .add .int (.s 35) (.c (.int .i64 1))⟩,
                        ⟨(some 35), none, .mv (.s 56)⟩])))))))
          (.seq
            (.region false [
              ⟨(some 2), none, .mv (.c (.bool true))⟩])
            .ret))))) }
/- cuboid/hier.Size -/
def f19 : MFun := { nt := 28, np := 2, no := 1, res := [.slot 4], body :=
  (.seq
    (.region false [
      ⟨(some 2), none, .box 0 (.s 0)⟩,
      ⟨(some 4), none, .mv (.c (.int .i64 0))⟩])
    (.seq
      (.block 0
        (.seq
          (.region false [
            ⟨(some 6), none, .load (some 2) (some 0) (.s 2)⟩,
            ⟨(some 7), none, .call (.c (.fn 18 [] [])) [(.s 6)] [] [] [] false⟩,
            ⟨(some 8), none, .un .not (.s 7)⟩,
            ⟨(some 9), none, .mv (.s 8)⟩,
            ⟨(some 10), (some (9, false)), .mv (.s 1)⟩,
            ⟨(some 11), (some (9, false)), .faddr 0 (.s 2)⟩,
            ⟨(some 12), (some (9, false)), .load none (some 0) (.s 11)⟩,
            ⟨(some 13), (some (9, false)), .len (.s 12)⟩,
            ⟨(some 14), (some (9, false)), .call (.c (.fn 24 [] [])) [(.s 10), (.c (.int .i64 0)), (.s 13)] [] [] [] false⟩,
            ⟨(some 15), (some (9, false)), .un .not (.s 14)⟩,
            ⟨(some 16), none, .pick (.s 9) (.c (.bool true)) (.s 15)⟩,
            ⟨(some 5), none, .mv (.s 16)⟩])
          (.cond (.s 5)
            (.seq
              (.region false [
                ⟨(some 4), none, .mv (.c (.int .i64 0))⟩])
              .ret)
            (.seq
              (.region false [
                ⟨(some 18), none, .mv (.s 1)⟩,
                ⟨(some 19), none, .faddr 0 (.s 2)⟩,
                ⟨(some 20), none, .load none (some 0) (.s 19)⟩,
                ⟨(some 21), none, .len (.s 20)⟩,
                ⟨(some 22), none, .bin .eql .int (.s 18) (.s 21)⟩,
                ⟨(some 17), none, .mv (.s 22)⟩])
              (.cond (.s 17)
                (.seq
                  (.region false [
                    ⟨(some 4), none, .mv (.c (.int .i64 1))⟩])
                  .ret)
                .skip)))))
      (.seq
        (.region false [
          ⟨(some 23), none, .faddr 0 (.s 2)⟩,
          ⟨(some 24), none, .load none (some 0) (.s 23)⟩,
          ⟨(some 25), none, .mv (.s 1)⟩,
          ⟨(some 26), none, .iaddrS 1 (.s 24) (.s 25)⟩,
          ⟨(some 27), none, .load none none (.s 26)⟩,
          ⟨(some 4), none, .mv (.s 27)⟩])
        .ret))) }
/- cuboid/hier.lift -/
def f25 : MFun := { nt := 33, np := 4, no := 1, res := [.slot 8], body :=
  (.seq
    (.region false [
      ⟨(some 4), none, .box 0 (.s 0)⟩,
      ⟨(some 8), none, .mv (.c (.int .i64 0))⟩])
    (.seq
      (.seq
        (.region false [
          ⟨(some 10), none, .mv (.s 2)⟩,
          ⟨(some 11), none, .faddr 0 (.s 4)⟩,
          ⟨(some 12), none, .load none (some 0) (.s 11)⟩,
          ⟨(some 13), none, .len (.s 12)⟩,
          ⟨(some 14), none, .bin .eql .int (.s 10) (.s 13)⟩])
        (.cond (.s 14)
          (.seq
            (.region false [
              ⟨(some 8), none, .mv (.c (.int .i64 0))⟩])
            .ret)
          .skip))
      (.seq
        (.seq
          (.region false [
            ⟨(some 15), none, .mv (.s 2)⟩,
            ⟨(some 16), none, .mv (.s 1)⟩,
            ⟨(some 17), none, .bin .sub .int (.s 15) (.s 16)⟩,
            ⟨(some 18), none, .mv (.c (.int .i64 0))⟩])
          (.block 0
            (.loop [1, 3, 4, 17, 18] [0]
              (.seq
                (.region false [
                  ⟨(some 19), none, .bin .lss .int (.s 18) (.s 17)⟩])
                (.seq
                  (.cond (.s 19)
                    .skip
                    (.exit 0))
                  (.seq
                    (.block 1
                      (.seq
                        (.region false [
                          ⟨(some 20), none, .mv (.s 18)⟩,
                          ⟨(some 9), none, .mv (.s 20)⟩])
                        (.region false [
                          ⟨(some 21), none, .faddr 1 (.s 4)⟩,
                          ⟨(some 22), none, .load none (some 0) (.s 21)⟩,
                          ⟨(some 23), none, .mv (.s 1)⟩,
                          ⟨(some 24), none, .mv (.s 9)⟩,
                          ⟨(some 25), none, .bin .add .int (.s 23) (.s 24)⟩,
                          ⟨(some 26), none, .iaddrS 1 (.s 22) (.s 25)⟩,
                          ⟨(some 27), none, .load none none (.s 26)⟩,
                          ⟨(some 28), none, .mv (.s 3)⟩,
                          ⟨(some 29), none, .iaddrS 1 (.s 27) (.s 28)⟩,
                          ⟨(some 30), none, .load none none (.s 29)⟩,
                          ⟨(some 3), none, .mv (.s 30)⟩])))
                    (.region false [
                      ⟨(some 31), none, .bin .add .int (.s 18) (.c (.int .i64 1))⟩,
                      ⟨(some 18), none, .mv (.s 31)⟩])))))))
        (.seq
          (.region false [
            ⟨(some 32), none, .mv (.s 3)⟩,
            ⟨(some 8), none, .mv (.s 32)⟩])
          .ret)))) }
/- cuboid/hier.Lift -/
def f15 : MFun := { nt := 33, np := 4, no := 1, res := [.slot 8, .slot 9], body :=
  (.seq
    (.region false [
      ⟨(some 4), none, .box 0 (.s 0)⟩,
      ⟨(some 8), none, .mv (.c (.int .i64 0))⟩,
      ⟨(some 9), none, .mv (.c (.bool false))⟩])
    (.seq
      (.seq
        (.region false [
          ⟨(some 10), none, .mv (.s 1)⟩,
          ⟨(some 11), none, .mv (.s 2)⟩,
          ⟨(some 12), none, .bin .gtr .int (.s 10) (.s 11)⟩,
          ⟨(some 13), none, .mv (.s 12)⟩,
          ⟨(some 14), (some (13, false)), .load (some 2) (some 0) (.s 4)⟩,
          ⟨(some 15), (some (13, false)), .mv (.s 2)⟩,
          ⟨(some 16), (some (13, false)), .call (.c (.fn 19 [] [])) [(.s 14), (.s 15)] [] [] [] false⟩,
          ⟨(some 17), (some (13, false)), .bin .eql .int (.s 16) (.c (.int .i64 0))⟩,
          ⟨(some 18), none, .pick (.s 13) (.c (.bool true)) (.s 17)⟩,
          ⟨(some 19), none, .mv (.s 18)⟩,
          ⟨(some 20), (some (19, false)), .mv (.s 3)⟩,
          ⟨(some 21), (some (19, false)), .load (some 2) (some 0) (.s 4)⟩,
          ⟨(some 22), (some (19, false)), .mv (.s 1)⟩,
          ⟨(some 23), (some (19, false)), .call (.c (.fn 19 [] [])) [(.s 21), (.s 22)] [] [] [] false⟩,
          ⟨(some 24), (some (19, false)), .bin .sub .int (.s 23) (.c (.int .i64 1))⟩,
          ⟨(some 25), (some (19, false)), .call (.c (.fn 24 [] [])) [(.s 20), (.c (.int .i64 0)), (.s 24)] [] [] [] false⟩,
          ⟨(some 26), (some (19, false)), .un .not (.s 25)⟩,
          ⟨(some 27), none, .pick (.s 19) (.c (.bool true)) (.s 26)⟩])
        (.cond (.s 27)
          (.seq
            (.region false [
              ⟨(some 8), none, .mv (.c (.int .i64 0))⟩,
              ⟨(some 9), none, .mv (.c (.bool false))⟩])
            .ret)
          .skip))
      (.seq
        (.region false [
          ⟨(some 28), none, .load (some 2) (some 0) (.s 4)⟩,
          ⟨(some 29), none, .mv (.s 1)⟩,
          ⟨(some 30), none, .mv (.s 2)⟩,
          ⟨(some 31), none, .mv (.s 3)⟩,
          ⟨(some 32), none, .call (.c (.fn 25 [] [])) [(.s 28), (.s 29), (.s 30), (.s 31)] [] [] [] false⟩,
          ⟨(some 8), none, .mv (.s 32)⟩,
          ⟨(some 9), none, .mv (.c (.bool true))⟩])
        .ret))) }
/- cuboid/hier.Under -/
def f16 : MFun := { nt := 48, np := 4, no := 2, res := [.slot 8], body :=
  (.seq
    (.region false [
      ⟨(some 4), none, .box 0 (.s 0)⟩,
      ⟨(some 8), none, .mv (.c .nilsl)⟩])
    (.seq
      (.seq
        (.region false [
          ⟨(some 11), none, .mv (.s 3)⟩,
          ⟨(some 12), none, .mv (.s 1)⟩,
          ⟨(some 13), none, .bin .gtr .int (.s 11) (.s 12)⟩,
          ⟨(some 14), none, .mv (.s 13)⟩,
          ⟨(some 15), (some (14, false)), .load (some 2) (some 0) (.s 4)⟩,
          ⟨(some 16), (some (14, false)), .mv (.s 3)⟩,
          ⟨(some 17), (some (14, false)), .call (.c (.fn 19 [] [])) [(.s 15), (.s 16)] [] [] [] false⟩,
          ⟨(some 18), (some (14, false)), .bin .eql .int (.s 17) (.c (.int .i64 0))⟩,
          ⟨(some 19), none, .pick (.s 14) (.c (.bool true)) (.s 18)⟩,
          ⟨(some 20), none, .mv (.s 19)⟩,
          ⟨(some 21), (some (20, false)), .mv (.s 2)⟩,
          ⟨(some 22), (some (20, false)), .load (some 2) (some 0) (.s 4)⟩,
          ⟨(some 23), (some (20, false)), .mv (.s 1)⟩,
          ⟨(some 24), (some (20, false)), .call (.c (.fn 19 [] [])) [(.s 22), (.s 23)] [] [] [] false⟩,
          ⟨(some 25), (some (20, false)), .bin .sub .int (.s 24) (.c (.int .i64 1))⟩,
          ⟨(some 26), (some (20, false)), .call (.c (.fn 24 [] [])) [(.s 21), (.c (.int .i64 0)), (.s 25)] [] [] [] false⟩,
          ⟨(some 27), (some (20, false)), .un .not (.s 26)⟩,
          ⟨(some 28), none, .pick (.s 20) (.c (.bool true)) (.s 27)⟩])
        (.cond (.s 28)
          (.seq
            (.region false [
              ⟨(some 8), none, .mv (.c .nilsl)⟩])
            .ret)
          .skip))
      (.seq
        (.region false [
          ⟨(some 9), none, .vnil 1 1⟩])
        (.seq
          (.seq
            (.region false [
              ⟨(some 29), none, .load (some 2) (some 0) (.s 4)⟩,
              ⟨(some 30), none, .mv (.s 3)⟩,
              ⟨(some 31), none, .call (.c (.fn 19 [] [])) [(.s 29), (.s 30)] [] [] [] false⟩,
              ⟨(some 32), none, .mv (.c (.int .i64 0))⟩])
            (.block 0
              (.loop [1, 2, 3, 4, 9, 31, 32] [0, 1]
                (.seq
                  (.region false [
                    ⟨(some 33), none, .bin .lss .int (.s 32) (.s 31)⟩])
                  (.seq
                    (.cond (.s 33)
                      .skip
                      (.exit 0))
                    (.seq
                      (.block 1
                        (.seq
                          (.region false [
                            ⟨(some 34), none, .mv (.s 32)⟩,
                            ⟨(some 10), none, .mv (.s 34)⟩])
                          (.seq
                            (.region false [
                              ⟨(some 35), none, .load (some 2) (some 0) (.s 4)⟩,
                              ⟨(some 36), none, .mv (.s 3)⟩,
                              ⟨(some 37), none, .mv (.s 1)⟩,
                              ⟨(some 38), none, .mv (.s 10)⟩,
                              ⟨(some 39), none, .call (.c (.fn 25 [] [])) [(.s 35), (.s 36), (.s 37), (.s 38)] [] [] [] false⟩,
                              ⟨(some 40), none, .mv (.s 2)⟩,
                              ⟨(some 41), none, .bin .eql .int (.s 39) (.s 40)⟩])
                            (.cond (.s 41)
                              (.region false [
                                ⟨(some 42), none, .mv (.s 9)⟩,
                                ⟨(some 43), none, .mv (.s 10)⟩,
                                ⟨(some 44), none, .lit none [] 1 1 [.int .i64 0] [(0, 1, (.s 43))]⟩,
                                ⟨(some 45), none, .append 8 1 1 none (.s 42) (.s 44)⟩,
                                ⟨(some 9), none, .mv (.s 45)⟩])
                              .skip))))
                      (.region false [
                        ⟨(some 46), none, .bin .add .int (.s 32) (.c (.int .i64 1))⟩,
                        ⟨(some 32), none, .mv (.s 46)⟩])))))))
          (.seq
            (.region false [
              ⟨(some 47), none, .mv (.s 9)⟩,
              ⟨(some 8), none, .mv (.s 47)⟩])
            .ret))))) }
/- cuboid/hier.Kids -/
def f17 : MFun := { nt := 15, np := 3, no := 1, res := [.slot 6], body :=
  (.seq
    (.region false [
      ⟨(some 3), none, .box 0 (.s 0)⟩,
      ⟨(some 6), none, .mv (.c .nilsl)⟩])
    (.seq
      (.seq
        (.region false [
          ⟨(some 7), none, .mv (.s 1)⟩,
          ⟨(some 8), none, .bin .lss .int (.s 7) (.c (.int .i64 1))⟩])
        (.cond (.s 8)
          (.seq
            (.region false [
              ⟨(some 6), none, .mv (.c .nilsl)⟩])
            .ret)
          .skip))
      (.seq
        (.region false [
          ⟨(some 9), none, .load (some 2) (some 0) (.s 3)⟩,
          ⟨(some 10), none, .mv (.s 1)⟩,
          ⟨(some 11), none, .mv (.s 2)⟩,
          ⟨(some 12), none, .mv (.s 1)⟩,
          ⟨(some 13), none, .bin .sub .int (.s 12) (.c (.int .i64 1))⟩,
          ⟨(some 14), none, .call (.c (.fn 16 [] [])) [(.s 9), (.s 10), (.s 11), (.s 13)] [] [] [] true⟩,
          ⟨(some 6), none, .mv (.s 14)⟩])
        .ret))) }
/- cuboid/cuboidlaw03.some -/
def f20 : MFun := { nt := 5, np := 0, no := 1, res := [.cell 0 0 (some 2)], body :=
  (.seq
    (.region false [
      ⟨(some 0), none, .alloc 0 [.nilsl, .nilsl]⟩])
    (.seq
      (.region false [
        ⟨(some 1), none, .lit none [] 2 1 [.int .i64 0] [(0, 1, (.c (.int .i64 4))), (1, 1, (.c (.int .i64 2)))]⟩,
        ⟨(some 2), none, .lit none [] 4 1 [.int .i64 0] [(0, 1, (.c (.int .i64 0))), (1, 1, (.c (.int .i64 0))), (2, 1, (.c (.int .i64 1))), (3, 1, (.c (.int .i64 1)))]⟩,
        ⟨(some 3), none, .lit none [] 1 1 [.nilsl] [(0, 1, (.s 2))]⟩,
        ⟨(some 4), none, .build [.nilsl, .nilsl] [(0, 1, (.s 1)), (1, 1, (.s 3))]⟩,
        ⟨none, none, .store 2 0 [] (.s 0) (.s 4)⟩])
      .ret)) }
/- cuboid/cuboidlaw03.wakes -/
def f9 : MFun := { nt := 63, np := 0, no := 1, res := [.slot 0], body :=
  (.seq
    (.region false [
      ⟨(some 0), none, .mv (.c (.bool false))⟩])
    (.seq
      (.region false [
        ⟨(some 6), none, .call (.c (.fn 20 [] [])) [] [] [] [] true⟩,
        ⟨(some 1), none, .alloc 0 [.nilsl, .nilsl]⟩,
        ⟨none, none, .store 2 0 [] (.s 1) (.s 6)⟩])
      (.seq
        (.region false [
          ⟨(some 8), none, .load (some 2) (some 0) (.s 1)⟩,
          ⟨(some 9), none, .call (.c (.fn 15 [] [])) [(.s 8), (.c (.int .i64 0)), (.c (.int .i64 1)), (.c (.int .i64 3))] [] [] [] false⟩,
          ⟨(some 7), none, .mv (.s 9)⟩,
          ⟨(some 10), none, .extract (.s 7) 0⟩,
          ⟨(some 11), none, .extract (.s 7) 1⟩,
          ⟨(some 2), none, .mv (.s 10)⟩,
          ⟨(some 3), none, .mv (.s 11)⟩])
        (.seq
          (.region false [
            ⟨(some 12), none, .load (some 2) (some 0) (.s 1)⟩,
            ⟨(some 13), none, .call (.c (.fn 16 [] [])) [(.s 12), (.c (.int .i64 1)), (.c (.int .i64 1)), (.c (.int .i64 0))] [] [] [] true⟩,
            ⟨(some 4), none, .mv (.s 13)⟩])
          (.seq
            (.region false [
              ⟨(some 14), none, .load (some 2) (some 0) (.s 1)⟩,
              ⟨(some 15), none, .call (.c (.fn 17 [] [])) [(.s 14), (.c (.int .i64 2)), (.c (.int .i64 0))] [] [] [] true⟩,
              ⟨(some 5), none, .mv (.s 15)⟩])
            (.seq
              (.region false [
                ⟨(some 16), none, .load (some 2) (some 0) (.s 1)⟩,
                ⟨(some 17), none, .call (.c (.fn 18 [] [])) [(.s 16)] [] [] [] false⟩,
                ⟨(some 18), none, .mv (.s 17)⟩,
                ⟨(some 19), (some (18, true)), .mv (.s 2)⟩,
                ⟨(some 20), (some (18, true)), .bin .eql .int (.s 19) (.c (.int .i64 1))⟩,
                ⟨(some 21), none, .pick (.s 18) (.s 20) (.c (.bool false))⟩,
                ⟨(some 22), none, .mv (.s 21)⟩,
                ⟨(some 23), (some (22, true)), .mv (.s 3)⟩,
                ⟨(some 24), none, .pick (.s 22) (.s 23) (.c (.bool false))⟩,
                ⟨(some 25), none, .mv (.s 24)⟩,
                ⟨(some 26), (some (25, true)), .mv (.s 4)⟩,
                ⟨(some 27), (some (25, true)), .len (.s 26)⟩,
                ⟨(some 28), (some (25, true)), .bin .eql .int (.s 27) (.c (.int .i64 2))⟩,
                ⟨(some 29), none, .pick (.s 25) (.s 28) (.c (.bool false))⟩,
                ⟨(some 30), none, .mv (.s 29)⟩,
                ⟨(some 31), (some (30, true)), .mv (.s 4)⟩,
                ⟨(some 32), (some (30, true)), .iaddrS 1 (.s 31) (.c (.int .i64 0))⟩,
                ⟨(some 33), (some (30, true)), .load none none (.s 32)⟩,
                ⟨(some 34), (some (30, true)), .bin .eql .int (.s 33) (.c (.int .i64 2))⟩,
                ⟨(some 35), none, .pick (.s 30) (.s 34) (.c (.bool false))⟩,
                ⟨(some 36), none, .mv (.s 35)⟩,
                ⟨(some 37), (some (36, true)), .mv (.s 4)⟩,
                ⟨(some 38), (some (36, true)), .iaddrS 1 (.s 37) (.c (.int .i64 1))⟩,
                ⟨(some 39), (some (36, true)), .load none none (.s 38)⟩,
                ⟨(some 40), (some (36, true)), .bin .eql .int (.s 39) (.c (.int .i64 3))⟩,
                ⟨(some 41), none, .pick (.s 36) (.s 40) (.c (.bool false))⟩,
                ⟨(some 42), none, .mv (.s 41)⟩,
                ⟨(some 43), (some (42, true)), .mv (.s 5)⟩,
                ⟨(some 44), (some (42, true)), .len (.s 43)⟩,
                ⟨(some 45), (some (42, true)), .bin .eql .int (.s 44) (.c (.int .i64 2))⟩,
                ⟨(some 46), none, .pick (.s 42) (.s 45) (.c (.bool false))⟩,
                ⟨(some 47), none, .mv (.s 46)⟩,
                ⟨(some 48), (some (47, true)), .mv (.s 5)⟩,
                ⟨(some 49), (some (47, true)), .iaddrS 1 (.s 48) (.c (.int .i64 1))⟩,
                ⟨(some 50), (some (47, true)), .load none none (.s 49)⟩,
                ⟨(some 51), (some (47, true)), .bin .eql .int (.s 50) (.c (.int .i64 1))⟩,
                ⟨(some 52), none, .pick (.s 47) (.s 51) (.c (.bool false))⟩,
                ⟨(some 53), none, .mv (.s 52)⟩,
                ⟨(some 54), (some (53, true)), .load (some 2) (some 0) (.s 1)⟩,
                ⟨(some 55), (some (53, true)), .call (.c (.fn 19 [] [])) [(.s 54), (.c (.int .i64 2))] [] [] [] false⟩,
                ⟨(some 56), (some (53, true)), .bin .eql .int (.s 55) (.c (.int .i64 1))⟩,
                ⟨(some 57), none, .pick (.s 53) (.s 56) (.c (.bool false))⟩,
                ⟨(some 58), none, .mv (.s 57)⟩,
                ⟨(some 59), (some (58, true)), .build [.nilsl, .nilsl] []⟩,
                ⟨(some 60), (some (58, true)), .call (.c (.fn 18 [] [])) [(.s 59)] [] [] [] false⟩,
                ⟨(some 61), (some (58, true)), .un .not (.s 60)⟩,
                ⟨(some 62), none, .pick (.s 58) (.s 61) (.c (.bool false))⟩,
                ⟨(some 0), none, .mv (.s 62)⟩])
              .ret)))))) }
/- cuboid/cuboidkeep.Mod -/
def f10 : MFun := { nt := 15, np := 2, no := 0, res := [.slot 4], body :=
  (.seq
    (.region false [
      ⟨(some 4), none, .mv (.c (.int .i64 0))⟩])
    (.seq
      (.region false [
        ⟨(some 6), none, .mv (.s 0)⟩,
        ⟨(some 7), none, .mv (.s 1)⟩,
        ⟨(some 8), none, .bin .rem .int (.s 6) (.s 7)⟩,
        ⟨(some 5), none, .mv (.s 8)⟩])
      (.seq
        (.seq
          (.region false [
            ⟨(some 9), none, .mv (.s 5)⟩,
            ⟨(some 10), none, .bin .lss .int (.s 9) (.c (.int .i64 0))⟩])
          (.cond (.s 10)
            (.region false [
              ⟨(some 11), none, .mv (.s 5)⟩,
              ⟨(some 12), none, .mv (.s 1)⟩,
              ⟨(some 13), none, .bin .add .int (.s 11) (.s 12)⟩,
              ⟨(some 5), none, .mv (.s 13)⟩])
            .skip))
        (.seq
          (.region false [
            ⟨(some 14), none, .mv (.s 5)⟩,
            ⟨(some 4), none, .mv (.s 14)⟩])
          .ret)))) }
/- cuboid/cuboidref03.Good -/
def f12 : MFun := { nt := 97, np := 1, no := 1, res := [.slot 2], body :=
  (.seq
    (.region false [
      ⟨(some 1), none, .box 0 (.s 0)⟩,
      ⟨(some 2), none, .mv (.c (.bool false))⟩])
    (.seq
      (.region false [
        ⟨(some 7), none, .faddr 0 (.s 1)⟩,
        ⟨(some 8), none, .load none (some 0) (.s 7)⟩,
        ⟨(some 9), none, .len (.s 8)⟩,
        ⟨(some 3), none, .mv (.s 9)⟩])
      (.seq
        (.seq
          (.region false [
            ⟨(some 10), none, .mv (.s 3)⟩,
            ⟨(some 11), none, .bin .lss .int (.s 10) (.c (.int .i64 1))⟩,
            ⟨(some 12), none, .mv (.s 11)⟩,
            ⟨(some 13), (some (12, false)), .mv (.s 3)⟩,
            ⟨(some 14), (some (12, false)), .bin .gtr .int (.s 13) (.c (.int .i64 4))⟩,
            ⟨(some 15), none, .pick (.s 12) (.c (.bool true)) (.s 14)⟩,
            ⟨(some 16), none, .mv (.s 15)⟩,
            ⟨(some 17), (some (16, false)), .faddr 1 (.s 1)⟩,
            ⟨(some 18), (some (16, false)), .load none (some 0) (.s 17)⟩,
            ⟨(some 19), (some (16, false)), .len (.s 18)⟩,
            ⟨(some 20), (some (16, false)), .mv (.s 3)⟩,
            ⟨(some 21), (some (16, false)), .bin .sub .int (.s 20) (.c (.int .i64 1))⟩,
            ⟨(some 22), (some (16, false)), .bin .neq .int (.s 19) (.s 21)⟩,
            ⟨(some 23), none, .pick (.s 16) (.c (.bool true)) (.s 22)⟩])
          (.cond (.s 23)
            (.seq
              (.region false [
                ⟨(some 2), none, .mv (.c (.bool false))⟩])
              .ret)
            .skip))
        (.seq
          (.seq
            (.region false [
              ⟨(some 4), none, .mv (.c (.int .i64 0))⟩])
            (.block 0
              (.loop [1, 3, 4] [0]
                (.seq
                  (.seq
                    (.region false [
                      ⟨(some 24), none, .mv (.s 4)⟩,
                      ⟨(some 25), none, .mv (.s 3)⟩,
                      ⟨(some 26), none, .bin .lss .int (.s 24) (.s 25)⟩])
                    (.cond (.s 26)
                      .skip
                      (.exit 0)))
                  (.seq
                    (.block 1
                      (.seq
                        (.region false [
                          ⟨(some 29), none, .faddr 0 (.s 1)⟩,
                          ⟨(some 30), none, .load none (some 0) (.s 29)⟩,
                          ⟨(some 31), none, .mv (.s 4)⟩,
                          ⟨(some 32), none, .iaddrS 1 (.s 30) (.s 31)⟩,
                          ⟨(some 33), none, .load none none (.s 32)⟩,
                          ⟨(some 34), none, .bin .lss .int (.s 33) (.c (.int .i64 1))⟩,
                          ⟨(some 35), none, .mv (.s 34)⟩,
                          ⟨(some 36), (some (35, false)), .faddr 0 (.s 1)⟩,
                          ⟨(some 37), (some (35, false)), .load none (some 0) (.s 36)⟩,
                          ⟨(some 38), (some (35, false)), .mv (.s 4)⟩,
                          ⟨(some 39), (some (35, false)), .iaddrS 1 (.s 37) (.s 38)⟩,
                          ⟨(some 40), (some (35, false)), .load none none (.s 39)⟩,
                          ⟨(some 41), (some (35, false)), .bin .gtr .int (.s 40) (.c (.int .i64 40))⟩,
                          ⟨(some 42), none, .pick (.s 35) (.c (.bool true)) (.s 41)⟩])
                        (.cond (.s 42)
                          (.seq
                            (.region false [
                              ⟨(some 2), none, .mv (.c (.bool false))⟩])
                            .ret)
                          .skip)))
                    (.region false [
                      ⟨(some 27), none, .mv (.s 4)⟩,
                      ⟨(some 28), none, .bin .add .int (.s 27) (.c (.int .i64 1))⟩,
                      ⟨(some 4), none, .mv (.s 28)⟩]))))))
          (.seq
            (.seq
              (.region false [
                ⟨(some 5), none, .mv (.c (.int .i64 0))⟩])
              (.block 2
                (.loop [1, 3, 5] [0]
                  (.seq
                    (.seq
                      (.region false [
                        ⟨(some 43), none, .mv (.s 5)⟩,
                        ⟨(some 44), none, .mv (.s 3)⟩,
                        ⟨(some 45), none, .bin .sub .int (.s 44) (.c (.int .i64 1))⟩,
                        ⟨(some 46), none, .bin .lss .int (.s 43) (.s 45)⟩])
                      (.cond (.s 46)
                        .skip
                        (.exit 2)))
                    (.seq
                      (.block 3
                        (.seq
                          (.seq
                            (.region true [
                              ⟨(some 49), none, .faddr 1 (.s 1)⟩,
                              ⟨(some 50), none, .load none (some 0) (.s 49)⟩,
                              ⟨(some 51), none, .mv (.s 5)⟩,
                              ⟨(some 52), none, .iaddrS 1 (.s 50) (.s 51)⟩,
                              ⟨(some 53), none, .load none none (.s 52)⟩,
                              ⟨(some 54), none, .len (.s 53)⟩,
                              ⟨(some 55), none, .faddr 0 (.s 1)⟩,
                              ⟨(some 56), none, .load none (some 0) (.s 55)⟩,
                              ⟨(some 57), none, .mv (.s 5)⟩,
                              ⟨(some 58), none, .iaddrS 1 (.s 56) (.s 57)⟩,
                              ⟨(some 59), none, .load none none (.s 58)⟩,
                              ⟨(some 60), none, .bin .neq .int (.s 54) (.s 59)⟩])
                            (.cond (.s 60)
                              (.seq
                                (.region false [
                                  ⟨(some 2), none, .mv (.c (.bool false))⟩])
                                .ret)
                              .skip))
                          (.seq
                            (.region false [
                              ⟨(some 6), none, .mv (.c (.int .i64 0))⟩])
                            (.block 4
                              (.loop [1, 3, 5, 6] [0]
                                (.seq
                                  (.seq
                                    (.region false [
                                      ⟨(some 61), none, .mv (.s 6)⟩,
                                      ⟨(some 62), none, .faddr 1 (.s 1)⟩,
                                      ⟨(some 63), none, .load none (some 0) (.s 62)⟩,
                                      ⟨(some 64), none, .mv (.s 5)⟩,
                                      ⟨(some 65), none, .iaddrS 1 (.s 63) (.s 64)⟩,
                                      ⟨(some 66), none, .load none none (.s 65)⟩,
                                      ⟨(some 67), none, .len (.s 66)⟩,
                                      ⟨(some 68), none, .bin .lss .int (.s 61) (.s 67)⟩])
                                    (.cond (.s 68)
                                      .skip
                                      (.exit 4)))
                                  (.seq
                                    (.block 5
                                      (.seq
                                        (.region true [
                                          ⟨(some 71), none, .faddr 1 (.s 1)⟩,
                                          ⟨(some 72), none, .load none (some 0) (.s 71)⟩,
                                          ⟨(some 73), none, .mv (.s 5)⟩,
                                          ⟨(some 74), none, .iaddrS 1 (.s 72) (.s 73)⟩,
                                          ⟨(some 75), none, .load none none (.s 74)⟩,
                                          ⟨(some 76), none, .mv (.s 6)⟩,
                                          ⟨(some 77), none, .iaddrS 1 (.s 75) (.s 76)⟩,
                                          ⟨(some 78), none, .load none none (.s 77)⟩,
                                          ⟨(some 79), none, .bin .lss .int (.s 78) (.c (.int .i64 0))⟩,
                                          ⟨(some 80), none, .mv (.s 79)⟩,
                                          ⟨(some 81), (some (80, false)), .faddr 1 (.s 1)⟩,
                                          ⟨(some 82), (some (80, false)), .load none (some 0) (.s 81)⟩,
                                          ⟨(some 83), (some (80, false)), .mv (.s 5)⟩,
                                          ⟨(some 84), (some (80, false)), .iaddrS 1 (.s 82) (.s 83)⟩,
                                          ⟨(some 85), (some (80, false)), .load none none (.s 84)⟩,
                                          ⟨(some 86), (some (80, false)), .mv (.s 6)⟩,
                                          ⟨(some 87), (some (80, false)), .iaddrS 1 (.s 85) (.s 86)⟩,
                                          ⟨(some 88), (some (80, false)), .load none none (.s 87)⟩,
                                          ⟨(some 89), (some (80, false)), .faddr 0 (.s 1)⟩,
                                          ⟨(some 90), (some (80, false)), .load none (some 0) (.s 89)⟩,
                                          ⟨(some 91), (some (80, false)), .mv (.s 5)⟩,
                                          ⟨(some 92), (some (80, false)), .bin .add .int (.s 91) (.c (.int .i64 1))⟩,
                                          ⟨(some 93), (some (80, false)), .iaddrS 1 (.s 90) (.s 92)⟩,
                                          ⟨(some 94), (some (80, false)), .load none none (.s 93)⟩,
                                          ⟨(some 95), (some (80, false)), .bin .geq .int (.s 88) (.s 94)⟩,
                                          ⟨(some 96), none, .pick (.s 80) (.c (.bool true)) (.s 95)⟩])
                                        (.cond (.s 96)
                                          (.seq
                                            (.region false [
                                              ⟨(some 2), none, .mv (.c (.bool false))⟩])
                                            .ret)
                                          .skip)))
                                    (.region false [
                                      ⟨(some 69), none, .mv (.s 6)⟩,
                                      ⟨(some 70), none, .bin .add .int (.s 69) (.c (.int .i64 1))⟩,
                                      ⟨(some 6), none, .mv (.s 70)⟩]))))))))
                      (.region false [
                        ⟨(some 47), none, .mv (.s 5)⟩,
                        ⟨(some 48), none, .bin .add .int (.s 47) (.c (.int .i64 1))⟩,
                        ⟨(some 5), none, .mv (.s 48)⟩]))))))
            (.seq
              (.region false [
                ⟨(some 2), none, .mv (.c (.bool true))⟩])
              .ret)))))) }
/- cuboid/cuboidref03.Size -/
def f14 : MFun := { nt := 31, np := 2, no := 1, res := [.slot 4], body :=
  (.seq
    (.region false [
      ⟨(some 2), none, .box 0 (.s 0)⟩,
      ⟨(some 4), none, .mv (.c (.int .i64 0))⟩])
    (.seq
      (.block 0
        (.seq
          (.region false [
            ⟨(some 6), none, .load (some 2) (some 0) (.s 2)⟩,
            ⟨(some 7), none, .call (.c (.fn 12 [] [])) [(.s 6)] [] [] [] false⟩,
            ⟨(some 8), none, .un .not (.s 7)⟩,
            ⟨(some 9), none, .mv (.s 8)⟩,
            ⟨(some 10), (some (9, false)), .mv (.s 1)⟩,
            ⟨(some 11), (some (9, false)), .bin .lss .int (.s 10) (.c (.int .i64 0))⟩,
            ⟨(some 12), none, .pick (.s 9) (.c (.bool true)) (.s 11)⟩,
            ⟨(some 13), none, .mv (.s 12)⟩,
            ⟨(some 14), (some (13, false)), .mv (.s 1)⟩,
            ⟨(some 15), (some (13, false)), .faddr 0 (.s 2)⟩,
            ⟨(some 16), (some (13, false)), .load none (some 0) (.s 15)⟩,
            ⟨(some 17), (some (13, false)), .len (.s 16)⟩,
            ⟨(some 18), (some (13, false)), .bin .gtr .int (.s 14) (.s 17)⟩,
            ⟨(some 19), none, .pick (.s 13) (.c (.bool true)) (.s 18)⟩,
            ⟨(some 5), none, .mv (.s 19)⟩])
          (.cond (.s 5)
            (.seq
              (.region false [
                ⟨(some 4), none, .mv (.c (.int .i64 0))⟩])
              .ret)
            (.seq
              (.region false [
                ⟨(some 21), none, .mv (.s 1)⟩,
                ⟨(some 22), none, .faddr 0 (.s 2)⟩,
                ⟨(some 23), none, .load none (some 0) (.s 22)⟩,
                ⟨(some 24), none, .len (.s 23)⟩,
                ⟨(some 25), none, .bin .eql .int (.s 21) (.s 24)⟩,
                ⟨(some 20), none, .mv (.s 25)⟩])
              (.cond (.s 20)
                (.seq
                  (.region false [
                    ⟨(some 4), none, .mv (.c (.int .i64 1))⟩])
                  .ret)
                .skip)))))
      (.seq
        (.region false [
          ⟨(some 26), none, .faddr 0 (.s 2)⟩,
          ⟨(some 27), none, .load none (some 0) (.s 26)⟩,
          ⟨(some 28), none, .mv (.s 1)⟩,
          ⟨(some 29), none, .iaddrS 1 (.s 27) (.s 28)⟩,
          ⟨(some 30), none, .load none none (.s 29)⟩,
          ⟨(some 4), none, .mv (.s 30)⟩])
        .ret))) }
/- cuboid/cuboidref03.Lift -/
def f21 : MFun := { nt := 61, np := 4, no := 1, res := [.slot 8], body :=
  (.seq
    (.region false [
      ⟨(some 4), none, .box 0 (.s 0)⟩,
      ⟨(some 8), none, .mv (.c (.int .i64 0))⟩])
    (.seq
      (.seq
        (.region false [
          ⟨(some 10), none, .mv (.s 1)⟩,
          ⟨(some 11), none, .bin .lss .int (.s 10) (.c (.int .i64 0))⟩,
          ⟨(some 12), none, .mv (.s 11)⟩,
          ⟨(some 13), (some (12, false)), .mv (.s 1)⟩,
          ⟨(some 14), (some (12, false)), .mv (.s 2)⟩,
          ⟨(some 15), (some (12, false)), .bin .gtr .int (.s 13) (.s 14)⟩,
          ⟨(some 16), none, .pick (.s 12) (.c (.bool true)) (.s 15)⟩,
          ⟨(some 17), none, .mv (.s 16)⟩,
          ⟨(some 18), (some (17, false)), .load (some 2) (some 0) (.s 4)⟩,
          ⟨(some 19), (some (17, false)), .mv (.s 2)⟩,
          ⟨(some 20), (some (17, false)), .call (.c (.fn 14 [] [])) [(.s 18), (.s 19)] [] [] [] false⟩,
          ⟨(some 21), (some (17, false)), .bin .eql .int (.s 20) (.c (.int .i64 0))⟩,
          ⟨(some 22), none, .pick (.s 17) (.c (.bool true)) (.s 21)⟩,
          ⟨(some 23), none, .mv (.s 22)⟩,
          ⟨(some 24), (some (23, false)), .mv (.s 3)⟩,
          ⟨(some 25), (some (23, false)), .bin .lss .int (.s 24) (.c (.int .i64 0))⟩,
          ⟨(some 26), none, .pick (.s 23) (.c (.bool true)) (.s 25)⟩,
          ⟨(some 27), none, .mv (.s 26)⟩,
          ⟨(some 28), (some (27, false)), .mv (.s 3)⟩,
          ⟨(some 29), (some (27, false)), .load (some 2) (some 0) (.s 4)⟩,
          ⟨(some 30), (some (27, false)), .mv (.s 1)⟩,
          ⟨(some 31), (some (27, false)), .call (.c (.fn 14 [] [])) [(.s 29), (.s 30)] [] [] [] false⟩,
          ⟨(some 32), (some (27, false)), .bin .geq .int (.s 28) (.s 31)⟩,
          ⟨(some 33), none, .pick (.s 27) (.c (.bool true)) (.s 32)⟩])
        (.cond (.s 33)
          (.seq
            (.region false [
              ⟨(some 8), none, .mv (.c (.int .i64 (-1)))⟩])
            .ret)
          .skip))
      (.seq
        (.seq
          (.region false [
            ⟨(some 34), none, .mv (.s 1)⟩,
            ⟨(some 9), none, .mv (.s 34)⟩])
          (.block 0
            (.loop [2, 3, 4, 9] [0]
              (.seq
                (.seq
                  (.region false [
                    ⟨(some 35), none, .mv (.s 9)⟩,
                    ⟨(some 36), none, .mv (.s 2)⟩,
                    ⟨(some 37), none, .bin .lss .int (.s 35) (.s 36)⟩,
                    ⟨(some 38), none, .mv (.s 37)⟩,
                    ⟨(some 39), (some (38, true)), .mv (.s 9)⟩,
                    ⟨(some 40), (some (38, true)), .faddr 1 (.s 4)⟩,
                    ⟨(some 41), (some (38, true)), .load none (some 0) (.s 40)⟩,
                    ⟨(some 42), (some (38, true)), .len (.s 41)⟩,
                    ⟨(some 43), (some (38, true)), .bin .lss .int (.s 39) (.s 42)⟩,
                    ⟨(some 44), none, .pick (.s 38) (.s 43) (.c (.bool false))⟩])
                  (.cond (.s 44)
                    .skip
                    (.exit 0)))
                (.seq
                  (.block 1
                    (.region false [
                      ⟨(some 47), none, .faddr 1 (.s 4)⟩,
                      ⟨(some 48), none, .load none (some 0) (.s 47)⟩,
                      ⟨(some 49), none, .mv (.s 9)⟩,
                      ⟨(some 50), none, .iaddrS 1 (.s 48) (.s 49)⟩,
                      ⟨(some 51), none, .load none none (.s 50)⟩,
                      ⟨(some 52), none, .mv (.s 3)⟩,
                      ⟨(some 53), none, .iaddrS 1 (.s 51) (.s 52)⟩,
                      ⟨(some 54), none, .load none none (.s 53)⟩,
                      ⟨(some 3), none, .mv (.s 54)⟩]))
                  (.region false [
                    ⟨(some 45), none, .mv (.s 9)⟩,
                    ⟨(some 46), none, .bin .add .int (.s 45) (.c (.int .i64 1))⟩,
                    ⟨(some 9), none, .mv (.s 46)⟩]))))))
        (.seq
          (.seq
            (.region false [
              ⟨(some 55), none, .mv (.s 2)⟩,
              ⟨(some 56), none, .faddr 0 (.s 4)⟩,
              ⟨(some 57), none, .load none (some 0) (.s 56)⟩,
              ⟨(some 58), none, .len (.s 57)⟩,
              ⟨(some 59), none, .bin .eql .int (.s 55) (.s 58)⟩])
            (.cond (.s 59)
              (.seq
                (.region false [
                  ⟨(some 8), none, .mv (.c (.int .i64 0))⟩])
                .ret)
              .skip))
          (.seq
            (.region false [
              ⟨(some 60), none, .mv (.s 3)⟩,
              ⟨(some 8), none, .mv (.s 60)⟩])
            .ret))))) }
/- cuboid/cuboidref03.Under -/
def f22 : MFun := { nt := 39, np := 4, no := 2, res := [.slot 8], body :=
  (.seq
    (.region false [
      ⟨(some 4), none, .box 0 (.s 0)⟩,
      ⟨(some 8), none, .mv (.c .nilsl)⟩])
    (.seq
      (.region false [
        ⟨(some 9), none, .vnil 1 1⟩])
      (.seq
        (.seq
          (.region false [
            ⟨(some 11), none, .mv (.s 2)⟩,
            ⟨(some 12), none, .bin .lss .int (.s 11) (.c (.int .i64 0))⟩,
            ⟨(some 13), none, .mv (.s 12)⟩,
            ⟨(some 14), (some (13, false)), .mv (.s 2)⟩,
            ⟨(some 15), (some (13, false)), .load (some 2) (some 0) (.s 4)⟩,
            ⟨(some 16), (some (13, false)), .mv (.s 1)⟩,
            ⟨(some 17), (some (13, false)), .call (.c (.fn 14 [] [])) [(.s 15), (.s 16)] [] [] [] false⟩,
            ⟨(some 18), (some (13, false)), .bin .geq .int (.s 14) (.s 17)⟩,
            ⟨(some 19), none, .pick (.s 13) (.c (.bool true)) (.s 18)⟩])
          (.cond (.s 19)
            (.seq
              (.region false [
                ⟨(some 8), none, .mv (.c .nilsl)⟩])
              .ret)
            .skip))
        (.seq
          (.seq
            (.region false [
              ⟨(some 10), none, .mv (.c (.int .i64 0))⟩])
            (.block 0
              (.loop [1, 2, 3, 4, 9, 10] [0, 1]
                (.seq
                  (.seq
                    (.region false [
                      ⟨(some 20), none, .mv (.s 10)⟩,
                      ⟨(some 21), none, .load (some 2) (some 0) (.s 4)⟩,
                      ⟨(some 22), none, .mv (.s 3)⟩,
                      ⟨(some 23), none, .call (.c (.fn 14 [] [])) [(.s 21), (.s 22)] [] [] [] false⟩,
                      ⟨(some 24), none, .bin .lss .int (.s 20) (.s 23)⟩])
                    (.cond (.s 24)
                      .skip
                      (.exit 0)))
                  (.seq
                    (.block 1
                      (.seq
                        (.region false [
                          ⟨(some 27), none, .load (some 2) (some 0) (.s 4)⟩,
                          ⟨(some 28), none, .mv (.s 3)⟩,
                          ⟨(some 29), none, .mv (.s 1)⟩,
                          ⟨(some 30), none, .mv (.s 10)⟩,
                          ⟨(some 31), none, .call (.c (.fn 21 [] [])) [(.s 27), (.s 28), (.s 29), (.s 30)] [] [] [] false⟩,
                          ⟨(some 32), none, .mv (.s 2)⟩,
                          ⟨(some 33), none, .bin .eql .int (.s 31) (.s 32)⟩])
                        (.cond (.s 33)
                          (.region false [
                            ⟨(some 34), none, .mv (.s 9)⟩,
                            ⟨(some 35), none, .mv (.s 10)⟩,
                            ⟨(some 36), none, .lit none [] 1 1 [.int .i64 0] [(0, 1, (.s 35))]⟩,
                            ⟨(some 37), none, .append 8 1 1 none (.s 34) (.s 36)⟩,
                            ⟨(some 9), none, .mv (.s 37)⟩])
                          .skip)))
                    (.region false [
                      ⟨(some 25), none, .mv (.s 10)⟩,
                      ⟨(some 26), none, .bin .add .int (.s 25) (.c (.int .i64 1))⟩,
                      ⟨(some 10), none, .mv (.s 26)⟩]))))))
          (.seq
            (.region false [
              ⟨(some 38), none, .mv (.s 9)⟩,
              ⟨(some 8), none, .mv (.s 38)⟩])
            .ret))))) }
/- cuboid/cuboidkeep.Ints -/
def f23 : MFun := { nt := 26, np := 2, no := 0, res := [.slot 4], body :=
  (.seq
    (.region false [
      ⟨(some 4), none, .mv (.c (.bool false))⟩])
    (.seq
      (.seq
        (.region false [
          ⟨(some 6), none, .mv (.s 0)⟩,
          ⟨(some 7), none, .len (.s 6)⟩,
          ⟨(some 8), none, .mv (.s 1)⟩,
          ⟨(some 9), none, .len (.s 8)⟩,
          ⟨(some 10), none, .bin .neq .int (.s 7) (.s 9)⟩])
        (.cond (.s 10)
          (.seq
            (.region false [
              ⟨(some 4), none, .mv (.c (.bool false))⟩])
            .ret)
          .skip))
      (.seq
        (.seq
          (.region false [
            ⟨(some 5), none, .mv (.c (.int .i64 0))⟩])
          (.block 0
            (.loop [0, 1, 5] []
              (.seq
                (.seq
                  (.region false [
                    ⟨(some 11), none, .mv (.s 5)⟩,
                    ⟨(some 12), none, .mv (.s 0)⟩,
                    ⟨(some 13), none, .len (.s 12)⟩,
                    ⟨(some 14), none, .bin .lss .int (.s 11) (.s 13)⟩])
                  (.cond (.s 14)
                    .skip
                    (.exit 0)))
                (.seq
                  (.block 1
                    (.seq
                      (.region true [
                        ⟨(some 17), none, .mv (.s 0)⟩,
                        ⟨(some 18), none, .mv (.s 5)⟩,
                        ⟨(some 19), none, .iaddrS 1 (.s 17) (.s 18)⟩,
                        ⟨(some 20), none, .load none none (.s 19)⟩,
                        ⟨(some 21), none, .mv (.s 1)⟩,
                        ⟨(some 22), none, .mv (.s 5)⟩,
                        ⟨(some 23), none, .iaddrS 1 (.s 21) (.s 22)⟩,
                        ⟨(some 24), none, .load none none (.s 23)⟩,
                        ⟨(some 25), none, .bin .neq .int (.s 20) (.s 24)⟩])
                      (.cond (.s 25)
                        (.seq
                          (.region false [
                            ⟨(some 4), none, .mv (.c (.bool false))⟩])
                          .ret)
                        .skip)))
                  (.region false [
                    ⟨(some 15), none, .mv (.s 5)⟩,
                    ⟨(some 16), none, .bin .add .int (.s 15) (.c (.int .i64 1))⟩,
                    ⟨(some 5), none, .mv (.s 16)⟩]))))))
        (.seq
          (.region false [
            ⟨(some 4), none, .mv (.c (.bool true))⟩])
          .ret)))) }
/- cuboid/cuboidlaw03.told -/
def f11 : MFun := { nt := 117, np := 1, no := 1, res := [.slot 2], body :=
  (.seq
    (.region false [
      ⟨(some 1), none, .box 0 (.s 0)⟩,
      ⟨(some 2), none, .mv (.c (.bool false))⟩])
    (.seq
      (.region false [
        ⟨(some 9), none, .faddr 0 (.s 1)⟩,
        ⟨(some 10), none, .load (some 2) (some 0) (.s 9)⟩,
        ⟨(some 11), none, .faddr 2 (.s 1)⟩,
        ⟨(some 12), none, .load none (some 0) (.s 11)⟩,
        ⟨(some 13), none, .faddr 3 (.s 1)⟩,
        ⟨(some 14), none, .load none (some 0) (.s 13)⟩,
        ⟨(some 15), none, .faddr 4 (.s 1)⟩,
        ⟨(some 16), none, .load none (some 0) (.s 15)⟩,
        ⟨(some 17), none, .call (.c (.fn 15 [] [])) [(.s 10), (.s 12), (.s 14), (.s 16)] [] [] [] false⟩,
        ⟨(some 8), none, .mv (.s 17)⟩,
        ⟨(some 18), none, .extract (.s 8) 0⟩,
        ⟨(some 19), none, .extract (.s 8) 1⟩,
        ⟨(some 3), none, .mv (.s 18)⟩,
        ⟨(some 4), none, .mv (.s 19)⟩])
      (.seq
        (.region false [
          ⟨(some 20), none, .faddr 0 (.s 1)⟩,
          ⟨(some 21), none, .load (some 2) (some 0) (.s 20)⟩,
          ⟨(some 22), none, .faddr 2 (.s 1)⟩,
          ⟨(some 23), none, .load none (some 0) (.s 22)⟩,
          ⟨(some 24), none, .faddr 3 (.s 1)⟩,
          ⟨(some 25), none, .load none (some 0) (.s 24)⟩,
          ⟨(some 26), none, .faddr 4 (.s 1)⟩,
          ⟨(some 27), none, .load none (some 0) (.s 26)⟩,
          ⟨(some 28), none, .call (.c (.fn 21 [] [])) [(.s 21), (.s 23), (.s 25), (.s 27)] [] [] [] false⟩,
          ⟨(some 5), none, .mv (.s 28)⟩])
        (.seq
          (.region false [
            ⟨(some 6), none, .mv (.c .nilsl)⟩,
            ⟨(some 7), none, .mv (.c .nilsl)⟩])
          (.seq
            (.seq
              (.region false [
                ⟨(some 29), none, .faddr 2 (.s 1)⟩,
                ⟨(some 30), none, .load none (some 0) (.s 29)⟩,
                ⟨(some 31), none, .bin .geq .int (.s 30) (.c (.int .i64 0))⟩,
                ⟨(some 32), none, .mv (.s 31)⟩,
                ⟨(some 33), (some (32, true)), .faddr 2 (.s 1)⟩,
                ⟨(some 34), (some (32, true)), .load none (some 0) (.s 33)⟩,
                ⟨(some 35), (some (32, true)), .faddr 3 (.s 1)⟩,
                ⟨(some 36), (some (32, true)), .load none (some 0) (.s 35)⟩,
                ⟨(some 37), (some (32, true)), .bin .leq .int (.s 34) (.s 36)⟩,
                ⟨(some 38), none, .pick (.s 32) (.s 37) (.c (.bool false))⟩])
              (.cond (.s 38)
                (.region false [
                  ⟨(some 39), none, .faddr 0 (.s 1)⟩,
                  ⟨(some 40), none, .load (some 2) (some 0) (.s 39)⟩,
                  ⟨(some 41), none, .faddr 3 (.s 1)⟩,
                  ⟨(some 42), none, .load none (some 0) (.s 41)⟩,
                  ⟨(some 43), none, .faddr 4 (.s 1)⟩,
                  ⟨(some 44), none, .load none (some 0) (.s 43)⟩,
                  ⟨(some 45), none, .faddr 2 (.s 1)⟩,
                  ⟨(some 46), none, .load none (some 0) (.s 45)⟩,
                  ⟨(some 47), none, .call (.c (.fn 22 [] [])) [(.s 40), (.s 42), (.s 44), (.s 46)] [] [] [] true⟩,
                  ⟨(some 6), none, .mv (.s 47)⟩])
                .skip))
            (.seq
              (.seq
                (.region false [
                  ⟨(some 48), none, .faddr 3 (.s 1)⟩,
                  ⟨(some 49), none, .load none (some 0) (.s 48)⟩,
                  ⟨(some 50), none, .bin .gtr .int (.s 49) (.c (.int .i64 0))⟩])
                (.cond (.s 50)
                  (.region false [
                    ⟨(some 51), none, .faddr 0 (.s 1)⟩,
                    ⟨(some 52), none, .load (some 2) (some 0) (.s 51)⟩,
                    ⟨(some 53), none, .faddr 3 (.s 1)⟩,
                    ⟨(some 54), none, .load none (some 0) (.s 53)⟩,
                    ⟨(some 55), none, .faddr 4 (.s 1)⟩,
                    ⟨(some 56), none, .load none (some 0) (.s 55)⟩,
                    ⟨(some 57), none, .faddr 3 (.s 1)⟩,
                    ⟨(some 58), none, .load none (some 0) (.s 57)⟩,
                    ⟨(some 59), none, .bin .sub .int (.s 58) (.c (.int .i64 1))⟩,
                    ⟨(some 60), none, .call (.c (.fn 22 [] [])) [(.s 52), (.s 54), (.s 56), (.s 59)] [] [] [] true⟩,
                    ⟨(some 7), none, .mv (.s 60)⟩])
                  .skip))
              (.seq
                (.region true [
                  ⟨(some 61), none, .faddr 0 (.s 1)⟩,
                  ⟨(some 62), none, .load (some 2) (some 0) (.s 61)⟩,
                  ⟨(some 63), none, .call (.c (.fn 18 [] [])) [(.s 62)] [] [] [] false⟩,
                  ⟨(some 64), none, .faddr 0 (.s 1)⟩,
                  ⟨(some 65), none, .load (some 2) (some 0) (.s 64)⟩,
                  ⟨(some 66), none, .call (.c (.fn 12 [] [])) [(.s 65)] [] [] [] false⟩,
                  ⟨(some 67), none, .bin .eql .bool (.s 63) (.s 66)⟩,
                  ⟨(some 68), none, .mv (.s 67)⟩,
                  ⟨(some 69), (some (68, true)), .faddr 0 (.s 1)⟩,
                  ⟨(some 70), (some (68, true)), .load (some 2) (some 0) (.s 69)⟩,
                  ⟨(some 71), (some (68, true)), .faddr 3 (.s 1)⟩,
                  ⟨(some 72), (some (68, true)), .load none (some 0) (.s 71)⟩,
                  ⟨(some 73), (some (68, true)), .call (.c (.fn 19 [] [])) [(.s 70), (.s 72)] [] [] [] false⟩,
                  ⟨(some 74), (some (68, true)), .faddr 0 (.s 1)⟩,
                  ⟨(some 75), (some (68, true)), .load (some 2) (some 0) (.s 74)⟩,
                  ⟨(some 76), (some (68, true)), .faddr 3 (.s 1)⟩,
                  ⟨(some 77), (some (68, true)), .load none (some 0) (.s 76)⟩,
                  ⟨(some 78), (some (68, true)), .call (.c (.fn 14 [] [])) [(.s 75), (.s 77)] [] [] [] false⟩,
                  ⟨(some 79), (some (68, true)), .bin .eql .int (.s 73) (.s 78)⟩,
                  ⟨(some 80), none, .pick (.s 68) (.s 79) (.c (.bool false))⟩,
                  ⟨(some 81), none, .mv (.s 80)⟩,
                  ⟨(some 82), (some (81, true)), .mv (.s 4)⟩,
                  ⟨(some 83), (some (81, true)), .mv (.s 5)⟩,
                  ⟨(some 84), (some (81, true)), .bin .geq .int (.s 83) (.c (.int .i64 0))⟩,
                  ⟨(some 85), (some (81, true)), .bin .eql .bool (.s 82) (.s 84)⟩,
                  ⟨(some 86), none, .pick (.s 81) (.s 85) (.c (.bool false))⟩,
                  ⟨(some 87), none, .mv (.s 86)⟩,
                  ⟨(some 88), (some (87, true)), .mv (.s 3)⟩,
                  ⟨(some 89), (some (87, true)), .mv (.s 5)⟩,
                  ⟨(some 90), (some (87, true)), .minmax true [(.s 89), (.c (.int .i64 0))]⟩,
                  ⟨(some 91), (some (87, true)), .bin .eql .int (.s 88) (.s 90)⟩,
                  ⟨(some 92), none, .pick (.s 87) (.s 91) (.c (.bool false))⟩,
                  ⟨(some 93), none, .mv (.s 92)⟩,
                  ⟨(some 94), (some (93, true)), .faddr 0 (.s 1)⟩,
                  ⟨(some 95), (some (93, true)), .load (some 2) (some 0) (.s 94)⟩,
                  ⟨(some 96), (some (93, true)), .faddr 3 (.s 1)⟩,
                  ⟨(some 97), (some (93, true)), .load none (some 0) (.s 96)⟩,
                  ⟨(some 98), (some (93, true)), .faddr 4 (.s 1)⟩,
                  ⟨(some 99), (some (93, true)), .load none (some 0) (.s 98)⟩,
                  ⟨(some 100), (some (93, true)), .faddr 2 (.s 1)⟩,
                  ⟨(some 101), (some (93, true)), .load none (some 0) (.s 100)⟩,
                  ⟨(some 102), (some (93, true)), .call (.c (.fn 16 [] [])) [(.s 95), (.s 97), (.s 99), (.s 101)] [] [] [] true⟩,
                  ⟨(some 103), (some (93, true)), .mv (.s 6)⟩,
                  ⟨(some 104), (some (93, true)), .call (.c (.fn 23 [] [])) [(.s 102), (.s 103)] [] [] [] false⟩,
                  ⟨(some 105), none, .pick (.s 93) (.s 104) (.c (.bool false))⟩,
                  ⟨(some 106), none, .mv (.s 105)⟩,
                  ⟨(some 107), (some (106, true)), .faddr 0 (.s 1)⟩,
                  ⟨(some 108), (some (106, true)), .load (some 2) (some 0) (.s 107)⟩,
                  ⟨(some 109), (some (106, true)), .faddr 3 (.s 1)⟩,
                  ⟨(some 110), (some (106, true)), .load none (some 0) (.s 109)⟩,
                  ⟨(some 111), (some (106, true)), .faddr 4 (.s 1)⟩,
                  ⟨(some 112), (some (106, true)), .load none (some 0) (.s 111)⟩,
                  ⟨(some 113), (some (106, true)), .call (.c (.fn 17 [] [])) [(.s 108), (.s 110), (.s 112)] [] [] [] true⟩,
                  ⟨(some 114), (some (106, true)), .mv (.s 7)⟩,
                  ⟨(some 115), (some (106, true)), .call (.c (.fn 23 [] [])) [(.s 113), (.s 114)] [] [] [] false⟩,
                  ⟨(some 116), none, .pick (.s 106) (.s 115) (.c (.bool false))⟩,
                  ⟨(some 2), none, .mv (.s 116)⟩])
                .ret))))))) }
/- cuboid/cuboidlaw03.HierTells -/
def f3 : MFun := { nt := 42, np := 1, no := 2, res := [.slot 2], body :=
  (.seq
    (.region false [
      ⟨(some 1), none, .box 0 (.s 0)⟩,
      ⟨(some 2), none, .mv (.c (.bool false))⟩])
    (.seq
      (.seq
        (.region false [
          ⟨(some 4), none, .faddr 0 (.s 1)⟩,
          ⟨(some 5), none, .load (some 2) (some 0) (.s 4)⟩,
          ⟨(some 6), none, .call (.c (.fn 8 [] [])) [(.s 5)] [] [] [] false⟩,
          ⟨(some 7), none, .un .not (.s 6)⟩])
        (.cond (.s 7)
          (.seq
            (.region false [
              ⟨(some 8), none, .call (.c (.fn 9 [] [])) [] [] [] [] false⟩,
              ⟨(some 2), none, .mv (.s 8)⟩])
            .ret)
          .skip))
      (.seq
        (.region true [
          ⟨(some 9), none, .faddr 0 (.s 1)⟩,
          ⟨(some 10), none, .load (some 2) (some 0) (.s 9)⟩,
          ⟨(some 11), none, .faddr 2 (.s 1)⟩,
          ⟨(some 12), none, .load none (some 0) (.s 11)⟩,
          ⟨(some 13), none, .call (.c (.fn 10 [] [])) [(.s 12), (.c (.int .i64 5))] [] [] [] false⟩,
          ⟨(some 14), none, .faddr 3 (.s 1)⟩,
          ⟨(some 15), none, .load none (some 0) (.s 14)⟩,
          ⟨(some 16), none, .call (.c (.fn 10 [] [])) [(.s 15), (.c (.int .i64 5))] [] [] [] false⟩,
          ⟨(some 17), none, .faddr 4 (.s 1)⟩,
          ⟨(some 18), none, .load none (some 0) (.s 17)⟩,
          ⟨(some 19), none, .call (.c (.fn 10 [] [])) [(.s 18), (.c (.int .i64 7))] [] [] [] false⟩,
          ⟨(some 20), none, .build [.nilsl, .nilsl, .int .i64 0, .int .i64 0, .int .i64 0] [(0, 2, (.s 10)), (2, 1, (.s 13)), (3, 1, (.s 16)), (4, 1, (.s 19))]⟩,
          ⟨(some 3), none, .alloc 1 [.nilsl, .nilsl, .int .i64 0, .int .i64 0, .int .i64 0]⟩,
          ⟨none, none, .store 5 1 [] (.s 3) (.s 20)⟩])
        (.seq
          (.region false [
            ⟨(some 21), none, .load (some 5) (some 0) (.s 1)⟩,
            ⟨(some 22), none, .call (.c (.fn 11 [] [])) [(.s 21)] [] [] [] false⟩,
            ⟨(some 23), none, .mv (.s 22)⟩,
            ⟨(some 24), (some (23, true)), .load (some 5) (some 1) (.s 3)⟩,
            ⟨(some 25), (some (23, true)), .call (.c (.fn 11 [] [])) [(.s 24)] [] [] [] false⟩,
            ⟨(some 26), none, .pick (.s 23) (.s 25) (.c (.bool false))⟩,
            ⟨(some 27), none, .mv (.s 26)⟩,
            ⟨(some 28), (some (27, true)), .faddr 0 (.s 1)⟩,
            ⟨(some 29), (some (27, true)), .load (some 2) (some 0) (.s 28)⟩,
            ⟨(some 30), (some (27, true)), .faddr 2 (.s 3)⟩,
            ⟨(some 31), (some (27, true)), .load none (some 1) (.s 30)⟩,
            ⟨(some 32), (some (27, true)), .faddr 3 (.s 3)⟩,
            ⟨(some 33), (some (27, true)), .load none (some 1) (.s 32)⟩,
            ⟨(some 34), (some (27, true)), .faddr 4 (.s 1)⟩,
            ⟨(some 35), (some (27, true)), .load none (some 0) (.s 34)⟩,
            ⟨(some 36), (some (27, true)), .build [.nilsl, .nilsl, .int .i64 0, .int .i64 0, .int .i64 0] [(0, 2, (.s 29)), (2, 1, (.s 31)), (3, 1, (.s 33)), (4, 1, (.s 35))]⟩,
            ⟨(some 37), (some (27, true)), .call (.c (.fn 11 [] [])) [(.s 36)] [] [] [] false⟩,
            ⟨(some 38), none, .pick (.s 27) (.s 37) (.c (.bool false))⟩,
            ⟨(some 39), none, .mv (.s 38)⟩,
            ⟨(some 40), (some (39, true)), .call (.c (.fn 9 [] [])) [] [] [] [] false⟩,
            ⟨(some 41), none, .pick (.s 39) (.s 40) (.c (.bool false))⟩,
            ⟨(some 2), none, .mv (.s 41)⟩])
          .ret)))) }
/- cuboid/cuboidlaw03.held -/
def f13 : MFun := { nt := 10, np := 2, no := 0, res := [.slot 4], body :=
  (.seq
    (.region false [
      ⟨(some 4), none, .mv (.c (.int .i64 0))⟩])
    (.seq
      (.region false [
        ⟨(some 5), none, .mv (.s 0)⟩,
        ⟨(some 6), none, .conv .i64 (.s 5)⟩,
        ⟨(some 7), none, .mv (.s 1)⟩,
        ⟨(some 8), none, .minmax true [(.s 7), (.c (.int .i64 1))]⟩,
        ⟨(some 9), none, .bin .rem .int (.s 6) (.s 8)⟩,
        ⟨(some 4), none, .mv (.s 9)⟩])
      .ret)) }
/- cuboid/cuboidlaw03.HierTwice -/
def f4 : MFun := { nt := 136, np := 3, no := 2, res := [.slot 6], body :=
  (.seq
    (.region false [
      ⟨(some 3), none, .box 0 (.s 0)⟩,
      ⟨(some 4), none, .box 1 (.s 1)⟩,
      ⟨(some 6), none, .mv (.c (.bool false))⟩])
    (.seq
      (.seq
        (.region false [
          ⟨(some 22), none, .load (some 2) (some 0) (.s 3)⟩,
          ⟨(some 23), none, .call (.c (.fn 12 [] [])) [(.s 22)] [] [] [] false⟩,
          ⟨(some 24), none, .un .not (.s 23)⟩])
        (.cond (.s 24)
          (.seq
            (.region false [
              ⟨(some 25), none, .call (.c (.fn 9 [] [])) [] [] [] [] false⟩,
              ⟨(some 6), none, .mv (.s 25)⟩])
            .ret)
          .skip))
      (.seq
        (.region false [
          ⟨(some 26), none, .faddr 0 (.s 3)⟩,
          ⟨(some 27), none, .load none (some 0) (.s 26)⟩,
          ⟨(some 28), none, .len (.s 27)⟩,
          ⟨(some 7), none, .mv (.s 28)⟩])
        (.seq
          (.region true [
            ⟨(some 29), none, .iaddrA 3 1 (.s 4) (.c (.int .i64 0))⟩,
            ⟨(some 30), none, .load none (some 1) (.s 29)⟩,
            ⟨(some 31), none, .mv (.s 7)⟩,
            ⟨(some 32), none, .bin .add .int (.s 31) (.c (.int .i64 1))⟩,
            ⟨(some 33), none, .call (.c (.fn 13 [] [])) [(.s 30), (.s 32)] [] [] [] false⟩,
            ⟨(some 34), none, .iaddrA 3 1 (.s 4) (.c (.int .i64 1))⟩,
            ⟨(some 35), none, .load none (some 1) (.s 34)⟩,
            ⟨(some 36), none, .mv (.s 7)⟩,
            ⟨(some 37), none, .bin .add .int (.s 36) (.c (.int .i64 1))⟩,
            ⟨(some 38), none, .call (.c (.fn 13 [] [])) [(.s 35), (.s 37)] [] [] [] false⟩,
            ⟨(some 39), none, .iaddrA 3 1 (.s 4) (.c (.int .i64 2))⟩,
            ⟨(some 40), none, .load none (some 1) (.s 39)⟩,
            ⟨(some 41), none, .mv (.s 7)⟩,
            ⟨(some 42), none, .bin .add .int (.s 41) (.c (.int .i64 1))⟩,
            ⟨(some 43), none, .call (.c (.fn 13 [] [])) [(.s 40), (.s 42)] [] [] [] false⟩,
            ⟨(some 8), none, .mv (.s 33)⟩,
            ⟨(some 9), none, .mv (.s 38)⟩,
            ⟨(some 10), none, .mv (.s 43)⟩])
          (.seq
            (.region false [
              ⟨(some 44), none, .mv (.s 8)⟩,
              ⟨(some 45), none, .mv (.s 9)⟩,
              ⟨(some 46), none, .mv (.s 10)⟩,
              ⟨(some 47), none, .minmax false [(.s 44), (.s 45), (.s 46)]⟩,
              ⟨(some 48), none, .mv (.s 8)⟩,
              ⟨(some 49), none, .mv (.s 9)⟩,
              ⟨(some 50), none, .minmax false [(.s 48), (.s 49)]⟩,
              ⟨(some 51), none, .mv (.s 8)⟩,
              ⟨(some 52), none, .mv (.s 9)⟩,
              ⟨(some 53), none, .minmax true [(.s 51), (.s 52)]⟩,
              ⟨(some 54), none, .mv (.s 10)⟩,
              ⟨(some 55), none, .minmax false [(.s 53), (.s 54)]⟩,
              ⟨(some 56), none, .minmax true [(.s 50), (.s 55)]⟩,
              ⟨(some 57), none, .mv (.s 8)⟩,
              ⟨(some 58), none, .mv (.s 9)⟩,
              ⟨(some 59), none, .mv (.s 10)⟩,
              ⟨(some 60), none, .minmax true [(.s 57), (.s 58), (.s 59)]⟩,
              ⟨(some 8), none, .mv (.s 47)⟩,
              ⟨(some 9), none, .mv (.s 56)⟩,
              ⟨(some 10), none, .mv (.s 60)⟩])
            (.seq
              (.region false [
                ⟨(some 61), none, .mv (.s 2)⟩,
                ⟨(some 62), none, .load (some 2) (some 0) (.s 3)⟩,
                ⟨(some 63), none, .mv (.s 8)⟩,
                ⟨(some 64), none, .call (.c (.fn 14 [] [])) [(.s 62), (.s 63)] [] [] [] false⟩,
                ⟨(some 65), none, .call (.c (.fn 13 [] [])) [(.s 61), (.s 64)] [] [] [] false⟩,
                ⟨(some 11), none, .mv (.s 65)⟩])
              (.seq
                (.region false [
                  ⟨(some 67), none, .load (some 2) (some 0) (.s 3)⟩,
                  ⟨(some 68), none, .mv (.s 8)⟩,
                  ⟨(some 69), none, .mv (.s 9)⟩,
                  ⟨(some 70), none, .mv (.s 11)⟩,
                  ⟨(some 71), none, .call (.c (.fn 15 [] [])) [(.s 67), (.s 68), (.s 69), (.s 70)] [] [] [] false⟩,
                  ⟨(some 66), none, .mv (.s 71)⟩,
                  ⟨(some 72), none, .extract (.s 66) 0⟩,
                  ⟨(some 73), none, .extract (.s 66) 1⟩,
                  ⟨(some 12), none, .mv (.s 72)⟩,
                  ⟨(some 13), none, .mv (.s 73)⟩])
                (.seq
                  (.region false [
                    ⟨(some 75), none, .load (some 2) (some 0) (.s 3)⟩,
                    ⟨(some 76), none, .mv (.s 9)⟩,
                    ⟨(some 77), none, .mv (.s 10)⟩,
                    ⟨(some 78), none, .mv (.s 12)⟩,
                    ⟨(some 79), none, .call (.c (.fn 15 [] [])) [(.s 75), (.s 76), (.s 77), (.s 78)] [] [] [] false⟩,
                    ⟨(some 74), none, .mv (.s 79)⟩,
                    ⟨(some 80), none, .extract (.s 74) 0⟩,
                    ⟨(some 81), none, .extract (.s 74) 1⟩,
                    ⟨(some 14), none, .mv (.s 80)⟩,
                    ⟨(some 15), none, .mv (.s 81)⟩])
                  (.seq
                    (.region false [
                      ⟨(some 83), none, .load (some 2) (some 0) (.s 3)⟩,
                      ⟨(some 84), none, .mv (.s 8)⟩,
                      ⟨(some 85), none, .mv (.s 10)⟩,
                      ⟨(some 86), none, .mv (.s 11)⟩,
                      ⟨(some 87), none, .call (.c (.fn 15 [] [])) [(.s 83), (.s 84), (.s 85), (.s 86)] [] [] [] false⟩,
                      ⟨(some 82), none, .mv (.s 87)⟩,
                      ⟨(some 88), none, .extract (.s 82) 0⟩,
                      ⟨(some 89), none, .extract (.s 82) 1⟩,
                      ⟨(some 16), none, .mv (.s 88)⟩,
                      ⟨(some 17), none, .mv (.s 89)⟩])
                    (.seq
                      (.region false [
                        ⟨(some 91), none, .load (some 2) (some 0) (.s 3)⟩,
                        ⟨(some 92), none, .mv (.s 8)⟩,
                        ⟨(some 93), none, .mv (.s 8)⟩,
                        ⟨(some 94), none, .mv (.s 11)⟩,
                        ⟨(some 95), none, .call (.c (.fn 15 [] [])) [(.s 91), (.s 92), (.s 93), (.s 94)] [] [] [] false⟩,
                        ⟨(some 90), none, .mv (.s 95)⟩,
                        ⟨(some 96), none, .extract (.s 90) 0⟩,
                        ⟨(some 97), none, .extract (.s 90) 1⟩,
                        ⟨(some 18), none, .mv (.s 96)⟩,
                        ⟨(some 19), none, .mv (.s 97)⟩])
                      (.seq
                        (.region false [
                          ⟨(some 99), none, .load (some 2) (some 0) (.s 3)⟩,
                          ⟨(some 100), none, .mv (.s 8)⟩,
                          ⟨(some 101), none, .mv (.s 7)⟩,
                          ⟨(some 102), none, .mv (.s 11)⟩,
                          ⟨(some 103), none, .call (.c (.fn 15 [] [])) [(.s 99), (.s 100), (.s 101), (.s 102)] [] [] [] false⟩,
                          ⟨(some 98), none, .mv (.s 103)⟩,
                          ⟨(some 104), none, .extract (.s 98) 0⟩,
                          ⟨(some 105), none, .extract (.s 98) 1⟩,
                          ⟨(some 20), none, .mv (.s 104)⟩,
                          ⟨(some 21), none, .mv (.s 105)⟩])
                        (.seq
                          (.region false [
                            ⟨(some 106), none, .mv (.s 13)⟩,
                            ⟨(some 107), none, .mv (.s 106)⟩,
                            ⟨(some 108), (some (107, true)), .mv (.s 15)⟩,
                            ⟨(some 109), none, .pick (.s 107) (.s 108) (.c (.bool false))⟩,
                            ⟨(some 110), none, .mv (.s 109)⟩,
                            ⟨(some 111), (some (110, true)), .mv (.s 17)⟩,
                            ⟨(some 112), none, .pick (.s 110) (.s 111) (.c (.bool false))⟩,
                            ⟨(some 113), none, .mv (.s 112)⟩,
                            ⟨(some 114), (some (113, true)), .mv (.s 14)⟩,
                            ⟨(some 115), (some (113, true)), .mv (.s 16)⟩,
                            ⟨(some 116), (some (113, true)), .bin .eql .int (.s 114) (.s 115)⟩,
                            ⟨(some 117), none, .pick (.s 113) (.s 116) (.c (.bool false))⟩,
                            ⟨(some 118), none, .mv (.s 117)⟩,
                            ⟨(some 119), (some (118, true)), .mv (.s 19)⟩,
                            ⟨(some 120), none, .pick (.s 118) (.s 119) (.c (.bool false))⟩,
                            ⟨(some 121), none, .mv (.s 120)⟩,
                            ⟨(some 122), (some (121, true)), .mv (.s 18)⟩,
                            ⟨(some 123), (some (121, true)), .mv (.s 11)⟩,
                            ⟨(some 124), (some (121, true)), .bin .eql .int (.s 122) (.s 123)⟩,
                            ⟨(some 125), none, .pick (.s 121) (.s 124) (.c (.bool false))⟩,
                            ⟨(some 126), none, .mv (.s 125)⟩,
                            ⟨(some 127), (some (126, true)), .mv (.s 21)⟩,
                            ⟨(some 128), none, .pick (.s 126) (.s 127) (.c (.bool false))⟩,
                            ⟨(some 129), none, .mv (.s 128)⟩,
                            ⟨(some 130), (some (129, true)), .mv (.s 20)⟩,
                            ⟨(some 131), (some (129, true)), .bin .eql .int (.s 130) (.c (.int .i64 0))⟩,
                            ⟨(some 132), none, .pick (.s 129) (.s 131) (.c (.bool false))⟩,
                            ⟨(some 133), none, .mv (.s 132)⟩,
                            ⟨(some 134), (some (133, true)), .call (.c (.fn 9 [] [])) [] [] [] [] false⟩,
                            ⟨(some 135), none, .pick (.s 133) (.s 134) (.c (.bool false))⟩,
                            ⟨(some 6), none, .mv (.s 135)⟩])
                          .ret)))))))))))) }
/- cuboid/cuboidlaw03.HierParts -/
def f5 : MFun := { nt := 134, np := 3, no := 2, res := [.slot 6], body :=
  (.seq
    (.region false [
      ⟨(some 3), none, .box 0 (.s 0)⟩,
      ⟨(some 6), none, .mv (.c (.bool false))⟩])
    (.seq
      (.seq
        (.region false [
          ⟨(some 17), none, .load (some 2) (some 0) (.s 3)⟩,
          ⟨(some 18), none, .call (.c (.fn 12 [] [])) [(.s 17)] [] [] [] false⟩,
          ⟨(some 19), none, .un .not (.s 18)⟩])
        (.cond (.s 19)
          (.seq
            (.region false [
              ⟨(some 20), none, .call (.c (.fn 9 [] [])) [] [] [] [] false⟩,
              ⟨(some 6), none, .mv (.s 20)⟩])
            .ret)
          .skip))
      (.seq
        (.region false [
          ⟨(some 21), none, .faddr 0 (.s 3)⟩,
          ⟨(some 22), none, .load none (some 0) (.s 21)⟩,
          ⟨(some 23), none, .len (.s 22)⟩,
          ⟨(some 24), none, .bin .add .int (.s 23) (.c (.int .i64 1))⟩,
          ⟨(some 7), none, .mv (.s 24)⟩])
        (.seq
          (.region false [
            ⟨(some 25), none, .mv (.s 1)⟩,
            ⟨(some 26), none, .mv (.s 7)⟩,
            ⟨(some 27), none, .call (.c (.fn 13 [] [])) [(.s 25), (.s 26)] [] [] [] false⟩,
            ⟨(some 28), none, .mv (.s 2)⟩,
            ⟨(some 29), none, .mv (.s 7)⟩,
            ⟨(some 30), none, .call (.c (.fn 13 [] [])) [(.s 28), (.s 29)] [] [] [] false⟩,
            ⟨(some 8), none, .mv (.s 27)⟩,
            ⟨(some 9), none, .mv (.s 30)⟩])
          (.seq
            (.region false [
              ⟨(some 31), none, .mv (.s 8)⟩,
              ⟨(some 32), none, .mv (.s 9)⟩,
              ⟨(some 33), none, .minmax false [(.s 31), (.s 32)]⟩,
              ⟨(some 34), none, .mv (.s 8)⟩,
              ⟨(some 35), none, .mv (.s 9)⟩,
              ⟨(some 36), none, .minmax true [(.s 34), (.s 35)]⟩,
              ⟨(some 8), none, .mv (.s 33)⟩,
              ⟨(some 9), none, .mv (.s 36)⟩])
            (.seq
              (.region false [
                ⟨(some 37), none, .make 1 8 1 [.int .i64 0] (.c (.int .i64 40)) (.c (.int .i64 40))⟩,
                ⟨(some 10), none, .mv (.s 37)⟩])
              (.seq
                (.region false [
                  ⟨(some 11), none, .mv (.c (.int .i64 0))⟩])
                (.seq
                  (.seq
                    (.region false [
                      ⟨(some 12), none, .mv (.c (.int .i64 0))⟩])
                    (.block 0
                      (.loop [3, 8, 9, 10, 11, 12] [0, 1]
                        (.seq
                          (.seq
                            (.region false [
                              ⟨(some 38), none, .mv (.s 12)⟩,
                              ⟨(some 39), none, .load (some 2) (some 0) (.s 3)⟩,
                              ⟨(some 40), none, .mv (.s 9)⟩,
                              ⟨(some 41), none, .call (.c (.fn 14 [] [])) [(.s 39), (.s 40)] [] [] [] false⟩,
                              ⟨(some 42), none, .bin .lss .int (.s 38) (.s 41)⟩])
                            (.cond (.s 42)
                              .skip
                              (.exit 0)))
                          (.seq
                            (.block 1
                              (.seq
                                (.region false [
                                  ⟨(some 45), none, .load (some 2) (some 0) (.s 3)⟩,
                                  ⟨(some 46), none, .mv (.s 9)⟩,
                                  ⟨(some 47), none, .mv (.s 12)⟩,
                                  ⟨(some 48), none, .mv (.s 8)⟩,
                                  ⟨(some 49), none, .call (.c (.fn 16 [] [])) [(.s 45), (.s 46), (.s 47), (.s 48)] [] [] [] true⟩,
                                  ⟨(some 13), none, .mv (.s 49)⟩])
                                (.seq
                                  (.region false [
                                    ⟨(some 14), none, .mv (.c (.int .i64 0))⟩])
                                  (.block 2
                                    (.loop [3, 8, 9, 10, 11, 12, 13, 14] [0, 1]
                                      (.seq
                                        (.seq
                                          (.region false [
                                            ⟨(some 50), none, .mv (.s 14)⟩,
                                            ⟨(some 51), none, .mv (.s 13)⟩,
                                            ⟨(some 52), none, .len (.s 51)⟩,
                                            ⟨(some 53), none, .bin .lss .int (.s 50) (.s 52)⟩])
                                          (.cond (.s 53)
                                            .skip
                                            (.exit 2)))
                                        (.seq
                                          (.block 3
                                            (.seq
                                              (.seq
                                                (.region true [
                                                  ⟨(some 56), none, .mv (.s 13)⟩,
                                                  ⟨(some 57), none, .mv (.s 14)⟩,
                                                  ⟨(some 58), none, .iaddrS 1 (.s 56) (.s 57)⟩,
                                                  ⟨(some 59), none, .load none none (.s 58)⟩,
                                                  ⟨(some 60), none, .bin .lss .int (.s 59) (.c (.int .i64 0))⟩,
                                                  ⟨(some 61), none, .mv (.s 60)⟩,
                                                  ⟨(some 62), (some (61, false)), .mv (.s 13)⟩,
                                                  ⟨(some 63), (some (61, false)), .mv (.s 14)⟩,
                                                  ⟨(some 64), (some (61, false)), .iaddrS 1 (.s 62) (.s 63)⟩,
                                                  ⟨(some 65), (some (61, false)), .load none none (.s 64)⟩,
                                                  ⟨(some 66), (some (61, false)), .load (some 2) (some 0) (.s 3)⟩,
                                                  ⟨(some 67), (some (61, false)), .mv (.s 8)⟩,
                                                  ⟨(some 68), (some (61, false)), .call (.c (.fn 14 [] [])) [(.s 66), (.s 67)] [] [] [] false⟩,
                                                  ⟨(some 69), (some (61, false)), .bin .geq .int (.s 65) (.s 68)⟩,
                                                  ⟨(some 70), none, .pick (.s 61) (.c (.bool true)) (.s 69)⟩,
                                                  ⟨(some 71), none, .mv (.s 70)⟩,
                                                  ⟨(some 72), (some (71, false)), .mv (.s 10)⟩,
                                                  ⟨(some 73), (some (71, false)), .mv (.s 13)⟩,
                                                  ⟨(some 74), (some (71, false)), .mv (.s 14)⟩,
                                                  ⟨(some 75), (some (71, false)), .iaddrS 1 (.s 73) (.s 74)⟩,
                                                  ⟨(some 76), (some (71, false)), .load none none (.s 75)⟩,
                                                  ⟨(some 77), (some (71, false)), .iaddrS 1 (.s 72) (.s 76)⟩,
                                                  ⟨(some 78), (some (71, false)), .load none (some 1) (.s 77)⟩,
                                                  ⟨(some 79), (some (71, false)), .bin .gtr .int (.s 78) (.c (.int .i64 0))⟩,
                                                  ⟨(some 80), none, .pick (.s 71) (.c (.bool true)) (.s 79)⟩,
                                                  ⟨(some 81), none, .mv (.s 80)⟩,
                                                  ⟨(some 82), (some (81, false)), .mv (.s 14)⟩,
                                                  ⟨(some 83), (some (81, false)), .bin .gtr .int (.s 82) (.c (.int .i64 0))⟩,
                                                  ⟨(some 84), (some (81, false)), .mv (.s 83)⟩,
                                                  ⟨(some 85), (some (84, true)), .mv (.s 13)⟩,
                                                  ⟨(some 86), (some (84, true)), .mv (.s 14)⟩,
                                                  ⟨(some 87), (some (84, true)), .bin .sub .int (.s 86) (.c (.int .i64 1))⟩,
                                                  ⟨(some 88), (some (84, true)), .iaddrS 1 (.s 85) (.s 87)⟩,
                                                  ⟨(some 89), (some (84, true)), .load none none (.s 88)⟩,
                                                  ⟨(some 90), (some (84, true)), .mv (.s 13)⟩,
                                                  ⟨(some 91), (some (84, true)), .mv (.s 14)⟩,
                                                  ⟨(some 92), (some (84, true)), .iaddrS 1 (.s 90) (.s 91)⟩,
                                                  ⟨(some 93), (some (84, true)), .load none none (.s 92)⟩,
                                                  ⟨(some 94), (some (84, true)), .bin .geq .int (.s 89) (.s 93)⟩,
                                                  ⟨(some 95), (some (81, false)), .pick (.s 84) (.s 94) (.c (.bool false))⟩,
                                                  ⟨(some 96), none, .pick (.s 81) (.c (.bool true)) (.s 95)⟩])
                                                (.cond (.s 96)
                                                  (.seq
                                                    (.region false [
                                                      ⟨(some 6), none, .mv (.c (.bool false))⟩])
                                                    .ret)
                                                  .skip))
                                              (.seq
                                                (.seq
                                                  (.region true [
                                                    ⟨(some 98), none, .load (some 2) (some 0) (.s 3)⟩,
                                                    ⟨(some 99), none, .mv (.s 8)⟩,
                                                    ⟨(some 100), none, .mv (.s 9)⟩,
                                                    ⟨(some 101), none, .mv (.s 13)⟩,
                                                    ⟨(some 102), none, .mv (.s 14)⟩,
                                                    ⟨(some 103), none, .iaddrS 1 (.s 101) (.s 102)⟩,
                                                    ⟨(some 104), none, .load none none (.s 103)⟩,
                                                    ⟨(some 105), none, .call (.c (.fn 15 [] [])) [(.s 98), (.s 99), (.s 100), (.s 104)] [] [] [] false⟩,
                                                    ⟨(some 97), none, .mv (.s 105)⟩,
                                                    ⟨(some 106), none, .extract (.s 97) 0⟩,
                                                    ⟨(some 107), none, .extract (.s 97) 1⟩,
                                                    ⟨(some 15), none, .mv (.s 106)⟩,
                                                    ⟨(some 16), none, .mv (.s 107)⟩])
                                                  (.seq
                                                    (.region false [
                                                      ⟨(some 108), none, .mv (.s 16)⟩,
                                                      ⟨(some 109), none, .un .not (.s 108)⟩,
                                                      ⟨(some 110), none, .mv (.s 109)⟩,
                                                      ⟨(some 111), (some (110, false)), .mv (.s 15)⟩,
                                                      ⟨(some 112), (some (110, false)), .mv (.s 12)⟩,
                                                      ⟨(some 113), (some (110, false)), .bin .neq .int (.s 111) (.s 112)⟩,
                                                      ⟨(some 114), none, .pick (.s 110) (.c (.bool true)) (.s 113)⟩])
                                                    (.cond (.s 114)
                                                      (.seq
                                                        (.region false [
                                                          ⟨(some 6), none, .mv (.c (.bool false))⟩])
                                                        .ret)
                                                      .skip)))
                                                (.seq
                                                  (.region false [
                                                    ⟨(some 115), none, .mv (.s 10)⟩,
                                                    ⟨(some 116), none, .mv (.s 13)⟩,
                                                    ⟨(some 117), none, .mv (.s 14)⟩,
                                                    ⟨(some 118), none, .iaddrS 1 (.s 116) (.s 117)⟩,
                                                    ⟨(some 119), none, .load none none (.s 118)⟩,
                                                    ⟨(some 120), none, .iaddrS 1 (.s 115) (.s 119)⟩,
                                                    ⟨(some 121), none, .load none (some 1) (.s 120)⟩,
                                                    ⟨(some 122), none, .bin .add .int (.s 121) (.c (.int .i64 1))⟩,
                                                    ⟨(some 123), none, .iaddrS 1 (.s 115) (.s 119)⟩,
                                                    ⟨none, none, .store 1 1 [] (.s 123) (.s 122)⟩])
                                                  (.region false [
                                                    ⟨(some 124), none, .mv (.s 11)⟩,
                                                    ⟨(some 125), none, .bin .add .int (.s 124) (.c (.int .i64 1))⟩,
                                                    ⟨(some 11), none, .mv (.s 125)⟩])))))
                                          (.region false [
                                            ⟨(some 54), none, .mv (.s 14)⟩,
                                            ⟨(some 55), none, .bin .add .int (.s 54) (.c (.int .i64 1))⟩,
                                            ⟨(some 14), none, .mv (.s 55)⟩]))))))))
                            (.region false [
                              ⟨(some 43), none, .mv (.s 12)⟩,
                              ⟨(some 44), none, .bin .add .int (.s 43) (.c (.int .i64 1))⟩,
                              ⟨(some 12), none, .mv (.s 44)⟩]))))))
                  (.seq
                    (.region false [
                      ⟨(some 126), none, .mv (.s 11)⟩,
                      ⟨(some 127), none, .load (some 2) (some 0) (.s 3)⟩,
                      ⟨(some 128), none, .mv (.s 8)⟩,
                      ⟨(some 129), none, .call (.c (.fn 14 [] [])) [(.s 127), (.s 128)] [] [] [] false⟩,
                      ⟨(some 130), none, .bin .eql .int (.s 126) (.s 129)⟩,
                      ⟨(some 131), none, .mv (.s 130)⟩,
                      ⟨(some 132), (some (131, true)), .call (.c (.fn 9 [] [])) [] [] [] [] false⟩,
                      ⟨(some 133), none, .pick (.s 131) (.s 132) (.c (.bool false))⟩,
                      ⟨(some 6), none, .mv (.s 133)⟩])
                    .ret))))))))) }
/- cuboid/cuboidlaw03.HierKids -/
def f6 : MFun := { nt := 94, np := 3, no := 1, res := [.slot 6], body :=
  (.seq
    (.region false [
      ⟨(some 3), none, .box 0 (.s 0)⟩,
      ⟨(some 6), none, .mv (.c (.bool false))⟩])
    (.seq
      (.seq
        (.region false [
          ⟨(some 16), none, .load (some 2) (some 0) (.s 3)⟩,
          ⟨(some 17), none, .call (.c (.fn 12 [] [])) [(.s 16)] [] [] [] false⟩,
          ⟨(some 18), none, .un .not (.s 17)⟩])
        (.cond (.s 18)
          (.seq
            (.region false [
              ⟨(some 19), none, .call (.c (.fn 9 [] [])) [] [] [] [] false⟩,
              ⟨(some 6), none, .mv (.s 19)⟩])
            .ret)
          .skip))
      (.seq
        (.region false [
          ⟨(some 20), none, .mv (.s 1)⟩,
          ⟨(some 21), none, .faddr 0 (.s 3)⟩,
          ⟨(some 22), none, .load none (some 0) (.s 21)⟩,
          ⟨(some 23), none, .len (.s 22)⟩,
          ⟨(some 24), none, .bin .add .int (.s 23) (.c (.int .i64 1))⟩,
          ⟨(some 25), none, .call (.c (.fn 13 [] [])) [(.s 20), (.s 24)] [] [] [] false⟩,
          ⟨(some 7), none, .mv (.s 25)⟩])
        (.seq
          (.region false [
            ⟨(some 26), none, .mv (.s 2)⟩,
            ⟨(some 27), none, .load (some 2) (some 0) (.s 3)⟩,
            ⟨(some 28), none, .mv (.s 7)⟩,
            ⟨(some 29), none, .call (.c (.fn 14 [] [])) [(.s 27), (.s 28)] [] [] [] false⟩,
            ⟨(some 30), none, .call (.c (.fn 13 [] [])) [(.s 26), (.s 29)] [] [] [] false⟩,
            ⟨(some 8), none, .mv (.s 30)⟩])
          (.seq
            (.region false [
              ⟨(some 31), none, .load (some 2) (some 0) (.s 3)⟩,
              ⟨(some 32), none, .mv (.s 7)⟩,
              ⟨(some 33), none, .mv (.s 8)⟩,
              ⟨(some 34), none, .call (.c (.fn 17 [] [])) [(.s 31), (.s 32), (.s 33)] [] [] [] true⟩,
              ⟨(some 9), none, .mv (.s 34)⟩])
            (.seq
              (.seq
                (.region false [
                  ⟨(some 35), none, .mv (.s 7)⟩,
                  ⟨(some 36), none, .bin .eql .int (.s 35) (.c (.int .i64 0))⟩])
                (.cond (.s 36)
                  (.seq
                    (.region false [
                      ⟨(some 37), none, .mv (.s 9)⟩,
                      ⟨(some 38), none, .len (.s 37)⟩,
                      ⟨(some 39), none, .bin .eql .int (.s 38) (.c (.int .i64 0))⟩,
                      ⟨(some 40), none, .mv (.s 39)⟩,
                      ⟨(some 41), (some (40, true)), .call (.c (.fn 9 [] [])) [] [] [] [] false⟩,
                      ⟨(some 42), none, .pick (.s 40) (.s 41) (.c (.bool false))⟩,
                      ⟨(some 6), none, .mv (.s 42)⟩])
                    .ret)
                  .skip))
              (.seq
                (.region false [
                  ⟨(some 10), none, .mv (.c (.int .i64 0))⟩])
                (.seq
                  (.seq
                    (.region false [
                      ⟨(some 11), none, .mv (.c (.int .i64 0))⟩])
                    (.block 0
                      (.loop [3, 7, 8, 9, 10, 11] [0]
                        (.seq
                          (.seq
                            (.region false [
                              ⟨(some 43), none, .mv (.s 11)⟩,
                              ⟨(some 44), none, .mv (.s 9)⟩,
                              ⟨(some 45), none, .len (.s 44)⟩,
                              ⟨(some 46), none, .bin .lss .int (.s 43) (.s 45)⟩])
                            (.cond (.s 46)
                              .skip
                              (.exit 0)))
                          (.seq
                            (.block 1
                              (.seq
                                (.region true [
                                  ⟨(some 49), none, .load (some 2) (some 0) (.s 3)⟩,
                                  ⟨(some 50), none, .mv (.s 7)⟩,
                                  ⟨(some 51), none, .bin .sub .int (.s 50) (.c (.int .i64 1))⟩,
                                  ⟨(some 52), none, .mv (.s 9)⟩,
                                  ⟨(some 53), none, .mv (.s 11)⟩,
                                  ⟨(some 54), none, .iaddrS 1 (.s 52) (.s 53)⟩,
                                  ⟨(some 55), none, .load none none (.s 54)⟩,
                                  ⟨(some 56), none, .call (.c (.fn 16 [] [])) [(.s 49), (.s 51), (.s 55), (.c (.int .i64 0))] [] [] [] true⟩,
                                  ⟨(some 12), none, .mv (.s 56)⟩])
                                (.seq
                                  (.seq
                                    (.region false [
                                      ⟨(some 13), none, .mv (.c (.int .i64 0))⟩])
                                    (.block 2
                                      (.loop [3, 7, 8, 9, 10, 11, 12, 13] [0]
                                        (.seq
                                          (.seq
                                            (.region false [
                                              ⟨(some 57), none, .mv (.s 13)⟩,
                                              ⟨(some 58), none, .mv (.s 12)⟩,
                                              ⟨(some 59), none, .len (.s 58)⟩,
                                              ⟨(some 60), none, .bin .lss .int (.s 57) (.s 59)⟩])
                                            (.cond (.s 60)
                                              .skip
                                              (.exit 2)))
                                          (.seq
                                            (.block 3
                                              (.seq
                                                (.region true [
                                                  ⟨(some 64), none, .load (some 2) (some 0) (.s 3)⟩,
                                                  ⟨(some 65), none, .mv (.s 7)⟩,
                                                  ⟨(some 66), none, .mv (.s 12)⟩,
                                                  ⟨(some 67), none, .mv (.s 13)⟩,
                                                  ⟨(some 68), none, .iaddrS 1 (.s 66) (.s 67)⟩,
                                                  ⟨(some 69), none, .load none none (.s 68)⟩,
                                                  ⟨(some 70), none, .call (.c (.fn 15 [] [])) [(.s 64), (.c (.int .i64 0)), (.s 65), (.s 69)] [] [] [] false⟩,
                                                  ⟨(some 63), none, .mv (.s 70)⟩,
                                                  ⟨(some 71), none, .extract (.s 63) 0⟩,
                                                  ⟨(some 72), none, .extract (.s 63) 1⟩,
                                                  ⟨(some 14), none, .mv (.s 71)⟩,
                                                  ⟨(some 15), none, .mv (.s 72)⟩])
                                                (.seq
                                                  (.region false [
                                                    ⟨(some 73), none, .mv (.s 15)⟩,
                                                    ⟨(some 74), none, .un .not (.s 73)⟩,
                                                    ⟨(some 75), none, .mv (.s 74)⟩,
                                                    ⟨(some 76), (some (75, false)), .mv (.s 14)⟩,
                                                    ⟨(some 77), (some (75, false)), .mv (.s 8)⟩,
                                                    ⟨(some 78), (some (75, false)), .bin .neq .int (.s 76) (.s 77)⟩,
                                                    ⟨(some 79), none, .pick (.s 75) (.c (.bool true)) (.s 78)⟩])
                                                  (.cond (.s 79)
                                                    (.seq
                                                      (.region false [
                                                        ⟨(some 6), none, .mv (.c (.bool false))⟩])
                                                      .ret)
                                                    .skip))))
                                            (.region false [
                                              ⟨(some 61), none, .mv (.s 13)⟩,
                                              ⟨(some 62), none, .bin .add .int (.s 61) (.c (.int .i64 1))⟩,
                                              ⟨(some 13), none, .mv (.s 62)⟩]))))))
                                  (.region false [
                                    ⟨(some 80), none, .mv (.s 10)⟩,
                                    ⟨(some 81), none, .mv (.s 12)⟩,
                                    ⟨(some 82), none, .len (.s 81)⟩,
                                    ⟨(some 83), none, .bin .add .int (.s 80) (.s 82)⟩,
                                    ⟨(some 10), none, .mv (.s 83)⟩]))))
                            (.region false [
                              ⟨(some 47), none, .mv (.s 11)⟩,
                              ⟨(some 48), none, .bin .add .int (.s 47) (.c (.int .i64 1))⟩,
                              ⟨(some 11), none, .mv (.s 48)⟩]))))))
                  (.seq
                    (.region false [
                      ⟨(some 84), none, .mv (.s 10)⟩,
                      ⟨(some 85), none, .load (some 2) (some 0) (.s 3)⟩,
                      ⟨(some 86), none, .mv (.s 7)⟩,
                      ⟨(some 87), none, .mv (.s 8)⟩,
                      ⟨(some 88), none, .call (.c (.fn 16 [] [])) [(.s 85), (.s 86), (.s 87), (.c (.int .i64 0))] [] [] [] true⟩,
                      ⟨(some 89), none, .len (.s 88)⟩,
                      ⟨(some 90), none, .bin .eql .int (.s 84) (.s 89)⟩,
                      ⟨(some 91), none, .mv (.s 90)⟩,
                      ⟨(some 92), (some (91, true)), .call (.c (.fn 9 [] [])) [] [] [] [] false⟩,
                      ⟨(some 93), none, .pick (.s 91) (.s 92) (.c (.bool false))⟩,
                      ⟨(some 6), none, .mv (.s 93)⟩])
                    .ret))))))))) }
/- cuboid/cuboidlaw03.HierNone -/
def f7 : MFun := { nt := 119, np := 3, no := 8, res := [.slot 6], body :=
  (.seq
    (.region false [
      ⟨(some 3), none, .box 0 (.s 0)⟩,
      ⟨(some 6), none, .mv (.c (.bool false))⟩])
    (.seq
      (.seq
        (.region false [
          ⟨(some 11), none, .load (some 2) (some 0) (.s 3)⟩,
          ⟨(some 12), none, .call (.c (.fn 12 [] [])) [(.s 11)] [] [] [] false⟩,
          ⟨(some 13), none, .un .not (.s 12)⟩])
        (.cond (.s 13)
          (.seq
            (.region false [
              ⟨(some 14), none, .call (.c (.fn 9 [] [])) [] [] [] [] false⟩,
              ⟨(some 6), none, .mv (.s 14)⟩])
            .ret)
          .skip))
      (.seq
        (.region false [
          ⟨(some 15), none, .load (some 2) (some 0) (.s 3)⟩,
          ⟨(some 7), none, .alloc 1 [.nilsl, .nilsl]⟩,
          ⟨none, none, .store 2 1 [] (.s 7) (.s 15)⟩])
        (.seq
          (.seq
            (.region false [
              ⟨(some 16), none, .mv (.s 1)⟩,
              ⟨(some 17), none, .bin .rem .int (.s 16) (.c (.int .u8 5))⟩])
            (.block 0
              (.seq
                (.region false [
                  ⟨(some 43), none, .bin .eql .int (.s 17) (.c (.int .u8 0))⟩,
                  ⟨(some 42), none, .mv (.s 43)⟩])
                (.cond (.s 42)
                  (.region false [
                    ⟨(some 44), none, .lit (some 2) [] 0 1 [.int .i64 0] []⟩,
                    ⟨(some 45), none, .faddr 0 (.s 3)⟩,
                    ⟨(some 46), none, .load none (some 0) (.s 45)⟩,
                    ⟨(some 47), none, .append 8 1 2 none (.s 44) (.s 46)⟩,
                    ⟨(some 48), none, .lit none [] 4 1 [.int .i64 0] [(0, 1, (.c (.int .i64 1))), (1, 1, (.c (.int .i64 1))), (2, 1, (.c (.int .i64 1))), (3, 1, (.c (.int .i64 1)))]⟩,
                    ⟨(some 49), none, .append 8 1 2 none (.s 47) (.s 48)⟩,
                    ⟨(some 50), none, .faddr 0 (.s 7)⟩,
                    ⟨none, none, .store 1 1 [] (.s 50) (.s 49)⟩])
                  (.seq
                    (.region false [
                      ⟨(some 52), none, .bin .eql .int (.s 17) (.c (.int .u8 1))⟩,
                      ⟨(some 51), none, .mv (.s 52)⟩])
                    (.cond (.s 51)
                      (.region false [
                        ⟨(some 53), none, .lit (some 3) [] 1 1 [.int .i64 0] [(0, 1, (.c (.int .i64 0)))]⟩,
                        ⟨(some 54), none, .faddr 0 (.s 3)⟩,
                        ⟨(some 55), none, .load none (some 0) (.s 54)⟩,
                        ⟨(some 56), none, .sliceS 1 (.s 55) (some (.c (.int .i64 1))) none⟩,
                        ⟨(some 57), none, .append 8 1 3 none (.s 53) (.s 56)⟩,
                        ⟨(some 58), none, .faddr 0 (.s 7)⟩,
                        ⟨none, none, .store 1 1 [] (.s 58) (.s 57)⟩])
                      (.seq
                        (.region false [
                          ⟨(some 60), none, .bin .eql .int (.s 17) (.c (.int .u8 2))⟩,
                          ⟨(some 59), none, .mv (.s 60)⟩])
                        (.cond (.s 59)
                          (.region false [
                            ⟨(some 61), none, .lit (some 4) [] 0 1 [.nilsl] []⟩,
                            ⟨(some 62), none, .faddr 1 (.s 3)⟩,
                            ⟨(some 63), none, .load none (some 0) (.s 62)⟩,
                            ⟨(some 64), none, .append 24 1 4 none (.s 61) (.s 63)⟩,
                            ⟨(some 65), none, .lit none [] 1 1 [.int .i64 0] [(0, 1, (.c (.int .i64 0)))]⟩,
                            ⟨(some 66), none, .lit none [] 1 1 [.nilsl] [(0, 1, (.s 65))]⟩,
                            ⟨(some 67), none, .append 24 1 4 none (.s 64) (.s 66)⟩,
                            ⟨(some 68), none, .faddr 1 (.s 7)⟩,
                            ⟨none, none, .store 1 1 [] (.s 68) (.s 67)⟩])
                          (.seq
                            (.region false [
                              ⟨(some 70), none, .bin .eql .int (.s 17) (.c (.int .u8 3))⟩,
                              ⟨(some 69), none, .mv (.s 70)⟩])
                            (.cond (.s 69)
                              (.region false [
                                ⟨(some 71), none, .lit (some 5) [] 1 1 [.int .i64 0] [(0, 1, (.c (.int .i64 41)))]⟩,
                                ⟨(some 72), none, .faddr 0 (.s 3)⟩,
                                ⟨(some 73), none, .load none (some 0) (.s 72)⟩,
                                ⟨(some 74), none, .sliceS 1 (.s 73) (some (.c (.int .i64 1))) none⟩,
                                ⟨(some 75), none, .append 8 1 5 none (.s 71) (.s 74)⟩,
                                ⟨(some 76), none, .faddr 0 (.s 7)⟩,
                                ⟨none, none, .store 1 1 [] (.s 76) (.s 75)⟩])
                              (.seq
                                (.seq
                                  (.region false [
                                    ⟨(some 18), none, .faddr 1 (.s 3)⟩,
                                    ⟨(some 19), none, .load none (some 0) (.s 18)⟩,
                                    ⟨(some 20), none, .len (.s 19)⟩,
                                    ⟨(some 21), none, .bin .eql .int (.s 20) (.c (.int .i64 0))⟩])
                                  (.cond (.s 21)
                                    (.seq
                                      (.region false [
                                        ⟨(some 22), none, .call (.c (.fn 9 [] [])) [] [] [] [] false⟩,
                                        ⟨(some 6), none, .mv (.s 22)⟩])
                                      .ret)
                                    .skip))
                                (.seq
                                  (.region false [
                                    ⟨(some 23), none, .lit (some 6) [] 0 1 [.int .i64 0] []⟩,
                                    ⟨(some 24), none, .faddr 1 (.s 3)⟩,
                                    ⟨(some 25), none, .load none (some 0) (.s 24)⟩,
                                    ⟨(some 26), none, .iaddrS 1 (.s 25) (.c (.int .i64 0))⟩,
                                    ⟨(some 27), none, .load none none (.s 26)⟩,
                                    ⟨(some 28), none, .append 8 1 6 none (.s 23) (.s 27)⟩,
                                    ⟨(some 8), none, .mv (.s 28)⟩])
                                  (.seq
                                    (.region false [
                                      ⟨(some 29), none, .mv (.s 8)⟩,
                                      ⟨(some 30), none, .faddr 0 (.s 3)⟩,
                                      ⟨(some 31), none, .load none (some 0) (.s 30)⟩,
                                      ⟨(some 32), none, .iaddrS 1 (.s 31) (.c (.int .i64 1))⟩,
                                      ⟨(some 33), none, .load none none (.s 32)⟩,
                                      ⟨(some 34), none, .iaddrS 1 (.s 29) (.c (.int .i64 0))⟩,
                                      ⟨none, none, .store 1 6 [] (.s 34) (.s 33)⟩])
                                    (.region false [
                                      ⟨(some 35), none, .mv (.s 8)⟩,
                                      ⟨(some 36), none, .lit (some 7) [6] 1 1 [.nilsl] [(0, 1, (.s 35))]⟩,
                                      ⟨(some 37), none, .faddr 1 (.s 3)⟩,
                                      ⟨(some 38), none, .load none (some 0) (.s 37)⟩,
                                      ⟨(some 39), none, .sliceS 1 (.s 38) (some (.c (.int .i64 1))) none⟩,
                                      ⟨(some 40), none, .append 24 1 7 none (.s 36) (.s 39)⟩,
                                      ⟨(some 41), none, .faddr 1 (.s 7)⟩,
                                      ⟨none, none, .store 1 1 [] (.s 41) (.s 40)⟩]))))))))))))))
          (.seq
            (.region false [
              ⟨(some 78), none, .load (some 2) (some 1) (.s 7)⟩,
              ⟨(some 79), none, .call (.c (.fn 15 [] [])) [(.s 78), (.c (.int .i64 0)), (.c (.int .i64 0)), (.c (.int .i64 0))] [] [2, 3, 4, 5, 7] [] false⟩,
              ⟨(some 77), none, .mv (.s 79)⟩,
              ⟨(some 80), none, .extract (.s 77) 0⟩,
              ⟨(some 81), none, .extract (.s 77) 1⟩,
              ⟨(some 9), none, .mv (.s 80)⟩,
              ⟨(some 10), none, .mv (.s 81)⟩])
            (.seq
              (.region false [
                ⟨(some 82), none, .load (some 2) (some 0) (.s 3)⟩,
                ⟨(some 83), none, .call (.c (.fn 18 [] [])) [(.s 82)] [] [] [] false⟩,
                ⟨(some 84), none, .mv (.s 83)⟩,
                ⟨(some 85), (some (84, true)), .load (some 2) (some 1) (.s 7)⟩,
                ⟨(some 86), (some (84, true)), .call (.c (.fn 18 [] [])) [(.s 85)] [] [2, 3, 4, 5, 7] [] false⟩,
                ⟨(some 87), (some (84, true)), .un .not (.s 86)⟩,
                ⟨(some 88), none, .pick (.s 84) (.s 87) (.c (.bool false))⟩,
                ⟨(some 89), none, .mv (.s 88)⟩,
                ⟨(some 90), (some (89, true)), .load (some 2) (some 1) (.s 7)⟩,
                ⟨(some 91), (some (89, true)), .call (.c (.fn 19 [] [])) [(.s 90), (.c (.int .i64 0))] [] [2, 3, 4, 5, 7] [] false⟩,
                ⟨(some 92), (some (89, true)), .bin .eql .int (.s 91) (.c (.int .i64 0))⟩,
                ⟨(some 93), none, .pick (.s 89) (.s 92) (.c (.bool false))⟩,
                ⟨(some 94), none, .mv (.s 93)⟩,
                ⟨(some 95), (some (94, true)), .load (some 2) (some 1) (.s 7)⟩,
                ⟨(some 96), (some (94, true)), .mv (.s 2)⟩,
                ⟨(some 97), (some (94, true)), .call (.c (.fn 19 [] [])) [(.s 95), (.s 96)] [] [2, 3, 4, 5, 7] [] false⟩,
                ⟨(some 98), (some (94, true)), .bin .eql .int (.s 97) (.c (.int .i64 0))⟩,
                ⟨(some 99), none, .pick (.s 94) (.s 98) (.c (.bool false))⟩,
                ⟨(some 100), none, .mv (.s 99)⟩,
                ⟨(some 101), (some (100, true)), .mv (.s 10)⟩,
                ⟨(some 102), (some (100, true)), .un .not (.s 101)⟩,
                ⟨(some 103), none, .pick (.s 100) (.s 102) (.c (.bool false))⟩,
                ⟨(some 104), none, .mv (.s 103)⟩,
                ⟨(some 105), (some (104, true)), .load (some 2) (some 1) (.s 7)⟩,
                ⟨(some 106), (some (104, true)), .call (.c (.fn 16 [] [])) [(.s 105), (.c (.int .i64 1)), (.c (.int .i64 0)), (.c (.int .i64 0))] [] [2, 3, 4, 5, 7] [] true⟩,
                ⟨(some 107), (some (104, true)), .len (.s 106)⟩,
                ⟨(some 108), (some (104, true)), .bin .eql .int (.s 107) (.c (.int .i64 0))⟩,
                ⟨(some 109), none, .pick (.s 104) (.s 108) (.c (.bool false))⟩,
                ⟨(some 110), none, .mv (.s 109)⟩,
                ⟨(some 111), (some (110, true)), .load (some 2) (some 1) (.s 7)⟩,
                ⟨(some 112), (some (110, true)), .call (.c (.fn 17 [] [])) [(.s 111), (.c (.int .i64 1)), (.c (.int .i64 0))] [] [2, 3, 4, 5, 7] [] true⟩,
                ⟨(some 113), (some (110, true)), .len (.s 112)⟩,
                ⟨(some 114), (some (110, true)), .bin .eql .int (.s 113) (.c (.int .i64 0))⟩,
                ⟨(some 115), none, .pick (.s 110) (.s 114) (.c (.bool false))⟩,
                ⟨(some 116), none, .mv (.s 115)⟩,
                ⟨(some 117), (some (116, true)), .call (.c (.fn 9 [] [])) [] [] [] [] false⟩,
                ⟨(some 118), none, .pick (.s 116) (.s 117) (.c (.bool false))⟩,
                ⟨(some 6), none, .mv (.s 118)⟩])
              .ret)))))) }
end Mf
theorem mf8_ok : chkFun Try.prog Mf.f8 Try.f8 = true := by kernel_rfl
theorem mf24_ok : chkFun Try.prog Mf.f24 Try.f24 = true := by kernel_rfl
theorem mf26_ok : chkFun Try.prog Mf.f26 Try.f26 = true := by kernel_rfl
theorem mf18_ok : chkFun Try.prog Mf.f18 Try.f18 = true := by kernel_rfl
theorem mf19_ok : chkFun Try.prog Mf.f19 Try.f19 = true := by kernel_rfl
theorem mf25_ok : chkFun Try.prog Mf.f25 Try.f25 = true := by kernel_rfl
theorem mf15_ok : chkFun Try.prog Mf.f15 Try.f15 = true := by kernel_rfl
theorem mf16_ok : chkFun Try.prog Mf.f16 Try.f16 = true := by kernel_rfl
theorem mf17_ok : chkFun Try.prog Mf.f17 Try.f17 = true := by kernel_rfl
theorem mf20_ok : chkFun Try.prog Mf.f20 Try.f20 = true := by kernel_rfl
theorem mf9_ok : chkFun Try.prog Mf.f9 Try.f9 = true := by kernel_rfl
theorem mf10_ok : chkFun Try.prog Mf.f10 Try.f10 = true := by kernel_rfl
theorem mf12_ok : chkFun Try.prog Mf.f12 Try.f12 = true := by kernel_rfl
theorem mf14_ok : chkFun Try.prog Mf.f14 Try.f14 = true := by kernel_rfl
theorem mf21_ok : chkFun Try.prog Mf.f21 Try.f21 = true := by kernel_rfl
theorem mf22_ok : chkFun Try.prog Mf.f22 Try.f22 = true := by kernel_rfl
theorem mf23_ok : chkFun Try.prog Mf.f23 Try.f23 = true := by kernel_rfl
theorem mf11_ok : chkFun Try.prog Mf.f11 Try.f11 = true := by kernel_rfl
theorem mf3_ok : chkFun Try.prog Mf.f3 Try.f3 = true := by kernel_rfl
theorem mf13_ok : chkFun Try.prog Mf.f13 Try.f13 = true := by kernel_rfl
theorem mf4_ok : chkFun Try.prog Mf.f4 Try.f4 = true := by kernel_rfl
theorem mf5_ok : chkFun Try.prog Mf.f5 Try.f5 = true := by kernel_rfl
theorem mf6_ok : chkFun Try.prog Mf.f6 Try.f6 = true := by kernel_rfl
theorem mf7_ok : chkFun Try.prog Mf.f7 Try.f7 = true := by kernel_rfl
def fnTab : FuncId → Option MFun
  | 8 => some Mf.f8
  | 24 => some Mf.f24
  | 26 => some Mf.f26
  | 18 => some Mf.f18
  | 19 => some Mf.f19
  | 25 => some Mf.f25
  | 15 => some Mf.f15
  | 16 => some Mf.f16
  | 17 => some Mf.f17
  | 20 => some Mf.f20
  | 9 => some Mf.f9
  | 10 => some Mf.f10
  | 12 => some Mf.f12
  | 14 => some Mf.f14
  | 21 => some Mf.f21
  | 22 => some Mf.f22
  | 23 => some Mf.f23
  | 11 => some Mf.f11
  | 3 => some Mf.f3
  | 13 => some Mf.f13
  | 4 => some Mf.f4
  | 5 => some Mf.f5
  | 6 => some Mf.f6
  | 7 => some Mf.f7
  | _ => none
theorem fnTab_ok : ∀ f mf, fnTab f = some mf → ∃ fn, Try.prog.funcs[f]? = some fn ∧ chkFun Try.prog mf fn = true := by
  intro f mf h
  unfold fnTab at h
  split at h
  · cases h; exact ⟨Try.f8, Try.func8, mf8_ok⟩
  · cases h; exact ⟨Try.f24, Try.func24, mf24_ok⟩
  · cases h; exact ⟨Try.f26, Try.func26, mf26_ok⟩
  · cases h; exact ⟨Try.f18, Try.func18, mf18_ok⟩
  · cases h; exact ⟨Try.f19, Try.func19, mf19_ok⟩
  · cases h; exact ⟨Try.f25, Try.func25, mf25_ok⟩
  · cases h; exact ⟨Try.f15, Try.func15, mf15_ok⟩
  · cases h; exact ⟨Try.f16, Try.func16, mf16_ok⟩
  · cases h; exact ⟨Try.f17, Try.func17, mf17_ok⟩
  · cases h; exact ⟨Try.f20, Try.func20, mf20_ok⟩
  · cases h; exact ⟨Try.f9, Try.func9, mf9_ok⟩
  · cases h; exact ⟨Try.f10, Try.func10, mf10_ok⟩
  · cases h; exact ⟨Try.f12, Try.func12, mf12_ok⟩
  · cases h; exact ⟨Try.f14, Try.func14, mf14_ok⟩
  · cases h; exact ⟨Try.f21, Try.func21, mf21_ok⟩
  · cases h; exact ⟨Try.f22, Try.func22, mf22_ok⟩
  · cases h; exact ⟨Try.f23, Try.func23, mf23_ok⟩
  · cases h; exact ⟨Try.f11, Try.func11, mf11_ok⟩
  · cases h; exact ⟨Try.f3, Try.func3, mf3_ok⟩
  · cases h; exact ⟨Try.f13, Try.func13, mf13_ok⟩
  · cases h; exact ⟨Try.f4, Try.func4, mf4_ok⟩
  · cases h; exact ⟨Try.f5, Try.func5, mf5_ok⟩
  · cases h; exact ⟨Try.f6, Try.func6, mf6_ok⟩
  · cases h; exact ⟨Try.f7, Try.func7, mf7_ok⟩
  · cases h
end Go.Proofs.Ytgijhnaplifpdaa
