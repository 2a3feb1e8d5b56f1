/- The evaluator's code of each function of this seat, and that it is the loaded one. Printed by a program (gen.py). -/
import Derived.Test.YtaflkcaebecpfaaChecked
import Derived.KernelRfl
import Derived.Test.YtaflkcaebecpfaaEvGc
set_option linter.unusedSimpArgs false
set_option linter.unusedVariables false
set_option maxRecDepth 100000
namespace Go.Proofs.Ytaflkcaebecpfaa
open Go.Ev
namespace Mf
/- cuboid/cuboidkeep.LightDim -/
def f19 : MFun := { nt := 28, np := 1, no := 1, res := [.slot 2], body :=
  (.seq
    (.region false [
      ⟨(some 1), none, .box 0 (.s 0)⟩,
      ⟨(some 2), none, .mv (.c (.bool false))⟩])
    (.seq
      (.seq
        (.region false [
          ⟨(some 4), none, .faddr 0 (.s 1)⟩,
          ⟨(some 5), none, .load none (some 0) (.s 4)⟩,
          ⟨(some 6), none, .len (.s 5)⟩,
          ⟨(some 7), none, .bin .gtr .int (.s 6) (.c (.int .i64 10))⟩,
          ⟨(some 8), none, .mv (.s 7)⟩,
          ⟨(some 9), (some (8, false)), .faddr 1 (.s 1)⟩,
          ⟨(some 10), (some (8, false)), .load none (some 0) (.s 9)⟩,
          ⟨(some 11), (some (8, false)), .len (.s 10)⟩,
          ⟨(some 12), (some (8, false)), .bin .gtr .int (.s 11) (.c (.int .i64 10))⟩,
          ⟨(some 13), none, .pick (.s 8) (.c (.bool true)) (.s 12)⟩])
        (.cond (.s 13)
          (.seq
            (.region false [
              ⟨(some 2), none, .mv (.c (.bool false))⟩])
            .ret)
          .skip))
      (.seq
        (.seq
          (.region false [
            ⟨(some 3), none, .mv (.c (.int .i64 0))⟩])
          (.block 0
            (.loop [1, 3] [0]
              (.seq
                (.seq
                  (.region false [
                    ⟨(some 14), none, .mv (.s 3)⟩,
                    ⟨(some 15), none, .faddr 1 (.s 1)⟩,
                    ⟨(some 16), none, .load none (some 0) (.s 15)⟩,
                    ⟨(some 17), none, .len (.s 16)⟩,
                    ⟨(some 18), none, .bin .lss .int (.s 14) (.s 17)⟩])
                  (.cond (.s 18)
                    .skip
                    (.exit 0)))
                (.seq
                  (.block 1
                    (.seq
                      (.region false [
                        ⟨(some 21), none, .faddr 1 (.s 1)⟩,
                        ⟨(some 22), none, .load none (some 0) (.s 21)⟩,
                        ⟨(some 23), none, .mv (.s 3)⟩,
                        ⟨(some 24), none, .iaddrS 1 (.s 22) (.s 23)⟩,
                        ⟨(some 25), none, .load none none (.s 24)⟩,
                        ⟨(some 26), none, .len (.s 25)⟩,
                        ⟨(some 27), none, .bin .gtr .int (.s 26) (.c (.int .i64 60))⟩])
                      (.cond (.s 27)
                        (.seq
                          (.region false [
                            ⟨(some 2), none, .mv (.c (.bool false))⟩])
                          .ret)
                        .skip)))
                  (.region false [
                    ⟨(some 19), none, .mv (.s 3)⟩,
                    ⟨(some 20), none, .bin .add .int (.s 19) (.c (.int .i64 1))⟩,
                    ⟨(some 3), none, .mv (.s 20)⟩]))))))
        (.seq
          (.region false [
            ⟨(some 2), none, .mv (.c (.bool true))⟩])
          .ret)))) }
/- cuboid/cuboidkeep.LightCat -/
def f8 : MFun := { nt := 22, np := 1, no := 1, res := [.slot 2], body :=
  (.seq
    (.region false [
      ⟨(some 1), none, .box 0 (.s 0)⟩,
      ⟨(some 2), none, .mv (.c (.bool false))⟩])
    (.seq
      (.seq
        (.region false [
          ⟨(some 4), none, .faddr 0 (.s 1)⟩,
          ⟨(some 5), none, .load none (some 0) (.s 4)⟩,
          ⟨(some 6), none, .len (.s 5)⟩,
          ⟨(some 7), none, .bin .gtr .int (.s 6) (.c (.int .i64 8))⟩])
        (.cond (.s 7)
          (.seq
            (.region false [
              ⟨(some 2), none, .mv (.c (.bool false))⟩])
            .ret)
          .skip))
      (.seq
        (.seq
          (.region false [
            ⟨(some 3), none, .mv (.c (.int .i64 0))⟩])
          (.block 0
            (.loop [1, 3] [0]
              (.seq
                (.seq
                  (.region false [
                    ⟨(some 8), none, .mv (.s 3)⟩,
                    ⟨(some 9), none, .faddr 0 (.s 1)⟩,
                    ⟨(some 10), none, .load none (some 0) (.s 9)⟩,
                    ⟨(some 11), none, .len (.s 10)⟩,
                    ⟨(some 12), none, .bin .lss .int (.s 8) (.s 11)⟩])
                  (.cond (.s 12)
                    .skip
                    (.exit 0)))
                (.seq
                  (.block 1
                    (.seq
                      (.region false [
                        ⟨(some 15), none, .faddr 0 (.s 1)⟩,
                        ⟨(some 16), none, .load none (some 0) (.s 15)⟩,
                        ⟨(some 17), none, .mv (.s 3)⟩,
                        ⟨(some 18), none, .iaddrS 2 (.s 16) (.s 17)⟩,
                        ⟨(some 19), none, .load (some 2) none (.s 18)⟩,
                        ⟨(some 20), none, .call (.c (.fn 19 [] [])) [(.s 19)] [] [] [] false⟩,
                        ⟨(some 21), none, .un .not (.s 20)⟩])
                      (.cond (.s 21)
                        (.seq
                          (.region false [
                            ⟨(some 2), none, .mv (.c (.bool false))⟩])
                          .ret)
                        .skip)))
                  (.region false [
                    ⟨(some 13), none, .mv (.s 3)⟩,
                    ⟨(some 14), none, .bin .add .int (.s 13) (.c (.int .i64 1))⟩,
                    ⟨(some 3), none, .mv (.s 14)⟩]))))))
        (.seq
          (.region false [
            ⟨(some 2), none, .mv (.c (.bool true))⟩])
          .ret)))) }
/- cuboid/schema.between -/
def f44 : MFun := { nt := 15, np := 3, no := 0, res := [.slot 6], body :=
  (.seq
    (.region false [
      ⟨(some 6), none, .mv (.c (.bool false))⟩])
    (.seq
      (.region false [
        ⟨(some 7), none, .mv (.s 0)⟩,
        ⟨(some 8), none, .mv (.s 1)⟩,
        ⟨(some 9), none, .bin .geq .int (.s 7) (.s 8)⟩,
        ⟨(some 10), none, .mv (.s 9)⟩,
        ⟨(some 11), (some (10, true)), .mv (.s 0)⟩,
        ⟨(some 12), (some (10, true)), .mv (.s 2)⟩,
        ⟨(some 13), (some (10, true)), .bin .leq .int (.s 11) (.s 12)⟩,
        ⟨(some 14), none, .pick (.s 10) (.s 13) (.c (.bool false))⟩,
        ⟨(some 6), none, .mv (.s 14)⟩])
      .ret)) }
/- cuboid/hier.between -/
def f51 : MFun := { nt := 15, np := 3, no := 0, res := [.slot 6], body :=
  (.seq
    (.region false [
      ⟨(some 6), none, .mv (.c (.bool false))⟩])
    (.seq
      (.region false [
        ⟨(some 7), none, .mv (.s 0)⟩,
        ⟨(some 8), none, .mv (.s 1)⟩,
        ⟨(some 9), none, .bin .geq .int (.s 7) (.s 8)⟩,
        ⟨(some 10), none, .mv (.s 9)⟩,
        ⟨(some 11), (some (10, true)), .mv (.s 0)⟩,
        ⟨(some 12), (some (10, true)), .mv (.s 2)⟩,
        ⟨(some 13), (some (10, true)), .bin .leq .int (.s 11) (.s 12)⟩,
        ⟨(some 14), none, .pick (.s 10) (.s 13) (.c (.bool false))⟩,
        ⟨(some 6), none, .mv (.s 14)⟩])
      .ret)) }
/- cuboid/hier.up -/
def f52 : MFun := { nt := 25, np := 3, no := 0, res := [.slot 6], body :=
  (.seq
    (.region false [
      ⟨(some 6), none, .mv (.c (.bool false))⟩])
    (.seq
      (.seq
        (.region false [
          ⟨(some 9), none, .mv (.s 0)⟩,
          ⟨(some 10), none, .len (.s 9)⟩,
          ⟨(some 11), none, .mv (.s 1)⟩,
          ⟨(some 12), none, .bin .neq .int (.s 10) (.s 11)⟩])
        (.cond (.s 12)
          (.seq
            (.region false [
              ⟨(some 6), none, .mv (.c (.bool false))⟩])
            .ret)
          .skip))
      (.seq
        (.seq
          (.region false [
            ⟨(some 13), none, .mv (.s 0)⟩,
            ⟨(some 14), none, .len (.s 13)⟩,
            ⟨(some 15), none, .mv (.c (.int .i64 0))⟩])
          (.block 0
            (.loop [2, 13, 14, 15] []
              (.seq
                (.region false [
                  ⟨(some 16), none, .bin .lss .int (.s 15) (.s 14)⟩])
                (.seq
                  (.cond (.s 16)
                    .skip
                    (.exit 0))
                  (.seq
                    (.block 1
                      (.seq
                        (.region false [
                          ⟨(some 17), none, .iaddrS 1 (.s 13) (.s 15)⟩,
                          ⟨(some 18), none, .load none none (.s 17)⟩,
                          ⟨(some 8), none, .mv (.s 18)⟩])
                        (.seq
                          (.region false [
                            ⟨(some 19), none, .mv (.s 8)⟩,
                            ⟨(some 20), none, .mv (.s 2)⟩,
                            ⟨(some 21), none, .bin .sub .int (.s 20) (.c (.int .i64 1))⟩,
                            ⟨(some 22), none, .call (.c (.fn 51 [] [])) [(.s 19), (.c (.int .i64 0)), (.s 21)] [] [] [] false⟩,
                            ⟨(some 23), none, .un .not (.s 22)⟩])
                          (.cond (.s 23)
                            (.seq
                              (.region false [
                                ⟨(some 6), none, .mv (.c (.bool false))⟩])
                              .ret)
                            .skip))))
                    (.region false [
                      ⟨(some 24), none, .bin .add .int (.s 15) (.c (.int .i64 1))⟩,
                      ⟨(some 15), none, .mv (.s 24)⟩])))))))
        (.seq
          (.region false [
            ⟨(some 6), none, .mv (.c (.bool true))⟩])
          .ret)))) }
/- cuboid/hier.Good -/
def f45 : MFun := { nt := 57, np := 1, no := 1, res := [.slot 2], body :=
  (.seq
    (.region false [
      ⟨(some 1), none, .box 0 (.s 0)⟩,
      ⟨(some 2), none, .mv (.c (.bool false))⟩])
    (.seq
      (.seq
        (.region false [
          ⟨(some 6), none, .faddr 0 (.s 1)⟩,
          ⟨(some 7), none, .load none (some 0) (.s 6)⟩,
          ⟨(some 8), none, .len (.s 7)⟩,
          ⟨(some 9), none, .call (.c (.fn 51 [] [])) [(.s 8), (.c (.int .i64 1)), (.c (.int .i64 4))] [] [] [] false⟩,
          ⟨(some 10), none, .un .not (.s 9)⟩,
          ⟨(some 11), none, .mv (.s 10)⟩,
          ⟨(some 12), (some (11, false)), .faddr 1 (.s 1)⟩,
          ⟨(some 13), (some (11, false)), .load none (some 0) (.s 12)⟩,
          ⟨(some 14), (some (11, false)), .len (.s 13)⟩,
          ⟨(some 15), (some (11, false)), .faddr 0 (.s 1)⟩,
          ⟨(some 16), (some (11, false)), .load none (some 0) (.s 15)⟩,
          ⟨(some 17), (some (11, false)), .len (.s 16)⟩,
          ⟨(some 18), (some (11, false)), .bin .sub .int (.s 17) (.c (.int .i64 1))⟩,
          ⟨(some 19), (some (11, false)), .bin .neq .int (.s 14) (.s 18)⟩,
          ⟨(some 20), none, .pick (.s 11) (.c (.bool true)) (.s 19)⟩])
        (.cond (.s 20)
          (.seq
            (.region false [
              ⟨(some 2), none, .mv (.c (.bool false))⟩])
            .ret)
          .skip))
      (.seq
        (.seq
          (.region false [
            ⟨(some 21), none, .faddr 0 (.s 1)⟩,
            ⟨(some 22), none, .load none (some 0) (.s 21)⟩,
            ⟨(some 23), none, .len (.s 22)⟩,
            ⟨(some 24), none, .mv (.c (.int .i64 0))⟩])
          (.block 0
            (.loop [1, 22, 23, 24] [0]
              (.seq
                (.region false [
                  ⟨(some 25), none, .bin .lss .int (.s 24) (.s 23)⟩])
                (.seq
                  (.cond (.s 25)
                    .skip
                    (.exit 0))
                  (.seq
                    (.block 1
                      (.seq
                        (.region false [
                          ⟨(some 26), none, .iaddrS 1 (.s 22) (.s 24)⟩,
                          ⟨(some 27), none, .load none none (.s 26)⟩,
                          ⟨(some 4), none, .mv (.s 27)⟩])
                        (.seq
                          (.region false [
                            ⟨(some 28), none, .mv (.s 4)⟩,
                            ⟨(some 29), none, .call (.c (.fn 51 [] [])) [(.s 28), (.c (.int .i64 1)), (.c (.int .i64 40))] [] [] [] false⟩,
                            ⟨(some 30), none, .un .not (.s 29)⟩])
                          (.cond (.s 30)
                            (.seq
                              (.region false [
                                ⟨(some 2), none, .mv (.c (.bool false))⟩])
                              .ret)
                            .skip))))
                    (.region false [
                      ⟨(some 31), none, .bin .add .int (.s 24) (.c (.int .i64 1))⟩,
                      ⟨(some 24), none, .mv (.s 31)⟩])))))))
        (.seq
          (.seq
            (.region false [
              ⟨(some 32), none, .faddr 1 (.s 1)⟩,
              ⟨(some 33), none, .load none (some 0) (.s 32)⟩,
              ⟨(some 34), none, .len (.s 33)⟩,
              ⟨(some 35), none, .mv (.c (.int .i64 0))⟩])
            (.block 2
              (.loop [1, 34, 35] [0]
                (.seq
                  (.region false [
                    ⟨(some 36), none, .bin .lss .int (.s 35) (.s 34)⟩])
                  (.seq
                    (.cond (.s 36)
                      .skip
                      (.exit 2))
                    (.seq
                      (.block 3
                        (.seq
                          (.region false [
                            ⟨(some 37), none, .mv (.s 35)⟩,
                            ⟨(some 5), none, .mv (.s 37)⟩])
                          (.seq
                            (.region true [
                              ⟨(some 38), none, .faddr 1 (.s 1)⟩,
                              ⟨(some 39), none, .load none (some 0) (.s 38)⟩,
                              ⟨(some 40), none, .mv (.s 5)⟩,
                              ⟨(some 41), none, .iaddrS 1 (.s 39) (.s 40)⟩,
                              ⟨(some 42), none, .load none none (.s 41)⟩,
                              ⟨(some 43), none, .faddr 0 (.s 1)⟩,
                              ⟨(some 44), none, .load none (some 0) (.s 43)⟩,
                              ⟨(some 45), none, .mv (.s 5)⟩,
                              ⟨(some 46), none, .iaddrS 1 (.s 44) (.s 45)⟩,
                              ⟨(some 47), none, .load none none (.s 46)⟩,
                              ⟨(some 48), none, .faddr 0 (.s 1)⟩,
                              ⟨(some 49), none, .load none (some 0) (.s 48)⟩,
                              ⟨(some 50), none, .mv (.s 5)⟩,
                              ⟨(some 51), none, .bin .add .int (.s 50) (.c (.int .i64 1))⟩,
                              ⟨(some 52), none, .iaddrS 1 (.s 49) (.s 51)⟩,
                              ⟨(some 53), none, .load none none (.s 52)⟩,
                              ⟨(some 54), none, .call (.c (.fn 52 [] [])) [(.s 42), (.s 47), (.s 53)] [] [] [] false⟩,
                              ⟨(some 55), none, .un .not (.s 54)⟩])
                            (.cond (.s 55)
                              (.seq
                                (.region false [
                                  ⟨(some 2), none, .mv (.c (.bool false))⟩])
                                .ret)
                              .skip))))
                      (.region false [
                        ⟨(some 56), none, .bin .add .int (.s 35) (.c (.int .i64 1))⟩,
                        ⟨(some 35), none, .mv (.s 56)⟩])))))))
          (.seq
            (.region false [
              ⟨(some 2), none, .mv (.c (.bool true))⟩])
            .ret))))) }
/- cuboid/schema.Good -/
def f34 : MFun := { nt := 27, np := 1, no := 2, res := [.slot 2], body :=
  (.seq
    (.region false [
      ⟨(some 1), none, .box 0 (.s 0)⟩,
      ⟨(some 2), none, .mv (.c (.bool false))⟩])
    (.seq
      (.seq
        (.region false [
          ⟨(some 5), none, .faddr 0 (.s 1)⟩,
          ⟨(some 6), none, .load none (some 0) (.s 5)⟩,
          ⟨(some 7), none, .len (.s 6)⟩,
          ⟨(some 8), none, .call (.c (.fn 44 [] [])) [(.s 7), (.c (.int .i64 1)), (.c (.int .i64 4))] [] [] [] false⟩,
          ⟨(some 9), none, .un .not (.s 8)⟩,
          ⟨(some 10), none, .mv (.s 9)⟩,
          ⟨(some 11), (some (10, false)), .faddr 1 (.s 1)⟩,
          ⟨(some 12), (some (10, false)), .load none (some 0) (.s 11)⟩,
          ⟨(some 13), (some (10, false)), .call (.c (.fn 44 [] [])) [(.s 12), (.c (.int .i64 1)), (.c (.int .i64 2))] [] [] [] false⟩,
          ⟨(some 14), (some (10, false)), .un .not (.s 13)⟩,
          ⟨(some 15), none, .pick (.s 10) (.c (.bool true)) (.s 14)⟩])
        (.cond (.s 15)
          (.seq
            (.region false [
              ⟨(some 2), none, .mv (.c (.bool false))⟩])
            .ret)
          .skip))
      (.seq
        (.seq
          (.region false [
            ⟨(some 16), none, .faddr 0 (.s 1)⟩,
            ⟨(some 17), none, .load none (some 0) (.s 16)⟩,
            ⟨(some 18), none, .len (.s 17)⟩,
            ⟨(some 19), none, .mv (.c (.int .i64 0))⟩])
          (.block 0
            (.loop [17, 18, 19] []
              (.seq
                (.region false [
                  ⟨(some 20), none, .bin .lss .int (.s 19) (.s 18)⟩])
                (.seq
                  (.cond (.s 20)
                    .skip
                    (.exit 0))
                  (.seq
                    (.block 1
                      (.seq
                        (.region false [
                          ⟨(some 21), none, .iaddrS 2 (.s 17) (.s 19)⟩,
                          ⟨(some 22), none, .load (some 2) none (.s 21)⟩,
                          ⟨(some 4), none, .alloc 1 [.nilsl, .nilsl]⟩,
                          ⟨none, none, .store 2 1 [] (.s 4) (.s 22)⟩])
                        (.seq
                          (.region false [
                            ⟨(some 23), none, .load (some 2) (some 1) (.s 4)⟩,
                            ⟨(some 24), none, .call (.c (.fn 45 [] [])) [(.s 23)] [] [] [] false⟩,
                            ⟨(some 25), none, .un .not (.s 24)⟩])
                          (.cond (.s 25)
                            (.seq
                              (.region false [
                                ⟨(some 2), none, .mv (.c (.bool false))⟩])
                              .ret)
                            .skip))))
                    (.region false [
                      ⟨(some 26), none, .bin .add .int (.s 19) (.c (.int .i64 1))⟩,
                      ⟨(some 19), none, .mv (.s 26)⟩])))))))
        (.seq
          (.region false [
            ⟨(some 2), none, .mv (.c (.bool true))⟩])
          .ret)))) }
/- cuboid/hier.Size -/
def f50 : MFun := { nt := 28, np := 2, no := 1, res := [.slot 4], body :=
  (.seq
    (.region false [
      ⟨(some 2), none, .box 0 (.s 0)⟩,
      ⟨(some 4), none, .mv (.c (.int .i64 0))⟩])
    (.seq
      (.block 0
        (.seq
          (.region false [
            ⟨(some 6), none, .load (some 2) (some 0) (.s 2)⟩,
            ⟨(some 7), none, .call (.c (.fn 45 [] [])) [(.s 6)] [] [] [] false⟩,
            ⟨(some 8), none, .un .not (.s 7)⟩,
            ⟨(some 9), none, .mv (.s 8)⟩,
            ⟨(some 10), (some (9, false)), .mv (.s 1)⟩,
            ⟨(some 11), (some (9, false)), .faddr 0 (.s 2)⟩,
            ⟨(some 12), (some (9, false)), .load none (some 0) (.s 11)⟩,
            ⟨(some 13), (some (9, false)), .len (.s 12)⟩,
            ⟨(some 14), (some (9, false)), .call (.c (.fn 51 [] [])) [(.s 10), (.c (.int .i64 0)), (.s 13)] [] [] [] false⟩,
            ⟨(some 15), (some (9, false)), .un .not (.s 14)⟩,
            ⟨(some 16), none, .pick (.s 9) (.c (.bool true)) (.s 15)⟩,
            ⟨(some 5), none, .mv (.s 16)⟩])
          (.cond (.s 5)
            (.seq
              (.region false [
                ⟨(some 4), none, .mv (.c (.int .i64 0))⟩])
              .ret)
            (.seq
              (.region false [
                ⟨(some 18), none, .mv (.s 1)⟩,
                ⟨(some 19), none, .faddr 0 (.s 2)⟩,
                ⟨(some 20), none, .load none (some 0) (.s 19)⟩,
                ⟨(some 21), none, .len (.s 20)⟩,
                ⟨(some 22), none, .bin .eql .int (.s 18) (.s 21)⟩,
                ⟨(some 17), none, .mv (.s 22)⟩])
              (.cond (.s 17)
                (.seq
                  (.region false [
                    ⟨(some 4), none, .mv (.c (.int .i64 1))⟩])
                  .ret)
                .skip)))))
      (.seq
        (.region false [
          ⟨(some 23), none, .faddr 0 (.s 2)⟩,
          ⟨(some 24), none, .load none (some 0) (.s 23)⟩,
          ⟨(some 25), none, .mv (.s 1)⟩,
          ⟨(some 26), none, .iaddrS 1 (.s 24) (.s 25)⟩,
          ⟨(some 27), none, .load none none (.s 26)⟩,
          ⟨(some 4), none, .mv (.s 27)⟩])
        .ret))) }
/- cuboid/schema.Right -/
def f43 : MFun := { nt := 45, np := 3, no := 3, res := [.slot 6], body :=
  (.seq
    (.region false [
      ⟨(some 3), none, .box 0 (.s 0)⟩,
      ⟨(some 4), none, .box 1 (.s 1)⟩,
      ⟨(some 5), none, .box 2 (.s 2)⟩,
      ⟨(some 6), none, .mv (.c (.bool false))⟩])
    (.seq
      (.seq
        (.region false [
          ⟨(some 8), none, .load (some 2) (some 0) (.s 3)⟩,
          ⟨(some 9), none, .call (.c (.fn 34 [] [])) [(.s 8)] [] [] [] false⟩,
          ⟨(some 10), none, .un .not (.s 9)⟩])
        (.cond (.s 10)
          (.seq
            (.region false [
              ⟨(some 6), none, .mv (.c (.bool false))⟩])
            .ret)
          .skip))
      (.seq
        (.seq
          (.region false [
            ⟨(some 11), none, .mv (.c (.int .i64 0))⟩])
          (.block 0
            (.loop [3, 4, 5, 11] [0, 1, 2]
              (.seq
                (.region false [
                  ⟨(some 12), none, .bin .lss .int (.s 11) (.c (.int .i64 4))⟩])
                (.seq
                  (.cond (.s 12)
                    .skip
                    (.exit 0))
                  (.seq
                    (.block 1
                      (.seq
                        (.region false [
                          ⟨(some 13), none, .mv (.s 11)⟩,
                          ⟨(some 7), none, .mv (.s 13)⟩])
                        (.seq
                          (.seq
                            (.region false [
                              ⟨(some 14), none, .mv (.s 7)⟩,
                              ⟨(some 15), none, .faddr 0 (.s 3)⟩,
                              ⟨(some 16), none, .load none (some 0) (.s 15)⟩,
                              ⟨(some 17), none, .len (.s 16)⟩,
                              ⟨(some 18), none, .bin .geq .int (.s 14) (.s 17)⟩])
                            (.cond (.s 18)
                              (.seq
                                (.seq
                                  (.region false [
                                    ⟨(some 19), none, .mv (.s 7)⟩,
                                    ⟨(some 20), none, .iaddrA 4 1 (.s 4) (.s 19)⟩,
                                    ⟨(some 21), none, .load none (some 1) (.s 20)⟩,
                                    ⟨(some 22), none, .bin .neq .int (.s 21) (.c (.int .u8 0))⟩,
                                    ⟨(some 23), none, .mv (.s 22)⟩,
                                    ⟨(some 24), (some (23, false)), .mv (.s 7)⟩,
                                    ⟨(some 25), (some (23, false)), .iaddrA 4 1 (.s 5) (.s 24)⟩,
                                    ⟨(some 26), (some (23, false)), .load none (some 2) (.s 25)⟩,
                                    ⟨(some 27), (some (23, false)), .bin .neq .int (.s 26) (.c (.int .u8 0))⟩,
                                    ⟨(some 28), none, .pick (.s 23) (.c (.bool true)) (.s 27)⟩])
                                  (.cond (.s 28)
                                    (.seq
                                      (.region false [
                                        ⟨(some 6), none, .mv (.c (.bool false))⟩])
                                      .ret)
                                    .skip))
                                (.exit 1))
                              .skip))
                          (.seq
                            (.region true [
                              ⟨(some 29), none, .mv (.s 7)⟩,
                              ⟨(some 30), none, .iaddrA 4 1 (.s 5) (.s 29)⟩,
                              ⟨(some 31), none, .load none (some 2) (.s 30)⟩,
                              ⟨(some 32), none, .conv .i64 (.s 31)⟩,
                              ⟨(some 33), none, .faddr 0 (.s 3)⟩,
                              ⟨(some 34), none, .load none (some 0) (.s 33)⟩,
                              ⟨(some 35), none, .mv (.s 7)⟩,
                              ⟨(some 36), none, .iaddrS 2 (.s 34) (.s 35)⟩,
                              ⟨(some 37), none, .load (some 2) none (.s 36)⟩,
                              ⟨(some 38), none, .mv (.s 7)⟩,
                              ⟨(some 39), none, .iaddrA 4 1 (.s 4) (.s 38)⟩,
                              ⟨(some 40), none, .load none (some 1) (.s 39)⟩,
                              ⟨(some 41), none, .conv .i64 (.s 40)⟩,
                              ⟨(some 42), none, .call (.c (.fn 50 [] [])) [(.s 37), (.s 41)] [] [] [] false⟩,
                              ⟨(some 43), none, .bin .geq .int (.s 32) (.s 42)⟩])
                            (.cond (.s 43)
                              (.seq
                                (.region false [
                                  ⟨(some 6), none, .mv (.c (.bool false))⟩])
                                .ret)
                              .skip)))))
                    (.region false [
                      ⟨(some 44), none, .bin .add .int (.s 11) (.c (.int .i64 1))⟩,
                      ⟨(some 11), none, .mv (.s 44)⟩])))))))
        (.seq
          (.region false [
            ⟨(some 6), none, .mv (.c (.bool true))⟩])
          .ret)))) }
/- cuboid/lattice.Good -/
def f32 : MFun := { nt := 9, np := 2, no := 2, res := [.slot 4], body :=
  (.seq
    (.region false [
      ⟨(some 2), none, .box 0 (.s 0)⟩,
      ⟨(some 3), none, .box 1 (.s 1)⟩,
      ⟨(some 4), none, .mv (.c (.bool false))⟩])
    (.seq
      (.region false [
        ⟨(some 5), none, .load (some 2) (some 0) (.s 2)⟩,
        ⟨(some 6), none, .load (some 4) (some 1) (.s 3)⟩,
        ⟨(some 7), none, .build [.int .u8 0, .int .u8 0, .int .u8 0, .int .u8 0] []⟩,
        ⟨(some 8), none, .call (.c (.fn 43 [] [])) [(.s 5), (.s 6), (.s 7)] [] [] [] false⟩,
        ⟨(some 4), none, .mv (.s 8)⟩])
      .ret)) }
/- slices.Index[[]cuboid/api.Node,cuboid/api.Node] -/
def f46 : MFun := { nt := 19, np := 2, no := 1, res := [.slot 4], body :=
  (.seq
    (.region false [
      ⟨(some 3), none, .box 0 (.s 1)⟩,
      ⟨(some 4), none, .mv (.c (.int .i64 0))⟩])
    (.seq
      (.seq
        (.region false [
          ⟨(some 6), none, .mv (.s 0)⟩,
          ⟨(some 7), none, .len (.s 6)⟩,
          ⟨(some 8), none, .mv (.c (.int .i64 0))⟩])
        (.block 0
          (.loop [0, 3, 7, 8] [0]
            (.seq
              (.region false [
                ⟨(some 9), none, .bin .lss .int (.s 8) (.s 7)⟩])
              (.seq
                (.cond (.s 9)
                  .skip
                  (.exit 0))
                (.seq
                  (.block 1
                    (.seq
                      (.region false [
                        ⟨(some 10), none, .mv (.s 8)⟩,
                        ⟨(some 5), none, .mv (.s 10)⟩])
                      (.seq
                        (.region true [
                          ⟨(some 11), none, .load (some 4) (some 0) (.s 3)⟩,
                          ⟨(some 12), none, .mv (.s 0)⟩,
                          ⟨(some 13), none, .mv (.s 5)⟩,
                          ⟨(some 14), none, .iaddrS 4 (.s 12) (.s 13)⟩,
                          ⟨(some 15), none, .load (some 4) none (.s 14)⟩,
                          ⟨(some 16), none, .bin .eql (.agg [some .u8, some .u8, some .u8, some .u8]) (.s 11) (.s 15)⟩])
                        (.cond (.s 16)
                          (.seq
                            (.region false [
                              ⟨(some 17), none, .mv (.s 5)⟩,
                              ⟨(some 4), none, .mv (.s 17)⟩])
                            .ret)
                          .skip))))
                  (.region false [
                    ⟨(some 18), none, .bin .add .int (.s 8) (.c (.int .i64 1))⟩,
                    ⟨(some 8), none, .mv (.s 18)⟩])))))))
      (.seq
        (.region false [
          ⟨(some 4), none, .mv (.c (.int .i64 (-1)))⟩])
        .ret))) }
/- slices.Contains[[]cuboid/api.Node,cuboid/api.Node] -/
def f35 : MFun := { nt := 9, np := 2, no := 1, res := [.slot 4], body :=
  (.seq
    (.region false [
      ⟨(some 3), none, .box 0 (.s 1)⟩,
      ⟨(some 4), none, .mv (.c (.bool false))⟩])
    (.seq
      (.region false [
        ⟨(some 5), none, .mv (.s 0)⟩,
        ⟨(some 6), none, .load (some 4) (some 0) (.s 3)⟩,
        ⟨(some 7), none, .call (.c (.fn 46 [] [])) [(.s 5), (.s 6)] [] [] [] false⟩,
        ⟨(some 8), none, .bin .geq .int (.s 7) (.c (.int .i64 0))⟩,
        ⟨(some 4), none, .mv (.s 8)⟩])
      .ret)) }
/- cuboid/lattice.Base -/
def f36 : MFun := { nt := 2, np := 0, no := 1, res := [.cell 0 0 (some 4)], body :=
  (.seq
    (.region false [
      ⟨(some 0), none, .alloc 0 [.int .u8 0, .int .u8 0, .int .u8 0, .int .u8 0]⟩])
    (.seq
      (.region false [
        ⟨(some 1), none, .build [.int .u8 0, .int .u8 0, .int .u8 0, .int .u8 0] []⟩,
        ⟨none, none, .store 4 0 [] (.s 0) (.s 1)⟩])
      .ret)) }
/- cuboid/route.Good -/
def f21 : MFun := { nt := 42, np := 2, no := 2, res := [.slot 4], body :=
  (.seq
    (.region false [
      ⟨(some 2), none, .box 0 (.s 0)⟩,
      ⟨(some 4), none, .mv (.c (.bool false))⟩])
    (.seq
      (.seq
        (.region false [
          ⟨(some 7), none, .load (some 2) (some 0) (.s 2)⟩,
          ⟨(some 8), none, .call (.c (.fn 34 [] [])) [(.s 7)] [] [] [] false⟩,
          ⟨(some 9), none, .un .not (.s 8)⟩,
          ⟨(some 10), none, .mv (.s 9)⟩,
          ⟨(some 11), (some (10, false)), .mv (.s 1)⟩,
          ⟨(some 12), (some (10, false)), .len (.s 11)⟩,
          ⟨(some 13), (some (10, false)), .bin .lss .int (.s 12) (.c (.int .i64 1))⟩,
          ⟨(some 14), none, .pick (.s 10) (.c (.bool true)) (.s 13)⟩,
          ⟨(some 15), none, .mv (.s 14)⟩,
          ⟨(some 16), (some (15, false)), .mv (.s 1)⟩,
          ⟨(some 17), (some (15, false)), .len (.s 16)⟩,
          ⟨(some 18), (some (15, false)), .bin .gtr .int (.s 17) (.c (.int .i64 12))⟩,
          ⟨(some 19), none, .pick (.s 15) (.c (.bool true)) (.s 18)⟩])
        (.cond (.s 19)
          (.seq
            (.region false [
              ⟨(some 4), none, .mv (.c (.bool false))⟩])
            .ret)
          .skip))
      (.seq
        (.seq
          (.region false [
            ⟨(some 20), none, .mv (.s 1)⟩,
            ⟨(some 21), none, .len (.s 20)⟩,
            ⟨(some 22), none, .mv (.c (.int .i64 0))⟩])
          (.block 0
            (.loop [1, 2, 20, 21, 22] [0]
              (.seq
                (.region false [
                  ⟨(some 23), none, .bin .lss .int (.s 22) (.s 21)⟩])
                (.seq
                  (.cond (.s 23)
                    .skip
                    (.exit 0))
                  (.seq
                    (.block 1
                      (.seq
                        (.region false [
                          ⟨(some 24), none, .mv (.s 22)⟩,
                          ⟨(some 25), none, .iaddrS 4 (.s 20) (.s 22)⟩,
                          ⟨(some 26), none, .load (some 4) none (.s 25)⟩,
                          ⟨(some 6), none, .alloc 1 [.int .u8 0, .int .u8 0, .int .u8 0, .int .u8 0]⟩,
                          ⟨(some 5), none, .mv (.s 24)⟩,
                          ⟨none, none, .store 4 1 [] (.s 6) (.s 26)⟩])
                        (.seq
                          (.region true [
                            ⟨(some 27), none, .load (some 2) (some 0) (.s 2)⟩,
                            ⟨(some 28), none, .load (some 4) (some 1) (.s 6)⟩,
                            ⟨(some 29), none, .call (.c (.fn 32 [] [])) [(.s 27), (.s 28)] [] [] [] false⟩,
                            ⟨(some 30), none, .un .not (.s 29)⟩,
                            ⟨(some 31), none, .mv (.s 30)⟩,
                            ⟨(some 32), (some (31, false)), .mv (.s 1)⟩,
                            ⟨(some 33), (some (31, false)), .mv (.s 5)⟩,
                            ⟨(some 34), (some (31, false)), .sliceS 4 (.s 32) none (some (.s 33))⟩,
                            ⟨(some 35), (some (31, false)), .load (some 4) (some 1) (.s 6)⟩,
                            ⟨(some 36), (some (31, false)), .call (.c (.fn 35 [] [])) [(.s 34), (.s 35)] [] [] [] false⟩,
                            ⟨(some 37), none, .pick (.s 31) (.c (.bool true)) (.s 36)⟩])
                          (.cond (.s 37)
                            (.seq
                              (.region false [
                                ⟨(some 4), none, .mv (.c (.bool false))⟩])
                              .ret)
                            .skip))))
                    (.region false [
                      ⟨(some 38), none, .bin .add .int (.s 22) (.c (.int .i64 1))⟩,
                      ⟨(some 22), none, .mv (.s 38)⟩])))))))
        (.seq
          (.region false [
            ⟨(some 39), none, .mv (.s 1)⟩,
            ⟨(some 40), none, .call (.c (.fn 36 [] [])) [] [] [] [] false⟩,
            ⟨(some 41), none, .call (.c (.fn 35 [] [])) [(.s 39), (.s 40)] [] [] [] false⟩,
            ⟨(some 4), none, .mv (.s 41)⟩])
          .ret)))) }
/- slices.insertionSortCmpFunc[int] -/
def f47 : MFun := { nt := 53, np := 4, no := 0, res := [], body :=
  (.seq
    (.region false [
      ⟨(some 10), none, .mv (.s 1)⟩,
      ⟨(some 11), none, .bin .add .int (.s 10) (.c (.int .i64 1))⟩,
      ⟨(some 8), none, .mv (.s 11)⟩])
    (.block 0
      (.loop [0, 1, 2, 3, 8] []
        (.seq
          (.seq
            (.region false [
              ⟨(some 12), none, .mv (.s 8)⟩,
              ⟨(some 13), none, .mv (.s 2)⟩,
              ⟨(some 14), none, .bin .lss .int (.s 12) (.s 13)⟩])
            (.cond (.s 14)
              .skip
              (.exit 0)))
          (.seq
            (.block 1
              (.seq
                (.region false [
                  ⟨(some 17), none, .mv (.s 8)⟩,
                  ⟨(some 9), none, .mv (.s 17)⟩])
                (.block 2
                  (.loop [0, 1, 2, 3, 8, 9] []
                    (.seq
                      (.seq
                        (.region true [
                          ⟨(some 18), none, .mv (.s 9)⟩,
                          ⟨(some 19), none, .mv (.s 1)⟩,
                          ⟨(some 20), none, .bin .gtr .int (.s 18) (.s 19)⟩,
                          ⟨(some 21), none, .mv (.s 20)⟩,
                          ⟨(some 22), (some (21, true)), .mv (.s 3)⟩,
                          ⟨(some 23), (some (21, true)), .mv (.s 0)⟩,
                          ⟨(some 24), (some (21, true)), .mv (.s 9)⟩,
                          ⟨(some 25), (some (21, true)), .iaddrS 1 (.s 23) (.s 24)⟩,
                          ⟨(some 26), (some (21, true)), .load none (some 1) (.s 25)⟩,
                          ⟨(some 27), (some (21, true)), .mv (.s 0)⟩,
                          ⟨(some 28), (some (21, true)), .mv (.s 9)⟩,
                          ⟨(some 29), (some (21, true)), .bin .sub .int (.s 28) (.c (.int .i64 1))⟩,
                          ⟨(some 30), (some (21, true)), .iaddrS 1 (.s 27) (.s 29)⟩,
                          ⟨(some 31), (some (21, true)), .load none (some 1) (.s 30)⟩,
                          ⟨(some 32), (some (21, true)), .call (.s 22) [(.s 26), (.s 31)] [0] [] [] true⟩,
                          ⟨(some 33), (some (21, true)), .bin .lss .int (.s 32) (.c (.int .i64 0))⟩,
                          ⟨(some 34), none, .pick (.s 21) (.s 33) (.c (.bool false))⟩])
                        (.cond (.s 34)
                          .skip
                          (.exit 2)))
                      (.seq
                        (.block 3
                          (.region true [
                            ⟨(some 37), none, .mv (.s 0)⟩,
                            ⟨(some 38), none, .mv (.s 9)⟩,
                            ⟨(some 39), none, .mv (.s 0)⟩,
                            ⟨(some 40), none, .mv (.s 9)⟩,
                            ⟨(some 41), none, .bin .sub .int (.s 40) (.c (.int .i64 1))⟩,
                            ⟨(some 42), none, .mv (.s 0)⟩,
                            ⟨(some 43), none, .mv (.s 9)⟩,
                            ⟨(some 44), none, .bin .sub .int (.s 43) (.c (.int .i64 1))⟩,
                            ⟨(some 45), none, .iaddrS 1 (.s 42) (.s 44)⟩,
                            ⟨(some 46), none, .load none (some 1) (.s 45)⟩,
                            ⟨(some 47), none, .mv (.s 0)⟩,
                            ⟨(some 48), none, .mv (.s 9)⟩,
                            ⟨(some 49), none, .iaddrS 1 (.s 47) (.s 48)⟩,
                            ⟨(some 50), none, .load none (some 1) (.s 49)⟩,
                            ⟨(some 51), none, .iaddrS 1 (.s 37) (.s 38)⟩,
                            ⟨none, none, .store 1 1 [] (.s 51) (.s 46)⟩,
                            ⟨(some 52), none, .iaddrS 1 (.s 39) (.s 41)⟩,
                            ⟨none, none, .store 1 1 [] (.s 52) (.s 50)⟩]))
                        (.region false [
                          ⟨(some 35), none, .mv (.s 9)⟩,
                          ⟨(some 36), none, .bin .sub .int (.s 35) (.c (.int .i64 1))⟩,
                          ⟨(some 9), none, .mv (.s 36)⟩])))))))
            (.region false [
              ⟨(some 15), none, .mv (.s 8)⟩,
              ⟨(some 16), none, .bin .add .int (.s 15) (.c (.int .i64 1))⟩,
              ⟨(some 8), none, .mv (.s 16)⟩])))))) }
/- slices.swapRangeCmpFunc[int] -/
def f54 : MFun := { nt := 38, np := 5, no := 0, res := [], body :=
  (.seq
    (.region false [
      ⟨(some 10), none, .mv (.c (.int .i64 0))⟩])
    (.block 0
      (.loop [0, 1, 2, 3, 10] []
        (.seq
          (.seq
            (.region false [
              ⟨(some 11), none, .mv (.s 10)⟩,
              ⟨(some 12), none, .mv (.s 3)⟩,
              ⟨(some 13), none, .bin .lss .int (.s 11) (.s 12)⟩])
            (.cond (.s 13)
              .skip
              (.exit 0)))
          (.seq
            (.block 1
              (.region true [
                ⟨(some 16), none, .mv (.s 0)⟩,
                ⟨(some 17), none, .mv (.s 1)⟩,
                ⟨(some 18), none, .mv (.s 10)⟩,
                ⟨(some 19), none, .bin .add .int (.s 17) (.s 18)⟩,
                ⟨(some 20), none, .mv (.s 0)⟩,
                ⟨(some 21), none, .mv (.s 2)⟩,
                ⟨(some 22), none, .mv (.s 10)⟩,
                ⟨(some 23), none, .bin .add .int (.s 21) (.s 22)⟩,
                ⟨(some 24), none, .mv (.s 0)⟩,
                ⟨(some 25), none, .mv (.s 2)⟩,
                ⟨(some 26), none, .mv (.s 10)⟩,
                ⟨(some 27), none, .bin .add .int (.s 25) (.s 26)⟩,
                ⟨(some 28), none, .iaddrS 1 (.s 24) (.s 27)⟩,
                ⟨(some 29), none, .load none none (.s 28)⟩,
                ⟨(some 30), none, .mv (.s 0)⟩,
                ⟨(some 31), none, .mv (.s 1)⟩,
                ⟨(some 32), none, .mv (.s 10)⟩,
                ⟨(some 33), none, .bin .add .int (.s 31) (.s 32)⟩,
                ⟨(some 34), none, .iaddrS 1 (.s 30) (.s 33)⟩,
                ⟨(some 35), none, .load none none (.s 34)⟩,
                ⟨(some 36), none, .iaddrS 1 (.s 16) (.s 19)⟩,
                ⟨none, none, .stop⟩,
                ⟨(some 37), none, .iaddrS 1 (.s 20) (.s 23)⟩,
                ⟨none, none, .stop⟩]))
            (.region false [
              ⟨(some 14), none, .mv (.s 10)⟩,
              ⟨(some 15), none, .bin .add .int (.s 14) (.c (.int .i64 1))⟩,
              ⟨(some 10), none, .mv (.s 15)⟩])))))) }
/- slices.rotateCmpFunc[int] -/
def f53 : MFun := { nt := 58, np := 5, no := 0, res := [], body :=
  (.seq
    (.region false [
      ⟨(some 12), none, .mv (.s 2)⟩,
      ⟨(some 13), none, .mv (.s 1)⟩,
      ⟨(some 14), none, .bin .sub .int (.s 12) (.s 13)⟩,
      ⟨(some 10), none, .mv (.s 14)⟩])
    (.seq
      (.region false [
        ⟨(some 15), none, .mv (.s 3)⟩,
        ⟨(some 16), none, .mv (.s 2)⟩,
        ⟨(some 17), none, .bin .sub .int (.s 15) (.s 16)⟩,
        ⟨(some 11), none, .mv (.s 17)⟩])
      (.seq
        (.block 0
          (.loop [0, 2, 4, 10, 11] []
            (.seq
              (.seq
                (.region false [
                  ⟨(some 18), none, .mv (.s 10)⟩,
                  ⟨(some 19), none, .mv (.s 11)⟩,
                  ⟨(some 20), none, .bin .neq .int (.s 18) (.s 19)⟩])
                (.cond (.s 20)
                  .skip
                  (.exit 0)))
              (.block 1
                (.seq
                  (.region false [
                    ⟨(some 21), none, .mv (.s 10)⟩,
                    ⟨(some 22), none, .mv (.s 11)⟩,
                    ⟨(some 23), none, .bin .gtr .int (.s 21) (.s 22)⟩])
                  (.cond (.s 23)
                    (.seq
                      (.region false [
                        ⟨(some 24), none, .mv (.s 0)⟩,
                        ⟨(some 25), none, .mv (.s 2)⟩,
                        ⟨(some 26), none, .mv (.s 10)⟩,
                        ⟨(some 27), none, .bin .sub .int (.s 25) (.s 26)⟩,
                        ⟨(some 28), none, .mv (.s 2)⟩,
                        ⟨(some 29), none, .mv (.s 11)⟩,
                        ⟨(some 30), none, .mv (.s 4)⟩,
                        ⟨(some 31), none, .call (.c (.fn 54 [] [])) [(.s 24), (.s 27), (.s 28), (.s 29), (.s 30)] [] [] [] false⟩])
                      (.region false [
                        ⟨(some 32), none, .mv (.s 10)⟩,
                        ⟨(some 33), none, .mv (.s 11)⟩,
                        ⟨(some 34), none, .bin .sub .int (.s 32) (.s 33)⟩,
                        ⟨(some 10), none, .mv (.s 34)⟩]))
                    (.seq
                      (.region false [
                        ⟨(some 35), none, .mv (.s 0)⟩,
                        ⟨(some 36), none, .mv (.s 2)⟩,
                        ⟨(some 37), none, .mv (.s 10)⟩,
                        ⟨(some 38), none, .bin .sub .int (.s 36) (.s 37)⟩,
                        ⟨(some 39), none, .mv (.s 2)⟩,
                        ⟨(some 40), none, .mv (.s 11)⟩,
                        ⟨(some 41), none, .bin .add .int (.s 39) (.s 40)⟩,
                        ⟨(some 42), none, .mv (.s 10)⟩,
                        ⟨(some 43), none, .bin .sub .int (.s 41) (.s 42)⟩,
                        ⟨(some 44), none, .mv (.s 10)⟩,
                        ⟨(some 45), none, .mv (.s 4)⟩,
                        ⟨(some 46), none, .call (.c (.fn 54 [] [])) [(.s 35), (.s 38), (.s 43), (.s 44), (.s 45)] [] [] [] false⟩])
                      (.region false [
                        ⟨(some 47), none, .mv (.s 11)⟩,
                        ⟨(some 48), none, .mv (.s 10)⟩,
                        ⟨(some 49), none, .bin .sub .int (.s 47) (.s 48)⟩,
                        ⟨(some 11), none, .mv (.s 49)⟩]))))))))
        (.region false [
          ⟨(some 50), none, .mv (.s 0)⟩,
          ⟨(some 51), none, .mv (.s 2)⟩,
          ⟨(some 52), none, .mv (.s 10)⟩,
          ⟨(some 53), none, .bin .sub .int (.s 51) (.s 52)⟩,
          ⟨(some 54), none, .mv (.s 2)⟩,
          ⟨(some 55), none, .mv (.s 10)⟩,
          ⟨(some 56), none, .mv (.s 4)⟩,
          ⟨(some 57), none, .call (.c (.fn 54 [] [])) [(.s 50), (.s 53), (.s 54), (.s 55), (.s 56)] [] [] [] false⟩])))) }
/- slices.symMergeCmpFunc[int] -/
def f48 : MFun := { nt := 220, np := 5, no := 0, res := [], body :=
  (.seq
    (.seq
      (.region false [
        ⟨(some 25), none, .mv (.s 2)⟩,
        ⟨(some 26), none, .mv (.s 1)⟩,
        ⟨(some 27), none, .bin .sub .int (.s 25) (.s 26)⟩,
        ⟨(some 28), none, .bin .eql .int (.s 27) (.c (.int .i64 1))⟩])
      (.cond (.s 28)
        (.seq
          (.region false [
            ⟨(some 29), none, .mv (.s 2)⟩,
            ⟨(some 10), none, .mv (.s 29)⟩])
          (.seq
            (.region false [
              ⟨(some 30), none, .mv (.s 3)⟩,
              ⟨(some 11), none, .mv (.s 30)⟩])
            (.seq
              (.block 0
                (.loop [0, 1, 4, 10, 11] []
                  (.seq
                    (.seq
                      (.region false [
                        ⟨(some 31), none, .mv (.s 10)⟩,
                        ⟨(some 32), none, .mv (.s 11)⟩,
                        ⟨(some 33), none, .bin .lss .int (.s 31) (.s 32)⟩])
                      (.cond (.s 33)
                        .skip
                        (.exit 0)))
                    (.block 1
                      (.seq
                        (.region false [
                          ⟨(some 34), none, .mv (.s 10)⟩,
                          ⟨(some 35), none, .mv (.s 11)⟩,
                          ⟨(some 36), none, .bin .add .int (.s 34) (.s 35)⟩,
                          ⟨(some 37), none, .conv .u64 (.s 36)⟩,
                          ⟨(some 38), none, .bin .shr .int (.s 37) (.c (.int .u64 1))⟩,
                          ⟨(some 39), none, .conv .i64 (.s 38)⟩,
                          ⟨(some 12), none, .mv (.s 39)⟩])
                        (.seq
                          (.region true [
                            ⟨(some 40), none, .mv (.s 4)⟩,
                            ⟨(some 41), none, .mv (.s 0)⟩,
                            ⟨(some 42), none, .mv (.s 12)⟩,
                            ⟨(some 43), none, .iaddrS 1 (.s 41) (.s 42)⟩,
                            ⟨(some 44), none, .load none none (.s 43)⟩,
                            ⟨(some 45), none, .mv (.s 0)⟩,
                            ⟨(some 46), none, .mv (.s 1)⟩,
                            ⟨(some 47), none, .iaddrS 1 (.s 45) (.s 46)⟩,
                            ⟨(some 48), none, .load none none (.s 47)⟩,
                            ⟨(some 49), none, .call (.s 40) [(.s 44), (.s 48)] [] [] [] false⟩,
                            ⟨(some 50), none, .bin .lss .int (.s 49) (.c (.int .i64 0))⟩])
                          (.cond (.s 50)
                            (.region false [
                              ⟨(some 51), none, .mv (.s 12)⟩,
                              ⟨(some 52), none, .bin .add .int (.s 51) (.c (.int .i64 1))⟩,
                              ⟨(some 10), none, .mv (.s 52)⟩])
                            (.region false [
                              ⟨(some 53), none, .mv (.s 12)⟩,
                              ⟨(some 11), none, .mv (.s 53)⟩]))))))))
              (.seq
                (.seq
                  (.region false [
                    ⟨(some 54), none, .mv (.s 1)⟩,
                    ⟨(some 13), none, .mv (.s 54)⟩])
                  (.block 2
                    (.loop [0, 10, 13] []
                      (.seq
                        (.seq
                          (.region false [
                            ⟨(some 55), none, .mv (.s 13)⟩,
                            ⟨(some 56), none, .mv (.s 10)⟩,
                            ⟨(some 57), none, .bin .sub .int (.s 56) (.c (.int .i64 1))⟩,
                            ⟨(some 58), none, .bin .lss .int (.s 55) (.s 57)⟩])
                          (.cond (.s 58)
                            .skip
                            (.exit 2)))
                        (.seq
                          (.block 3
                            (.region true [
                              ⟨(some 61), none, .mv (.s 0)⟩,
                              ⟨(some 62), none, .mv (.s 13)⟩,
                              ⟨(some 63), none, .mv (.s 0)⟩,
                              ⟨(some 64), none, .mv (.s 13)⟩,
                              ⟨(some 65), none, .bin .add .int (.s 64) (.c (.int .i64 1))⟩,
                              ⟨(some 66), none, .mv (.s 0)⟩,
                              ⟨(some 67), none, .mv (.s 13)⟩,
                              ⟨(some 68), none, .bin .add .int (.s 67) (.c (.int .i64 1))⟩,
                              ⟨(some 69), none, .iaddrS 1 (.s 66) (.s 68)⟩,
                              ⟨(some 70), none, .load none none (.s 69)⟩,
                              ⟨(some 71), none, .mv (.s 0)⟩,
                              ⟨(some 72), none, .mv (.s 13)⟩,
                              ⟨(some 73), none, .iaddrS 1 (.s 71) (.s 72)⟩,
                              ⟨(some 74), none, .load none none (.s 73)⟩,
                              ⟨(some 75), none, .iaddrS 1 (.s 61) (.s 62)⟩,
                              ⟨none, none, .stop⟩,
                              ⟨(some 76), none, .iaddrS 1 (.s 63) (.s 65)⟩,
                              ⟨none, none, .stop⟩]))
                          (.region false [
                            ⟨(some 59), none, .mv (.s 13)⟩,
                            ⟨(some 60), none, .bin .add .int (.s 59) (.c (.int .i64 1))⟩,
                            ⟨(some 13), none, .mv (.s 60)⟩]))))))
                .ret))))
        .skip))
    (.seq
      (.seq
        (.region false [
          ⟨(some 77), none, .mv (.s 3)⟩,
          ⟨(some 78), none, .mv (.s 2)⟩,
          ⟨(some 79), none, .bin .sub .int (.s 77) (.s 78)⟩,
          ⟨(some 80), none, .bin .eql .int (.s 79) (.c (.int .i64 1))⟩])
        (.cond (.s 80)
          (.seq
            (.region false [
              ⟨(some 81), none, .mv (.s 1)⟩,
              ⟨(some 14), none, .mv (.s 81)⟩])
            (.seq
              (.region false [
                ⟨(some 82), none, .mv (.s 2)⟩,
                ⟨(some 15), none, .mv (.s 82)⟩])
              (.seq
                (.block 4
                  (.loop [0, 2, 4, 14, 15] []
                    (.seq
                      (.seq
                        (.region false [
                          ⟨(some 83), none, .mv (.s 14)⟩,
                          ⟨(some 84), none, .mv (.s 15)⟩,
                          ⟨(some 85), none, .bin .lss .int (.s 83) (.s 84)⟩])
                        (.cond (.s 85)
                          .skip
                          (.exit 4)))
                      (.block 5
                        (.seq
                          (.region false [
                            ⟨(some 86), none, .mv (.s 14)⟩,
                            ⟨(some 87), none, .mv (.s 15)⟩,
                            ⟨(some 88), none, .bin .add .int (.s 86) (.s 87)⟩,
                            ⟨(some 89), none, .conv .u64 (.s 88)⟩,
                            ⟨(some 90), none, .bin .shr .int (.s 89) (.c (.int .u64 1))⟩,
                            ⟨(some 91), none, .conv .i64 (.s 90)⟩,
                            ⟨(some 16), none, .mv (.s 91)⟩])
                          (.seq
                            (.region true [
                              ⟨(some 92), none, .mv (.s 4)⟩,
                              ⟨(some 93), none, .mv (.s 0)⟩,
                              ⟨(some 94), none, .mv (.s 2)⟩,
                              ⟨(some 95), none, .iaddrS 1 (.s 93) (.s 94)⟩,
                              ⟨(some 96), none, .load none none (.s 95)⟩,
                              ⟨(some 97), none, .mv (.s 0)⟩,
                              ⟨(some 98), none, .mv (.s 16)⟩,
                              ⟨(some 99), none, .iaddrS 1 (.s 97) (.s 98)⟩,
                              ⟨(some 100), none, .load none none (.s 99)⟩,
                              ⟨(some 101), none, .call (.s 92) [(.s 96), (.s 100)] [] [] [] false⟩,
                              ⟨(some 102), none, .bin .lss .int (.s 101) (.c (.int .i64 0))⟩,
                              ⟨(some 103), none, .un .not (.s 102)⟩])
                            (.cond (.s 103)
                              (.region false [
                                ⟨(some 104), none, .mv (.s 16)⟩,
                                ⟨(some 105), none, .bin .add .int (.s 104) (.c (.int .i64 1))⟩,
                                ⟨(some 14), none, .mv (.s 105)⟩])
                              (.region false [
                                ⟨(some 106), none, .mv (.s 16)⟩,
                                ⟨(some 15), none, .mv (.s 106)⟩]))))))))
                (.seq
                  (.seq
                    (.region false [
                      ⟨(some 107), none, .mv (.s 2)⟩,
                      ⟨(some 17), none, .mv (.s 107)⟩])
                    (.block 6
                      (.loop [0, 14, 17] []
                        (.seq
                          (.seq
                            (.region false [
                              ⟨(some 108), none, .mv (.s 17)⟩,
                              ⟨(some 109), none, .mv (.s 14)⟩,
                              ⟨(some 110), none, .bin .gtr .int (.s 108) (.s 109)⟩])
                            (.cond (.s 110)
                              .skip
                              (.exit 6)))
                          (.seq
                            (.block 7
                              (.region true [
                                ⟨(some 113), none, .mv (.s 0)⟩,
                                ⟨(some 114), none, .mv (.s 17)⟩,
                                ⟨(some 115), none, .mv (.s 0)⟩,
                                ⟨(some 116), none, .mv (.s 17)⟩,
                                ⟨(some 117), none, .bin .sub .int (.s 116) (.c (.int .i64 1))⟩,
                                ⟨(some 118), none, .mv (.s 0)⟩,
                                ⟨(some 119), none, .mv (.s 17)⟩,
                                ⟨(some 120), none, .bin .sub .int (.s 119) (.c (.int .i64 1))⟩,
                                ⟨(some 121), none, .iaddrS 1 (.s 118) (.s 120)⟩,
                                ⟨(some 122), none, .load none none (.s 121)⟩,
                                ⟨(some 123), none, .mv (.s 0)⟩,
                                ⟨(some 124), none, .mv (.s 17)⟩,
                                ⟨(some 125), none, .iaddrS 1 (.s 123) (.s 124)⟩,
                                ⟨(some 126), none, .load none none (.s 125)⟩,
                                ⟨(some 127), none, .iaddrS 1 (.s 113) (.s 114)⟩,
                                ⟨none, none, .stop⟩,
                                ⟨(some 128), none, .iaddrS 1 (.s 115) (.s 117)⟩,
                                ⟨none, none, .stop⟩]))
                            (.region false [
                              ⟨(some 111), none, .mv (.s 17)⟩,
                              ⟨(some 112), none, .bin .sub .int (.s 111) (.c (.int .i64 1))⟩,
                              ⟨(some 17), none, .mv (.s 112)⟩]))))))
                  .ret))))
          .skip))
      (.seq
        (.region false [
          ⟨(some 129), none, .mv (.s 1)⟩,
          ⟨(some 130), none, .mv (.s 3)⟩,
          ⟨(some 131), none, .bin .add .int (.s 129) (.s 130)⟩,
          ⟨(some 132), none, .conv .u64 (.s 131)⟩,
          ⟨(some 133), none, .bin .shr .int (.s 132) (.c (.int .u64 1))⟩,
          ⟨(some 134), none, .conv .i64 (.s 133)⟩,
          ⟨(some 18), none, .mv (.s 134)⟩])
        (.seq
          (.region false [
            ⟨(some 135), none, .mv (.s 18)⟩,
            ⟨(some 136), none, .mv (.s 2)⟩,
            ⟨(some 137), none, .bin .add .int (.s 135) (.s 136)⟩,
            ⟨(some 19), none, .mv (.s 137)⟩])
          (.seq
            (.region false [
              ⟨(some 20), none, .mv (.c (.int .i64 0))⟩,
              ⟨(some 21), none, .mv (.c (.int .i64 0))⟩])
            (.seq
              (.seq
                (.region false [
                  ⟨(some 138), none, .mv (.s 2)⟩,
                  ⟨(some 139), none, .mv (.s 18)⟩,
                  ⟨(some 140), none, .bin .gtr .int (.s 138) (.s 139)⟩])
                (.cond (.s 140)
                  (.seq
                    (.region false [
                      ⟨(some 141), none, .mv (.s 19)⟩,
                      ⟨(some 142), none, .mv (.s 3)⟩,
                      ⟨(some 143), none, .bin .sub .int (.s 141) (.s 142)⟩,
                      ⟨(some 20), none, .mv (.s 143)⟩])
                    (.region false [
                      ⟨(some 144), none, .mv (.s 18)⟩,
                      ⟨(some 21), none, .mv (.s 144)⟩]))
                  (.seq
                    (.region false [
                      ⟨(some 145), none, .mv (.s 1)⟩,
                      ⟨(some 20), none, .mv (.s 145)⟩])
                    (.region false [
                      ⟨(some 146), none, .mv (.s 2)⟩,
                      ⟨(some 21), none, .mv (.s 146)⟩]))))
              (.seq
                (.region false [
                  ⟨(some 147), none, .mv (.s 19)⟩,
                  ⟨(some 148), none, .bin .sub .int (.s 147) (.c (.int .i64 1))⟩,
                  ⟨(some 22), none, .mv (.s 148)⟩])
                (.seq
                  (.block 8
                    (.loop [0, 1, 2, 3, 4, 18, 19, 20, 21, 22] []
                      (.seq
                        (.seq
                          (.region false [
                            ⟨(some 149), none, .mv (.s 20)⟩,
                            ⟨(some 150), none, .mv (.s 21)⟩,
                            ⟨(some 151), none, .bin .lss .int (.s 149) (.s 150)⟩])
                          (.cond (.s 151)
                            .skip
                            (.exit 8)))
                        (.block 9
                          (.seq
                            (.region false [
                              ⟨(some 152), none, .mv (.s 20)⟩,
                              ⟨(some 153), none, .mv (.s 21)⟩,
                              ⟨(some 154), none, .bin .add .int (.s 152) (.s 153)⟩,
                              ⟨(some 155), none, .conv .u64 (.s 154)⟩,
                              ⟨(some 156), none, .bin .shr .int (.s 155) (.c (.int .u64 1))⟩,
                              ⟨(some 157), none, .conv .i64 (.s 156)⟩,
                              ⟨(some 23), none, .mv (.s 157)⟩])
                            (.seq
                              (.region true [
                                ⟨(some 158), none, .mv (.s 4)⟩,
                                ⟨(some 159), none, .mv (.s 0)⟩,
                                ⟨(some 160), none, .mv (.s 22)⟩,
                                ⟨(some 161), none, .mv (.s 23)⟩,
                                ⟨(some 162), none, .bin .sub .int (.s 160) (.s 161)⟩,
                                ⟨(some 163), none, .iaddrS 1 (.s 159) (.s 162)⟩,
                                ⟨(some 164), none, .load none none (.s 163)⟩,
                                ⟨(some 165), none, .mv (.s 0)⟩,
                                ⟨(some 166), none, .mv (.s 23)⟩,
                                ⟨(some 167), none, .iaddrS 1 (.s 165) (.s 166)⟩,
                                ⟨(some 168), none, .load none none (.s 167)⟩,
                                ⟨(some 169), none, .call (.s 158) [(.s 164), (.s 168)] [] [] [] false⟩,
                                ⟨(some 170), none, .bin .lss .int (.s 169) (.c (.int .i64 0))⟩,
                                ⟨(some 171), none, .un .not (.s 170)⟩])
                              (.cond (.s 171)
                                (.region false [
                                  ⟨(some 172), none, .mv (.s 23)⟩,
                                  ⟨(some 173), none, .bin .add .int (.s 172) (.c (.int .i64 1))⟩,
                                  ⟨(some 20), none, .mv (.s 173)⟩])
                                (.region false [
                                  ⟨(some 174), none, .mv (.s 23)⟩,
                                  ⟨(some 21), none, .mv (.s 174)⟩]))))))))
                  (.seq
                    (.region false [
                      ⟨(some 175), none, .mv (.s 19)⟩,
                      ⟨(some 176), none, .mv (.s 20)⟩,
                      ⟨(some 177), none, .bin .sub .int (.s 175) (.s 176)⟩,
                      ⟨(some 24), none, .mv (.s 177)⟩])
                    (.seq
                      (.seq
                        (.region false [
                          ⟨(some 178), none, .mv (.s 20)⟩,
                          ⟨(some 179), none, .mv (.s 2)⟩,
                          ⟨(some 180), none, .bin .lss .int (.s 178) (.s 179)⟩,
                          ⟨(some 181), none, .mv (.s 180)⟩,
                          ⟨(some 182), (some (181, true)), .mv (.s 2)⟩,
                          ⟨(some 183), (some (181, true)), .mv (.s 24)⟩,
                          ⟨(some 184), (some (181, true)), .bin .lss .int (.s 182) (.s 183)⟩,
                          ⟨(some 185), none, .pick (.s 181) (.s 184) (.c (.bool false))⟩])
                        (.cond (.s 185)
                          (.region false [
                            ⟨(some 186), none, .mv (.s 0)⟩,
                            ⟨(some 187), none, .mv (.s 20)⟩,
                            ⟨(some 188), none, .mv (.s 2)⟩,
                            ⟨(some 189), none, .mv (.s 24)⟩,
                            ⟨(some 190), none, .mv (.s 4)⟩,
                            ⟨(some 191), none, .call (.c (.fn 53 [] [])) [(.s 186), (.s 187), (.s 188), (.s 189), (.s 190)] [] [] [] false⟩])
                          .skip))
                      (.seq
                        (.seq
                          (.region false [
                            ⟨(some 192), none, .mv (.s 1)⟩,
                            ⟨(some 193), none, .mv (.s 20)⟩,
                            ⟨(some 194), none, .bin .lss .int (.s 192) (.s 193)⟩,
                            ⟨(some 195), none, .mv (.s 194)⟩,
                            ⟨(some 196), (some (195, true)), .mv (.s 20)⟩,
                            ⟨(some 197), (some (195, true)), .mv (.s 18)⟩,
                            ⟨(some 198), (some (195, true)), .bin .lss .int (.s 196) (.s 197)⟩,
                            ⟨(some 199), none, .pick (.s 195) (.s 198) (.c (.bool false))⟩])
                          (.cond (.s 199)
                            (.region false [
                              ⟨(some 200), none, .mv (.s 0)⟩,
                              ⟨(some 201), none, .mv (.s 1)⟩,
                              ⟨(some 202), none, .mv (.s 20)⟩,
                              ⟨(some 203), none, .mv (.s 18)⟩,
                              ⟨(some 204), none, .mv (.s 4)⟩,
                              ⟨(some 205), none, .call (.c (.fn 48 [] [])) [(.s 200), (.s 201), (.s 202), (.s 203), (.s 204)] [] [] [] false⟩])
                            .skip))
                        (.seq
                          (.region false [
                            ⟨(some 206), none, .mv (.s 18)⟩,
                            ⟨(some 207), none, .mv (.s 24)⟩,
                            ⟨(some 208), none, .bin .lss .int (.s 206) (.s 207)⟩,
                            ⟨(some 209), none, .mv (.s 208)⟩,
                            ⟨(some 210), (some (209, true)), .mv (.s 24)⟩,
                            ⟨(some 211), (some (209, true)), .mv (.s 3)⟩,
                            ⟨(some 212), (some (209, true)), .bin .lss .int (.s 210) (.s 211)⟩,
                            ⟨(some 213), none, .pick (.s 209) (.s 212) (.c (.bool false))⟩])
                          (.cond (.s 213)
                            (.region false [
                              ⟨(some 214), none, .mv (.s 0)⟩,
                              ⟨(some 215), none, .mv (.s 18)⟩,
                              ⟨(some 216), none, .mv (.s 24)⟩,
                              ⟨(some 217), none, .mv (.s 3)⟩,
                              ⟨(some 218), none, .mv (.s 4)⟩,
                              ⟨(some 219), none, .call (.c (.fn 48 [] [])) [(.s 214), (.s 215), (.s 216), (.s 217), (.s 218)] [] [] [] false⟩])
                            .skip))))))))))))) }
/- slices.stableCmpFunc[int] -/
def f39 : MFun := { nt := 63, np := 3, no := 0, res := [], body :=
  (.seq
    (.region false [
      ⟨(some 6), none, .mv (.c (.int .i64 20))⟩])
    (.seq
      (.region false [
        ⟨(some 10), none, .mv (.s 6)⟩,
        ⟨(some 7), none, .mv (.c (.int .i64 0))⟩,
        ⟨(some 8), none, .mv (.s 10)⟩])
      (.seq
        (.block 0
          (.loop [0, 1, 2, 6, 7, 8] []
            (.seq
              (.seq
                (.region false [
                  ⟨(some 11), none, .mv (.s 8)⟩,
                  ⟨(some 12), none, .mv (.s 1)⟩,
                  ⟨(some 13), none, .bin .leq .int (.s 11) (.s 12)⟩])
                (.cond (.s 13)
                  .skip
                  (.exit 0)))
              (.block 1
                (.seq
                  (.region false [
                    ⟨(some 14), none, .mv (.s 0)⟩,
                    ⟨(some 15), none, .mv (.s 7)⟩,
                    ⟨(some 16), none, .mv (.s 8)⟩,
                    ⟨(some 17), none, .mv (.s 2)⟩,
                    ⟨(some 18), none, .call (.c (.fn 47 [] [])) [(.s 14), (.s 15), (.s 16), (.s 17)] [0, 1] [] [] true⟩])
                  (.seq
                    (.region false [
                      ⟨(some 19), none, .mv (.s 8)⟩,
                      ⟨(some 7), none, .mv (.s 19)⟩])
                    (.region false [
                      ⟨(some 20), none, .mv (.s 8)⟩,
                      ⟨(some 21), none, .mv (.s 6)⟩,
                      ⟨(some 22), none, .bin .add .int (.s 20) (.s 21)⟩,
                      ⟨(some 8), none, .mv (.s 22)⟩])))))))
        (.seq
          (.region false [
            ⟨(some 23), none, .mv (.s 0)⟩,
            ⟨(some 24), none, .mv (.s 7)⟩,
            ⟨(some 25), none, .mv (.s 1)⟩,
            ⟨(some 26), none, .mv (.s 2)⟩,
            ⟨(some 27), none, .call (.c (.fn 47 [] [])) [(.s 23), (.s 24), (.s 25), (.s 26)] [0, 1] [] [] true⟩])
          (.block 2
            (.loop [0, 1, 2, 6] []
              (.seq
                (.seq
                  (.region false [
                    ⟨(some 28), none, .mv (.s 6)⟩,
                    ⟨(some 29), none, .mv (.s 1)⟩,
                    ⟨(some 30), none, .bin .lss .int (.s 28) (.s 29)⟩])
                  (.cond (.s 30)
                    .skip
                    (.exit 2)))
                (.block 3
                  (.seq
                    (.region false [
                      ⟨(some 31), none, .mv (.s 6)⟩,
                      ⟨(some 32), none, .bin .mul .int (.c (.int .i64 2)) (.s 31)⟩,
                      ⟨(some 7), none, .mv (.c (.int .i64 0))⟩,
                      ⟨(some 8), none, .mv (.s 32)⟩])
                    (.seq
                      (.block 4
                        (.loop [0, 1, 2, 6, 7, 8] []
                          (.seq
                            (.seq
                              (.region false [
                                ⟨(some 33), none, .mv (.s 8)⟩,
                                ⟨(some 34), none, .mv (.s 1)⟩,
                                ⟨(some 35), none, .bin .leq .int (.s 33) (.s 34)⟩])
                              (.cond (.s 35)
                                .skip
                                (.exit 4)))
                            (.block 5
                              (.seq
                                (.region false [
                                  ⟨(some 36), none, .mv (.s 0)⟩,
                                  ⟨(some 37), none, .mv (.s 7)⟩,
                                  ⟨(some 38), none, .mv (.s 7)⟩,
                                  ⟨(some 39), none, .mv (.s 6)⟩,
                                  ⟨(some 40), none, .bin .add .int (.s 38) (.s 39)⟩,
                                  ⟨(some 41), none, .mv (.s 8)⟩,
                                  ⟨(some 42), none, .mv (.s 2)⟩,
                                  ⟨(some 43), none, .call (.c (.fn 48 [] [])) [(.s 36), (.s 37), (.s 40), (.s 41), (.s 42)] [0] [1] [] true⟩])
                                (.seq
                                  (.region false [
                                    ⟨(some 44), none, .mv (.s 8)⟩,
                                    ⟨(some 7), none, .mv (.s 44)⟩])
                                  (.region false [
                                    ⟨(some 45), none, .mv (.s 8)⟩,
                                    ⟨(some 46), none, .mv (.s 6)⟩,
                                    ⟨(some 47), none, .bin .mul .int (.c (.int .i64 2)) (.s 46)⟩,
                                    ⟨(some 48), none, .bin .add .int (.s 45) (.s 47)⟩,
                                    ⟨(some 8), none, .mv (.s 48)⟩])))))))
                      (.seq
                        (.seq
                          (.region false [
                            ⟨(some 49), none, .mv (.s 7)⟩,
                            ⟨(some 50), none, .mv (.s 6)⟩,
                            ⟨(some 51), none, .bin .add .int (.s 49) (.s 50)⟩,
                            ⟨(some 9), none, .mv (.s 51)⟩])
                          (.seq
                            (.region false [
                              ⟨(some 52), none, .mv (.s 9)⟩,
                              ⟨(some 53), none, .mv (.s 1)⟩,
                              ⟨(some 54), none, .bin .lss .int (.s 52) (.s 53)⟩])
                            (.cond (.s 54)
                              (.region false [
                                ⟨(some 55), none, .mv (.s 0)⟩,
                                ⟨(some 56), none, .mv (.s 7)⟩,
                                ⟨(some 57), none, .mv (.s 9)⟩,
                                ⟨(some 58), none, .mv (.s 1)⟩,
                                ⟨(some 59), none, .mv (.s 2)⟩,
                                ⟨(some 60), none, .call (.c (.fn 48 [] [])) [(.s 55), (.s 56), (.s 57), (.s 58), (.s 59)] [0] [1] [] true⟩])
                              .skip)))
                        (.region false [
                          ⟨(some 61), none, .mv (.s 6)⟩,
                          ⟨(some 62), none, .bin .mul .int (.s 61) (.c (.int .i64 2))⟩,
                          ⟨(some 6), none, .mv (.s 62)⟩])))))))))))) }
/- slices.SortStableFunc[[]int,int] -/
def f26 : MFun := { nt := 9, np := 2, no := 0, res := [], body :=
  (.region false [
    ⟨(some 4), none, .mv (.s 0)⟩,
    ⟨(some 5), none, .mv (.s 0)⟩,
    ⟨(some 6), none, .len (.s 5)⟩,
    ⟨(some 7), none, .mv (.s 1)⟩,
    ⟨(some 8), none, .call (.c (.fn 39 [] [])) [(.s 4), (.s 6), (.s 7)] [0, 1] [] [] true⟩]) }
/- cuboid/route.Order -/
def f12 : MFun := { nt := 25, np := 2, no := 3, res := [.slot 4], body :=
  (.seq
    (.region false [
      ⟨(some 2), none, .box 0 (.s 0)⟩,
      ⟨(some 3), none, .box 1 (.s 1)⟩,
      ⟨(some 4), none, .mv (.c .nilsl)⟩])
    (.seq
      (.seq
        (.region false [
          ⟨(some 7), none, .load (some 2) (some 0) (.s 2)⟩,
          ⟨(some 8), none, .load none (some 1) (.s 3)⟩,
          ⟨(some 9), none, .call (.c (.fn 21 [] [])) [(.s 7), (.s 8)] [] [] [] false⟩,
          ⟨(some 10), none, .un .not (.s 9)⟩])
        (.cond (.s 10)
          (.seq
            (.region false [
              ⟨(some 4), none, .mv (.c .nilsl)⟩])
            .ret)
          .skip))
      (.seq
        (.region false [
          ⟨(some 5), none, .vnil 2 1⟩])
        (.seq
          (.seq
            (.region false [
              ⟨(some 11), none, .load none (some 1) (.s 3)⟩,
              ⟨(some 12), none, .len (.s 11)⟩,
              ⟨(some 13), none, .mv (.c (.int .i64 0))⟩])
            (.block 0
              (.loop [3, 5, 12, 13] [1, 2]
                (.seq
                  (.region false [
                    ⟨(some 14), none, .bin .lss .int (.s 13) (.s 12)⟩])
                  (.seq
                    (.cond (.s 14)
                      .skip
                      (.exit 0))
                    (.seq
                      (.block 1
                        (.seq
                          (.region false [
                            ⟨(some 15), none, .mv (.s 13)⟩,
                            ⟨(some 6), none, .mv (.s 15)⟩])
                          (.region false [
                            ⟨(some 16), none, .mv (.s 5)⟩,
                            ⟨(some 17), none, .mv (.s 6)⟩,
                            ⟨(some 18), none, .lit none [] 1 1 [.int .i64 0] [(0, 1, (.s 17))]⟩,
                            ⟨(some 19), none, .append 8 1 2 none (.s 16) (.s 18)⟩,
                            ⟨(some 5), none, .mv (.s 19)⟩])))
                      (.region false [
                        ⟨(some 20), none, .bin .add .int (.s 13) (.c (.int .i64 1))⟩,
                        ⟨(some 13), none, .mv (.s 20)⟩])))))))
          (.seq
            (.region false [
              ⟨(some 21), none, .mv (.s 5)⟩,
              ⟨(some 22), none, .mkfn 27 [] [(.s 3)]⟩,
              ⟨(some 23), none, .call (.c (.fn 26 [] [])) [(.s 21), (.s 22)] [1, 2] [] [] true⟩])
            (.seq
              (.region false [
                ⟨(some 24), none, .mv (.s 5)⟩,
                ⟨(some 4), none, .mv (.s 24)⟩])
              .ret)))))) }
/- cuboid/lattice.Meet -/
def f49 : MFun := { nt := 20, np := 2, no := 3, res := [.cell 4 2 (some 4)], body :=
  (.seq
    (.region false [
      ⟨(some 2), none, .box 0 (.s 0)⟩,
      ⟨(some 3), none, .box 1 (.s 1)⟩,
      ⟨(some 4), none, .alloc 2 [.int .u8 0, .int .u8 0, .int .u8 0, .int .u8 0]⟩])
    (.seq
      (.seq
        (.region false [
          ⟨(some 6), none, .mv (.c (.int .i64 0))⟩])
        (.block 0
          (.loop [2, 3, 4, 6] [0, 1, 2]
            (.seq
              (.region false [
                ⟨(some 7), none, .bin .lss .int (.s 6) (.c (.int .i64 4))⟩])
              (.seq
                (.cond (.s 7)
                  .skip
                  (.exit 0))
                (.seq
                  (.block 1
                    (.seq
                      (.region false [
                        ⟨(some 8), none, .mv (.s 6)⟩,
                        ⟨(some 5), none, .mv (.s 8)⟩])
                      (.region true [
                        ⟨(some 9), none, .mv (.s 5)⟩,
                        ⟨(some 10), none, .mv (.s 5)⟩,
                        ⟨(some 11), none, .iaddrA 4 1 (.s 2) (.s 10)⟩,
                        ⟨(some 12), none, .load none (some 0) (.s 11)⟩,
                        ⟨(some 13), none, .mv (.s 5)⟩,
                        ⟨(some 14), none, .iaddrA 4 1 (.s 3) (.s 13)⟩,
                        ⟨(some 15), none, .load none (some 1) (.s 14)⟩,
                        ⟨(some 16), none, .minmax false [(.s 12), (.s 15)]⟩,
                        ⟨(some 17), none, .iaddrA 4 1 (.s 2) (.s 9)⟩,
                        ⟨none, none, .store 1 0 [] (.s 17) (.s 16)⟩])))
                  (.region false [
                    ⟨(some 18), none, .bin .add .int (.s 6) (.c (.int .i64 1))⟩,
                    ⟨(some 6), none, .mv (.s 18)⟩])))))))
      (.seq
        (.region false [
          ⟨(some 19), none, .load (some 4) (some 0) (.s 2)⟩,
          ⟨none, none, .store 4 2 [] (.s 4) (.s 19)⟩])
        .ret))) }
/- cuboid/lattice.Below -/
def f41 : MFun := { nt := 10, np := 2, no := 2, res := [.slot 4], body :=
  (.seq
    (.region false [
      ⟨(some 2), none, .box 0 (.s 0)⟩,
      ⟨(some 3), none, .box 1 (.s 1)⟩,
      ⟨(some 4), none, .mv (.c (.bool false))⟩])
    (.seq
      (.region true [
        ⟨(some 5), none, .load (some 4) (some 0) (.s 2)⟩,
        ⟨(some 6), none, .load (some 4) (some 1) (.s 3)⟩,
        ⟨(some 7), none, .call (.c (.fn 49 [] [])) [(.s 5), (.s 6)] [] [] [] false⟩,
        ⟨(some 8), none, .load (some 4) (some 0) (.s 2)⟩,
        ⟨(some 9), none, .bin .eql (.agg [some .u8, some .u8, some .u8, some .u8]) (.s 7) (.s 8)⟩,
        ⟨(some 4), none, .mv (.s 9)⟩])
      .ret)) }
/- cuboid/lattice.Cost -/
def f42 : MFun := { nt := 30, np := 2, no := 3, res := [.slot 4], body :=
  (.seq
    (.region false [
      ⟨(some 2), none, .box 0 (.s 0)⟩,
      ⟨(some 3), none, .box 1 (.s 1)⟩,
      ⟨(some 4), none, .mv (.c (.int .i64 0))⟩])
    (.seq
      (.seq
        (.region false [
          ⟨(some 8), none, .load (some 2) (some 0) (.s 2)⟩,
          ⟨(some 9), none, .load (some 4) (some 1) (.s 3)⟩,
          ⟨(some 10), none, .call (.c (.fn 32 [] [])) [(.s 8), (.s 9)] [] [] [] false⟩,
          ⟨(some 11), none, .un .not (.s 10)⟩])
        (.cond (.s 11)
          (.seq
            (.region false [
              ⟨(some 4), none, .mv (.c (.int .i64 0))⟩])
            .ret)
          .skip))
      (.seq
        (.region false [
          ⟨(some 5), none, .mv (.c (.int .i64 1))⟩])
        (.seq
          (.seq
            (.region false [
              ⟨(some 12), none, .faddr 0 (.s 2)⟩,
              ⟨(some 13), none, .load none (some 0) (.s 12)⟩,
              ⟨(some 14), none, .len (.s 13)⟩,
              ⟨(some 15), none, .mv (.c (.int .i64 0))⟩])
            (.block 0
              (.loop [3, 5, 13, 14, 15] [1]
                (.seq
                  (.region false [
                    ⟨(some 16), none, .bin .lss .int (.s 15) (.s 14)⟩])
                  (.seq
                    (.cond (.s 16)
                      .skip
                      (.exit 0))
                    (.seq
                      (.block 1
                        (.seq
                          (.region false [
                            ⟨(some 17), none, .mv (.s 15)⟩,
                            ⟨(some 18), none, .iaddrS 2 (.s 13) (.s 15)⟩,
                            ⟨(some 19), none, .load (some 2) none (.s 18)⟩,
                            ⟨(some 7), none, .alloc 2 [.nilsl, .nilsl]⟩,
                            ⟨(some 6), none, .mv (.s 17)⟩,
                            ⟨none, none, .store 2 2 [] (.s 7) (.s 19)⟩])
                          (.region true [
                            ⟨(some 20), none, .mv (.s 5)⟩,
                            ⟨(some 21), none, .load (some 2) (some 2) (.s 7)⟩,
                            ⟨(some 22), none, .mv (.s 6)⟩,
                            ⟨(some 23), none, .iaddrA 4 1 (.s 3) (.s 22)⟩,
                            ⟨(some 24), none, .load none (some 1) (.s 23)⟩,
                            ⟨(some 25), none, .conv .i64 (.s 24)⟩,
                            ⟨(some 26), none, .call (.c (.fn 50 [] [])) [(.s 21), (.s 25)] [] [] [] false⟩,
                            ⟨(some 27), none, .bin .mul .int (.s 20) (.s 26)⟩,
                            ⟨(some 5), none, .mv (.s 27)⟩])))
                      (.region false [
                        ⟨(some 28), none, .bin .add .int (.s 15) (.c (.int .i64 1))⟩,
                        ⟨(some 15), none, .mv (.s 28)⟩])))))))
          (.seq
            (.region false [
              ⟨(some 29), none, .mv (.s 5)⟩,
              ⟨(some 4), none, .mv (.s 29)⟩])
            .ret))))) }
/- cuboid/route.cheapest -/
def f30 : MFun := { nt := 48, np := 4, no := 2, res := [.slot 8], body :=
  (.seq
    (.region false [
      ⟨(some 4), none, .box 0 (.s 0)⟩,
      ⟨(some 7), none, .box 1 (.s 3)⟩,
      ⟨(some 8), none, .mv (.c (.int .i64 0))⟩])
    (.seq
      (.region false [
        ⟨(some 9), none, .mv (.c (.int .i64 (-1)))⟩])
      (.seq
        (.seq
          (.region false [
            ⟨(some 11), none, .mv (.s 1)⟩,
            ⟨(some 12), none, .len (.s 11)⟩,
            ⟨(some 13), none, .mv (.c (.int .i64 0))⟩])
          (.block 0
            (.loop [1, 2, 4, 7, 9, 12, 13] [0, 1]
              (.seq
                (.region false [
                  ⟨(some 14), none, .bin .lss .int (.s 13) (.s 12)⟩])
                (.seq
                  (.cond (.s 14)
                    .skip
                    (.exit 0))
                  (.seq
                    (.block 1
                      (.seq
                        (.region false [
                          ⟨(some 15), none, .mv (.s 13)⟩,
                          ⟨(some 10), none, .mv (.s 15)⟩])
                        (.seq
                          (.seq
                            (.region true [
                              ⟨(some 16), none, .mv (.s 10)⟩,
                              ⟨(some 17), none, .mv (.s 2)⟩,
                              ⟨(some 18), none, .bin .eql .int (.s 16) (.s 17)⟩,
                              ⟨(some 19), none, .mv (.s 18)⟩,
                              ⟨(some 20), (some (19, false)), .mv (.s 1)⟩,
                              ⟨(some 21), (some (19, false)), .mv (.s 10)⟩,
                              ⟨(some 22), (some (19, false)), .iaddrS 4 (.s 20) (.s 21)⟩,
                              ⟨(some 23), (some (19, false)), .load (some 4) none (.s 22)⟩,
                              ⟨(some 24), (some (19, false)), .load (some 4) (some 1) (.s 7)⟩,
                              ⟨(some 25), (some (19, false)), .call (.c (.fn 41 [] [])) [(.s 23), (.s 24)] [] [] [] false⟩,
                              ⟨(some 26), (some (19, false)), .un .not (.s 25)⟩,
                              ⟨(some 27), none, .pick (.s 19) (.c (.bool true)) (.s 26)⟩])
                            (.cond (.s 27)
                              (.exit 1)
                              .skip))
                          (.seq
                            (.region true [
                              ⟨(some 28), none, .mv (.s 9)⟩,
                              ⟨(some 29), none, .bin .eql .int (.s 28) (.c (.int .i64 (-1)))⟩,
                              ⟨(some 30), none, .mv (.s 29)⟩,
                              ⟨(some 31), (some (30, false)), .load (some 2) (some 0) (.s 4)⟩,
                              ⟨(some 32), (some (30, false)), .mv (.s 1)⟩,
                              ⟨(some 33), (some (30, false)), .mv (.s 10)⟩,
                              ⟨(some 34), (some (30, false)), .iaddrS 4 (.s 32) (.s 33)⟩,
                              ⟨(some 35), (some (30, false)), .load (some 4) none (.s 34)⟩,
                              ⟨(some 36), (some (30, false)), .call (.c (.fn 42 [] [])) [(.s 31), (.s 35)] [] [] [] false⟩,
                              ⟨(some 37), (some (30, false)), .load (some 2) (some 0) (.s 4)⟩,
                              ⟨(some 38), (some (30, false)), .mv (.s 1)⟩,
                              ⟨(some 39), (some (30, false)), .mv (.s 9)⟩,
                              ⟨(some 40), (some (30, false)), .iaddrS 4 (.s 38) (.s 39)⟩,
                              ⟨(some 41), (some (30, false)), .load (some 4) none (.s 40)⟩,
                              ⟨(some 42), (some (30, false)), .call (.c (.fn 42 [] [])) [(.s 37), (.s 41)] [] [] [] false⟩,
                              ⟨(some 43), (some (30, false)), .bin .lss .int (.s 36) (.s 42)⟩,
                              ⟨(some 44), none, .pick (.s 30) (.c (.bool true)) (.s 43)⟩])
                            (.cond (.s 44)
                              (.region false [
                                ⟨(some 45), none, .mv (.s 10)⟩,
                                ⟨(some 9), none, .mv (.s 45)⟩])
                              .skip)))))
                    (.region false [
                      ⟨(some 46), none, .bin .add .int (.s 13) (.c (.int .i64 1))⟩,
                      ⟨(some 13), none, .mv (.s 46)⟩])))))))
        (.seq
          (.region false [
            ⟨(some 47), none, .mv (.s 9)⟩,
            ⟨(some 8), none, .mv (.s 47)⟩])
          .ret)))) }
/- cuboid/route.Source -/
def f13 : MFun := { nt := 29, np := 3, no := 1, res := [.slot 6], body :=
  (.seq
    (.region false [
      ⟨(some 3), none, .box 0 (.s 0)⟩,
      ⟨(some 6), none, .mv (.c (.int .i64 0))⟩])
    (.seq
      (.seq
        (.region false [
          ⟨(some 7), none, .load (some 2) (some 0) (.s 3)⟩,
          ⟨(some 8), none, .mv (.s 1)⟩,
          ⟨(some 9), none, .call (.c (.fn 21 [] [])) [(.s 7), (.s 8)] [] [] [] false⟩,
          ⟨(some 10), none, .un .not (.s 9)⟩,
          ⟨(some 11), none, .mv (.s 10)⟩,
          ⟨(some 12), (some (11, false)), .mv (.s 2)⟩,
          ⟨(some 13), (some (11, false)), .bin .lss .int (.s 12) (.c (.int .i64 0))⟩,
          ⟨(some 14), none, .pick (.s 11) (.c (.bool true)) (.s 13)⟩,
          ⟨(some 15), none, .mv (.s 14)⟩,
          ⟨(some 16), (some (15, false)), .mv (.s 2)⟩,
          ⟨(some 17), (some (15, false)), .mv (.s 1)⟩,
          ⟨(some 18), (some (15, false)), .len (.s 17)⟩,
          ⟨(some 19), (some (15, false)), .bin .geq .int (.s 16) (.s 18)⟩,
          ⟨(some 20), none, .pick (.s 15) (.c (.bool true)) (.s 19)⟩])
        (.cond (.s 20)
          (.seq
            (.region false [
              ⟨(some 6), none, .mv (.c (.int .i64 (-1)))⟩])
            .ret)
          .skip))
      (.seq
        (.region true [
          ⟨(some 21), none, .load (some 2) (some 0) (.s 3)⟩,
          ⟨(some 22), none, .mv (.s 1)⟩,
          ⟨(some 23), none, .mv (.s 2)⟩,
          ⟨(some 24), none, .mv (.s 1)⟩,
          ⟨(some 25), none, .mv (.s 2)⟩,
          ⟨(some 26), none, .iaddrS 4 (.s 24) (.s 25)⟩,
          ⟨(some 27), none, .load (some 4) none (.s 26)⟩,
          ⟨(some 28), none, .call (.c (.fn 30 [] [])) [(.s 21), (.s 22), (.s 23), (.s 27)] [] [] [] false⟩,
          ⟨(some 6), none, .mv (.s 28)⟩])
        .ret))) }
/- cuboid/route.Pick -/
def f17 : MFun := { nt := 21, np := 3, no := 2, res := [.slot 6], body :=
  (.seq
    (.region false [
      ⟨(some 3), none, .box 0 (.s 0)⟩,
      ⟨(some 5), none, .box 1 (.s 2)⟩,
      ⟨(some 6), none, .mv (.c (.int .i64 0))⟩])
    (.seq
      (.seq
        (.region false [
          ⟨(some 7), none, .load (some 2) (some 0) (.s 3)⟩,
          ⟨(some 8), none, .mv (.s 1)⟩,
          ⟨(some 9), none, .call (.c (.fn 21 [] [])) [(.s 7), (.s 8)] [] [] [] false⟩,
          ⟨(some 10), none, .un .not (.s 9)⟩,
          ⟨(some 11), none, .mv (.s 10)⟩,
          ⟨(some 12), (some (11, false)), .load (some 2) (some 0) (.s 3)⟩,
          ⟨(some 13), (some (11, false)), .load (some 4) (some 1) (.s 5)⟩,
          ⟨(some 14), (some (11, false)), .call (.c (.fn 32 [] [])) [(.s 12), (.s 13)] [] [] [] false⟩,
          ⟨(some 15), (some (11, false)), .un .not (.s 14)⟩,
          ⟨(some 16), none, .pick (.s 11) (.c (.bool true)) (.s 15)⟩])
        (.cond (.s 16)
          (.seq
            (.region false [
              ⟨(some 6), none, .mv (.c (.int .i64 (-1)))⟩])
            .ret)
          .skip))
      (.seq
        (.region false [
          ⟨(some 17), none, .load (some 2) (some 0) (.s 3)⟩,
          ⟨(some 18), none, .mv (.s 1)⟩,
          ⟨(some 19), none, .load (some 4) (some 1) (.s 5)⟩,
          ⟨(some 20), none, .call (.c (.fn 30 [] [])) [(.s 17), (.s 18), (.c (.int .i64 (-1))), (.s 19)] [] [] [] false⟩,
          ⟨(some 6), none, .mv (.s 20)⟩])
        .ret))) }
/- cuboid/cuboidkeep.Ints -/
def f20 : MFun := { nt := 26, np := 2, no := 0, res := [.slot 4], body :=
  (.seq
    (.region false [
      ⟨(some 4), none, .mv (.c (.bool false))⟩])
    (.seq
      (.seq
        (.region false [
          ⟨(some 6), none, .mv (.s 0)⟩,
          ⟨(some 7), none, .len (.s 6)⟩,
          ⟨(some 8), none, .mv (.s 1)⟩,
          ⟨(some 9), none, .len (.s 8)⟩,
          ⟨(some 10), none, .bin .neq .int (.s 7) (.s 9)⟩])
        (.cond (.s 10)
          (.seq
            (.region false [
              ⟨(some 4), none, .mv (.c (.bool false))⟩])
            .ret)
          .skip))
      (.seq
        (.seq
          (.region false [
            ⟨(some 5), none, .mv (.c (.int .i64 0))⟩])
          (.block 0
            (.loop [0, 1, 5] []
              (.seq
                (.seq
                  (.region false [
                    ⟨(some 11), none, .mv (.s 5)⟩,
                    ⟨(some 12), none, .mv (.s 0)⟩,
                    ⟨(some 13), none, .len (.s 12)⟩,
                    ⟨(some 14), none, .bin .lss .int (.s 11) (.s 13)⟩])
                  (.cond (.s 14)
                    .skip
                    (.exit 0)))
                (.seq
                  (.block 1
                    (.seq
                      (.region true [
                        ⟨(some 17), none, .mv (.s 0)⟩,
                        ⟨(some 18), none, .mv (.s 5)⟩,
                        ⟨(some 19), none, .iaddrS 1 (.s 17) (.s 18)⟩,
                        ⟨(some 20), none, .load none none (.s 19)⟩,
                        ⟨(some 21), none, .mv (.s 1)⟩,
                        ⟨(some 22), none, .mv (.s 5)⟩,
                        ⟨(some 23), none, .iaddrS 1 (.s 21) (.s 22)⟩,
                        ⟨(some 24), none, .load none none (.s 23)⟩,
                        ⟨(some 25), none, .bin .neq .int (.s 20) (.s 24)⟩])
                      (.cond (.s 25)
                        (.seq
                          (.region false [
                            ⟨(some 4), none, .mv (.c (.bool false))⟩])
                          .ret)
                        .skip)))
                  (.region false [
                    ⟨(some 15), none, .mv (.s 5)⟩,
                    ⟨(some 16), none, .bin .add .int (.s 15) (.c (.int .i64 1))⟩,
                    ⟨(some 5), none, .mv (.s 16)⟩]))))))
        (.seq
          (.region false [
            ⟨(some 4), none, .mv (.c (.bool true))⟩])
          .ret)))) }
/- cuboid/cuboidlaw17.wakes -/
def f9 : MFun := { nt := 74, np := 0, no := 1, res := [.slot 0], body :=
  (.seq
    (.region false [
      ⟨(some 0), none, .mv (.c (.bool false))⟩])
    (.seq
      (.region false [
        ⟨(some 5), none, .lit none [] 2 1 [.int .i64 0] [(0, 1, (.c (.int .i64 4))), (1, 1, (.c (.int .i64 2)))]⟩,
        ⟨(some 6), none, .lit none [] 4 1 [.int .i64 0] [(0, 1, (.c (.int .i64 0))), (1, 1, (.c (.int .i64 0))), (2, 1, (.c (.int .i64 1))), (3, 1, (.c (.int .i64 1)))]⟩,
        ⟨(some 7), none, .lit none [] 1 1 [.nilsl] [(0, 1, (.s 6))]⟩,
        ⟨(some 8), none, .build [.nilsl, .nilsl] [(0, 1, (.s 5)), (1, 1, (.s 7))]⟩,
        ⟨(some 9), none, .lit none [] 1 2 [.nilsl, .nilsl] [(0, 2, (.s 8))]⟩,
        ⟨(some 10), none, .build [.nilsl, .int .i64 0] [(0, 1, (.s 9)), (1, 1, (.c (.int .i64 1)))]⟩,
        ⟨(some 1), none, .alloc 0 [.nilsl, .int .i64 0]⟩,
        ⟨none, none, .store 2 0 [] (.s 1) (.s 10)⟩])
      (.seq
        (.region false [
          ⟨(some 11), none, .build [.int .u8 0, .int .u8 0, .int .u8 0, .int .u8 0] []⟩,
          ⟨(some 12), none, .lit none [] 1 4 [.int .u8 0, .int .u8 0, .int .u8 0, .int .u8 0] [(0, 4, (.s 11))]⟩,
          ⟨(some 2), none, .mv (.s 12)⟩])
        (.seq
          (.region false [
            ⟨(some 13), none, .build [.int .u8 0, .int .u8 0, .int .u8 0, .int .u8 0] [(0, 1, (.c (.int .u8 2)))]⟩,
            ⟨(some 14), none, .build [.int .u8 0, .int .u8 0, .int .u8 0, .int .u8 0] []⟩,
            ⟨(some 15), none, .build [.int .u8 0, .int .u8 0, .int .u8 0, .int .u8 0] [(0, 1, (.c (.int .u8 1)))]⟩,
            ⟨(some 16), none, .lit none [] 3 4 [.int .u8 0, .int .u8 0, .int .u8 0, .int .u8 0] [(0, 4, (.s 13)), (4, 4, (.s 14)), (8, 4, (.s 15))]⟩,
            ⟨(some 3), none, .mv (.s 16)⟩])
          (.seq
            (.region false [
              ⟨(some 17), none, .load (some 2) (some 0) (.s 1)⟩,
              ⟨(some 18), none, .mv (.s 3)⟩,
              ⟨(some 19), none, .call (.c (.fn 12 [] [])) [(.s 17), (.s 18)] [] [] [] true⟩,
              ⟨(some 4), none, .mv (.s 19)⟩])
            (.seq
              (.region true [
                ⟨(some 20), none, .load (some 2) (some 0) (.s 1)⟩,
                ⟨(some 21), none, .mv (.s 2)⟩,
                ⟨(some 22), none, .call (.c (.fn 12 [] [])) [(.s 20), (.s 21)] [] [] [] true⟩,
                ⟨(some 23), none, .lit none [] 1 1 [.int .i64 0] [(0, 1, (.c (.int .i64 0)))]⟩,
                ⟨(some 24), none, .call (.c (.fn 20 [] [])) [(.s 22), (.s 23)] [] [] [] false⟩,
                ⟨(some 25), none, .mv (.s 24)⟩,
                ⟨(some 26), (some (25, true)), .load (some 2) (some 0) (.s 1)⟩,
                ⟨(some 27), (some (25, true)), .mv (.s 2)⟩,
                ⟨(some 28), (some (25, true)), .call (.c (.fn 13 [] [])) [(.s 26), (.s 27), (.c (.int .i64 0))] [] [] [] false⟩,
                ⟨(some 29), (some (25, true)), .bin .eql .int (.s 28) (.c (.int .i64 (-1)))⟩,
                ⟨(some 30), none, .pick (.s 25) (.s 29) (.c (.bool false))⟩,
                ⟨(some 31), none, .mv (.s 30)⟩,
                ⟨(some 32), (some (31, true)), .load (some 2) (some 0) (.s 1)⟩,
                ⟨(some 33), (some (31, true)), .mv (.s 2)⟩,
                ⟨(some 34), (some (31, true)), .build [.int .u8 0, .int .u8 0, .int .u8 0, .int .u8 0] []⟩,
                ⟨(some 35), (some (31, true)), .call (.c (.fn 17 [] [])) [(.s 32), (.s 33), (.s 34)] [] [] [] false⟩,
                ⟨(some 36), (some (31, true)), .bin .eql .int (.s 35) (.c (.int .i64 0))⟩,
                ⟨(some 37), none, .pick (.s 31) (.s 36) (.c (.bool false))⟩,
                ⟨(some 38), none, .mv (.s 37)⟩,
                ⟨(some 39), (some (38, true)), .load (some 2) (some 0) (.s 1)⟩,
                ⟨(some 40), (some (38, true)), .mv (.s 3)⟩,
                ⟨(some 41), (some (38, true)), .call (.c (.fn 21 [] [])) [(.s 39), (.s 40)] [] [] [] false⟩,
                ⟨(some 42), none, .pick (.s 38) (.s 41) (.c (.bool false))⟩,
                ⟨(some 43), none, .mv (.s 42)⟩,
                ⟨(some 44), (some (43, true)), .load (some 2) (some 0) (.s 1)⟩,
                ⟨(some 45), (some (43, true)), .mv (.s 3)⟩,
                ⟨(some 46), (some (43, true)), .sliceS 4 (.s 45) none (some (.c (.int .i64 1)))⟩,
                ⟨(some 47), (some (43, true)), .call (.c (.fn 21 [] [])) [(.s 44), (.s 46)] [] [] [] false⟩,
                ⟨(some 48), (some (43, true)), .un .not (.s 47)⟩,
                ⟨(some 49), none, .pick (.s 43) (.s 48) (.c (.bool false))⟩,
                ⟨(some 50), none, .mv (.s 49)⟩,
                ⟨(some 51), (some (50, true)), .mv (.s 4)⟩,
                ⟨(some 52), (some (50, true)), .lit none [] 3 1 [.int .i64 0] [(0, 1, (.c (.int .i64 1))), (1, 1, (.c (.int .i64 2))), (2, 1, (.c (.int .i64 0)))]⟩,
                ⟨(some 53), (some (50, true)), .call (.c (.fn 20 [] [])) [(.s 51), (.s 52)] [] [] [] false⟩,
                ⟨(some 54), none, .pick (.s 50) (.s 53) (.c (.bool false))⟩,
                ⟨(some 55), none, .mv (.s 54)⟩,
                ⟨(some 56), (some (55, true)), .load (some 2) (some 0) (.s 1)⟩,
                ⟨(some 57), (some (55, true)), .mv (.s 3)⟩,
                ⟨(some 58), (some (55, true)), .call (.c (.fn 13 [] [])) [(.s 56), (.s 57), (.c (.int .i64 0))] [] [] [] false⟩,
                ⟨(some 59), (some (55, true)), .bin .eql .int (.s 58) (.c (.int .i64 2))⟩,
                ⟨(some 60), none, .pick (.s 55) (.s 59) (.c (.bool false))⟩,
                ⟨(some 61), none, .mv (.s 60)⟩,
                ⟨(some 62), (some (61, true)), .load (some 2) (some 0) (.s 1)⟩,
                ⟨(some 63), (some (61, true)), .mv (.s 3)⟩,
                ⟨(some 64), (some (61, true)), .call (.c (.fn 13 [] [])) [(.s 62), (.s 63), (.c (.int .i64 2))] [] [] [] false⟩,
                ⟨(some 65), (some (61, true)), .bin .eql .int (.s 64) (.c (.int .i64 1))⟩,
                ⟨(some 66), none, .pick (.s 61) (.s 65) (.c (.bool false))⟩,
                ⟨(some 67), none, .mv (.s 66)⟩,
                ⟨(some 68), (some (67, true)), .load (some 2) (some 0) (.s 1)⟩,
                ⟨(some 69), (some (67, true)), .mv (.s 3)⟩,
                ⟨(some 70), (some (67, true)), .build [.int .u8 0, .int .u8 0, .int .u8 0, .int .u8 0] [(0, 1, (.c (.int .u8 1)))]⟩,
                ⟨(some 71), (some (67, true)), .call (.c (.fn 17 [] [])) [(.s 68), (.s 69), (.s 70)] [] [] [] false⟩,
                ⟨(some 72), (some (67, true)), .bin .eql .int (.s 71) (.c (.int .i64 2))⟩,
                ⟨(some 73), none, .pick (.s 67) (.s 72) (.c (.bool false))⟩,
                ⟨(some 0), none, .mv (.s 73)⟩])
              .ret)))))) }
/- cuboid/cuboidref03.Good -/
def f38 : MFun := { nt := 97, np := 1, no := 1, res := [.slot 2], body :=
  (.seq
    (.region false [
      ⟨(some 1), none, .box 0 (.s 0)⟩,
      ⟨(some 2), none, .mv (.c (.bool false))⟩])
    (.seq
      (.region false [
        ⟨(some 7), none, .faddr 0 (.s 1)⟩,
        ⟨(some 8), none, .load none (some 0) (.s 7)⟩,
        ⟨(some 9), none, .len (.s 8)⟩,
        ⟨(some 3), none, .mv (.s 9)⟩])
      (.seq
        (.seq
          (.region false [
            ⟨(some 10), none, .mv (.s 3)⟩,
            ⟨(some 11), none, .bin .lss .int (.s 10) (.c (.int .i64 1))⟩,
            ⟨(some 12), none, .mv (.s 11)⟩,
            ⟨(some 13), (some (12, false)), .mv (.s 3)⟩,
            ⟨(some 14), (some (12, false)), .bin .gtr .int (.s 13) (.c (.int .i64 4))⟩,
            ⟨(some 15), none, .pick (.s 12) (.c (.bool true)) (.s 14)⟩,
            ⟨(some 16), none, .mv (.s 15)⟩,
            ⟨(some 17), (some (16, false)), .faddr 1 (.s 1)⟩,
            ⟨(some 18), (some (16, false)), .load none (some 0) (.s 17)⟩,
            ⟨(some 19), (some (16, false)), .len (.s 18)⟩,
            ⟨(some 20), (some (16, false)), .mv (.s 3)⟩,
            ⟨(some 21), (some (16, false)), .bin .sub .int (.s 20) (.c (.int .i64 1))⟩,
            ⟨(some 22), (some (16, false)), .bin .neq .int (.s 19) (.s 21)⟩,
            ⟨(some 23), none, .pick (.s 16) (.c (.bool true)) (.s 22)⟩])
          (.cond (.s 23)
            (.seq
              (.region false [
                ⟨(some 2), none, .mv (.c (.bool false))⟩])
              .ret)
            .skip))
        (.seq
          (.seq
            (.region false [
              ⟨(some 4), none, .mv (.c (.int .i64 0))⟩])
            (.block 0
              (.loop [1, 3, 4] [0]
                (.seq
                  (.seq
                    (.region false [
                      ⟨(some 24), none, .mv (.s 4)⟩,
                      ⟨(some 25), none, .mv (.s 3)⟩,
                      ⟨(some 26), none, .bin .lss .int (.s 24) (.s 25)⟩])
                    (.cond (.s 26)
                      .skip
                      (.exit 0)))
                  (.seq
                    (.block 1
                      (.seq
                        (.region false [
                          ⟨(some 29), none, .faddr 0 (.s 1)⟩,
                          ⟨(some 30), none, .load none (some 0) (.s 29)⟩,
                          ⟨(some 31), none, .mv (.s 4)⟩,
                          ⟨(some 32), none, .iaddrS 1 (.s 30) (.s 31)⟩,
                          ⟨(some 33), none, .load none none (.s 32)⟩,
                          ⟨(some 34), none, .bin .lss .int (.s 33) (.c (.int .i64 1))⟩,
                          ⟨(some 35), none, .mv (.s 34)⟩,
                          ⟨(some 36), (some (35, false)), .faddr 0 (.s 1)⟩,
                          ⟨(some 37), (some (35, false)), .load none (some 0) (.s 36)⟩,
                          ⟨(some 38), (some (35, false)), .mv (.s 4)⟩,
                          ⟨(some 39), (some (35, false)), .iaddrS 1 (.s 37) (.s 38)⟩,
                          ⟨(some 40), (some (35, false)), .load none none (.s 39)⟩,
                          ⟨(some 41), (some (35, false)), .bin .gtr .int (.s 40) (.c (.int .i64 40))⟩,
                          ⟨(some 42), none, .pick (.s 35) (.c (.bool true)) (.s 41)⟩])
                        (.cond (.s 42)
                          (.seq
                            (.region false [
                              ⟨(some 2), none, .mv (.c (.bool false))⟩])
                            .ret)
                          .skip)))
                    (.region false [
                      ⟨(some 27), none, .mv (.s 4)⟩,
                      ⟨(some 28), none, .bin .add .int (.s 27) (.c (.int .i64 1))⟩,
                      ⟨(some 4), none, .mv (.s 28)⟩]))))))
          (.seq
            (.seq
              (.region false [
                ⟨(some 5), none, .mv (.c (.int .i64 0))⟩])
              (.block 2
                (.loop [1, 3, 5] [0]
                  (.seq
                    (.seq
                      (.region false [
                        ⟨(some 43), none, .mv (.s 5)⟩,
                        ⟨(some 44), none, .mv (.s 3)⟩,
                        ⟨(some 45), none, .bin .sub .int (.s 44) (.c (.int .i64 1))⟩,
                        ⟨(some 46), none, .bin .lss .int (.s 43) (.s 45)⟩])
                      (.cond (.s 46)
                        .skip
                        (.exit 2)))
                    (.seq
                      (.block 3
                        (.seq
                          (.seq
                            (.region true [
                              ⟨(some 49), none, .faddr 1 (.s 1)⟩,
                              ⟨(some 50), none, .load none (some 0) (.s 49)⟩,
                              ⟨(some 51), none, .mv (.s 5)⟩,
                              ⟨(some 52), none, .iaddrS 1 (.s 50) (.s 51)⟩,
                              ⟨(some 53), none, .load none none (.s 52)⟩,
                              ⟨(some 54), none, .len (.s 53)⟩,
                              ⟨(some 55), none, .faddr 0 (.s 1)⟩,
                              ⟨(some 56), none, .load none (some 0) (.s 55)⟩,
                              ⟨(some 57), none, .mv (.s 5)⟩,
                              ⟨(some 58), none, .iaddrS 1 (.s 56) (.s 57)⟩,
                              ⟨(some 59), none, .load none none (.s 58)⟩,
                              ⟨(some 60), none, .bin .neq .int (.s 54) (.s 59)⟩])
                            (.cond (.s 60)
                              (.seq
                                (.region false [
                                  ⟨(some 2), none, .mv (.c (.bool false))⟩])
                                .ret)
                              .skip))
                          (.seq
                            (.region false [
                              ⟨(some 6), none, .mv (.c (.int .i64 0))⟩])
                            (.block 4
                              (.loop [1, 3, 5, 6] [0]
                                (.seq
                                  (.seq
                                    (.region false [
                                      ⟨(some 61), none, .mv (.s 6)⟩,
                                      ⟨(some 62), none, .faddr 1 (.s 1)⟩,
                                      ⟨(some 63), none, .load none (some 0) (.s 62)⟩,
                                      ⟨(some 64), none, .mv (.s 5)⟩,
                                      ⟨(some 65), none, .iaddrS 1 (.s 63) (.s 64)⟩,
                                      ⟨(some 66), none, .load none none (.s 65)⟩,
                                      ⟨(some 67), none, .len (.s 66)⟩,
                                      ⟨(some 68), none, .bin .lss .int (.s 61) (.s 67)⟩])
                                    (.cond (.s 68)
                                      .skip
                                      (.exit 4)))
                                  (.seq
                                    (.block 5
                                      (.seq
                                        (.region true [
                                          ⟨(some 71), none, .faddr 1 (.s 1)⟩,
                                          ⟨(some 72), none, .load none (some 0) (.s 71)⟩,
                                          ⟨(some 73), none, .mv (.s 5)⟩,
                                          ⟨(some 74), none, .iaddrS 1 (.s 72) (.s 73)⟩,
                                          ⟨(some 75), none, .load none none (.s 74)⟩,
                                          ⟨(some 76), none, .mv (.s 6)⟩,
                                          ⟨(some 77), none, .iaddrS 1 (.s 75) (.s 76)⟩,
                                          ⟨(some 78), none, .load none none (.s 77)⟩,
                                          ⟨(some 79), none, .bin .lss .int (.s 78) (.c (.int .i64 0))⟩,
                                          ⟨(some 80), none, .mv (.s 79)⟩,
                                          ⟨(some 81), (some (80, false)), .faddr 1 (.s 1)⟩,
                                          ⟨(some 82), (some (80, false)), .load none (some 0) (.s 81)⟩,
                                          ⟨(some 83), (some (80, false)), .mv (.s 5)⟩,
                                          ⟨(some 84), (some (80, false)), .iaddrS 1 (.s 82) (.s 83)⟩,
                                          ⟨(some 85), (some (80, false)), .load none none (.s 84)⟩,
                                          ⟨(some 86), (some (80, false)), .mv (.s 6)⟩,
                                          ⟨(some 87), (some (80, false)), .iaddrS 1 (.s 85) (.s 86)⟩,
                                          ⟨(some 88), (some (80, false)), .load none none (.s 87)⟩,
                                          ⟨(some 89), (some (80, false)), .faddr 0 (.s 1)⟩,
                                          ⟨(some 90), (some (80, false)), .load none (some 0) (.s 89)⟩,
                                          ⟨(some 91), (some (80, false)), .mv (.s 5)⟩,
                                          ⟨(some 92), (some (80, false)), .bin .add .int (.s 91) (.c (.int .i64 1))⟩,
                                          ⟨(some 93), (some (80, false)), .iaddrS 1 (.s 90) (.s 92)⟩,
                                          ⟨(some 94), (some (80, false)), .load none none (.s 93)⟩,
                                          ⟨(some 95), (some (80, false)), .bin .geq .int (.s 88) (.s 94)⟩,
                                          ⟨(some 96), none, .pick (.s 80) (.c (.bool true)) (.s 95)⟩])
                                        (.cond (.s 96)
                                          (.seq
                                            (.region false [
                                              ⟨(some 2), none, .mv (.c (.bool false))⟩])
                                            .ret)
                                          .skip)))
                                    (.region false [
                                      ⟨(some 69), none, .mv (.s 6)⟩,
                                      ⟨(some 70), none, .bin .add .int (.s 69) (.c (.int .i64 1))⟩,
                                      ⟨(some 6), none, .mv (.s 70)⟩]))))))))
                      (.region false [
                        ⟨(some 47), none, .mv (.s 5)⟩,
                        ⟨(some 48), none, .bin .add .int (.s 47) (.c (.int .i64 1))⟩,
                        ⟨(some 5), none, .mv (.s 48)⟩]))))))
            (.seq
              (.region false [
                ⟨(some 2), none, .mv (.c (.bool true))⟩])
              .ret)))))) }
/- cuboid/cuboidref04.Good -/
def f25 : MFun := { nt := 38, np := 1, no := 1, res := [.slot 2], body :=
  (.seq
    (.region false [
      ⟨(some 1), none, .box 0 (.s 0)⟩,
      ⟨(some 2), none, .mv (.c (.bool false))⟩])
    (.seq
      (.seq
        (.region false [
          ⟨(some 4), none, .faddr 0 (.s 1)⟩,
          ⟨(some 5), none, .load none (some 0) (.s 4)⟩,
          ⟨(some 6), none, .len (.s 5)⟩,
          ⟨(some 7), none, .bin .lss .int (.s 6) (.c (.int .i64 1))⟩,
          ⟨(some 8), none, .mv (.s 7)⟩,
          ⟨(some 9), (some (8, false)), .faddr 0 (.s 1)⟩,
          ⟨(some 10), (some (8, false)), .load none (some 0) (.s 9)⟩,
          ⟨(some 11), (some (8, false)), .len (.s 10)⟩,
          ⟨(some 12), (some (8, false)), .bin .gtr .int (.s 11) (.c (.int .i64 4))⟩,
          ⟨(some 13), none, .pick (.s 8) (.c (.bool true)) (.s 12)⟩,
          ⟨(some 14), none, .mv (.s 13)⟩,
          ⟨(some 15), (some (14, false)), .faddr 1 (.s 1)⟩,
          ⟨(some 16), (some (14, false)), .load none (some 0) (.s 15)⟩,
          ⟨(some 17), (some (14, false)), .bin .lss .int (.s 16) (.c (.int .i64 1))⟩,
          ⟨(some 18), none, .pick (.s 14) (.c (.bool true)) (.s 17)⟩,
          ⟨(some 19), none, .mv (.s 18)⟩,
          ⟨(some 20), (some (19, false)), .faddr 1 (.s 1)⟩,
          ⟨(some 21), (some (19, false)), .load none (some 0) (.s 20)⟩,
          ⟨(some 22), (some (19, false)), .bin .gtr .int (.s 21) (.c (.int .i64 2))⟩,
          ⟨(some 23), none, .pick (.s 19) (.c (.bool true)) (.s 22)⟩])
        (.cond (.s 23)
          (.seq
            (.region false [
              ⟨(some 2), none, .mv (.c (.bool false))⟩])
            .ret)
          .skip))
      (.seq
        (.seq
          (.region false [
            ⟨(some 3), none, .mv (.c (.int .i64 0))⟩])
          (.block 0
            (.loop [1, 3] [0]
              (.seq
                (.seq
                  (.region false [
                    ⟨(some 24), none, .mv (.s 3)⟩,
                    ⟨(some 25), none, .faddr 0 (.s 1)⟩,
                    ⟨(some 26), none, .load none (some 0) (.s 25)⟩,
                    ⟨(some 27), none, .len (.s 26)⟩,
                    ⟨(some 28), none, .bin .lss .int (.s 24) (.s 27)⟩])
                  (.cond (.s 28)
                    .skip
                    (.exit 0)))
                (.seq
                  (.block 1
                    (.seq
                      (.region false [
                        ⟨(some 31), none, .faddr 0 (.s 1)⟩,
                        ⟨(some 32), none, .load none (some 0) (.s 31)⟩,
                        ⟨(some 33), none, .mv (.s 3)⟩,
                        ⟨(some 34), none, .iaddrS 2 (.s 32) (.s 33)⟩,
                        ⟨(some 35), none, .load (some 2) none (.s 34)⟩,
                        ⟨(some 36), none, .call (.c (.fn 38 [] [])) [(.s 35)] [] [] [] false⟩,
                        ⟨(some 37), none, .un .not (.s 36)⟩])
                      (.cond (.s 37)
                        (.seq
                          (.region false [
                            ⟨(some 2), none, .mv (.c (.bool false))⟩])
                          .ret)
                        .skip)))
                  (.region false [
                    ⟨(some 29), none, .mv (.s 3)⟩,
                    ⟨(some 30), none, .bin .add .int (.s 29) (.c (.int .i64 1))⟩,
                    ⟨(some 3), none, .mv (.s 30)⟩]))))))
        (.seq
          (.region false [
            ⟨(some 2), none, .mv (.c (.bool true))⟩])
          .ret)))) }
/- cuboid/cuboidref03.Size -/
def f33 : MFun := { nt := 31, np := 2, no := 1, res := [.slot 4], body :=
  (.seq
    (.region false [
      ⟨(some 2), none, .box 0 (.s 0)⟩,
      ⟨(some 4), none, .mv (.c (.int .i64 0))⟩])
    (.seq
      (.block 0
        (.seq
          (.region false [
            ⟨(some 6), none, .load (some 2) (some 0) (.s 2)⟩,
            ⟨(some 7), none, .call (.c (.fn 38 [] [])) [(.s 6)] [] [] [] false⟩,
            ⟨(some 8), none, .un .not (.s 7)⟩,
            ⟨(some 9), none, .mv (.s 8)⟩,
            ⟨(some 10), (some (9, false)), .mv (.s 1)⟩,
            ⟨(some 11), (some (9, false)), .bin .lss .int (.s 10) (.c (.int .i64 0))⟩,
            ⟨(some 12), none, .pick (.s 9) (.c (.bool true)) (.s 11)⟩,
            ⟨(some 13), none, .mv (.s 12)⟩,
            ⟨(some 14), (some (13, false)), .mv (.s 1)⟩,
            ⟨(some 15), (some (13, false)), .faddr 0 (.s 2)⟩,
            ⟨(some 16), (some (13, false)), .load none (some 0) (.s 15)⟩,
            ⟨(some 17), (some (13, false)), .len (.s 16)⟩,
            ⟨(some 18), (some (13, false)), .bin .gtr .int (.s 14) (.s 17)⟩,
            ⟨(some 19), none, .pick (.s 13) (.c (.bool true)) (.s 18)⟩,
            ⟨(some 5), none, .mv (.s 19)⟩])
          (.cond (.s 5)
            (.seq
              (.region false [
                ⟨(some 4), none, .mv (.c (.int .i64 0))⟩])
              .ret)
            (.seq
              (.region false [
                ⟨(some 21), none, .mv (.s 1)⟩,
                ⟨(some 22), none, .faddr 0 (.s 2)⟩,
                ⟨(some 23), none, .load none (some 0) (.s 22)⟩,
                ⟨(some 24), none, .len (.s 23)⟩,
                ⟨(some 25), none, .bin .eql .int (.s 21) (.s 24)⟩,
                ⟨(some 20), none, .mv (.s 25)⟩])
              (.cond (.s 20)
                (.seq
                  (.region false [
                    ⟨(some 4), none, .mv (.c (.int .i64 1))⟩])
                  .ret)
                .skip)))))
      (.seq
        (.region false [
          ⟨(some 26), none, .faddr 0 (.s 2)⟩,
          ⟨(some 27), none, .load none (some 0) (.s 26)⟩,
          ⟨(some 28), none, .mv (.s 1)⟩,
          ⟨(some 29), none, .iaddrS 1 (.s 27) (.s 28)⟩,
          ⟨(some 30), none, .load none none (.s 29)⟩,
          ⟨(some 4), none, .mv (.s 30)⟩])
        .ret))) }
/- cuboid/cuboidref04.Right -/
def f31 : MFun := { nt := 45, np := 3, no := 3, res := [.slot 6], body :=
  (.seq
    (.region false [
      ⟨(some 3), none, .box 0 (.s 0)⟩,
      ⟨(some 4), none, .box 1 (.s 1)⟩,
      ⟨(some 5), none, .box 2 (.s 2)⟩,
      ⟨(some 6), none, .mv (.c (.bool false))⟩])
    (.seq
      (.seq
        (.region false [
          ⟨(some 8), none, .load (some 2) (some 0) (.s 3)⟩,
          ⟨(some 9), none, .call (.c (.fn 25 [] [])) [(.s 8)] [] [] [] false⟩,
          ⟨(some 10), none, .un .not (.s 9)⟩])
        (.cond (.s 10)
          (.seq
            (.region false [
              ⟨(some 6), none, .mv (.c (.bool false))⟩])
            .ret)
          .skip))
      (.seq
        (.seq
          (.region false [
            ⟨(some 7), none, .mv (.c (.int .i64 0))⟩])
          (.block 0
            (.loop [3, 4, 5, 7] [0, 1, 2]
              (.seq
                (.seq
                  (.region false [
                    ⟨(some 11), none, .mv (.s 7)⟩,
                    ⟨(some 12), none, .bin .lss .int (.s 11) (.c (.int .i64 4))⟩])
                  (.cond (.s 12)
                    .skip
                    (.exit 0)))
                (.seq
                  (.block 1
                    (.seq
                      (.region false [
                        ⟨(some 15), none, .mv (.s 7)⟩,
                        ⟨(some 16), none, .faddr 0 (.s 3)⟩,
                        ⟨(some 17), none, .load none (some 0) (.s 16)⟩,
                        ⟨(some 18), none, .len (.s 17)⟩,
                        ⟨(some 19), none, .bin .geq .int (.s 15) (.s 18)⟩])
                      (.cond (.s 19)
                        (.seq
                          (.region false [
                            ⟨(some 20), none, .mv (.s 7)⟩,
                            ⟨(some 21), none, .iaddrA 4 1 (.s 4) (.s 20)⟩,
                            ⟨(some 22), none, .load none (some 1) (.s 21)⟩,
                            ⟨(some 23), none, .bin .neq .int (.s 22) (.c (.int .u8 0))⟩,
                            ⟨(some 24), none, .mv (.s 23)⟩,
                            ⟨(some 25), (some (24, false)), .mv (.s 7)⟩,
                            ⟨(some 26), (some (24, false)), .iaddrA 4 1 (.s 5) (.s 25)⟩,
                            ⟨(some 27), (some (24, false)), .load none (some 2) (.s 26)⟩,
                            ⟨(some 28), (some (24, false)), .bin .neq .int (.s 27) (.c (.int .u8 0))⟩,
                            ⟨(some 29), none, .pick (.s 24) (.c (.bool true)) (.s 28)⟩])
                          (.cond (.s 29)
                            (.seq
                              (.region false [
                                ⟨(some 6), none, .mv (.c (.bool false))⟩])
                              .ret)
                            .skip))
                        (.seq
                          (.region true [
                            ⟨(some 30), none, .mv (.s 7)⟩,
                            ⟨(some 31), none, .iaddrA 4 1 (.s 5) (.s 30)⟩,
                            ⟨(some 32), none, .load none (some 2) (.s 31)⟩,
                            ⟨(some 33), none, .conv .i64 (.s 32)⟩,
                            ⟨(some 34), none, .faddr 0 (.s 3)⟩,
                            ⟨(some 35), none, .load none (some 0) (.s 34)⟩,
                            ⟨(some 36), none, .mv (.s 7)⟩,
                            ⟨(some 37), none, .iaddrS 2 (.s 35) (.s 36)⟩,
                            ⟨(some 38), none, .load (some 2) none (.s 37)⟩,
                            ⟨(some 39), none, .mv (.s 7)⟩,
                            ⟨(some 40), none, .iaddrA 4 1 (.s 4) (.s 39)⟩,
                            ⟨(some 41), none, .load none (some 1) (.s 40)⟩,
                            ⟨(some 42), none, .conv .i64 (.s 41)⟩,
                            ⟨(some 43), none, .call (.c (.fn 33 [] [])) [(.s 38), (.s 42)] [] [] [] false⟩,
                            ⟨(some 44), none, .bin .geq .int (.s 33) (.s 43)⟩])
                          (.cond (.s 44)
                            (.seq
                              (.region false [
                                ⟨(some 6), none, .mv (.c (.bool false))⟩])
                              .ret)
                            .skip)))))
                  (.region false [
                    ⟨(some 13), none, .mv (.s 7)⟩,
                    ⟨(some 14), none, .bin .add .int (.s 13) (.c (.int .i64 1))⟩,
                    ⟨(some 7), none, .mv (.s 14)⟩]))))))
        (.seq
          (.region false [
            ⟨(some 6), none, .mv (.c (.bool true))⟩])
          .ret)))) }
/- cuboid/cuboidref05.Good -/
def f16 : MFun := { nt := 9, np := 2, no := 2, res := [.slot 4], body :=
  (.seq
    (.region false [
      ⟨(some 2), none, .box 0 (.s 0)⟩,
      ⟨(some 3), none, .box 1 (.s 1)⟩,
      ⟨(some 4), none, .mv (.c (.bool false))⟩])
    (.seq
      (.region false [
        ⟨(some 5), none, .load (some 2) (some 0) (.s 2)⟩,
        ⟨(some 6), none, .load (some 4) (some 1) (.s 3)⟩,
        ⟨(some 7), none, .build [.int .u8 0, .int .u8 0, .int .u8 0, .int .u8 0] []⟩,
        ⟨(some 8), none, .call (.c (.fn 31 [] [])) [(.s 5), (.s 6), (.s 7)] [] [] [] false⟩,
        ⟨(some 4), none, .mv (.s 8)⟩])
      .ret)) }
/- cuboid/cuboidref17.Good -/
def f11 : MFun := { nt := 58, np := 2, no := 1, res := [.slot 4], body :=
  (.seq
    (.region false [
      ⟨(some 2), none, .box 0 (.s 0)⟩,
      ⟨(some 4), none, .mv (.c (.bool false))⟩])
    (.seq
      (.seq
        (.region false [
          ⟨(some 8), none, .load (some 2) (some 0) (.s 2)⟩,
          ⟨(some 9), none, .call (.c (.fn 25 [] [])) [(.s 8)] [] [] [] false⟩,
          ⟨(some 10), none, .un .not (.s 9)⟩,
          ⟨(some 11), none, .mv (.s 10)⟩,
          ⟨(some 12), (some (11, false)), .mv (.s 1)⟩,
          ⟨(some 13), (some (11, false)), .len (.s 12)⟩,
          ⟨(some 14), (some (11, false)), .bin .lss .int (.s 13) (.c (.int .i64 1))⟩,
          ⟨(some 15), none, .pick (.s 11) (.c (.bool true)) (.s 14)⟩,
          ⟨(some 16), none, .mv (.s 15)⟩,
          ⟨(some 17), (some (16, false)), .mv (.s 1)⟩,
          ⟨(some 18), (some (16, false)), .len (.s 17)⟩,
          ⟨(some 19), (some (16, false)), .bin .gtr .int (.s 18) (.c (.int .i64 12))⟩,
          ⟨(some 20), none, .pick (.s 16) (.c (.bool true)) (.s 19)⟩])
        (.cond (.s 20)
          (.seq
            (.region false [
              ⟨(some 4), none, .mv (.c (.bool false))⟩])
            .ret)
          .skip))
      (.seq
        (.region false [
          ⟨(some 5), none, .mv (.c (.bool false))⟩])
        (.seq
          (.seq
            (.region false [
              ⟨(some 6), none, .mv (.c (.int .i64 0))⟩])
            (.block 0
              (.loop [1, 2, 5, 6] [0]
                (.seq
                  (.seq
                    (.region false [
                      ⟨(some 21), none, .mv (.s 6)⟩,
                      ⟨(some 22), none, .mv (.s 1)⟩,
                      ⟨(some 23), none, .len (.s 22)⟩,
                      ⟨(some 24), none, .bin .lss .int (.s 21) (.s 23)⟩])
                    (.cond (.s 24)
                      .skip
                      (.exit 0)))
                  (.seq
                    (.block 1
                      (.seq
                        (.region false [
                          ⟨(some 27), none, .mv (.s 5)⟩,
                          ⟨(some 28), none, .mv (.s 27)⟩,
                          ⟨(some 29), (some (28, false)), .mv (.s 1)⟩,
                          ⟨(some 30), (some (28, false)), .mv (.s 6)⟩,
                          ⟨(some 31), (some (28, false)), .iaddrS 4 (.s 29) (.s 30)⟩,
                          ⟨(some 32), (some (28, false)), .load (some 4) none (.s 31)⟩,
                          ⟨(some 33), (some (28, false)), .build [.int .u8 0, .int .u8 0, .int .u8 0, .int .u8 0] []⟩,
                          ⟨(some 34), (some (28, false)), .bin .eql (.agg [some .u8, some .u8, some .u8, some .u8]) (.s 32) (.s 33)⟩,
                          ⟨(some 35), none, .pick (.s 28) (.c (.bool true)) (.s 34)⟩,
                          ⟨(some 5), none, .mv (.s 35)⟩])
                        (.seq
                          (.seq
                            (.region true [
                              ⟨(some 36), none, .load (some 2) (some 0) (.s 2)⟩,
                              ⟨(some 37), none, .mv (.s 1)⟩,
                              ⟨(some 38), none, .mv (.s 6)⟩,
                              ⟨(some 39), none, .iaddrS 4 (.s 37) (.s 38)⟩,
                              ⟨(some 40), none, .load (some 4) none (.s 39)⟩,
                              ⟨(some 41), none, .call (.c (.fn 16 [] [])) [(.s 36), (.s 40)] [] [] [] false⟩,
                              ⟨(some 42), none, .un .not (.s 41)⟩])
                            (.cond (.s 42)
                              (.seq
                                (.region false [
                                  ⟨(some 4), none, .mv (.c (.bool false))⟩])
                                .ret)
                              .skip))
                          (.seq
                            (.region false [
                              ⟨(some 7), none, .mv (.c (.int .i64 0))⟩])
                            (.block 2
                              (.loop [1, 2, 5, 6, 7] [0]
                                (.seq
                                  (.seq
                                    (.region false [
                                      ⟨(some 43), none, .mv (.s 7)⟩,
                                      ⟨(some 44), none, .mv (.s 6)⟩,
                                      ⟨(some 45), none, .bin .lss .int (.s 43) (.s 44)⟩])
                                    (.cond (.s 45)
                                      .skip
                                      (.exit 2)))
                                  (.seq
                                    (.block 3
                                      (.seq
                                        (.region true [
                                          ⟨(some 48), none, .mv (.s 1)⟩,
                                          ⟨(some 49), none, .mv (.s 7)⟩,
                                          ⟨(some 50), none, .iaddrS 4 (.s 48) (.s 49)⟩,
                                          ⟨(some 51), none, .load (some 4) none (.s 50)⟩,
                                          ⟨(some 52), none, .mv (.s 1)⟩,
                                          ⟨(some 53), none, .mv (.s 6)⟩,
                                          ⟨(some 54), none, .iaddrS 4 (.s 52) (.s 53)⟩,
                                          ⟨(some 55), none, .load (some 4) none (.s 54)⟩,
                                          ⟨(some 56), none, .bin .eql (.agg [some .u8, some .u8, some .u8, some .u8]) (.s 51) (.s 55)⟩])
                                        (.cond (.s 56)
                                          (.seq
                                            (.region false [
                                              ⟨(some 4), none, .mv (.c (.bool false))⟩])
                                            .ret)
                                          .skip)))
                                    (.region false [
                                      ⟨(some 46), none, .mv (.s 7)⟩,
                                      ⟨(some 47), none, .bin .add .int (.s 46) (.c (.int .i64 1))⟩,
                                      ⟨(some 7), none, .mv (.s 47)⟩])))))))))
                    (.region false [
                      ⟨(some 25), none, .mv (.s 6)⟩,
                      ⟨(some 26), none, .bin .add .int (.s 25) (.c (.int .i64 1))⟩,
                      ⟨(some 6), none, .mv (.s 26)⟩]))))))
          (.seq
            (.region false [
              ⟨(some 57), none, .mv (.s 5)⟩,
              ⟨(some 4), none, .mv (.s 57)⟩])
            .ret))))) }
/- cuboid/cuboidref05.Rank -/
def f15 : MFun := { nt := 16, np := 1, no := 1, res := [.slot 2], body :=
  (.seq
    (.region false [
      ⟨(some 1), none, .box 0 (.s 0)⟩,
      ⟨(some 2), none, .mv (.c (.int .i64 0))⟩])
    (.seq
      (.region false [
        ⟨(some 3), none, .mv (.c (.int .i64 0))⟩])
      (.seq
        (.seq
          (.region false [
            ⟨(some 4), none, .mv (.c (.int .i64 0))⟩])
          (.block 0
            (.loop [1, 3, 4] [0]
              (.seq
                (.seq
                  (.region false [
                    ⟨(some 5), none, .mv (.s 4)⟩,
                    ⟨(some 6), none, .bin .lss .int (.s 5) (.c (.int .i64 4))⟩])
                  (.cond (.s 6)
                    .skip
                    (.exit 0)))
                (.seq
                  (.block 1
                    (.region false [
                      ⟨(some 9), none, .mv (.s 3)⟩,
                      ⟨(some 10), none, .mv (.s 4)⟩,
                      ⟨(some 11), none, .iaddrA 4 1 (.s 1) (.s 10)⟩,
                      ⟨(some 12), none, .load none (some 0) (.s 11)⟩,
                      ⟨(some 13), none, .conv .i64 (.s 12)⟩,
                      ⟨(some 14), none, .bin .add .int (.s 9) (.s 13)⟩,
                      ⟨(some 3), none, .mv (.s 14)⟩]))
                  (.region false [
                    ⟨(some 7), none, .mv (.s 4)⟩,
                    ⟨(some 8), none, .bin .add .int (.s 7) (.c (.int .i64 1))⟩,
                    ⟨(some 4), none, .mv (.s 8)⟩]))))))
        (.seq
          (.region false [
            ⟨(some 15), none, .mv (.s 3)⟩,
            ⟨(some 2), none, .mv (.s 15)⟩])
          .ret)))) }
/- cuboid/cuboidref17.Order -/
def f22 : MFun := { nt := 34, np := 2, no := 2, res := [.slot 4], body :=
  (.seq
    (.region false [
      ⟨(some 2), none, .box 0 (.s 0)⟩,
      ⟨(some 4), none, .mv (.c .nilsl)⟩])
    (.seq
      (.seq
        (.region false [
          ⟨(some 8), none, .load (some 2) (some 0) (.s 2)⟩,
          ⟨(some 9), none, .mv (.s 1)⟩,
          ⟨(some 10), none, .call (.c (.fn 11 [] [])) [(.s 8), (.s 9)] [] [] [] false⟩,
          ⟨(some 11), none, .un .not (.s 10)⟩])
        (.cond (.s 11)
          (.seq
            (.region false [
              ⟨(some 4), none, .mv (.c .nilsl)⟩])
            .ret)
          .skip))
      (.seq
        (.region false [
          ⟨(some 5), none, .vnil 1 1⟩])
        (.seq
          (.seq
            (.region false [
              ⟨(some 6), none, .mv (.c (.int .i64 0))⟩])
            (.block 0
              (.loop [1, 5, 6] [1]
                (.seq
                  (.seq
                    (.region false [
                      ⟨(some 12), none, .mv (.s 6)⟩,
                      ⟨(some 13), none, .bin .leq .int (.s 12) (.c (.int .i64 20))⟩])
                    (.cond (.s 13)
                      .skip
                      (.exit 0)))
                  (.seq
                    (.block 1
                      (.seq
                        (.region false [
                          ⟨(some 7), none, .mv (.c (.int .i64 0))⟩])
                        (.block 2
                          (.loop [1, 5, 6, 7] [1]
                            (.seq
                              (.seq
                                (.region false [
                                  ⟨(some 16), none, .mv (.s 7)⟩,
                                  ⟨(some 17), none, .mv (.s 1)⟩,
                                  ⟨(some 18), none, .len (.s 17)⟩,
                                  ⟨(some 19), none, .bin .lss .int (.s 16) (.s 18)⟩])
                                (.cond (.s 19)
                                  .skip
                                  (.exit 2)))
                              (.seq
                                (.block 3
                                  (.seq
                                    (.region false [
                                      ⟨(some 22), none, .mv (.s 1)⟩,
                                      ⟨(some 23), none, .mv (.s 7)⟩,
                                      ⟨(some 24), none, .iaddrS 4 (.s 22) (.s 23)⟩,
                                      ⟨(some 25), none, .load (some 4) none (.s 24)⟩,
                                      ⟨(some 26), none, .call (.c (.fn 15 [] [])) [(.s 25)] [] [] [] false⟩,
                                      ⟨(some 27), none, .mv (.s 6)⟩,
                                      ⟨(some 28), none, .bin .eql .int (.s 26) (.s 27)⟩])
                                    (.cond (.s 28)
                                      (.region false [
                                        ⟨(some 29), none, .mv (.s 5)⟩,
                                        ⟨(some 30), none, .mv (.s 7)⟩,
                                        ⟨(some 31), none, .lit none [] 1 1 [.int .i64 0] [(0, 1, (.s 30))]⟩,
                                        ⟨(some 32), none, .append 8 1 1 none (.s 29) (.s 31)⟩,
                                        ⟨(some 5), none, .mv (.s 32)⟩])
                                      .skip)))
                                (.region false [
                                  ⟨(some 20), none, .mv (.s 7)⟩,
                                  ⟨(some 21), none, .bin .add .int (.s 20) (.c (.int .i64 1))⟩,
                                  ⟨(some 7), none, .mv (.s 21)⟩])))))))
                    (.region false [
                      ⟨(some 14), none, .mv (.s 6)⟩,
                      ⟨(some 15), none, .bin .add .int (.s 14) (.c (.int .i64 1))⟩,
                      ⟨(some 6), none, .mv (.s 15)⟩]))))))
          (.seq
            (.region false [
              ⟨(some 33), none, .mv (.s 5)⟩,
              ⟨(some 4), none, .mv (.s 33)⟩])
            .ret))))) }
/- cuboid/cuboidref05.Below -/
def f14 : MFun := { nt := 17, np := 2, no := 2, res := [.slot 4], body :=
  (.seq
    (.region false [
      ⟨(some 2), none, .box 0 (.s 0)⟩,
      ⟨(some 3), none, .box 1 (.s 1)⟩,
      ⟨(some 4), none, .mv (.c (.bool false))⟩])
    (.seq
      (.seq
        (.region false [
          ⟨(some 5), none, .mv (.c (.int .i64 0))⟩])
        (.block 0
          (.loop [2, 3, 5] [0, 1]
            (.seq
              (.seq
                (.region false [
                  ⟨(some 6), none, .mv (.s 5)⟩,
                  ⟨(some 7), none, .bin .lss .int (.s 6) (.c (.int .i64 4))⟩])
                (.cond (.s 7)
                  .skip
                  (.exit 0)))
              (.seq
                (.block 1
                  (.seq
                    (.region true [
                      ⟨(some 10), none, .mv (.s 5)⟩,
                      ⟨(some 11), none, .iaddrA 4 1 (.s 2) (.s 10)⟩,
                      ⟨(some 12), none, .load none (some 0) (.s 11)⟩,
                      ⟨(some 13), none, .mv (.s 5)⟩,
                      ⟨(some 14), none, .iaddrA 4 1 (.s 3) (.s 13)⟩,
                      ⟨(some 15), none, .load none (some 1) (.s 14)⟩,
                      ⟨(some 16), none, .bin .gtr .int (.s 12) (.s 15)⟩])
                    (.cond (.s 16)
                      (.seq
                        (.region false [
                          ⟨(some 4), none, .mv (.c (.bool false))⟩])
                        .ret)
                      .skip)))
                (.region false [
                  ⟨(some 8), none, .mv (.s 5)⟩,
                  ⟨(some 9), none, .bin .add .int (.s 8) (.c (.int .i64 1))⟩,
                  ⟨(some 5), none, .mv (.s 9)⟩]))))))
      (.seq
        (.region false [
          ⟨(some 4), none, .mv (.c (.bool true))⟩])
        .ret))) }
/- cuboid/cuboidref05.Cost -/
def f18 : MFun := { nt := 31, np := 2, no := 2, res := [.slot 4], body :=
  (.seq
    (.region false [
      ⟨(some 2), none, .box 0 (.s 0)⟩,
      ⟨(some 3), none, .box 1 (.s 1)⟩,
      ⟨(some 4), none, .mv (.c (.int .i64 0))⟩])
    (.seq
      (.seq
        (.region false [
          ⟨(some 7), none, .load (some 2) (some 0) (.s 2)⟩,
          ⟨(some 8), none, .load (some 4) (some 1) (.s 3)⟩,
          ⟨(some 9), none, .call (.c (.fn 16 [] [])) [(.s 7), (.s 8)] [] [] [] false⟩,
          ⟨(some 10), none, .un .not (.s 9)⟩])
        (.cond (.s 10)
          (.seq
            (.region false [
              ⟨(some 4), none, .mv (.c (.int .i64 0))⟩])
            .ret)
          .skip))
      (.seq
        (.region false [
          ⟨(some 5), none, .mv (.c (.int .i64 1))⟩])
        (.seq
          (.seq
            (.region false [
              ⟨(some 6), none, .mv (.c (.int .i64 0))⟩])
            (.block 0
              (.loop [2, 3, 5, 6] [0, 1]
                (.seq
                  (.seq
                    (.region false [
                      ⟨(some 11), none, .mv (.s 6)⟩,
                      ⟨(some 12), none, .faddr 0 (.s 2)⟩,
                      ⟨(some 13), none, .load none (some 0) (.s 12)⟩,
                      ⟨(some 14), none, .len (.s 13)⟩,
                      ⟨(some 15), none, .bin .lss .int (.s 11) (.s 14)⟩])
                    (.cond (.s 15)
                      .skip
                      (.exit 0)))
                  (.seq
                    (.block 1
                      (.region true [
                        ⟨(some 18), none, .mv (.s 5)⟩,
                        ⟨(some 19), none, .faddr 0 (.s 2)⟩,
                        ⟨(some 20), none, .load none (some 0) (.s 19)⟩,
                        ⟨(some 21), none, .mv (.s 6)⟩,
                        ⟨(some 22), none, .iaddrS 2 (.s 20) (.s 21)⟩,
                        ⟨(some 23), none, .load (some 2) none (.s 22)⟩,
                        ⟨(some 24), none, .mv (.s 6)⟩,
                        ⟨(some 25), none, .iaddrA 4 1 (.s 3) (.s 24)⟩,
                        ⟨(some 26), none, .load none (some 1) (.s 25)⟩,
                        ⟨(some 27), none, .conv .i64 (.s 26)⟩,
                        ⟨(some 28), none, .call (.c (.fn 33 [] [])) [(.s 23), (.s 27)] [] [] [] false⟩,
                        ⟨(some 29), none, .bin .mul .int (.s 18) (.s 28)⟩,
                        ⟨(some 5), none, .mv (.s 29)⟩]))
                    (.region false [
                      ⟨(some 16), none, .mv (.s 6)⟩,
                      ⟨(some 17), none, .bin .add .int (.s 16) (.c (.int .i64 1))⟩,
                      ⟨(some 6), none, .mv (.s 17)⟩]))))))
          (.seq
            (.region false [
              ⟨(some 30), none, .mv (.s 5)⟩,
              ⟨(some 4), none, .mv (.s 30)⟩])
            .ret))))) }
/- cuboid/cuboidref17.cheapest -/
def f37 : MFun := { nt := 49, np := 4, no := 2, res := [.slot 8], body :=
  (.seq
    (.region false [
      ⟨(some 4), none, .box 0 (.s 0)⟩,
      ⟨(some 6), none, .box 1 (.s 2)⟩,
      ⟨(some 8), none, .mv (.c (.int .i64 0))⟩])
    (.seq
      (.region false [
        ⟨(some 9), none, .mv (.c (.int .i64 (-1)))⟩])
      (.seq
        (.seq
          (.region false [
            ⟨(some 10), none, .mv (.c (.int .i64 0))⟩])
          (.block 0
            (.loop [1, 3, 4, 6, 9, 10] [0, 1]
              (.seq
                (.seq
                  (.region false [
                    ⟨(some 11), none, .mv (.s 10)⟩,
                    ⟨(some 12), none, .mv (.s 1)⟩,
                    ⟨(some 13), none, .len (.s 12)⟩,
                    ⟨(some 14), none, .bin .lss .int (.s 11) (.s 13)⟩])
                  (.cond (.s 14)
                    .skip
                    (.exit 0)))
                (.seq
                  (.block 1
                    (.seq
                      (.region true [
                        ⟨(some 17), none, .mv (.s 10)⟩,
                        ⟨(some 18), none, .mv (.s 3)⟩,
                        ⟨(some 19), none, .bin .neq .int (.s 17) (.s 18)⟩,
                        ⟨(some 20), none, .mv (.s 19)⟩,
                        ⟨(some 21), (some (20, true)), .mv (.s 1)⟩,
                        ⟨(some 22), (some (20, true)), .mv (.s 10)⟩,
                        ⟨(some 23), (some (20, true)), .iaddrS 4 (.s 21) (.s 22)⟩,
                        ⟨(some 24), (some (20, true)), .load (some 4) none (.s 23)⟩,
                        ⟨(some 25), (some (20, true)), .load (some 4) (some 1) (.s 6)⟩,
                        ⟨(some 26), (some (20, true)), .call (.c (.fn 14 [] [])) [(.s 24), (.s 25)] [] [] [] false⟩,
                        ⟨(some 27), none, .pick (.s 20) (.s 26) (.c (.bool false))⟩,
                        ⟨(some 28), none, .mv (.s 27)⟩,
                        ⟨(some 29), (some (28, true)), .mv (.s 9)⟩,
                        ⟨(some 30), (some (28, true)), .bin .lss .int (.s 29) (.c (.int .i64 0))⟩,
                        ⟨(some 31), (some (28, true)), .mv (.s 30)⟩,
                        ⟨(some 32), (some (31, false)), .load (some 2) (some 0) (.s 4)⟩,
                        ⟨(some 33), (some (31, false)), .mv (.s 1)⟩,
                        ⟨(some 34), (some (31, false)), .mv (.s 10)⟩,
                        ⟨(some 35), (some (31, false)), .iaddrS 4 (.s 33) (.s 34)⟩,
                        ⟨(some 36), (some (31, false)), .load (some 4) none (.s 35)⟩,
                        ⟨(some 37), (some (31, false)), .call (.c (.fn 18 [] [])) [(.s 32), (.s 36)] [] [] [] false⟩,
                        ⟨(some 38), (some (31, false)), .load (some 2) (some 0) (.s 4)⟩,
                        ⟨(some 39), (some (31, false)), .mv (.s 1)⟩,
                        ⟨(some 40), (some (31, false)), .mv (.s 9)⟩,
                        ⟨(some 41), (some (31, false)), .iaddrS 4 (.s 39) (.s 40)⟩,
                        ⟨(some 42), (some (31, false)), .load (some 4) none (.s 41)⟩,
                        ⟨(some 43), (some (31, false)), .call (.c (.fn 18 [] [])) [(.s 38), (.s 42)] [] [] [] false⟩,
                        ⟨(some 44), (some (31, false)), .bin .lss .int (.s 37) (.s 43)⟩,
                        ⟨(some 45), (some (28, true)), .pick (.s 31) (.c (.bool true)) (.s 44)⟩,
                        ⟨(some 46), none, .pick (.s 28) (.s 45) (.c (.bool false))⟩])
                      (.cond (.s 46)
                        (.region false [
                          ⟨(some 47), none, .mv (.s 10)⟩,
                          ⟨(some 9), none, .mv (.s 47)⟩])
                        .skip)))
                  (.region false [
                    ⟨(some 15), none, .mv (.s 10)⟩,
                    ⟨(some 16), none, .bin .add .int (.s 15) (.c (.int .i64 1))⟩,
                    ⟨(some 10), none, .mv (.s 16)⟩]))))))
        (.seq
          (.region false [
            ⟨(some 48), none, .mv (.s 9)⟩,
            ⟨(some 8), none, .mv (.s 48)⟩])
          .ret)))) }
/- cuboid/cuboidref17.Source -/
def f23 : MFun := { nt := 29, np := 3, no := 1, res := [.slot 6], body :=
  (.seq
    (.region false [
      ⟨(some 3), none, .box 0 (.s 0)⟩,
      ⟨(some 6), none, .mv (.c (.int .i64 0))⟩])
    (.seq
      (.seq
        (.region false [
          ⟨(some 7), none, .load (some 2) (some 0) (.s 3)⟩,
          ⟨(some 8), none, .mv (.s 1)⟩,
          ⟨(some 9), none, .call (.c (.fn 11 [] [])) [(.s 7), (.s 8)] [] [] [] false⟩,
          ⟨(some 10), none, .un .not (.s 9)⟩,
          ⟨(some 11), none, .mv (.s 10)⟩,
          ⟨(some 12), (some (11, false)), .mv (.s 2)⟩,
          ⟨(some 13), (some (11, false)), .bin .lss .int (.s 12) (.c (.int .i64 0))⟩,
          ⟨(some 14), none, .pick (.s 11) (.c (.bool true)) (.s 13)⟩,
          ⟨(some 15), none, .mv (.s 14)⟩,
          ⟨(some 16), (some (15, false)), .mv (.s 2)⟩,
          ⟨(some 17), (some (15, false)), .mv (.s 1)⟩,
          ⟨(some 18), (some (15, false)), .len (.s 17)⟩,
          ⟨(some 19), (some (15, false)), .bin .geq .int (.s 16) (.s 18)⟩,
          ⟨(some 20), none, .pick (.s 15) (.c (.bool true)) (.s 19)⟩])
        (.cond (.s 20)
          (.seq
            (.region false [
              ⟨(some 6), none, .mv (.c (.int .i64 (-1)))⟩])
            .ret)
          .skip))
      (.seq
        (.region true [
          ⟨(some 21), none, .load (some 2) (some 0) (.s 3)⟩,
          ⟨(some 22), none, .mv (.s 1)⟩,
          ⟨(some 23), none, .mv (.s 1)⟩,
          ⟨(some 24), none, .mv (.s 2)⟩,
          ⟨(some 25), none, .iaddrS 4 (.s 23) (.s 24)⟩,
          ⟨(some 26), none, .load (some 4) none (.s 25)⟩,
          ⟨(some 27), none, .mv (.s 2)⟩,
          ⟨(some 28), none, .call (.c (.fn 37 [] [])) [(.s 21), (.s 22), (.s 26), (.s 27)] [] [] [] false⟩,
          ⟨(some 6), none, .mv (.s 28)⟩])
        .ret))) }
/- cuboid/cuboidref17.Pick -/
def f24 : MFun := { nt := 21, np := 3, no := 2, res := [.slot 6], body :=
  (.seq
    (.region false [
      ⟨(some 3), none, .box 0 (.s 0)⟩,
      ⟨(some 5), none, .box 1 (.s 2)⟩,
      ⟨(some 6), none, .mv (.c (.int .i64 0))⟩])
    (.seq
      (.seq
        (.region false [
          ⟨(some 7), none, .load (some 2) (some 0) (.s 3)⟩,
          ⟨(some 8), none, .mv (.s 1)⟩,
          ⟨(some 9), none, .call (.c (.fn 11 [] [])) [(.s 7), (.s 8)] [] [] [] false⟩,
          ⟨(some 10), none, .un .not (.s 9)⟩,
          ⟨(some 11), none, .mv (.s 10)⟩,
          ⟨(some 12), (some (11, false)), .load (some 2) (some 0) (.s 3)⟩,
          ⟨(some 13), (some (11, false)), .load (some 4) (some 1) (.s 5)⟩,
          ⟨(some 14), (some (11, false)), .call (.c (.fn 16 [] [])) [(.s 12), (.s 13)] [] [] [] false⟩,
          ⟨(some 15), (some (11, false)), .un .not (.s 14)⟩,
          ⟨(some 16), none, .pick (.s 11) (.c (.bool true)) (.s 15)⟩])
        (.cond (.s 16)
          (.seq
            (.region false [
              ⟨(some 6), none, .mv (.c (.int .i64 (-1)))⟩])
            .ret)
          .skip))
      (.seq
        (.region false [
          ⟨(some 17), none, .load (some 2) (some 0) (.s 3)⟩,
          ⟨(some 18), none, .mv (.s 1)⟩,
          ⟨(some 19), none, .load (some 4) (some 1) (.s 5)⟩,
          ⟨(some 20), none, .call (.c (.fn 37 [] [])) [(.s 17), (.s 18), (.s 19), (.c (.int .i64 (-1)))] [] [] [] false⟩,
          ⟨(some 6), none, .mv (.s 20)⟩])
        .ret))) }
/- cuboid/cuboidlaw17.told -/
def f10 : MFun := { nt := 47, np := 4, no := 2, res := [.slot 8], body :=
  (.seq
    (.region false [
      ⟨(some 4), none, .box 0 (.s 0)⟩,
      ⟨(some 7), none, .box 1 (.s 3)⟩,
      ⟨(some 8), none, .mv (.c (.bool false))⟩])
    (.seq
      (.region true [
        ⟨(some 9), none, .load (some 2) (some 0) (.s 4)⟩,
        ⟨(some 10), none, .mv (.s 1)⟩,
        ⟨(some 11), none, .call (.c (.fn 21 [] [])) [(.s 9), (.s 10)] [] [] [] false⟩,
        ⟨(some 12), none, .load (some 2) (some 0) (.s 4)⟩,
        ⟨(some 13), none, .mv (.s 1)⟩,
        ⟨(some 14), none, .call (.c (.fn 11 [] [])) [(.s 12), (.s 13)] [] [] [] false⟩,
        ⟨(some 15), none, .bin .eql .bool (.s 11) (.s 14)⟩,
        ⟨(some 16), none, .mv (.s 15)⟩,
        ⟨(some 17), (some (16, true)), .load (some 2) (some 0) (.s 4)⟩,
        ⟨(some 18), (some (16, true)), .mv (.s 1)⟩,
        ⟨(some 19), (some (16, true)), .call (.c (.fn 12 [] [])) [(.s 17), (.s 18)] [] [] [] true⟩,
        ⟨(some 20), (some (16, true)), .load (some 2) (some 0) (.s 4)⟩,
        ⟨(some 21), (some (16, true)), .mv (.s 1)⟩,
        ⟨(some 22), (some (16, true)), .call (.c (.fn 22 [] [])) [(.s 20), (.s 21)] [] [] [] true⟩,
        ⟨(some 23), (some (16, true)), .call (.c (.fn 20 [] [])) [(.s 19), (.s 22)] [] [] [] false⟩,
        ⟨(some 24), none, .pick (.s 16) (.s 23) (.c (.bool false))⟩,
        ⟨(some 25), none, .mv (.s 24)⟩,
        ⟨(some 26), (some (25, true)), .load (some 2) (some 0) (.s 4)⟩,
        ⟨(some 27), (some (25, true)), .mv (.s 1)⟩,
        ⟨(some 28), (some (25, true)), .mv (.s 2)⟩,
        ⟨(some 29), (some (25, true)), .call (.c (.fn 13 [] [])) [(.s 26), (.s 27), (.s 28)] [] [] [] false⟩,
        ⟨(some 30), (some (25, true)), .load (some 2) (some 0) (.s 4)⟩,
        ⟨(some 31), (some (25, true)), .mv (.s 1)⟩,
        ⟨(some 32), (some (25, true)), .mv (.s 2)⟩,
        ⟨(some 33), (some (25, true)), .call (.c (.fn 23 [] [])) [(.s 30), (.s 31), (.s 32)] [] [] [] false⟩,
        ⟨(some 34), (some (25, true)), .bin .eql .int (.s 29) (.s 33)⟩,
        ⟨(some 35), none, .pick (.s 25) (.s 34) (.c (.bool false))⟩,
        ⟨(some 36), none, .mv (.s 35)⟩,
        ⟨(some 37), (some (36, true)), .load (some 2) (some 0) (.s 4)⟩,
        ⟨(some 38), (some (36, true)), .mv (.s 1)⟩,
        ⟨(some 39), (some (36, true)), .load (some 4) (some 1) (.s 7)⟩,
        ⟨(some 40), (some (36, true)), .call (.c (.fn 17 [] [])) [(.s 37), (.s 38), (.s 39)] [] [] [] false⟩,
        ⟨(some 41), (some (36, true)), .load (some 2) (some 0) (.s 4)⟩,
        ⟨(some 42), (some (36, true)), .mv (.s 1)⟩,
        ⟨(some 43), (some (36, true)), .load (some 4) (some 1) (.s 7)⟩,
        ⟨(some 44), (some (36, true)), .call (.c (.fn 24 [] [])) [(.s 41), (.s 42), (.s 43)] [] [] [] false⟩,
        ⟨(some 45), (some (36, true)), .bin .eql .int (.s 40) (.s 44)⟩,
        ⟨(some 46), none, .pick (.s 36) (.s 45) (.c (.bool false))⟩,
        ⟨(some 8), none, .mv (.s 46)⟩])
      .ret)) }
/- cuboid/cuboidlaw17.RouteTells -/
def f3 : MFun := { nt := 58, np := 1, no := 2, res := [.slot 2], body :=
  (.seq
    (.region false [
      ⟨(some 1), none, .box 0 (.s 0)⟩,
      ⟨(some 2), none, .mv (.c (.bool false))⟩])
    (.seq
      (.seq
        (.region false [
          ⟨(some 4), none, .faddr 0 (.s 1)⟩,
          ⟨(some 5), none, .load (some 2) (some 0) (.s 4)⟩,
          ⟨(some 6), none, .call (.c (.fn 8 [] [])) [(.s 5)] [] [] [] false⟩,
          ⟨(some 7), none, .un .not (.s 6)⟩,
          ⟨(some 8), none, .mv (.s 7)⟩,
          ⟨(some 9), (some (8, false)), .faddr 2 (.s 1)⟩,
          ⟨(some 10), (some (8, false)), .load none (some 0) (.s 9)⟩,
          ⟨(some 11), (some (8, false)), .len (.s 10)⟩,
          ⟨(some 12), (some (8, false)), .bin .gtr .int (.s 11) (.c (.int .i64 30))⟩,
          ⟨(some 13), none, .pick (.s 8) (.c (.bool true)) (.s 12)⟩])
        (.cond (.s 13)
          (.seq
            (.region false [
              ⟨(some 14), none, .call (.c (.fn 9 [] [])) [] [] [] [] false⟩,
              ⟨(some 2), none, .mv (.s 14)⟩])
            .ret)
          .skip))
      (.seq
        (.seq
          (.region false [
            ⟨(some 3), none, .mv (.c (.int .i64 (-1)))⟩])
          (.block 0
            (.loop [1, 3] [0]
              (.seq
                (.seq
                  (.region false [
                    ⟨(some 15), none, .mv (.s 3)⟩,
                    ⟨(some 16), none, .faddr 2 (.s 1)⟩,
                    ⟨(some 17), none, .load none (some 0) (.s 16)⟩,
                    ⟨(some 18), none, .len (.s 17)⟩,
                    ⟨(some 19), none, .bin .leq .int (.s 15) (.s 18)⟩])
                  (.cond (.s 19)
                    .skip
                    (.exit 0)))
                (.seq
                  (.block 1
                    (.seq
                      (.region false [
                        ⟨(some 22), none, .faddr 0 (.s 1)⟩,
                        ⟨(some 23), none, .load (some 2) (some 0) (.s 22)⟩,
                        ⟨(some 24), none, .faddr 2 (.s 1)⟩,
                        ⟨(some 25), none, .load none (some 0) (.s 24)⟩,
                        ⟨(some 26), none, .mv (.s 3)⟩,
                        ⟨(some 27), none, .faddr 4 (.s 1)⟩,
                        ⟨(some 28), none, .load (some 4) (some 0) (.s 27)⟩,
                        ⟨(some 29), none, .call (.c (.fn 10 [] [])) [(.s 23), (.s 25), (.s 26), (.s 28)] [] [] [] false⟩,
                        ⟨(some 30), none, .un .not (.s 29)⟩])
                      (.cond (.s 30)
                        (.seq
                          (.region false [
                            ⟨(some 2), none, .mv (.c (.bool false))⟩])
                          .ret)
                        .skip)))
                  (.region false [
                    ⟨(some 20), none, .mv (.s 3)⟩,
                    ⟨(some 21), none, .bin .add .int (.s 20) (.c (.int .i64 1))⟩,
                    ⟨(some 3), none, .mv (.s 21)⟩]))))))
        (.seq
          (.region true [
            ⟨(some 31), none, .faddr 0 (.s 1)⟩,
            ⟨(some 32), none, .load (some 2) (some 0) (.s 31)⟩,
            ⟨(some 33), none, .faddr 2 (.s 1)⟩,
            ⟨(some 34), none, .load none (some 0) (.s 33)⟩,
            ⟨(some 35), none, .faddr 3 (.s 1)⟩,
            ⟨(some 36), none, .load none (some 0) (.s 35)⟩,
            ⟨(some 37), none, .faddr 4 (.s 1)⟩,
            ⟨(some 38), none, .load (some 4) (some 0) (.s 37)⟩,
            ⟨(some 39), none, .call (.c (.fn 10 [] [])) [(.s 32), (.s 34), (.s 36), (.s 38)] [] [] [] false⟩,
            ⟨(some 40), none, .mv (.s 39)⟩,
            ⟨(some 41), (some (40, true)), .faddr 0 (.s 1)⟩,
            ⟨(some 42), (some (40, true)), .load (some 2) (some 0) (.s 41)⟩,
            ⟨(some 43), (some (40, true)), .lit (some 1) [] 0 4 [.int .u8 0, .int .u8 0, .int .u8 0, .int .u8 0] []⟩,
            ⟨(some 44), (some (40, true)), .faddr 2 (.s 1)⟩,
            ⟨(some 45), (some (40, true)), .load none (some 0) (.s 44)⟩,
            ⟨(some 46), (some (40, true)), .append 4 4 1 none (.s 43) (.s 45)⟩,
            ⟨(some 47), (some (40, true)), .faddr 4 (.s 1)⟩,
            ⟨(some 48), (some (40, true)), .load (some 4) (some 0) (.s 47)⟩,
            ⟨(some 49), (some (40, true)), .lit none [] 1 4 [.int .u8 0, .int .u8 0, .int .u8 0, .int .u8 0] [(0, 4, (.s 48))]⟩,
            ⟨(some 50), (some (40, true)), .append 4 4 1 none (.s 46) (.s 49)⟩,
            ⟨(some 51), (some (40, true)), .faddr 4 (.s 1)⟩,
            ⟨(some 52), (some (40, true)), .load (some 4) (some 0) (.s 51)⟩,
            ⟨(some 53), (some (40, true)), .call (.c (.fn 10 [] [])) [(.s 42), (.s 50), (.c (.int .i64 0)), (.s 52)] [] [1] [] false⟩,
            ⟨(some 54), none, .pick (.s 40) (.s 53) (.c (.bool false))⟩,
            ⟨(some 55), none, .mv (.s 54)⟩,
            ⟨(some 56), (some (55, true)), .call (.c (.fn 9 [] [])) [] [] [] [] false⟩,
            ⟨(some 57), none, .pick (.s 55) (.s 56) (.c (.bool false))⟩,
            ⟨(some 2), none, .mv (.s 57)⟩])
          .ret)))) }
/- cuboid/cuboidlaw17.RouteOrder -/
def f4 : MFun := { nt := 142, np := 2, no := 2, res := [.slot 4], body :=
  (.seq
    (.region false [
      ⟨(some 2), none, .box 0 (.s 0)⟩,
      ⟨(some 4), none, .mv (.c (.bool false))⟩])
    (.seq
      (.seq
        (.region false [
          ⟨(some 11), none, .load (some 2) (some 0) (.s 2)⟩,
          ⟨(some 12), none, .call (.c (.fn 8 [] [])) [(.s 11)] [] [] [] false⟩,
          ⟨(some 13), none, .un .not (.s 12)⟩,
          ⟨(some 14), none, .mv (.s 13)⟩,
          ⟨(some 15), (some (14, false)), .load (some 2) (some 0) (.s 2)⟩,
          ⟨(some 16), (some (14, false)), .mv (.s 1)⟩,
          ⟨(some 17), (some (14, false)), .call (.c (.fn 11 [] [])) [(.s 15), (.s 16)] [] [] [] false⟩,
          ⟨(some 18), (some (14, false)), .un .not (.s 17)⟩,
          ⟨(some 19), none, .pick (.s 14) (.c (.bool true)) (.s 18)⟩])
        (.cond (.s 19)
          (.seq
            (.region false [
              ⟨(some 20), none, .call (.c (.fn 9 [] [])) [] [] [] [] false⟩,
              ⟨(some 4), none, .mv (.s 20)⟩])
            .ret)
          .skip))
      (.seq
        (.region false [
          ⟨(some 21), none, .load (some 2) (some 0) (.s 2)⟩,
          ⟨(some 22), none, .mv (.s 1)⟩,
          ⟨(some 23), none, .call (.c (.fn 12 [] [])) [(.s 21), (.s 22)] [] [] [] true⟩,
          ⟨(some 5), none, .mv (.s 23)⟩])
        (.seq
          (.seq
            (.region false [
              ⟨(some 24), none, .mv (.s 5)⟩,
              ⟨(some 25), none, .len (.s 24)⟩,
              ⟨(some 26), none, .mv (.s 1)⟩,
              ⟨(some 27), none, .len (.s 26)⟩,
              ⟨(some 28), none, .bin .neq .int (.s 25) (.s 27)⟩])
            (.cond (.s 28)
              (.seq
                (.region false [
                  ⟨(some 4), none, .mv (.c (.bool false))⟩])
                .ret)
              .skip))
          (.seq
            (.region false [
              ⟨(some 29), none, .mv (.s 1)⟩,
              ⟨(some 30), none, .len (.s 29)⟩,
              ⟨(some 31), none, .make 1 8 1 [.int .i64 0] (.s 30) (.s 30)⟩,
              ⟨(some 6), none, .mv (.s 31)⟩])
            (.seq
              (.seq
                (.region false [
                  ⟨(some 7), none, .mv (.c (.int .i64 0))⟩])
                (.block 0
                  (.loop [1, 2, 5, 6, 7] [0, 1]
                    (.seq
                      (.seq
                        (.region false [
                          ⟨(some 32), none, .mv (.s 7)⟩,
                          ⟨(some 33), none, .mv (.s 5)⟩,
                          ⟨(some 34), none, .len (.s 33)⟩,
                          ⟨(some 35), none, .bin .lss .int (.s 32) (.s 34)⟩])
                        (.cond (.s 35)
                          .skip
                          (.exit 0)))
                      (.seq
                        (.block 1
                          (.seq
                            (.seq
                              (.region false [
                                ⟨(some 38), none, .mv (.s 5)⟩,
                                ⟨(some 39), none, .mv (.s 7)⟩,
                                ⟨(some 40), none, .iaddrS 1 (.s 38) (.s 39)⟩,
                                ⟨(some 41), none, .load none none (.s 40)⟩,
                                ⟨(some 42), none, .bin .lss .int (.s 41) (.c (.int .i64 0))⟩,
                                ⟨(some 43), none, .mv (.s 42)⟩,
                                ⟨(some 44), (some (43, false)), .mv (.s 5)⟩,
                                ⟨(some 45), (some (43, false)), .mv (.s 7)⟩,
                                ⟨(some 46), (some (43, false)), .iaddrS 1 (.s 44) (.s 45)⟩,
                                ⟨(some 47), (some (43, false)), .load none none (.s 46)⟩,
                                ⟨(some 48), (some (43, false)), .mv (.s 1)⟩,
                                ⟨(some 49), (some (43, false)), .len (.s 48)⟩,
                                ⟨(some 50), (some (43, false)), .bin .geq .int (.s 47) (.s 49)⟩,
                                ⟨(some 51), none, .pick (.s 43) (.c (.bool true)) (.s 50)⟩,
                                ⟨(some 52), none, .mv (.s 51)⟩,
                                ⟨(some 53), (some (52, false)), .mv (.s 6)⟩,
                                ⟨(some 54), (some (52, false)), .mv (.s 5)⟩,
                                ⟨(some 55), (some (52, false)), .mv (.s 7)⟩,
                                ⟨(some 56), (some (52, false)), .iaddrS 1 (.s 54) (.s 55)⟩,
                                ⟨(some 57), (some (52, false)), .load none none (.s 56)⟩,
                                ⟨(some 58), (some (52, false)), .iaddrS 1 (.s 53) (.s 57)⟩,
                                ⟨(some 59), (some (52, false)), .load none (some 1) (.s 58)⟩,
                                ⟨(some 60), (some (52, false)), .bin .neq .int (.s 59) (.c (.int .i64 0))⟩,
                                ⟨(some 61), none, .pick (.s 52) (.c (.bool true)) (.s 60)⟩])
                              (.cond (.s 61)
                                (.seq
                                  (.region false [
                                    ⟨(some 4), none, .mv (.c (.bool false))⟩])
                                  .ret)
                                .skip))
                            (.region false [
                              ⟨(some 62), none, .mv (.s 6)⟩,
                              ⟨(some 63), none, .mv (.s 5)⟩,
                              ⟨(some 64), none, .mv (.s 7)⟩,
                              ⟨(some 65), none, .iaddrS 1 (.s 63) (.s 64)⟩,
                              ⟨(some 66), none, .load none none (.s 65)⟩,
                              ⟨(some 67), none, .mv (.s 7)⟩,
                              ⟨(some 68), none, .bin .add .int (.s 67) (.c (.int .i64 1))⟩,
                              ⟨(some 69), none, .iaddrS 1 (.s 62) (.s 66)⟩,
                              ⟨none, none, .store 1 1 [] (.s 69) (.s 68)⟩])))
                        (.region false [
                          ⟨(some 36), none, .mv (.s 7)⟩,
                          ⟨(some 37), none, .bin .add .int (.s 36) (.c (.int .i64 1))⟩,
                          ⟨(some 7), none, .mv (.s 37)⟩]))))))
              (.seq
                (.seq
                  (.region false [
                    ⟨(some 8), none, .mv (.c (.int .i64 0))⟩])
                  (.block 2
                    (.loop [1, 2, 6, 8] [0, 1]
                      (.seq
                        (.seq
                          (.region false [
                            ⟨(some 70), none, .mv (.s 8)⟩,
                            ⟨(some 71), none, .mv (.s 1)⟩,
                            ⟨(some 72), none, .len (.s 71)⟩,
                            ⟨(some 73), none, .bin .lss .int (.s 70) (.s 72)⟩])
                          (.cond (.s 73)
                            .skip
                            (.exit 2)))
                        (.seq
                          (.block 3
                            (.seq
                              (.region false [
                                ⟨(some 76), none, .load (some 2) (some 0) (.s 2)⟩,
                                ⟨(some 77), none, .mv (.s 1)⟩,
                                ⟨(some 78), none, .mv (.s 8)⟩,
                                ⟨(some 79), none, .call (.c (.fn 13 [] [])) [(.s 76), (.s 77), (.s 78)] [] [] [] false⟩,
                                ⟨(some 9), none, .mv (.s 79)⟩])
                              (.seq
                                (.seq
                                  (.region true [
                                    ⟨(some 80), none, .mv (.s 9)⟩,
                                    ⟨(some 81), none, .bin .lss .int (.s 80) (.c (.int .i64 0))⟩,
                                    ⟨(some 82), none, .mv (.s 1)⟩,
                                    ⟨(some 83), none, .mv (.s 8)⟩,
                                    ⟨(some 84), none, .iaddrS 4 (.s 82) (.s 83)⟩,
                                    ⟨(some 85), none, .load (some 4) none (.s 84)⟩,
                                    ⟨(some 86), none, .build [.int .u8 0, .int .u8 0, .int .u8 0, .int .u8 0] []⟩,
                                    ⟨(some 87), none, .bin .eql (.agg [some .u8, some .u8, some .u8, some .u8]) (.s 85) (.s 86)⟩,
                                    ⟨(some 88), none, .bin .neq .bool (.s 81) (.s 87)⟩,
                                    ⟨(some 89), none, .mv (.s 88)⟩,
                                    ⟨(some 90), (some (89, false)), .mv (.s 9)⟩,
                                    ⟨(some 91), (some (89, false)), .mv (.s 1)⟩,
                                    ⟨(some 92), (some (89, false)), .len (.s 91)⟩,
                                    ⟨(some 93), (some (89, false)), .bin .geq .int (.s 90) (.s 92)⟩,
                                    ⟨(some 94), none, .pick (.s 89) (.c (.bool true)) (.s 93)⟩,
                                    ⟨(some 95), none, .mv (.s 94)⟩,
                                    ⟨(some 96), (some (95, false)), .mv (.s 9)⟩,
                                    ⟨(some 97), (some (95, false)), .bin .geq .int (.s 96) (.c (.int .i64 0))⟩,
                                    ⟨(some 98), (some (95, false)), .mv (.s 97)⟩,
                                    ⟨(some 99), (some (98, true)), .mv (.s 6)⟩,
                                    ⟨(some 100), (some (98, true)), .mv (.s 9)⟩,
                                    ⟨(some 101), (some (98, true)), .iaddrS 1 (.s 99) (.s 100)⟩,
                                    ⟨(some 102), (some (98, true)), .load none (some 1) (.s 101)⟩,
                                    ⟨(some 103), (some (98, true)), .mv (.s 6)⟩,
                                    ⟨(some 104), (some (98, true)), .mv (.s 8)⟩,
                                    ⟨(some 105), (some (98, true)), .iaddrS 1 (.s 103) (.s 104)⟩,
                                    ⟨(some 106), (some (98, true)), .load none (some 1) (.s 105)⟩,
                                    ⟨(some 107), (some (98, true)), .bin .geq .int (.s 102) (.s 106)⟩,
                                    ⟨(some 108), (some (95, false)), .pick (.s 98) (.s 107) (.c (.bool false))⟩,
                                    ⟨(some 109), none, .pick (.s 95) (.c (.bool true)) (.s 108)⟩])
                                  (.cond (.s 109)
                                    (.seq
                                      (.region false [
                                        ⟨(some 4), none, .mv (.c (.bool false))⟩])
                                      .ret)
                                    .skip))
                                (.seq
                                  (.region false [
                                    ⟨(some 10), none, .mv (.c (.int .i64 0))⟩])
                                  (.block 4
                                    (.loop [1, 2, 6, 8, 10] [0, 1]
                                      (.seq
                                        (.seq
                                          (.region false [
                                            ⟨(some 110), none, .mv (.s 10)⟩,
                                            ⟨(some 111), none, .mv (.s 1)⟩,
                                            ⟨(some 112), none, .len (.s 111)⟩,
                                            ⟨(some 113), none, .bin .lss .int (.s 110) (.s 112)⟩])
                                          (.cond (.s 113)
                                            .skip
                                            (.exit 4)))
                                        (.seq
                                          (.block 5
                                            (.seq
                                              (.region true [
                                                ⟨(some 116), none, .mv (.s 10)⟩,
                                                ⟨(some 117), none, .mv (.s 8)⟩,
                                                ⟨(some 118), none, .bin .neq .int (.s 116) (.s 117)⟩,
                                                ⟨(some 119), none, .mv (.s 118)⟩,
                                                ⟨(some 120), (some (119, true)), .mv (.s 1)⟩,
                                                ⟨(some 121), (some (119, true)), .mv (.s 10)⟩,
                                                ⟨(some 122), (some (119, true)), .iaddrS 4 (.s 120) (.s 121)⟩,
                                                ⟨(some 123), (some (119, true)), .load (some 4) none (.s 122)⟩,
                                                ⟨(some 124), (some (119, true)), .mv (.s 1)⟩,
                                                ⟨(some 125), (some (119, true)), .mv (.s 8)⟩,
                                                ⟨(some 126), (some (119, true)), .iaddrS 4 (.s 124) (.s 125)⟩,
                                                ⟨(some 127), (some (119, true)), .load (some 4) none (.s 126)⟩,
                                                ⟨(some 128), (some (119, true)), .call (.c (.fn 14 [] [])) [(.s 123), (.s 127)] [] [] [] false⟩,
                                                ⟨(some 129), none, .pick (.s 119) (.s 128) (.c (.bool false))⟩,
                                                ⟨(some 130), none, .mv (.s 129)⟩,
                                                ⟨(some 131), (some (130, true)), .mv (.s 6)⟩,
                                                ⟨(some 132), (some (130, true)), .mv (.s 10)⟩,
                                                ⟨(some 133), (some (130, true)), .iaddrS 1 (.s 131) (.s 132)⟩,
                                                ⟨(some 134), (some (130, true)), .load none (some 1) (.s 133)⟩,
                                                ⟨(some 135), (some (130, true)), .mv (.s 6)⟩,
                                                ⟨(some 136), (some (130, true)), .mv (.s 8)⟩,
                                                ⟨(some 137), (some (130, true)), .iaddrS 1 (.s 135) (.s 136)⟩,
                                                ⟨(some 138), (some (130, true)), .load none (some 1) (.s 137)⟩,
                                                ⟨(some 139), (some (130, true)), .bin .geq .int (.s 134) (.s 138)⟩,
                                                ⟨(some 140), none, .pick (.s 130) (.s 139) (.c (.bool false))⟩])
                                              (.cond (.s 140)
                                                (.seq
                                                  (.region false [
                                                    ⟨(some 4), none, .mv (.c (.bool false))⟩])
                                                  .ret)
                                                .skip)))
                                          (.region false [
                                            ⟨(some 114), none, .mv (.s 10)⟩,
                                            ⟨(some 115), none, .bin .add .int (.s 114) (.c (.int .i64 1))⟩,
                                            ⟨(some 10), none, .mv (.s 115)⟩])))))))))
                          (.region false [
                            ⟨(some 74), none, .mv (.s 8)⟩,
                            ⟨(some 75), none, .bin .add .int (.s 74) (.c (.int .i64 1))⟩,
                            ⟨(some 8), none, .mv (.s 75)⟩]))))))
                (.seq
                  (.region false [
                    ⟨(some 141), none, .call (.c (.fn 9 [] [])) [] [] [] [] false⟩,
                    ⟨(some 4), none, .mv (.s 141)⟩])
                  .ret)))))))) }
/- cuboid/cuboidlaw17.RouteReach -/
def f5 : MFun := { nt := 79, np := 2, no := 1, res := [.slot 4], body :=
  (.seq
    (.region false [
      ⟨(some 2), none, .box 0 (.s 0)⟩,
      ⟨(some 4), none, .mv (.c (.bool false))⟩])
    (.seq
      (.seq
        (.region false [
          ⟨(some 9), none, .load (some 2) (some 0) (.s 2)⟩,
          ⟨(some 10), none, .call (.c (.fn 8 [] [])) [(.s 9)] [] [] [] false⟩,
          ⟨(some 11), none, .un .not (.s 10)⟩,
          ⟨(some 12), none, .mv (.s 11)⟩,
          ⟨(some 13), (some (12, false)), .load (some 2) (some 0) (.s 2)⟩,
          ⟨(some 14), (some (12, false)), .mv (.s 1)⟩,
          ⟨(some 15), (some (12, false)), .call (.c (.fn 11 [] [])) [(.s 13), (.s 14)] [] [] [] false⟩,
          ⟨(some 16), (some (12, false)), .un .not (.s 15)⟩,
          ⟨(some 17), none, .pick (.s 12) (.c (.bool true)) (.s 16)⟩])
        (.cond (.s 17)
          (.seq
            (.region false [
              ⟨(some 18), none, .call (.c (.fn 9 [] [])) [] [] [] [] false⟩,
              ⟨(some 4), none, .mv (.s 18)⟩])
            .ret)
          .skip))
      (.seq
        (.seq
          (.region false [
            ⟨(some 5), none, .mv (.c (.int .i64 0))⟩])
          (.block 0
            (.loop [1, 2, 5] [0]
              (.seq
                (.seq
                  (.region false [
                    ⟨(some 19), none, .mv (.s 5)⟩,
                    ⟨(some 20), none, .mv (.s 1)⟩,
                    ⟨(some 21), none, .len (.s 20)⟩,
                    ⟨(some 22), none, .bin .lss .int (.s 19) (.s 21)⟩])
                  (.cond (.s 22)
                    .skip
                    (.exit 0)))
                (.seq
                  (.block 1
                    (.seq
                      (.region false [
                        ⟨(some 25), none, .mv (.s 5)⟩,
                        ⟨(some 6), none, .mv (.s 25)⟩,
                        ⟨(some 7), none, .mv (.c (.int .i64 0))⟩])
                      (.block 2
                        (.loop [1, 2, 5, 6, 7] [0]
                          (.seq
                            (.seq
                              (.region false [
                                ⟨(some 26), none, .mv (.s 1)⟩,
                                ⟨(some 27), none, .mv (.s 6)⟩,
                                ⟨(some 28), none, .iaddrS 4 (.s 26) (.s 27)⟩,
                                ⟨(some 29), none, .load (some 4) none (.s 28)⟩,
                                ⟨(some 30), none, .build [.int .u8 0, .int .u8 0, .int .u8 0, .int .u8 0] []⟩,
                                ⟨(some 31), none, .bin .neq (.agg [some .u8, some .u8, some .u8, some .u8]) (.s 29) (.s 30)⟩])
                              (.cond (.s 31)
                                .skip
                                (.exit 2)))
                            (.block 3
                              (.seq
                                (.region false [
                                  ⟨(some 32), none, .load (some 2) (some 0) (.s 2)⟩,
                                  ⟨(some 33), none, .mv (.s 1)⟩,
                                  ⟨(some 34), none, .mv (.s 6)⟩,
                                  ⟨(some 35), none, .call (.c (.fn 13 [] [])) [(.s 32), (.s 33), (.s 34)] [] [] [] false⟩,
                                  ⟨(some 8), none, .mv (.s 35)⟩])
                                (.seq
                                  (.region false [
                                    ⟨(some 36), none, .mv (.s 7)⟩,
                                    ⟨(some 37), none, .bin .add .int (.s 36) (.c (.int .i64 1))⟩,
                                    ⟨(some 7), none, .mv (.s 37)⟩])
                                  (.seq
                                    (.seq
                                      (.region true [
                                        ⟨(some 38), none, .mv (.s 8)⟩,
                                        ⟨(some 39), none, .bin .lss .int (.s 38) (.c (.int .i64 0))⟩,
                                        ⟨(some 40), none, .mv (.s 39)⟩,
                                        ⟨(some 41), (some (40, false)), .mv (.s 8)⟩,
                                        ⟨(some 42), (some (40, false)), .mv (.s 1)⟩,
                                        ⟨(some 43), (some (40, false)), .len (.s 42)⟩,
                                        ⟨(some 44), (some (40, false)), .bin .geq .int (.s 41) (.s 43)⟩,
                                        ⟨(some 45), none, .pick (.s 40) (.c (.bool true)) (.s 44)⟩,
                                        ⟨(some 46), none, .mv (.s 45)⟩,
                                        ⟨(some 47), (some (46, false)), .mv (.s 7)⟩,
                                        ⟨(some 48), (some (46, false)), .mv (.s 1)⟩,
                                        ⟨(some 49), (some (46, false)), .len (.s 48)⟩,
                                        ⟨(some 50), (some (46, false)), .bin .geq .int (.s 47) (.s 49)⟩,
                                        ⟨(some 51), none, .pick (.s 46) (.c (.bool true)) (.s 50)⟩,
                                        ⟨(some 52), none, .mv (.s 51)⟩,
                                        ⟨(some 53), (some (52, false)), .mv (.s 1)⟩,
                                        ⟨(some 54), (some (52, false)), .mv (.s 8)⟩,
                                        ⟨(some 55), (some (52, false)), .iaddrS 4 (.s 53) (.s 54)⟩,
                                        ⟨(some 56), (some (52, false)), .load (some 4) none (.s 55)⟩,
                                        ⟨(some 57), (some (52, false)), .mv (.s 1)⟩,
                                        ⟨(some 58), (some (52, false)), .mv (.s 6)⟩,
                                        ⟨(some 59), (some (52, false)), .iaddrS 4 (.s 57) (.s 58)⟩,
                                        ⟨(some 60), (some (52, false)), .load (some 4) none (.s 59)⟩,
                                        ⟨(some 61), (some (52, false)), .call (.c (.fn 14 [] [])) [(.s 56), (.s 60)] [] [] [] false⟩,
                                        ⟨(some 62), (some (52, false)), .un .not (.s 61)⟩,
                                        ⟨(some 63), none, .pick (.s 52) (.c (.bool true)) (.s 62)⟩,
                                        ⟨(some 64), none, .mv (.s 63)⟩,
                                        ⟨(some 65), (some (64, false)), .mv (.s 1)⟩,
                                        ⟨(some 66), (some (64, false)), .mv (.s 8)⟩,
                                        ⟨(some 67), (some (64, false)), .iaddrS 4 (.s 65) (.s 66)⟩,
                                        ⟨(some 68), (some (64, false)), .load (some 4) none (.s 67)⟩,
                                        ⟨(some 69), (some (64, false)), .call (.c (.fn 15 [] [])) [(.s 68)] [] [] [] false⟩,
                                        ⟨(some 70), (some (64, false)), .mv (.s 1)⟩,
                                        ⟨(some 71), (some (64, false)), .mv (.s 6)⟩,
                                        ⟨(some 72), (some (64, false)), .iaddrS 4 (.s 70) (.s 71)⟩,
                                        ⟨(some 73), (some (64, false)), .load (some 4) none (.s 72)⟩,
                                        ⟨(some 74), (some (64, false)), .call (.c (.fn 15 [] [])) [(.s 73)] [] [] [] false⟩,
                                        ⟨(some 75), (some (64, false)), .bin .geq .int (.s 69) (.s 74)⟩,
                                        ⟨(some 76), none, .pick (.s 64) (.c (.bool true)) (.s 75)⟩])
                                      (.cond (.s 76)
                                        (.seq
                                          (.region false [
                                            ⟨(some 4), none, .mv (.c (.bool false))⟩])
                                          .ret)
                                        .skip))
                                    (.region false [
                                      ⟨(some 77), none, .mv (.s 8)⟩,
                                      ⟨(some 6), none, .mv (.s 77)⟩]))))))))))
                  (.region false [
                    ⟨(some 23), none, .mv (.s 5)⟩,
                    ⟨(some 24), none, .bin .add .int (.s 23) (.c (.int .i64 1))⟩,
                    ⟨(some 5), none, .mv (.s 24)⟩]))))))
        (.seq
          (.region false [
            ⟨(some 78), none, .call (.c (.fn 9 [] [])) [] [] [] [] false⟩,
            ⟨(some 4), none, .mv (.s 78)⟩])
          .ret)))) }
/- cuboid/cuboidlaw17.RoutePick -/
def f6 : MFun := { nt := 125, np := 3, no := 2, res := [.slot 6], body :=
  (.seq
    (.region false [
      ⟨(some 3), none, .box 0 (.s 0)⟩,
      ⟨(some 5), none, .box 1 (.s 2)⟩,
      ⟨(some 6), none, .mv (.c (.bool false))⟩])
    (.seq
      (.seq
        (.region false [
          ⟨(some 10), none, .load (some 2) (some 0) (.s 3)⟩,
          ⟨(some 11), none, .call (.c (.fn 8 [] [])) [(.s 10)] [] [] [] false⟩,
          ⟨(some 12), none, .un .not (.s 11)⟩,
          ⟨(some 13), none, .mv (.s 12)⟩,
          ⟨(some 14), (some (13, false)), .load (some 2) (some 0) (.s 3)⟩,
          ⟨(some 15), (some (13, false)), .mv (.s 1)⟩,
          ⟨(some 16), (some (13, false)), .call (.c (.fn 11 [] [])) [(.s 14), (.s 15)] [] [] [] false⟩,
          ⟨(some 17), (some (13, false)), .un .not (.s 16)⟩,
          ⟨(some 18), none, .pick (.s 13) (.c (.bool true)) (.s 17)⟩,
          ⟨(some 19), none, .mv (.s 18)⟩,
          ⟨(some 20), (some (19, false)), .load (some 2) (some 0) (.s 3)⟩,
          ⟨(some 21), (some (19, false)), .load (some 4) (some 1) (.s 5)⟩,
          ⟨(some 22), (some (19, false)), .call (.c (.fn 16 [] [])) [(.s 20), (.s 21)] [] [] [] false⟩,
          ⟨(some 23), (some (19, false)), .un .not (.s 22)⟩,
          ⟨(some 24), none, .pick (.s 19) (.c (.bool true)) (.s 23)⟩])
        (.cond (.s 24)
          (.seq
            (.region false [
              ⟨(some 25), none, .call (.c (.fn 9 [] [])) [] [] [] [] false⟩,
              ⟨(some 6), none, .mv (.s 25)⟩])
            .ret)
          .skip))
      (.seq
        (.region false [
          ⟨(some 26), none, .load (some 2) (some 0) (.s 3)⟩,
          ⟨(some 27), none, .mv (.s 1)⟩,
          ⟨(some 28), none, .load (some 4) (some 1) (.s 5)⟩,
          ⟨(some 29), none, .call (.c (.fn 17 [] [])) [(.s 26), (.s 27), (.s 28)] [] [] [] false⟩,
          ⟨(some 7), none, .mv (.s 29)⟩])
        (.seq
          (.seq
            (.region true [
              ⟨(some 30), none, .mv (.s 7)⟩,
              ⟨(some 31), none, .bin .lss .int (.s 30) (.c (.int .i64 0))⟩,
              ⟨(some 32), none, .mv (.s 31)⟩,
              ⟨(some 33), (some (32, false)), .mv (.s 7)⟩,
              ⟨(some 34), (some (32, false)), .mv (.s 1)⟩,
              ⟨(some 35), (some (32, false)), .len (.s 34)⟩,
              ⟨(some 36), (some (32, false)), .bin .geq .int (.s 33) (.s 35)⟩,
              ⟨(some 37), none, .pick (.s 32) (.c (.bool true)) (.s 36)⟩,
              ⟨(some 38), none, .mv (.s 37)⟩,
              ⟨(some 39), (some (38, false)), .mv (.s 1)⟩,
              ⟨(some 40), (some (38, false)), .mv (.s 7)⟩,
              ⟨(some 41), (some (38, false)), .iaddrS 4 (.s 39) (.s 40)⟩,
              ⟨(some 42), (some (38, false)), .load (some 4) none (.s 41)⟩,
              ⟨(some 43), (some (38, false)), .load (some 4) (some 1) (.s 5)⟩,
              ⟨(some 44), (some (38, false)), .call (.c (.fn 14 [] [])) [(.s 42), (.s 43)] [] [] [] false⟩,
              ⟨(some 45), (some (38, false)), .un .not (.s 44)⟩,
              ⟨(some 46), none, .pick (.s 38) (.c (.bool true)) (.s 45)⟩])
            (.cond (.s 46)
              (.seq
                (.region false [
                  ⟨(some 6), none, .mv (.c (.bool false))⟩])
                .ret)
              .skip))
          (.seq
            (.seq
              (.region false [
                ⟨(some 8), none, .mv (.c (.int .i64 0))⟩])
              (.block 0
                (.loop [1, 3, 5, 7, 8] [0, 1]
                  (.seq
                    (.seq
                      (.region false [
                        ⟨(some 47), none, .mv (.s 8)⟩,
                        ⟨(some 48), none, .mv (.s 1)⟩,
                        ⟨(some 49), none, .len (.s 48)⟩,
                        ⟨(some 50), none, .bin .lss .int (.s 47) (.s 49)⟩])
                      (.cond (.s 50)
                        .skip
                        (.exit 0)))
                    (.seq
                      (.block 1
                        (.seq
                          (.seq
                            (.region true [
                              ⟨(some 53), none, .mv (.s 1)⟩,
                              ⟨(some 54), none, .mv (.s 8)⟩,
                              ⟨(some 55), none, .iaddrS 4 (.s 53) (.s 54)⟩,
                              ⟨(some 56), none, .load (some 4) none (.s 55)⟩,
                              ⟨(some 57), none, .load (some 4) (some 1) (.s 5)⟩,
                              ⟨(some 58), none, .call (.c (.fn 14 [] [])) [(.s 56), (.s 57)] [] [] [] false⟩,
                              ⟨(some 59), none, .mv (.s 58)⟩,
                              ⟨(some 60), (some (59, true)), .load (some 2) (some 0) (.s 3)⟩,
                              ⟨(some 61), (some (59, true)), .mv (.s 1)⟩,
                              ⟨(some 62), (some (59, true)), .mv (.s 8)⟩,
                              ⟨(some 63), (some (59, true)), .iaddrS 4 (.s 61) (.s 62)⟩,
                              ⟨(some 64), (some (59, true)), .load (some 4) none (.s 63)⟩,
                              ⟨(some 65), (some (59, true)), .call (.c (.fn 18 [] [])) [(.s 60), (.s 64)] [] [] [] false⟩,
                              ⟨(some 66), (some (59, true)), .load (some 2) (some 0) (.s 3)⟩,
                              ⟨(some 67), (some (59, true)), .mv (.s 1)⟩,
                              ⟨(some 68), (some (59, true)), .mv (.s 7)⟩,
                              ⟨(some 69), (some (59, true)), .iaddrS 4 (.s 67) (.s 68)⟩,
                              ⟨(some 70), (some (59, true)), .load (some 4) none (.s 69)⟩,
                              ⟨(some 71), (some (59, true)), .call (.c (.fn 18 [] [])) [(.s 66), (.s 70)] [] [] [] false⟩,
                              ⟨(some 72), (some (59, true)), .bin .lss .int (.s 65) (.s 71)⟩,
                              ⟨(some 73), (some (59, true)), .mv (.s 72)⟩,
                              ⟨(some 74), (some (73, false)), .load (some 2) (some 0) (.s 3)⟩,
                              ⟨(some 75), (some (73, false)), .mv (.s 1)⟩,
                              ⟨(some 76), (some (73, false)), .mv (.s 8)⟩,
                              ⟨(some 77), (some (73, false)), .iaddrS 4 (.s 75) (.s 76)⟩,
                              ⟨(some 78), (some (73, false)), .load (some 4) none (.s 77)⟩,
                              ⟨(some 79), (some (73, false)), .call (.c (.fn 18 [] [])) [(.s 74), (.s 78)] [] [] [] false⟩,
                              ⟨(some 80), (some (73, false)), .load (some 2) (some 0) (.s 3)⟩,
                              ⟨(some 81), (some (73, false)), .mv (.s 1)⟩,
                              ⟨(some 82), (some (73, false)), .mv (.s 7)⟩,
                              ⟨(some 83), (some (73, false)), .iaddrS 4 (.s 81) (.s 82)⟩,
                              ⟨(some 84), (some (73, false)), .load (some 4) none (.s 83)⟩,
                              ⟨(some 85), (some (73, false)), .call (.c (.fn 18 [] [])) [(.s 80), (.s 84)] [] [] [] false⟩,
                              ⟨(some 86), (some (73, false)), .bin .eql .int (.s 79) (.s 85)⟩,
                              ⟨(some 87), (some (73, false)), .mv (.s 86)⟩,
                              ⟨(some 88), (some (87, true)), .mv (.s 8)⟩,
                              ⟨(some 89), (some (87, true)), .mv (.s 7)⟩,
                              ⟨(some 90), (some (87, true)), .bin .lss .int (.s 88) (.s 89)⟩,
                              ⟨(some 91), (some (73, false)), .pick (.s 87) (.s 90) (.c (.bool false))⟩,
                              ⟨(some 92), (some (59, true)), .pick (.s 73) (.c (.bool true)) (.s 91)⟩,
                              ⟨(some 93), none, .pick (.s 59) (.s 92) (.c (.bool false))⟩])
                            (.cond (.s 93)
                              (.seq
                                (.region false [
                                  ⟨(some 6), none, .mv (.c (.bool false))⟩])
                                .ret)
                              .skip))
                          (.seq
                            (.region true [
                              ⟨(some 94), none, .load (some 2) (some 0) (.s 3)⟩,
                              ⟨(some 95), none, .mv (.s 1)⟩,
                              ⟨(some 96), none, .mv (.s 1)⟩,
                              ⟨(some 97), none, .mv (.s 8)⟩,
                              ⟨(some 98), none, .iaddrS 4 (.s 96) (.s 97)⟩,
                              ⟨(some 99), none, .load (some 4) none (.s 98)⟩,
                              ⟨(some 100), none, .call (.c (.fn 17 [] [])) [(.s 94), (.s 95), (.s 99)] [] [] [] false⟩,
                              ⟨(some 9), none, .mv (.s 100)⟩])
                            (.seq
                              (.region true [
                                ⟨(some 101), none, .mv (.s 9)⟩,
                                ⟨(some 102), none, .bin .lss .int (.s 101) (.c (.int .i64 0))⟩,
                                ⟨(some 103), none, .mv (.s 102)⟩,
                                ⟨(some 104), (some (103, false)), .mv (.s 9)⟩,
                                ⟨(some 105), (some (103, false)), .mv (.s 1)⟩,
                                ⟨(some 106), (some (103, false)), .len (.s 105)⟩,
                                ⟨(some 107), (some (103, false)), .bin .geq .int (.s 104) (.s 106)⟩,
                                ⟨(some 108), none, .pick (.s 103) (.c (.bool true)) (.s 107)⟩,
                                ⟨(some 109), none, .mv (.s 108)⟩,
                                ⟨(some 110), (some (109, false)), .load (some 2) (some 0) (.s 3)⟩,
                                ⟨(some 111), (some (109, false)), .mv (.s 1)⟩,
                                ⟨(some 112), (some (109, false)), .mv (.s 9)⟩,
                                ⟨(some 113), (some (109, false)), .iaddrS 4 (.s 111) (.s 112)⟩,
                                ⟨(some 114), (some (109, false)), .load (some 4) none (.s 113)⟩,
                                ⟨(some 115), (some (109, false)), .call (.c (.fn 18 [] [])) [(.s 110), (.s 114)] [] [] [] false⟩,
                                ⟨(some 116), (some (109, false)), .load (some 2) (some 0) (.s 3)⟩,
                                ⟨(some 117), (some (109, false)), .mv (.s 1)⟩,
                                ⟨(some 118), (some (109, false)), .mv (.s 8)⟩,
                                ⟨(some 119), (some (109, false)), .iaddrS 4 (.s 117) (.s 118)⟩,
                                ⟨(some 120), (some (109, false)), .load (some 4) none (.s 119)⟩,
                                ⟨(some 121), (some (109, false)), .call (.c (.fn 18 [] [])) [(.s 116), (.s 120)] [] [] [] false⟩,
                                ⟨(some 122), (some (109, false)), .bin .gtr .int (.s 115) (.s 121)⟩,
                                ⟨(some 123), none, .pick (.s 109) (.c (.bool true)) (.s 122)⟩])
                              (.cond (.s 123)
                                (.seq
                                  (.region false [
                                    ⟨(some 6), none, .mv (.c (.bool false))⟩])
                                  .ret)
                                .skip)))))
                      (.region false [
                        ⟨(some 51), none, .mv (.s 8)⟩,
                        ⟨(some 52), none, .bin .add .int (.s 51) (.c (.int .i64 1))⟩,
                        ⟨(some 8), none, .mv (.s 52)⟩]))))))
            (.seq
              (.region false [
                ⟨(some 124), none, .call (.c (.fn 9 [] [])) [] [] [] [] false⟩,
                ⟨(some 6), none, .mv (.s 124)⟩])
              .ret)))))) }
/- cuboid/cuboidlaw17.RouteLess -/
def f7 : MFun := { nt := 110, np := 3, no := 3, res := [.slot 6], body :=
  (.seq
    (.region false [
      ⟨(some 3), none, .box 0 (.s 0)⟩,
      ⟨(some 5), none, .box 1 (.s 2)⟩,
      ⟨(some 6), none, .mv (.c (.bool false))⟩])
    (.seq
      (.seq
        (.region false [
          ⟨(some 11), none, .load (some 2) (some 0) (.s 3)⟩,
          ⟨(some 12), none, .call (.c (.fn 8 [] [])) [(.s 11)] [] [] [] false⟩,
          ⟨(some 13), none, .un .not (.s 12)⟩,
          ⟨(some 14), none, .mv (.s 13)⟩,
          ⟨(some 15), (some (14, false)), .load (some 2) (some 0) (.s 3)⟩,
          ⟨(some 16), (some (14, false)), .mv (.s 1)⟩,
          ⟨(some 17), (some (14, false)), .call (.c (.fn 11 [] [])) [(.s 15), (.s 16)] [] [] [] false⟩,
          ⟨(some 18), (some (14, false)), .un .not (.s 17)⟩,
          ⟨(some 19), none, .pick (.s 14) (.c (.bool true)) (.s 18)⟩,
          ⟨(some 20), none, .mv (.s 19)⟩,
          ⟨(some 21), (some (20, false)), .load (some 2) (some 0) (.s 3)⟩,
          ⟨(some 22), (some (20, false)), .load (some 4) (some 1) (.s 5)⟩,
          ⟨(some 23), (some (20, false)), .call (.c (.fn 16 [] [])) [(.s 21), (.s 22)] [] [] [] false⟩,
          ⟨(some 24), (some (20, false)), .un .not (.s 23)⟩,
          ⟨(some 25), none, .pick (.s 20) (.c (.bool true)) (.s 24)⟩])
        (.cond (.s 25)
          (.seq
            (.region false [
              ⟨(some 26), none, .call (.c (.fn 9 [] [])) [] [] [] [] false⟩,
              ⟨(some 6), none, .mv (.s 26)⟩])
            .ret)
          .skip))
      (.seq
        (.region false [
          ⟨(some 27), none, .load (some 2) (some 0) (.s 3)⟩,
          ⟨(some 28), none, .mv (.s 1)⟩,
          ⟨(some 29), none, .load (some 4) (some 1) (.s 5)⟩,
          ⟨(some 30), none, .call (.c (.fn 17 [] [])) [(.s 27), (.s 28), (.s 29)] [] [] [] false⟩,
          ⟨(some 7), none, .mv (.s 30)⟩])
        (.seq
          (.seq
            (.region false [
              ⟨(some 31), none, .mv (.s 7)⟩,
              ⟨(some 32), none, .bin .lss .int (.s 31) (.c (.int .i64 0))⟩,
              ⟨(some 33), none, .mv (.s 32)⟩,
              ⟨(some 34), (some (33, false)), .mv (.s 7)⟩,
              ⟨(some 35), (some (33, false)), .mv (.s 1)⟩,
              ⟨(some 36), (some (33, false)), .len (.s 35)⟩,
              ⟨(some 37), (some (33, false)), .bin .geq .int (.s 34) (.s 36)⟩,
              ⟨(some 38), none, .pick (.s 33) (.c (.bool true)) (.s 37)⟩])
            (.cond (.s 38)
              (.seq
                (.region false [
                  ⟨(some 6), none, .mv (.c (.bool false))⟩])
                .ret)
              .skip))
          (.seq
            (.seq
              (.region false [
                ⟨(some 8), none, .mv (.c (.int .i64 0))⟩])
              (.block 0
                (.loop [1, 3, 5, 7, 8] [0, 1]
                  (.seq
                    (.seq
                      (.region false [
                        ⟨(some 39), none, .mv (.s 8)⟩,
                        ⟨(some 40), none, .mv (.s 1)⟩,
                        ⟨(some 41), none, .len (.s 40)⟩,
                        ⟨(some 42), none, .bin .lss .int (.s 39) (.s 41)⟩])
                      (.cond (.s 42)
                        .skip
                        (.exit 0)))
                    (.seq
                      (.block 1
                        (.seq
                          (.seq
                            (.region false [
                              ⟨(some 45), none, .mv (.s 1)⟩,
                              ⟨(some 46), none, .mv (.s 8)⟩,
                              ⟨(some 47), none, .iaddrS 4 (.s 45) (.s 46)⟩,
                              ⟨(some 48), none, .load (some 4) none (.s 47)⟩,
                              ⟨(some 49), none, .build [.int .u8 0, .int .u8 0, .int .u8 0, .int .u8 0] []⟩,
                              ⟨(some 50), none, .bin .eql (.agg [some .u8, some .u8, some .u8, some .u8]) (.s 48) (.s 49)⟩])
                            (.cond (.s 50)
                              (.exit 1)
                              .skip))
                          (.seq
                            (.region true [
                              ⟨(some 51), none, .lit (some 2) [] 0 4 [.int .u8 0, .int .u8 0, .int .u8 0, .int .u8 0] []⟩,
                              ⟨(some 52), none, .mv (.s 1)⟩,
                              ⟨(some 53), none, .mv (.s 8)⟩,
                              ⟨(some 54), none, .sliceS 4 (.s 52) none (some (.s 53))⟩,
                              ⟨(some 55), none, .append 4 4 2 none (.s 51) (.s 54)⟩,
                              ⟨(some 56), none, .mv (.s 1)⟩,
                              ⟨(some 57), none, .mv (.s 8)⟩,
                              ⟨(some 58), none, .bin .add .int (.s 57) (.c (.int .i64 1))⟩,
                              ⟨(some 59), none, .sliceS 4 (.s 56) (some (.s 58)) none⟩,
                              ⟨(some 60), none, .append 4 4 2 none (.s 55) (.s 59)⟩,
                              ⟨(some 9), none, .mv (.s 60)⟩])
                            (.seq
                              (.region false [
                                ⟨(some 61), none, .load (some 2) (some 0) (.s 3)⟩,
                                ⟨(some 62), none, .mv (.s 9)⟩,
                                ⟨(some 63), none, .load (some 4) (some 1) (.s 5)⟩,
                                ⟨(some 64), none, .call (.c (.fn 17 [] [])) [(.s 61), (.s 62), (.s 63)] [] [2] [] false⟩,
                                ⟨(some 10), none, .mv (.s 64)⟩])
                              (.seq
                                (.region true [
                                  ⟨(some 65), none, .mv (.s 10)⟩,
                                  ⟨(some 66), none, .bin .lss .int (.s 65) (.c (.int .i64 0))⟩,
                                  ⟨(some 67), none, .mv (.s 66)⟩,
                                  ⟨(some 68), (some (67, false)), .mv (.s 10)⟩,
                                  ⟨(some 69), (some (67, false)), .mv (.s 9)⟩,
                                  ⟨(some 70), (some (67, false)), .len (.s 69)⟩,
                                  ⟨(some 71), (some (67, false)), .bin .geq .int (.s 68) (.s 70)⟩,
                                  ⟨(some 72), none, .pick (.s 67) (.c (.bool true)) (.s 71)⟩,
                                  ⟨(some 73), none, .mv (.s 72)⟩,
                                  ⟨(some 74), (some (73, false)), .mv (.s 8)⟩,
                                  ⟨(some 75), (some (73, false)), .mv (.s 7)⟩,
                                  ⟨(some 76), (some (73, false)), .bin .neq .int (.s 74) (.s 75)⟩,
                                  ⟨(some 77), (some (73, false)), .mv (.s 76)⟩,
                                  ⟨(some 78), (some (77, true)), .mv (.s 9)⟩,
                                  ⟨(some 79), (some (77, true)), .mv (.s 10)⟩,
                                  ⟨(some 80), (some (77, true)), .iaddrS 4 (.s 78) (.s 79)⟩,
                                  ⟨(some 81), (some (77, true)), .load (some 4) (some 2) (.s 80)⟩,
                                  ⟨(some 82), (some (77, true)), .mv (.s 1)⟩,
                                  ⟨(some 83), (some (77, true)), .mv (.s 7)⟩,
                                  ⟨(some 84), (some (77, true)), .iaddrS 4 (.s 82) (.s 83)⟩,
                                  ⟨(some 85), (some (77, true)), .load (some 4) none (.s 84)⟩,
                                  ⟨(some 86), (some (77, true)), .bin .neq (.agg [some .u8, some .u8, some .u8, some .u8]) (.s 81) (.s 85)⟩,
                                  ⟨(some 87), (some (73, false)), .pick (.s 77) (.s 86) (.c (.bool false))⟩,
                                  ⟨(some 88), none, .pick (.s 73) (.c (.bool true)) (.s 87)⟩,
                                  ⟨(some 89), none, .mv (.s 88)⟩,
                                  ⟨(some 90), (some (89, false)), .mv (.s 8)⟩,
                                  ⟨(some 91), (some (89, false)), .mv (.s 7)⟩,
                                  ⟨(some 92), (some (89, false)), .bin .eql .int (.s 90) (.s 91)⟩,
                                  ⟨(some 93), (some (89, false)), .mv (.s 92)⟩,
                                  ⟨(some 94), (some (93, true)), .load (some 2) (some 0) (.s 3)⟩,
                                  ⟨(some 95), (some (93, true)), .mv (.s 9)⟩,
                                  ⟨(some 96), (some (93, true)), .mv (.s 10)⟩,
                                  ⟨(some 97), (some (93, true)), .iaddrS 4 (.s 95) (.s 96)⟩,
                                  ⟨(some 98), (some (93, true)), .load (some 4) (some 2) (.s 97)⟩,
                                  ⟨(some 99), (some (93, true)), .call (.c (.fn 18 [] [])) [(.s 94), (.s 98)] [] [] [] false⟩,
                                  ⟨(some 100), (some (93, true)), .load (some 2) (some 0) (.s 3)⟩,
                                  ⟨(some 101), (some (93, true)), .mv (.s 1)⟩,
                                  ⟨(some 102), (some (93, true)), .mv (.s 7)⟩,
                                  ⟨(some 103), (some (93, true)), .iaddrS 4 (.s 101) (.s 102)⟩,
                                  ⟨(some 104), (some (93, true)), .load (some 4) none (.s 103)⟩,
                                  ⟨(some 105), (some (93, true)), .call (.c (.fn 18 [] [])) [(.s 100), (.s 104)] [] [] [] false⟩,
                                  ⟨(some 106), (some (93, true)), .bin .lss .int (.s 99) (.s 105)⟩,
                                  ⟨(some 107), (some (89, false)), .pick (.s 93) (.s 106) (.c (.bool false))⟩,
                                  ⟨(some 108), none, .pick (.s 89) (.c (.bool true)) (.s 107)⟩])
                                (.cond (.s 108)
                                  (.seq
                                    (.region false [
                                      ⟨(some 6), none, .mv (.c (.bool false))⟩])
                                    .ret)
                                  .skip))))))
                      (.region false [
                        ⟨(some 43), none, .mv (.s 8)⟩,
                        ⟨(some 44), none, .bin .add .int (.s 43) (.c (.int .i64 1))⟩,
                        ⟨(some 8), none, .mv (.s 44)⟩]))))))
            (.seq
              (.region false [
                ⟨(some 109), none, .call (.c (.fn 9 [] [])) [] [] [] [] false⟩,
                ⟨(some 6), none, .mv (.s 109)⟩])
              .ret)))))) }
/- cuboid/route.Order$1 -/
def f27 : MFun := { nt := 17, np := 3, no := 0, res := [.slot 5], body :=
  (.seq
    (.region false [
      ⟨(some 5), none, .mv (.c (.int .i64 0))⟩])
    (.seq
      (.region true [
        ⟨(some 6), none, .load none (some 0) (.s 2)⟩,
        ⟨(some 7), none, .mv (.s 0)⟩,
        ⟨(some 8), none, .iaddrS 4 (.s 6) (.s 7)⟩,
        ⟨(some 9), none, .load (some 4) none (.s 8)⟩,
        ⟨(some 10), none, .call (.c (.fn 29 [] [])) [(.s 9)] [] [] [] false⟩,
        ⟨(some 11), none, .load none (some 0) (.s 2)⟩,
        ⟨(some 12), none, .mv (.s 1)⟩,
        ⟨(some 13), none, .iaddrS 4 (.s 11) (.s 12)⟩,
        ⟨(some 14), none, .load (some 4) none (.s 13)⟩,
        ⟨(some 15), none, .call (.c (.fn 29 [] [])) [(.s 14)] [] [] [] false⟩,
        ⟨(some 16), none, .call (.c (.fn 28 [] [])) [(.s 10), (.s 15)] [] [] [] false⟩,
        ⟨(some 5), none, .mv (.s 16)⟩])
      .ret)) }
/- cmp.Compare[int] -/
def f28 : MFun := { nt := 20, np := 2, no := 0, res := [.slot 4], body :=
  (.seq
    (.region false [
      ⟨(some 4), none, .mv (.c (.int .i64 0))⟩])
    (.seq
      (.region false [
        ⟨(some 7), none, .mv (.s 0)⟩,
        ⟨(some 8), none, .call (.c (.fn 40 [] [])) [(.s 7)] [] [] [] false⟩,
        ⟨(some 5), none, .mv (.s 8)⟩])
      (.seq
        (.region false [
          ⟨(some 9), none, .mv (.s 1)⟩,
          ⟨(some 10), none, .call (.c (.fn 40 [] [])) [(.s 9)] [] [] [] false⟩,
          ⟨(some 6), none, .mv (.s 10)⟩])
        (.seq
          (.seq
            (.region false [
              ⟨(some 11), none, .mv (.s 5)⟩])
            (.cond (.s 11)
              (.seq
                (.seq
                  (.region false [
                    ⟨(some 12), none, .mv (.s 6)⟩])
                  (.cond (.s 12)
                    (.seq
                      (.region false [
                        ⟨(some 4), none, .mv (.c (.int .i64 0))⟩])
                      .ret)
                    .skip))
                (.seq
                  (.region false [
                    ⟨(some 4), none, .mv (.c (.int .i64 (-1)))⟩])
                  .ret))
              .skip))
          (.seq
            (.seq
              (.region false [
                ⟨(some 13), none, .mv (.s 6)⟩])
              (.cond (.s 13)
                (.seq
                  (.region false [
                    ⟨(some 4), none, .mv (.c (.int .i64 1))⟩])
                  .ret)
                .skip))
            (.seq
              (.seq
                (.region false [
                  ⟨(some 14), none, .mv (.s 0)⟩,
                  ⟨(some 15), none, .mv (.s 1)⟩,
                  ⟨(some 16), none, .bin .lss .int (.s 14) (.s 15)⟩])
                (.cond (.s 16)
                  (.seq
                    (.region false [
                      ⟨(some 4), none, .mv (.c (.int .i64 (-1)))⟩])
                    .ret)
                  .skip))
              (.seq
                (.seq
                  (.region false [
                    ⟨(some 17), none, .mv (.s 0)⟩,
                    ⟨(some 18), none, .mv (.s 1)⟩,
                    ⟨(some 19), none, .bin .gtr .int (.s 17) (.s 18)⟩])
                  (.cond (.s 19)
                    (.seq
                      (.region false [
                        ⟨(some 4), none, .mv (.c (.int .i64 1))⟩])
                      .ret)
                    .skip))
                (.seq
                  (.region false [
                    ⟨(some 4), none, .mv (.c (.int .i64 0))⟩])
                  .ret)))))))) }
/- cuboid/lattice.Rank -/
def f29 : MFun := { nt := 16, np := 1, no := 1, res := [.slot 2], body :=
  (.seq
    (.region false [
      ⟨(some 1), none, .box 0 (.s 0)⟩,
      ⟨(some 2), none, .mv (.c (.int .i64 0))⟩])
    (.seq
      (.region false [
        ⟨(some 3), none, .mv (.c (.int .i64 0))⟩])
      (.seq
        (.seq
          (.region false [
            ⟨(some 6), none, .load (some 4) (some 0) (.s 1)⟩,
            ⟨(some 7), none, .mv (.c (.int .i64 0))⟩])
          (.block 0
            (.loop [3, 6, 7] []
              (.seq
                (.region false [
                  ⟨(some 8), none, .bin .lss .int (.s 7) (.c (.int .i64 4))⟩])
                (.seq
                  (.cond (.s 8)
                    .skip
                    (.exit 0))
                  (.seq
                    (.block 1
                      (.seq
                        (.region false [
                          ⟨(some 9), none, .index 4 1 false (.s 6) (.s 7)⟩,
                          ⟨(some 5), none, .mv (.s 9)⟩])
                        (.region false [
                          ⟨(some 10), none, .mv (.s 3)⟩,
                          ⟨(some 11), none, .mv (.s 5)⟩,
                          ⟨(some 12), none, .conv .i64 (.s 11)⟩,
                          ⟨(some 13), none, .bin .add .int (.s 10) (.s 12)⟩,
                          ⟨(some 3), none, .mv (.s 13)⟩])))
                    (.region false [
                      ⟨(some 14), none, .bin .add .int (.s 7) (.c (.int .i64 1))⟩,
                      ⟨(some 7), none, .mv (.s 14)⟩])))))))
        (.seq
          (.region false [
            ⟨(some 15), none, .mv (.s 3)⟩,
            ⟨(some 2), none, .mv (.s 15)⟩])
          .ret)))) }
/- cmp.isNaN[int] -/
def f40 : MFun := { nt := 6, np := 1, no := 0, res := [.slot 2], body :=
  (.seq
    (.region false [
      ⟨(some 2), none, .mv (.c (.bool false))⟩])
    (.seq
      (.region false [
        ⟨(some 3), none, .mv (.s 0)⟩,
        ⟨(some 4), none, .mv (.s 0)⟩,
        ⟨(some 5), none, .bin .neq .int (.s 3) (.s 4)⟩,
        ⟨(some 2), none, .mv (.s 5)⟩])
      .ret)) }
end Mf
theorem mf19_ok : chkFun Try.prog Mf.f19 Try.f19 = true := by kernel_rfl
theorem mf8_ok : chkFun Try.prog Mf.f8 Try.f8 = true := by kernel_rfl
theorem mf44_ok : chkFun Try.prog Mf.f44 Try.f44 = true := by kernel_rfl
theorem mf51_ok : chkFun Try.prog Mf.f51 Try.f51 = true := by kernel_rfl
theorem mf52_ok : chkFun Try.prog Mf.f52 Try.f52 = true := by kernel_rfl
theorem mf45_ok : chkFun Try.prog Mf.f45 Try.f45 = true := by kernel_rfl
theorem mf34_ok : chkFun Try.prog Mf.f34 Try.f34 = true := by kernel_rfl
theorem mf50_ok : chkFun Try.prog Mf.f50 Try.f50 = true := by kernel_rfl
theorem mf43_ok : chkFun Try.prog Mf.f43 Try.f43 = true := by kernel_rfl
theorem mf32_ok : chkFun Try.prog Mf.f32 Try.f32 = true := by kernel_rfl
theorem mf46_ok : chkFun Try.prog Mf.f46 Try.f46 = true := by kernel_rfl
theorem mf35_ok : chkFun Try.prog Mf.f35 Try.f35 = true := by kernel_rfl
theorem mf36_ok : chkFun Try.prog Mf.f36 Try.f36 = true := by kernel_rfl
theorem mf21_ok : chkFun Try.prog Mf.f21 Try.f21 = true := by kernel_rfl
theorem mf47_ok : chkFun Try.prog Mf.f47 Try.f47 = true := by kernel_rfl
theorem mf54_ok : chkFun Try.prog Mf.f54 Try.f54 = true := by kernel_rfl
theorem mf53_ok : chkFun Try.prog Mf.f53 Try.f53 = true := by kernel_rfl
theorem mf48_ok : chkFun Try.prog Mf.f48 Try.f48 = true := by kernel_rfl
theorem mf39_ok : chkFun Try.prog Mf.f39 Try.f39 = true := by kernel_rfl
theorem mf26_ok : chkFun Try.prog Mf.f26 Try.f26 = true := by kernel_rfl
theorem mf12_ok : chkFun Try.prog Mf.f12 Try.f12 = true := by kernel_rfl
theorem mf49_ok : chkFun Try.prog Mf.f49 Try.f49 = true := by kernel_rfl
theorem mf41_ok : chkFun Try.prog Mf.f41 Try.f41 = true := by kernel_rfl
theorem mf42_ok : chkFun Try.prog Mf.f42 Try.f42 = true := by kernel_rfl
theorem mf30_ok : chkFun Try.prog Mf.f30 Try.f30 = true := by kernel_rfl
theorem mf13_ok : chkFun Try.prog Mf.f13 Try.f13 = true := by kernel_rfl
theorem mf17_ok : chkFun Try.prog Mf.f17 Try.f17 = true := by kernel_rfl
theorem mf20_ok : chkFun Try.prog Mf.f20 Try.f20 = true := by kernel_rfl
theorem mf9_ok : chkFun Try.prog Mf.f9 Try.f9 = true := by kernel_rfl
theorem mf38_ok : chkFun Try.prog Mf.f38 Try.f38 = true := by kernel_rfl
theorem mf25_ok : chkFun Try.prog Mf.f25 Try.f25 = true := by kernel_rfl
theorem mf33_ok : chkFun Try.prog Mf.f33 Try.f33 = true := by kernel_rfl
theorem mf31_ok : chkFun Try.prog Mf.f31 Try.f31 = true := by kernel_rfl
theorem mf16_ok : chkFun Try.prog Mf.f16 Try.f16 = true := by kernel_rfl
theorem mf11_ok : chkFun Try.prog Mf.f11 Try.f11 = true := by kernel_rfl
theorem mf15_ok : chkFun Try.prog Mf.f15 Try.f15 = true := by kernel_rfl
theorem mf22_ok : chkFun Try.prog Mf.f22 Try.f22 = true := by kernel_rfl
theorem mf14_ok : chkFun Try.prog Mf.f14 Try.f14 = true := by kernel_rfl
theorem mf18_ok : chkFun Try.prog Mf.f18 Try.f18 = true := by kernel_rfl
theorem mf37_ok : chkFun Try.prog Mf.f37 Try.f37 = true := by kernel_rfl
theorem mf23_ok : chkFun Try.prog Mf.f23 Try.f23 = true := by kernel_rfl
theorem mf24_ok : chkFun Try.prog Mf.f24 Try.f24 = true := by kernel_rfl
theorem mf10_ok : chkFun Try.prog Mf.f10 Try.f10 = true := by kernel_rfl
theorem mf3_ok : chkFun Try.prog Mf.f3 Try.f3 = true := by kernel_rfl
theorem mf4_ok : chkFun Try.prog Mf.f4 Try.f4 = true := by kernel_rfl
theorem mf5_ok : chkFun Try.prog Mf.f5 Try.f5 = true := by kernel_rfl
theorem mf6_ok : chkFun Try.prog Mf.f6 Try.f6 = true := by kernel_rfl
theorem mf7_ok : chkFun Try.prog Mf.f7 Try.f7 = true := by kernel_rfl
theorem mf27_ok : chkFun Try.prog Mf.f27 Try.f27 = true := by kernel_rfl
theorem mf28_ok : chkFun Try.prog Mf.f28 Try.f28 = true := by kernel_rfl
theorem mf29_ok : chkFun Try.prog Mf.f29 Try.f29 = true := by kernel_rfl
theorem mf40_ok : chkFun Try.prog Mf.f40 Try.f40 = true := by kernel_rfl
def fnTab : FuncId → Option MFun
  | 19 => some Mf.f19
  | 8 => some Mf.f8
  | 44 => some Mf.f44
  | 51 => some Mf.f51
  | 52 => some Mf.f52
  | 45 => some Mf.f45
  | 34 => some Mf.f34
  | 50 => some Mf.f50
  | 43 => some Mf.f43
  | 32 => some Mf.f32
  | 46 => some Mf.f46
  | 35 => some Mf.f35
  | 36 => some Mf.f36
  | 21 => some Mf.f21
  | 47 => some Mf.f47
  | 54 => some Mf.f54
  | 53 => some Mf.f53
  | 48 => some Mf.f48
  | 39 => some Mf.f39
  | 26 => some Mf.f26
  | 12 => some Mf.f12
  | 49 => some Mf.f49
  | 41 => some Mf.f41
  | 42 => some Mf.f42
  | 30 => some Mf.f30
  | 13 => some Mf.f13
  | 17 => some Mf.f17
  | 20 => some Mf.f20
  | 9 => some Mf.f9
  | 38 => some Mf.f38
  | 25 => some Mf.f25
  | 33 => some Mf.f33
  | 31 => some Mf.f31
  | 16 => some Mf.f16
  | 11 => some Mf.f11
  | 15 => some Mf.f15
  | 22 => some Mf.f22
  | 14 => some Mf.f14
  | 18 => some Mf.f18
  | 37 => some Mf.f37
  | 23 => some Mf.f23
  | 24 => some Mf.f24
  | 10 => some Mf.f10
  | 3 => some Mf.f3
  | 4 => some Mf.f4
  | 5 => some Mf.f5
  | 6 => some Mf.f6
  | 7 => some Mf.f7
  | 27 => some Mf.f27
  | 28 => some Mf.f28
  | 29 => some Mf.f29
  | 40 => some Mf.f40
  | _ => none
theorem fnTab_ok : ∀ f mf, fnTab f = some mf → ∃ fn, Try.prog.funcs[f]? = some fn ∧ chkFun Try.prog mf fn = true := by
  intro f mf h
  unfold fnTab at h
  split at h
  · cases h; exact ⟨Try.f19, Try.func19, mf19_ok⟩
  · cases h; exact ⟨Try.f8, Try.func8, mf8_ok⟩
  · cases h; exact ⟨Try.f44, Try.func44, mf44_ok⟩
  · cases h; exact ⟨Try.f51, Try.func51, mf51_ok⟩
  · cases h; exact ⟨Try.f52, Try.func52, mf52_ok⟩
  · cases h; exact ⟨Try.f45, Try.func45, mf45_ok⟩
  · cases h; exact ⟨Try.f34, Try.func34, mf34_ok⟩
  · cases h; exact ⟨Try.f50, Try.func50, mf50_ok⟩
  · cases h; exact ⟨Try.f43, Try.func43, mf43_ok⟩
  · cases h; exact ⟨Try.f32, Try.func32, mf32_ok⟩
  · cases h; exact ⟨Try.f46, Try.func46, mf46_ok⟩
  · cases h; exact ⟨Try.f35, Try.func35, mf35_ok⟩
  · cases h; exact ⟨Try.f36, Try.func36, mf36_ok⟩
  · cases h; exact ⟨Try.f21, Try.func21, mf21_ok⟩
  · cases h; exact ⟨Try.f47, Try.func47, mf47_ok⟩
  · cases h; exact ⟨Try.f54, Try.func54, mf54_ok⟩
  · cases h; exact ⟨Try.f53, Try.func53, mf53_ok⟩
  · cases h; exact ⟨Try.f48, Try.func48, mf48_ok⟩
  · cases h; exact ⟨Try.f39, Try.func39, mf39_ok⟩
  · cases h; exact ⟨Try.f26, Try.func26, mf26_ok⟩
  · cases h; exact ⟨Try.f12, Try.func12, mf12_ok⟩
  · cases h; exact ⟨Try.f49, Try.func49, mf49_ok⟩
  · cases h; exact ⟨Try.f41, Try.func41, mf41_ok⟩
  · cases h; exact ⟨Try.f42, Try.func42, mf42_ok⟩
  · cases h; exact ⟨Try.f30, Try.func30, mf30_ok⟩
  · cases h; exact ⟨Try.f13, Try.func13, mf13_ok⟩
  · cases h; exact ⟨Try.f17, Try.func17, mf17_ok⟩
  · cases h; exact ⟨Try.f20, Try.func20, mf20_ok⟩
  · cases h; exact ⟨Try.f9, Try.func9, mf9_ok⟩
  · cases h; exact ⟨Try.f38, Try.func38, mf38_ok⟩
  · cases h; exact ⟨Try.f25, Try.func25, mf25_ok⟩
  · cases h; exact ⟨Try.f33, Try.func33, mf33_ok⟩
  · cases h; exact ⟨Try.f31, Try.func31, mf31_ok⟩
  · cases h; exact ⟨Try.f16, Try.func16, mf16_ok⟩
  · cases h; exact ⟨Try.f11, Try.func11, mf11_ok⟩
  · cases h; exact ⟨Try.f15, Try.func15, mf15_ok⟩
  · cases h; exact ⟨Try.f22, Try.func22, mf22_ok⟩
  · cases h; exact ⟨Try.f14, Try.func14, mf14_ok⟩
  · cases h; exact ⟨Try.f18, Try.func18, mf18_ok⟩
  · cases h; exact ⟨Try.f37, Try.func37, mf37_ok⟩
  · cases h; exact ⟨Try.f23, Try.func23, mf23_ok⟩
  · cases h; exact ⟨Try.f24, Try.func24, mf24_ok⟩
  · cases h; exact ⟨Try.f10, Try.func10, mf10_ok⟩
  · cases h; exact ⟨Try.f3, Try.func3, mf3_ok⟩
  · cases h; exact ⟨Try.f4, Try.func4, mf4_ok⟩
  · cases h; exact ⟨Try.f5, Try.func5, mf5_ok⟩
  · cases h; exact ⟨Try.f6, Try.func6, mf6_ok⟩
  · cases h; exact ⟨Try.f7, Try.func7, mf7_ok⟩
  · cases h; exact ⟨Try.f27, Try.func27, mf27_ok⟩
  · cases h; exact ⟨Try.f28, Try.func28, mf28_ok⟩
  · cases h; exact ⟨Try.f29, Try.func29, mf29_ok⟩
  · cases h; exact ⟨Try.f40, Try.func40, mf40_ok⟩
  · cases h
end Go.Proofs.Ytaflkcaebecpfaa
