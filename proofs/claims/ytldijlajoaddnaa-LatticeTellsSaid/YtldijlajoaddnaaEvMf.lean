/- The evaluator's code of each function of this seat, and that it is the loaded one. Printed by a program (gen.py). -/
import Derived.Test.YtldijlajoaddnaaChecked
import Derived.KernelRfl
import Derived.Test.YtldijlajoaddnaaEvLaw
set_option linter.unusedSimpArgs false
set_option linter.unusedVariables false
set_option maxRecDepth 100000
namespace Go.Proofs.Ytldijlajoaddnaa
open Go.Ev
namespace Mf
/- cuboid/cuboidref03.Good -/
def f34 : MFun := { nt := 97, np := 1, no := 1, res := [.slot 2], body :=
  (.seq
    (.region false [
      ⟨(some 1), none, .box 0 (.s 0)⟩,
      ⟨(some 2), none, .mv (.c (.bool false))⟩])
    (.seq
      (.region false [
        ⟨(some 7), none, .faddr 0 (.s 1)⟩,
        ⟨(some 8), none, .load none (some 0) (.s 7)⟩,
        ⟨(some 9), none, .len (.s 8)⟩,
        ⟨(some 3), none, .mv (.s 9)⟩])
      (.seq
        (.seq
          (.region false [
            ⟨(some 10), none, .mv (.s 3)⟩,
            ⟨(some 11), none, .bin .lss .int (.s 10) (.c (.int .i64 1))⟩,
            ⟨(some 12), none, .mv (.s 11)⟩,
            ⟨(some 13), (some (12, false)), .mv (.s 3)⟩,
            ⟨(some 14), (some (12, false)), .bin .gtr .int (.s 13) (.c (.int .i64 4))⟩,
            ⟨(some 15), none, .pick (.s 12) (.c (.bool true)) (.s 14)⟩,
            ⟨(some 16), none, .mv (.s 15)⟩,
            ⟨(some 17), (some (16, false)), .faddr 1 (.s 1)⟩,
            ⟨(some 18), (some (16, false)), .load none (some 0) (.s 17)⟩,
            ⟨(some 19), (some (16, false)), .len (.s 18)⟩,
            ⟨(some 20), (some (16, false)), .mv (.s 3)⟩,
            ⟨(some 21), (some (16, false)), .bin .sub .int (.s 20) (.c (.int .i64 1))⟩,
            ⟨(some 22), (some (16, false)), .bin .neq .int (.s 19) (.s 21)⟩,
            ⟨(some 23), none, .pick (.s 16) (.c (.bool true)) (.s 22)⟩])
          (.cond (.s 23)
            (.seq
              (.region false [
                ⟨(some 2), none, .mv (.c (.bool false))⟩])
              .ret)
            .skip))
        (.seq
          (.seq
            (.region false [
              ⟨(some 4), none, .mv (.c (.int .i64 0))⟩])
            (.block 0
              (.loop [1, 3, 4] [0]
                (.seq
                  (.seq
                    (.region false [
                      ⟨(some 24), none, .mv (.s 4)⟩,
                      ⟨(some 25), none, .mv (.s 3)⟩,
                      ⟨(some 26), none, .bin .lss .int (.s 24) (.s 25)⟩])
                    (.cond (.s 26)
                      .skip
                      (.exit 0)))
                  (.seq
                    (.block 1
                      (.seq
                        (.region false [
                          ⟨(some 29), none, .faddr 0 (.s 1)⟩,
                          ⟨(some 30), none, .load none (some 0) (.s 29)⟩,
                          ⟨(some 31), none, .mv (.s 4)⟩,
                          ⟨(some 32), none, .iaddrS 1 (.s 30) (.s 31)⟩,
                          ⟨(some 33), none, .load none none (.s 32)⟩,
                          ⟨(some 34), none, .bin .lss .int (.s 33) (.c (.int .i64 1))⟩,
                          ⟨(some 35), none, .mv (.s 34)⟩,
                          ⟨(some 36), (some (35, false)), .faddr 0 (.s 1)⟩,
                          ⟨(some 37), (some (35, false)), .load none (some 0) (.s 36)⟩,
                          ⟨(some 38), (some (35, false)), .mv (.s 4)⟩,
                          ⟨(some 39), (some (35, false)), .iaddrS 1 (.s 37) (.s 38)⟩,
                          ⟨(some 40), (some (35, false)), .load none none (.s 39)⟩,
                          ⟨(some 41), (some (35, false)), .bin .gtr .int (.s 40) (.c (.int .i64 40))⟩,
                          ⟨(some 42), none, .pick (.s 35) (.c (.bool true)) (.s 41)⟩])
                        (.cond (.s 42)
                          (.seq
                            (.region false [
                              ⟨(some 2), none, .mv (.c (.bool false))⟩])
                            .ret)
                          .skip)))
                    (.region false [
                      ⟨(some 27), none, .mv (.s 4)⟩,
                      ⟨(some 28), none, .bin .add .int (.s 27) (.c (.int .i64 1))⟩,
                      ⟨(some 4), none, .mv (.s 28)⟩]))))))
          (.seq
            (.seq
              (.region false [
                ⟨(some 5), none, .mv (.c (.int .i64 0))⟩])
              (.block 2
                (.loop [1, 3, 5] [0]
                  (.seq
                    (.seq
                      (.region false [
                        ⟨(some 43), none, .mv (.s 5)⟩,
                        ⟨(some 44), none, .mv (.s 3)⟩,
                        ⟨(some 45), none, .bin .sub .int (.s 44) (.c (.int .i64 1))⟩,
                        ⟨(some 46), none, .bin .lss .int (.s 43) (.s 45)⟩])
                      (.cond (.s 46)
                        .skip
                        (.exit 2)))
                    (.seq
                      (.block 3
                        (.seq
                          (.seq
                            (.region true [
                              ⟨(some 49), none, .faddr 1 (.s 1)⟩,
                              ⟨(some 50), none, .load none (some 0) (.s 49)⟩,
                              ⟨(some 51), none, .mv (.s 5)⟩,
                              ⟨(some 52), none, .iaddrS 1 (.s 50) (.s 51)⟩,
                              ⟨(some 53), none, .load none none (.s 52)⟩,
                              ⟨(some 54), none, .len (.s 53)⟩,
                              ⟨(some 55), none, .faddr 0 (.s 1)⟩,
                              ⟨(some 56), none, .load none (some 0) (.s 55)⟩,
                              ⟨(some 57), none, .mv (.s 5)⟩,
                              ⟨(some 58), none, .iaddrS 1 (.s 56) (.s 57)⟩,
                              ⟨(some 59), none, .load none none (.s 58)⟩,
                              ⟨(some 60), none, .bin .neq .int (.s 54) (.s 59)⟩])
                            (.cond (.s 60)
                              (.seq
                                (.region false [
                                  ⟨(some 2), none, .mv (.c (.bool false))⟩])
                                .ret)
                              .skip))
                          (.seq
                            (.region false [
                              ⟨(some 6), none, .mv (.c (.int .i64 0))⟩])
                            (.block 4
                              (.loop [1, 3, 5, 6] [0]
                                (.seq
                                  (.seq
                                    (.region false [
                                      ⟨(some 61), none, .mv (.s 6)⟩,
                                      ⟨(some 62), none, .faddr 1 (.s 1)⟩,
                                      ⟨(some 63), none, .load none (some 0) (.s 62)⟩,
                                      ⟨(some 64), none, .mv (.s 5)⟩,
                                      ⟨(some 65), none, .iaddrS 1 (.s 63) (.s 64)⟩,
                                      ⟨(some 66), none, .load none none (.s 65)⟩,
                                      ⟨(some 67), none, .len (.s 66)⟩,
                                      ⟨(some 68), none, .bin .lss .int (.s 61) (.s 67)⟩])
                                    (.cond (.s 68)
                                      .skip
                                      (.exit 4)))
                                  (.seq
                                    (.block 5
                                      (.seq
                                        (.region true [
                                          ⟨(some 71), none, .faddr 1 (.s 1)⟩,
                                          ⟨(some 72), none, .load none (some 0) (.s 71)⟩,
                                          ⟨(some 73), none, .mv (.s 5)⟩,
                                          ⟨(some 74), none, .iaddrS 1 (.s 72) (.s 73)⟩,
                                          ⟨(some 75), none, .load none none (.s 74)⟩,
                                          ⟨(some 76), none, .mv (.s 6)⟩,
                                          ⟨(some 77), none, .iaddrS 1 (.s 75) (.s 76)⟩,
                                          ⟨(some 78), none, .load none none (.s 77)⟩,
                                          ⟨(some 79), none, .bin .lss .int (.s 78) (.c (.int .i64 0))⟩,
                                          ⟨(some 80), none, .mv (.s 79)⟩,
                                          ⟨(some 81), (some (80, false)), .faddr 1 (.s 1)⟩,
                                          ⟨(some 82), (some (80, false)), .load none (some 0) (.s 81)⟩,
                                          ⟨(some 83), (some (80, false)), .mv (.s 5)⟩,
                                          ⟨(some 84), (some (80, false)), .iaddrS 1 (.s 82) (.s 83)⟩,
                                          ⟨(some 85), (some (80, false)), .load none none (.s 84)⟩,
                                          ⟨(some 86), (some (80, false)), .mv (.s 6)⟩,
                                          ⟨(some 87), (some (80, false)), .iaddrS 1 (.s 85) (.s 86)⟩,
                                          ⟨(some 88), (some (80, false)), .load none none (.s 87)⟩,
                                          ⟨(some 89), (some (80, false)), .faddr 0 (.s 1)⟩,
                                          ⟨(some 90), (some (80, false)), .load none (some 0) (.s 89)⟩,
                                          ⟨(some 91), (some (80, false)), .mv (.s 5)⟩,
                                          ⟨(some 92), (some (80, false)), .bin .add .int (.s 91) (.c (.int .i64 1))⟩,
                                          ⟨(some 93), (some (80, false)), .iaddrS 1 (.s 90) (.s 92)⟩,
                                          ⟨(some 94), (some (80, false)), .load none none (.s 93)⟩,
                                          ⟨(some 95), (some (80, false)), .bin .geq .int (.s 88) (.s 94)⟩,
                                          ⟨(some 96), none, .pick (.s 80) (.c (.bool true)) (.s 95)⟩])
                                        (.cond (.s 96)
                                          (.seq
                                            (.region false [
                                              ⟨(some 2), none, .mv (.c (.bool false))⟩])
                                            .ret)
                                          .skip)))
                                    (.region false [
                                      ⟨(some 69), none, .mv (.s 6)⟩,
                                      ⟨(some 70), none, .bin .add .int (.s 69) (.c (.int .i64 1))⟩,
                                      ⟨(some 6), none, .mv (.s 70)⟩]))))))))
                      (.region false [
                        ⟨(some 47), none, .mv (.s 5)⟩,
                        ⟨(some 48), none, .bin .add .int (.s 47) (.c (.int .i64 1))⟩,
                        ⟨(some 5), none, .mv (.s 48)⟩]))))))
            (.seq
              (.region false [
                ⟨(some 2), none, .mv (.c (.bool true))⟩])
              .ret)))))) }
/- cuboid/cuboidref04.Good -/
def f8 : MFun := { nt := 38, np := 1, no := 1, res := [.slot 2], body :=
  (.seq
    (.region false [
      ⟨(some 1), none, .box 0 (.s 0)⟩,
      ⟨(some 2), none, .mv (.c (.bool false))⟩])
    (.seq
      (.seq
        (.region false [
          ⟨(some 4), none, .faddr 0 (.s 1)⟩,
          ⟨(some 5), none, .load none (some 0) (.s 4)⟩,
          ⟨(some 6), none, .len (.s 5)⟩,
          ⟨(some 7), none, .bin .lss .int (.s 6) (.c (.int .i64 1))⟩,
          ⟨(some 8), none, .mv (.s 7)⟩,
          ⟨(some 9), (some (8, false)), .faddr 0 (.s 1)⟩,
          ⟨(some 10), (some (8, false)), .load none (some 0) (.s 9)⟩,
          ⟨(some 11), (some (8, false)), .len (.s 10)⟩,
          ⟨(some 12), (some (8, false)), .bin .gtr .int (.s 11) (.c (.int .i64 4))⟩,
          ⟨(some 13), none, .pick (.s 8) (.c (.bool true)) (.s 12)⟩,
          ⟨(some 14), none, .mv (.s 13)⟩,
          ⟨(some 15), (some (14, false)), .faddr 1 (.s 1)⟩,
          ⟨(some 16), (some (14, false)), .load none (some 0) (.s 15)⟩,
          ⟨(some 17), (some (14, false)), .bin .lss .int (.s 16) (.c (.int .i64 1))⟩,
          ⟨(some 18), none, .pick (.s 14) (.c (.bool true)) (.s 17)⟩,
          ⟨(some 19), none, .mv (.s 18)⟩,
          ⟨(some 20), (some (19, false)), .faddr 1 (.s 1)⟩,
          ⟨(some 21), (some (19, false)), .load none (some 0) (.s 20)⟩,
          ⟨(some 22), (some (19, false)), .bin .gtr .int (.s 21) (.c (.int .i64 2))⟩,
          ⟨(some 23), none, .pick (.s 19) (.c (.bool true)) (.s 22)⟩])
        (.cond (.s 23)
          (.seq
            (.region false [
              ⟨(some 2), none, .mv (.c (.bool false))⟩])
            .ret)
          .skip))
      (.seq
        (.seq
          (.region false [
            ⟨(some 3), none, .mv (.c (.int .i64 0))⟩])
          (.block 0
            (.loop [1, 3] [0]
              (.seq
                (.seq
                  (.region false [
                    ⟨(some 24), none, .mv (.s 3)⟩,
                    ⟨(some 25), none, .faddr 0 (.s 1)⟩,
                    ⟨(some 26), none, .load none (some 0) (.s 25)⟩,
                    ⟨(some 27), none, .len (.s 26)⟩,
                    ⟨(some 28), none, .bin .lss .int (.s 24) (.s 27)⟩])
                  (.cond (.s 28)
                    .skip
                    (.exit 0)))
                (.seq
                  (.block 1
                    (.seq
                      (.region false [
                        ⟨(some 31), none, .faddr 0 (.s 1)⟩,
                        ⟨(some 32), none, .load none (some 0) (.s 31)⟩,
                        ⟨(some 33), none, .mv (.s 3)⟩,
                        ⟨(some 34), none, .iaddrS 2 (.s 32) (.s 33)⟩,
                        ⟨(some 35), none, .load (some 2) none (.s 34)⟩,
                        ⟨(some 36), none, .call (.c (.fn 34 [] [])) [(.s 35)] [] [] [] false⟩,
                        ⟨(some 37), none, .un .not (.s 36)⟩])
                      (.cond (.s 37)
                        (.seq
                          (.region false [
                            ⟨(some 2), none, .mv (.c (.bool false))⟩])
                          .ret)
                        .skip)))
                  (.region false [
                    ⟨(some 29), none, .mv (.s 3)⟩,
                    ⟨(some 30), none, .bin .add .int (.s 29) (.c (.int .i64 1))⟩,
                    ⟨(some 3), none, .mv (.s 30)⟩]))))))
        (.seq
          (.region false [
            ⟨(some 2), none, .mv (.c (.bool true))⟩])
          .ret)))) }
/- cuboid/lattice.Base -/
def f13 : MFun := { nt := 2, np := 0, no := 1, res := [.cell 0 0 (some 4)], body :=
  (.seq
    (.region false [
      ⟨(some 0), none, .alloc 0 [.int .u8 0, .int .u8 0, .int .u8 0, .int .u8 0]⟩])
    (.seq
      (.region false [
        ⟨(some 1), none, .build [.int .u8 0, .int .u8 0, .int .u8 0, .int .u8 0] []⟩,
        ⟨none, none, .store 4 0 [] (.s 0) (.s 1)⟩])
      .ret)) }
/- cuboid/schema.between -/
def f42 : MFun := { nt := 15, np := 3, no := 0, res := [.slot 6], body :=
  (.seq
    (.region false [
      ⟨(some 6), none, .mv (.c (.bool false))⟩])
    (.seq
      (.region false [
        ⟨(some 7), none, .mv (.s 0)⟩,
        ⟨(some 8), none, .mv (.s 1)⟩,
        ⟨(some 9), none, .bin .geq .int (.s 7) (.s 8)⟩,
        ⟨(some 10), none, .mv (.s 9)⟩,
        ⟨(some 11), (some (10, true)), .mv (.s 0)⟩,
        ⟨(some 12), (some (10, true)), .mv (.s 2)⟩,
        ⟨(some 13), (some (10, true)), .bin .leq .int (.s 11) (.s 12)⟩,
        ⟨(some 14), none, .pick (.s 10) (.s 13) (.c (.bool false))⟩,
        ⟨(some 6), none, .mv (.s 14)⟩])
      .ret)) }
/- cuboid/hier.between -/
def f44 : MFun := { nt := 15, np := 3, no := 0, res := [.slot 6], body :=
  (.seq
    (.region false [
      ⟨(some 6), none, .mv (.c (.bool false))⟩])
    (.seq
      (.region false [
        ⟨(some 7), none, .mv (.s 0)⟩,
        ⟨(some 8), none, .mv (.s 1)⟩,
        ⟨(some 9), none, .bin .geq .int (.s 7) (.s 8)⟩,
        ⟨(some 10), none, .mv (.s 9)⟩,
        ⟨(some 11), (some (10, true)), .mv (.s 0)⟩,
        ⟨(some 12), (some (10, true)), .mv (.s 2)⟩,
        ⟨(some 13), (some (10, true)), .bin .leq .int (.s 11) (.s 12)⟩,
        ⟨(some 14), none, .pick (.s 10) (.s 13) (.c (.bool false))⟩,
        ⟨(some 6), none, .mv (.s 14)⟩])
      .ret)) }
/- cuboid/hier.up -/
def f45 : MFun := { nt := 25, np := 3, no := 0, res := [.slot 6], body :=
  (.seq
    (.region false [
      ⟨(some 6), none, .mv (.c (.bool false))⟩])
    (.seq
      (.seq
        (.region false [
          ⟨(some 9), none, .mv (.s 0)⟩,
          ⟨(some 10), none, .len (.s 9)⟩,
          ⟨(some 11), none, .mv (.s 1)⟩,
          ⟨(some 12), none, .bin .neq .int (.s 10) (.s 11)⟩])
        (.cond (.s 12)
          (.seq
            (.region false [
              ⟨(some 6), none, .mv (.c (.bool false))⟩])
            .ret)
          .skip))
      (.seq
        (.seq
          (.region false [
            ⟨(some 13), none, .mv (.s 0)⟩,
            ⟨(some 14), none, .len (.s 13)⟩,
            ⟨(some 15), none, .mv (.c (.int .i64 0))⟩])
          (.block 0
            (.loop [2, 13, 14, 15] []
              (.seq
                (.region false [
                  ⟨(some 16), none, .bin .lss .int (.s 15) (.s 14)⟩])
                (.seq
                  (.cond (.s 16)
                    .skip
                    (.exit 0))
                  (.seq
                    (.block 1
                      (.seq
                        (.region false [
                          ⟨(some 17), none, .iaddrS 1 (.s 13) (.s 15)⟩,
                          ⟨(some 18), none, .load none none (.s 17)⟩,
                          ⟨(some 8), none, .mv (.s 18)⟩])
                        (.seq
                          (.region false [
                            ⟨(some 19), none, .mv (.s 8)⟩,
                            ⟨(some 20), none, .mv (.s 2)⟩,
                            ⟨(some 21), none, .bin .sub .int (.s 20) (.c (.int .i64 1))⟩,
                            ⟨(some 22), none, .call (.c (.fn 44 [] [])) [(.s 19), (.c (.int .i64 0)), (.s 21)] [] [] [] false⟩,
                            ⟨(some 23), none, .un .not (.s 22)⟩])
                          (.cond (.s 23)
                            (.seq
                              (.region false [
                                ⟨(some 6), none, .mv (.c (.bool false))⟩])
                              .ret)
                            .skip))))
                    (.region false [
                      ⟨(some 24), none, .bin .add .int (.s 15) (.c (.int .i64 1))⟩,
                      ⟨(some 15), none, .mv (.s 24)⟩])))))))
        (.seq
          (.region false [
            ⟨(some 6), none, .mv (.c (.bool true))⟩])
          .ret)))) }
/- cuboid/hier.Good -/
def f43 : MFun := { nt := 57, np := 1, no := 1, res := [.slot 2], body :=
  (.seq
    (.region false [
      ⟨(some 1), none, .box 0 (.s 0)⟩,
      ⟨(some 2), none, .mv (.c (.bool false))⟩])
    (.seq
      (.seq
        (.region false [
          ⟨(some 6), none, .faddr 0 (.s 1)⟩,
          ⟨(some 7), none, .load none (some 0) (.s 6)⟩,
          ⟨(some 8), none, .len (.s 7)⟩,
          ⟨(some 9), none, .call (.c (.fn 44 [] [])) [(.s 8), (.c (.int .i64 1)), (.c (.int .i64 4))] [] [] [] false⟩,
          ⟨(some 10), none, .un .not (.s 9)⟩,
          ⟨(some 11), none, .mv (.s 10)⟩,
          ⟨(some 12), (some (11, false)), .faddr 1 (.s 1)⟩,
          ⟨(some 13), (some (11, false)), .load none (some 0) (.s 12)⟩,
          ⟨(some 14), (some (11, false)), .len (.s 13)⟩,
          ⟨(some 15), (some (11, false)), .faddr 0 (.s 1)⟩,
          ⟨(some 16), (some (11, false)), .load none (some 0) (.s 15)⟩,
          ⟨(some 17), (some (11, false)), .len (.s 16)⟩,
          ⟨(some 18), (some (11, false)), .bin .sub .int (.s 17) (.c (.int .i64 1))⟩,
          ⟨(some 19), (some (11, false)), .bin .neq .int (.s 14) (.s 18)⟩,
          ⟨(some 20), none, .pick (.s 11) (.c (.bool true)) (.s 19)⟩])
        (.cond (.s 20)
          (.seq
            (.region false [
              ⟨(some 2), none, .mv (.c (.bool false))⟩])
            .ret)
          .skip))
      (.seq
        (.seq
          (.region false [
            ⟨(some 21), none, .faddr 0 (.s 1)⟩,
            ⟨(some 22), none, .load none (some 0) (.s 21)⟩,
            ⟨(some 23), none, .len (.s 22)⟩,
            ⟨(some 24), none, .mv (.c (.int .i64 0))⟩])
          (.block 0
            (.loop [1, 22, 23, 24] [0]
              (.seq
                (.region false [
                  ⟨(some 25), none, .bin .lss .int (.s 24) (.s 23)⟩])
                (.seq
                  (.cond (.s 25)
                    .skip
                    (.exit 0))
                  (.seq
                    (.block 1
                      (.seq
                        (.region false [
                          ⟨(some 26), none, .iaddrS 1 (.s 22) (.s 24)⟩,
                          ⟨(some 27), none, .load none none (.s 26)⟩,
                          ⟨(some 4), none, .mv (.s 27)⟩])
                        (.seq
                          (.region false [
                            ⟨(some 28), none, .mv (.s 4)⟩,
                            ⟨(some 29), none, .call (.c (.fn 44 [] [])) [(.s 28), (.c (.int .i64 1)), (.c (.int .i64 40))] [] [] [] false⟩,
                            ⟨(some 30), none, .un .not (.s 29)⟩])
                          (.cond (.s 30)
                            (.seq
                              (.region false [
                                ⟨(some 2), none, .mv (.c (.bool false))⟩])
                              .ret)
                            .skip))))
                    (.region false [
                      ⟨(some 31), none, .bin .add .int (.s 24) (.c (.int .i64 1))⟩,
                      ⟨(some 24), none, .mv (.s 31)⟩])))))))
        (.seq
          (.seq
            (.region false [
              ⟨(some 32), none, .faddr 1 (.s 1)⟩,
              ⟨(some 33), none, .load none (some 0) (.s 32)⟩,
              ⟨(some 34), none, .len (.s 33)⟩,
              ⟨(some 35), none, .mv (.c (.int .i64 0))⟩])
            (.block 2
              (.loop [1, 34, 35] [0]
                (.seq
                  (.region false [
                    ⟨(some 36), none, .bin .lss .int (.s 35) (.s 34)⟩])
                  (.seq
                    (.cond (.s 36)
                      .skip
                      (.exit 2))
                    (.seq
                      (.block 3
                        (.seq
                          (.region false [
                            ⟨(some 37), none, .mv (.s 35)⟩,
                            ⟨(some 5), none, .mv (.s 37)⟩])
                          (.seq
                            (.region true [
                              ⟨(some 38), none, .faddr 1 (.s 1)⟩,
                              ⟨(some 39), none, .load none (some 0) (.s 38)⟩,
                              ⟨(some 40), none, .mv (.s 5)⟩,
                              ⟨(some 41), none, .iaddrS 1 (.s 39) (.s 40)⟩,
                              ⟨(some 42), none, .load none none (.s 41)⟩,
                              ⟨(some 43), none, .faddr 0 (.s 1)⟩,
                              ⟨(some 44), none, .load none (some 0) (.s 43)⟩,
                              ⟨(some 45), none, .mv (.s 5)⟩,
                              ⟨(some 46), none, .iaddrS 1 (.s 44) (.s 45)⟩,
                              ⟨(some 47), none, .load none none (.s 46)⟩,
                              ⟨(some 48), none, .faddr 0 (.s 1)⟩,
                              ⟨(some 49), none, .load none (some 0) (.s 48)⟩,
                              ⟨(some 50), none, .mv (.s 5)⟩,
                              ⟨(some 51), none, .bin .add .int (.s 50) (.c (.int .i64 1))⟩,
                              ⟨(some 52), none, .iaddrS 1 (.s 49) (.s 51)⟩,
                              ⟨(some 53), none, .load none none (.s 52)⟩,
                              ⟨(some 54), none, .call (.c (.fn 45 [] [])) [(.s 42), (.s 47), (.s 53)] [] [] [] false⟩,
                              ⟨(some 55), none, .un .not (.s 54)⟩])
                            (.cond (.s 55)
                              (.seq
                                (.region false [
                                  ⟨(some 2), none, .mv (.c (.bool false))⟩])
                                .ret)
                              .skip))))
                      (.region false [
                        ⟨(some 56), none, .bin .add .int (.s 35) (.c (.int .i64 1))⟩,
                        ⟨(some 35), none, .mv (.s 56)⟩])))))))
          (.seq
            (.region false [
              ⟨(some 2), none, .mv (.c (.bool true))⟩])
            .ret))))) }
/- cuboid/schema.Good -/
def f35 : MFun := { nt := 27, np := 1, no := 2, res := [.slot 2], body :=
  (.seq
    (.region false [
      ⟨(some 1), none, .box 0 (.s 0)⟩,
      ⟨(some 2), none, .mv (.c (.bool false))⟩])
    (.seq
      (.seq
        (.region false [
          ⟨(some 5), none, .faddr 0 (.s 1)⟩,
          ⟨(some 6), none, .load none (some 0) (.s 5)⟩,
          ⟨(some 7), none, .len (.s 6)⟩,
          ⟨(some 8), none, .call (.c (.fn 42 [] [])) [(.s 7), (.c (.int .i64 1)), (.c (.int .i64 4))] [] [] [] false⟩,
          ⟨(some 9), none, .un .not (.s 8)⟩,
          ⟨(some 10), none, .mv (.s 9)⟩,
          ⟨(some 11), (some (10, false)), .faddr 1 (.s 1)⟩,
          ⟨(some 12), (some (10, false)), .load none (some 0) (.s 11)⟩,
          ⟨(some 13), (some (10, false)), .call (.c (.fn 42 [] [])) [(.s 12), (.c (.int .i64 1)), (.c (.int .i64 2))] [] [] [] false⟩,
          ⟨(some 14), (some (10, false)), .un .not (.s 13)⟩,
          ⟨(some 15), none, .pick (.s 10) (.c (.bool true)) (.s 14)⟩])
        (.cond (.s 15)
          (.seq
            (.region false [
              ⟨(some 2), none, .mv (.c (.bool false))⟩])
            .ret)
          .skip))
      (.seq
        (.seq
          (.region false [
            ⟨(some 16), none, .faddr 0 (.s 1)⟩,
            ⟨(some 17), none, .load none (some 0) (.s 16)⟩,
            ⟨(some 18), none, .len (.s 17)⟩,
            ⟨(some 19), none, .mv (.c (.int .i64 0))⟩])
          (.block 0
            (.loop [17, 18, 19] []
              (.seq
                (.region false [
                  ⟨(some 20), none, .bin .lss .int (.s 19) (.s 18)⟩])
                (.seq
                  (.cond (.s 20)
                    .skip
                    (.exit 0))
                  (.seq
                    (.block 1
                      (.seq
                        (.region false [
                          ⟨(some 21), none, .iaddrS 2 (.s 17) (.s 19)⟩,
                          ⟨(some 22), none, .load (some 2) none (.s 21)⟩,
                          ⟨(some 4), none, .alloc 1 [.nilsl, .nilsl]⟩,
                          ⟨none, none, .store 2 1 [] (.s 4) (.s 22)⟩])
                        (.seq
                          (.region false [
                            ⟨(some 23), none, .load (some 2) (some 1) (.s 4)⟩,
                            ⟨(some 24), none, .call (.c (.fn 43 [] [])) [(.s 23)] [] [] [] false⟩,
                            ⟨(some 25), none, .un .not (.s 24)⟩])
                          (.cond (.s 25)
                            (.seq
                              (.region false [
                                ⟨(some 2), none, .mv (.c (.bool false))⟩])
                              .ret)
                            .skip))))
                    (.region false [
                      ⟨(some 26), none, .bin .add .int (.s 19) (.c (.int .i64 1))⟩,
                      ⟨(some 19), none, .mv (.s 26)⟩])))))))
        (.seq
          (.region false [
            ⟨(some 2), none, .mv (.c (.bool true))⟩])
          .ret)))) }
/- cuboid/lattice.Whole -/
def f14 : MFun := { nt := 26, np := 1, no := 4, res := [.cell 2 1 (some 4)], body :=
  (.seq
    (.region false [
      ⟨(some 1), none, .box 0 (.s 0)⟩,
      ⟨(some 2), none, .alloc 1 [.int .u8 0, .int .u8 0, .int .u8 0, .int .u8 0]⟩])
    (.seq
      (.region false [
        ⟨(some 3), none, .alloc 2 [.int .u8 0, .int .u8 0, .int .u8 0, .int .u8 0]⟩])
      (.seq
        (.seq
          (.region false [
            ⟨(some 6), none, .load (some 2) (some 0) (.s 1)⟩,
            ⟨(some 7), none, .call (.c (.fn 35 [] [])) [(.s 6)] [] [] [] false⟩,
            ⟨(some 8), none, .un .not (.s 7)⟩])
          (.cond (.s 8)
            (.seq
              (.region false [
                ⟨(some 9), none, .load (some 4) (some 2) (.s 3)⟩,
                ⟨none, none, .store 4 1 [] (.s 2) (.s 9)⟩])
              .ret)
            .skip))
        (.seq
          (.seq
            (.region false [
              ⟨(some 10), none, .faddr 0 (.s 1)⟩,
              ⟨(some 11), none, .load none (some 0) (.s 10)⟩,
              ⟨(some 12), none, .len (.s 11)⟩,
              ⟨(some 13), none, .mv (.c (.int .i64 0))⟩])
            (.block 0
              (.loop [2, 3, 11, 12, 13] [1, 2]
                (.seq
                  (.region false [
                    ⟨(some 14), none, .bin .lss .int (.s 13) (.s 12)⟩])
                  (.seq
                    (.cond (.s 14)
                      .skip
                      (.exit 0))
                    (.seq
                      (.block 1
                        (.seq
                          (.region false [
                            ⟨(some 15), none, .mv (.s 13)⟩,
                            ⟨(some 16), none, .iaddrS 2 (.s 11) (.s 13)⟩,
                            ⟨(some 17), none, .load (some 2) none (.s 16)⟩,
                            ⟨(some 5), none, .alloc 3 [.nilsl, .nilsl]⟩,
                            ⟨(some 4), none, .mv (.s 15)⟩,
                            ⟨none, none, .store 2 3 [] (.s 5) (.s 17)⟩])
                          (.region false [
                            ⟨(some 18), none, .mv (.s 4)⟩,
                            ⟨(some 19), none, .faddr 0 (.s 5)⟩,
                            ⟨(some 20), none, .load none (some 3) (.s 19)⟩,
                            ⟨(some 21), none, .len (.s 20)⟩,
                            ⟨(some 22), none, .conv .u8 (.s 21)⟩,
                            ⟨(some 23), none, .iaddrA 4 1 (.s 3) (.s 18)⟩,
                            ⟨none, none, .store 1 2 [] (.s 23) (.s 22)⟩])))
                      (.region false [
                        ⟨(some 24), none, .bin .add .int (.s 13) (.c (.int .i64 1))⟩,
                        ⟨(some 13), none, .mv (.s 24)⟩])))))))
          (.seq
            (.region false [
              ⟨(some 25), none, .load (some 4) (some 2) (.s 3)⟩,
              ⟨none, none, .store 4 1 [] (.s 2) (.s 25)⟩])
            .ret))))) }
/- cuboid/lattice.next -/
def f36 : MFun := { nt := 26, np := 2, no := 3, res := [.cell 4 2 (some 4)], body :=
  (.seq
    (.region false [
      ⟨(some 2), none, .box 0 (.s 0)⟩,
      ⟨(some 3), none, .box 1 (.s 1)⟩,
      ⟨(some 4), none, .alloc 2 [.int .u8 0, .int .u8 0, .int .u8 0, .int .u8 0]⟩])
    (.seq
      (.seq
        (.region false [
          ⟨(some 5), none, .mv (.c (.int .i64 3))⟩])
        (.block 0
          (.loop [2, 3, 4, 5] [0, 1, 2]
            (.seq
              (.seq
                (.region false [
                  ⟨(some 6), none, .mv (.s 5)⟩,
                  ⟨(some 7), none, .bin .geq .int (.s 6) (.c (.int .i64 0))⟩])
                (.cond (.s 7)
                  .skip
                  (.exit 0)))
              (.seq
                (.block 1
                  (.seq
                    (.seq
                      (.region true [
                        ⟨(some 10), none, .mv (.s 5)⟩,
                        ⟨(some 11), none, .iaddrA 4 1 (.s 2) (.s 10)⟩,
                        ⟨(some 12), none, .load none (some 0) (.s 11)⟩,
                        ⟨(some 13), none, .mv (.s 5)⟩,
                        ⟨(some 14), none, .iaddrA 4 1 (.s 3) (.s 13)⟩,
                        ⟨(some 15), none, .load none (some 1) (.s 14)⟩,
                        ⟨(some 16), none, .bin .lss .int (.s 12) (.s 15)⟩])
                      (.cond (.s 16)
                        (.seq
                          (.region false [
                            ⟨(some 17), none, .mv (.s 5)⟩,
                            ⟨(some 18), none, .iaddrA 4 1 (.s 2) (.s 17)⟩,
                            ⟨(some 19), none, .load none (some 0) (.s 18)⟩,
                            ⟨(some 20), none, .bin .add .int (.s 19) (.c (.int .u8 1))⟩,
                            ⟨(some 21), none, .iaddrA 4 1 (.s 2) (.s 17)⟩,
                            ⟨none, none, .store 1 0 [] (.s 21) (.s 20)⟩])
                          (.seq
                            (.region false [
                              ⟨(some 22), none, .load (some 4) (some 0) (.s 2)⟩,
                              ⟨none, none, .store 4 2 [] (.s 4) (.s 22)⟩])
                            .ret))
                        .skip))
                    (.region false [
                      ⟨(some 23), none, .mv (.s 5)⟩,
                      ⟨(some 24), none, .iaddrA 4 1 (.s 2) (.s 23)⟩,
                      ⟨none, none, .store 1 0 [] (.s 24) (.c (.int .u8 0))⟩])))
                (.region false [
                  ⟨(some 8), none, .mv (.s 5)⟩,
                  ⟨(some 9), none, .bin .sub .int (.s 8) (.c (.int .i64 1))⟩,
                  ⟨(some 5), none, .mv (.s 9)⟩]))))))
      (.seq
        (.region false [
          ⟨(some 25), none, .load (some 4) (some 0) (.s 2)⟩,
          ⟨none, none, .store 4 2 [] (.s 4) (.s 25)⟩])
        .ret))) }
/- cuboid/lattice.All -/
def f10 : MFun := { nt := 27, np := 1, no := 4, res := [.slot 2], body :=
  (.seq
    (.region false [
      ⟨(some 1), none, .box 0 (.s 0)⟩,
      ⟨(some 2), none, .mv (.c .nilsl)⟩])
    (.seq
      (.seq
        (.region false [
          ⟨(some 6), none, .load (some 2) (some 0) (.s 1)⟩,
          ⟨(some 7), none, .call (.c (.fn 35 [] [])) [(.s 6)] [] [] [] false⟩,
          ⟨(some 8), none, .un .not (.s 7)⟩])
        (.cond (.s 8)
          (.seq
            (.region false [
              ⟨(some 2), none, .mv (.c .nilsl)⟩])
            .ret)
          .skip))
      (.seq
        (.region false [
          ⟨(some 9), none, .call (.c (.fn 13 [] [])) [] [] [] [] false⟩,
          ⟨(some 10), none, .lit (some 1) [] 1 4 [.int .u8 0, .int .u8 0, .int .u8 0, .int .u8 0] [(0, 4, (.s 9))]⟩,
          ⟨(some 3), none, .mv (.s 10)⟩])
        (.seq
          (.seq
            (.region true [
              ⟨(some 11), none, .call (.c (.fn 13 [] [])) [] [] [] [] false⟩,
              ⟨(some 12), none, .load (some 2) (some 0) (.s 1)⟩,
              ⟨(some 13), none, .call (.c (.fn 14 [] [])) [(.s 12)] [] [] [] false⟩,
              ⟨(some 4), none, .alloc 2 [.int .u8 0, .int .u8 0, .int .u8 0, .int .u8 0]⟩,
              ⟨(some 5), none, .alloc 3 [.int .u8 0, .int .u8 0, .int .u8 0, .int .u8 0]⟩,
              ⟨none, none, .store 4 2 [] (.s 4) (.s 11)⟩,
              ⟨none, none, .store 4 3 [] (.s 5) (.s 13)⟩])
            (.block 0
              (.loop [3, 4, 5] [1, 2, 3]
                (.seq
                  (.seq
                    (.region false [
                      ⟨(some 14), none, .load (some 4) (some 2) (.s 4)⟩,
                      ⟨(some 15), none, .load (some 4) (some 3) (.s 5)⟩,
                      ⟨(some 16), none, .bin .neq (.agg [some .u8, some .u8, some .u8, some .u8]) (.s 14) (.s 15)⟩])
                    (.cond (.s 16)
                      .skip
                      (.exit 0)))
                  (.seq
                    (.block 1
                      (.seq
                        (.region false [
                          ⟨(some 17), none, .load (some 4) (some 2) (.s 4)⟩,
                          ⟨(some 18), none, .load (some 4) (some 3) (.s 5)⟩,
                          ⟨(some 19), none, .call (.c (.fn 36 [] [])) [(.s 17), (.s 18)] [] [] [] false⟩,
                          ⟨none, none, .store 4 2 [] (.s 4) (.s 19)⟩])
                        (.region false [
                          ⟨(some 20), none, .mv (.s 3)⟩,
                          ⟨(some 21), none, .load (some 4) (some 2) (.s 4)⟩,
                          ⟨(some 22), none, .lit none [] 1 4 [.int .u8 0, .int .u8 0, .int .u8 0, .int .u8 0] [(0, 4, (.s 21))]⟩,
                          ⟨(some 23), none, .append 4 4 1 none (.s 20) (.s 22)⟩,
                          ⟨(some 3), none, .mv (.s 23)⟩])))
                    (.seq
                      (.region false [
                        ⟨(some 24), none, .load (some 4) (some 2) (.s 4)⟩,
                        ⟨(some 25), none, .load (some 4) (some 3) (.s 5)⟩])
                      (.region false [
                        ⟨(some 4), none, .alloc 2 [.int .u8 0, .int .u8 0, .int .u8 0, .int .u8 0]⟩,
                        ⟨none, none, .store 4 2 [] (.s 4) (.s 24)⟩,
                        ⟨(some 5), none, .alloc 3 [.int .u8 0, .int .u8 0, .int .u8 0, .int .u8 0]⟩,
                        ⟨none, none, .store 4 3 [] (.s 5) (.s 25)⟩])))))))
          (.seq
            (.region false [
              ⟨(some 26), none, .mv (.s 3)⟩,
              ⟨(some 2), none, .mv (.s 26)⟩])
            .ret))))) }
/- cuboid/hier.Size -/
def f40 : MFun := { nt := 28, np := 2, no := 1, res := [.slot 4], body :=
  (.seq
    (.region false [
      ⟨(some 2), none, .box 0 (.s 0)⟩,
      ⟨(some 4), none, .mv (.c (.int .i64 0))⟩])
    (.seq
      (.block 0
        (.seq
          (.region false [
            ⟨(some 6), none, .load (some 2) (some 0) (.s 2)⟩,
            ⟨(some 7), none, .call (.c (.fn 43 [] [])) [(.s 6)] [] [] [] false⟩,
            ⟨(some 8), none, .un .not (.s 7)⟩,
            ⟨(some 9), none, .mv (.s 8)⟩,
            ⟨(some 10), (some (9, false)), .mv (.s 1)⟩,
            ⟨(some 11), (some (9, false)), .faddr 0 (.s 2)⟩,
            ⟨(some 12), (some (9, false)), .load none (some 0) (.s 11)⟩,
            ⟨(some 13), (some (9, false)), .len (.s 12)⟩,
            ⟨(some 14), (some (9, false)), .call (.c (.fn 44 [] [])) [(.s 10), (.c (.int .i64 0)), (.s 13)] [] [] [] false⟩,
            ⟨(some 15), (some (9, false)), .un .not (.s 14)⟩,
            ⟨(some 16), none, .pick (.s 9) (.c (.bool true)) (.s 15)⟩,
            ⟨(some 5), none, .mv (.s 16)⟩])
          (.cond (.s 5)
            (.seq
              (.region false [
                ⟨(some 4), none, .mv (.c (.int .i64 0))⟩])
              .ret)
            (.seq
              (.region false [
                ⟨(some 18), none, .mv (.s 1)⟩,
                ⟨(some 19), none, .faddr 0 (.s 2)⟩,
                ⟨(some 20), none, .load none (some 0) (.s 19)⟩,
                ⟨(some 21), none, .len (.s 20)⟩,
                ⟨(some 22), none, .bin .eql .int (.s 18) (.s 21)⟩,
                ⟨(some 17), none, .mv (.s 22)⟩])
              (.cond (.s 17)
                (.seq
                  (.region false [
                    ⟨(some 4), none, .mv (.c (.int .i64 1))⟩])
                  .ret)
                .skip)))))
      (.seq
        (.region false [
          ⟨(some 23), none, .faddr 0 (.s 2)⟩,
          ⟨(some 24), none, .load none (some 0) (.s 23)⟩,
          ⟨(some 25), none, .mv (.s 1)⟩,
          ⟨(some 26), none, .iaddrS 1 (.s 24) (.s 25)⟩,
          ⟨(some 27), none, .load none none (.s 26)⟩,
          ⟨(some 4), none, .mv (.s 27)⟩])
        .ret))) }
/- cuboid/schema.Right -/
def f37 : MFun := { nt := 45, np := 3, no := 3, res := [.slot 6], body :=
  (.seq
    (.region false [
      ⟨(some 3), none, .box 0 (.s 0)⟩,
      ⟨(some 4), none, .box 1 (.s 1)⟩,
      ⟨(some 5), none, .box 2 (.s 2)⟩,
      ⟨(some 6), none, .mv (.c (.bool false))⟩])
    (.seq
      (.seq
        (.region false [
          ⟨(some 8), none, .load (some 2) (some 0) (.s 3)⟩,
          ⟨(some 9), none, .call (.c (.fn 35 [] [])) [(.s 8)] [] [] [] false⟩,
          ⟨(some 10), none, .un .not (.s 9)⟩])
        (.cond (.s 10)
          (.seq
            (.region false [
              ⟨(some 6), none, .mv (.c (.bool false))⟩])
            .ret)
          .skip))
      (.seq
        (.seq
          (.region false [
            ⟨(some 11), none, .mv (.c (.int .i64 0))⟩])
          (.block 0
            (.loop [3, 4, 5, 11] [0, 1, 2]
              (.seq
                (.region false [
                  ⟨(some 12), none, .bin .lss .int (.s 11) (.c (.int .i64 4))⟩])
                (.seq
                  (.cond (.s 12)
                    .skip
                    (.exit 0))
                  (.seq
                    (.block 1
                      (.seq
                        (.region false [
                          ⟨(some 13), none, .mv (.s 11)⟩,
                          ⟨(some 7), none, .mv (.s 13)⟩])
                        (.seq
                          (.seq
                            (.region false [
                              ⟨(some 14), none, .mv (.s 7)⟩,
                              ⟨(some 15), none, .faddr 0 (.s 3)⟩,
                              ⟨(some 16), none, .load none (some 0) (.s 15)⟩,
                              ⟨(some 17), none, .len (.s 16)⟩,
                              ⟨(some 18), none, .bin .geq .int (.s 14) (.s 17)⟩])
                            (.cond (.s 18)
                              (.seq
                                (.seq
                                  (.region false [
                                    ⟨(some 19), none, .mv (.s 7)⟩,
                                    ⟨(some 20), none, .iaddrA 4 1 (.s 4) (.s 19)⟩,
                                    ⟨(some 21), none, .load none (some 1) (.s 20)⟩,
                                    ⟨(some 22), none, .bin .neq .int (.s 21) (.c (.int .u8 0))⟩,
                                    ⟨(some 23), none, .mv (.s 22)⟩,
                                    ⟨(some 24), (some (23, false)), .mv (.s 7)⟩,
                                    ⟨(some 25), (some (23, false)), .iaddrA 4 1 (.s 5) (.s 24)⟩,
                                    ⟨(some 26), (some (23, false)), .load none (some 2) (.s 25)⟩,
                                    ⟨(some 27), (some (23, false)), .bin .neq .int (.s 26) (.c (.int .u8 0))⟩,
                                    ⟨(some 28), none, .pick (.s 23) (.c (.bool true)) (.s 27)⟩])
                                  (.cond (.s 28)
                                    (.seq
                                      (.region false [
                                        ⟨(some 6), none, .mv (.c (.bool false))⟩])
                                      .ret)
                                    .skip))
                                (.exit 1))
                              .skip))
                          (.seq
                            (.region true [
                              ⟨(some 29), none, .mv (.s 7)⟩,
                              ⟨(some 30), none, .iaddrA 4 1 (.s 5) (.s 29)⟩,
                              ⟨(some 31), none, .load none (some 2) (.s 30)⟩,
                              ⟨(some 32), none, .conv .i64 (.s 31)⟩,
                              ⟨(some 33), none, .faddr 0 (.s 3)⟩,
                              ⟨(some 34), none, .load none (some 0) (.s 33)⟩,
                              ⟨(some 35), none, .mv (.s 7)⟩,
                              ⟨(some 36), none, .iaddrS 2 (.s 34) (.s 35)⟩,
                              ⟨(some 37), none, .load (some 2) none (.s 36)⟩,
                              ⟨(some 38), none, .mv (.s 7)⟩,
                              ⟨(some 39), none, .iaddrA 4 1 (.s 4) (.s 38)⟩,
                              ⟨(some 40), none, .load none (some 1) (.s 39)⟩,
                              ⟨(some 41), none, .conv .i64 (.s 40)⟩,
                              ⟨(some 42), none, .call (.c (.fn 40 [] [])) [(.s 37), (.s 41)] [] [] [] false⟩,
                              ⟨(some 43), none, .bin .geq .int (.s 32) (.s 42)⟩])
                            (.cond (.s 43)
                              (.seq
                                (.region false [
                                  ⟨(some 6), none, .mv (.c (.bool false))⟩])
                                .ret)
                              .skip)))))
                    (.region false [
                      ⟨(some 44), none, .bin .add .int (.s 11) (.c (.int .i64 1))⟩,
                      ⟨(some 11), none, .mv (.s 44)⟩])))))))
        (.seq
          (.region false [
            ⟨(some 6), none, .mv (.c (.bool true))⟩])
          .ret)))) }
/- cuboid/lattice.Good -/
def f11 : MFun := { nt := 9, np := 2, no := 2, res := [.slot 4], body :=
  (.seq
    (.region false [
      ⟨(some 2), none, .box 0 (.s 0)⟩,
      ⟨(some 3), none, .box 1 (.s 1)⟩,
      ⟨(some 4), none, .mv (.c (.bool false))⟩])
    (.seq
      (.region false [
        ⟨(some 5), none, .load (some 2) (some 0) (.s 2)⟩,
        ⟨(some 6), none, .load (some 4) (some 1) (.s 3)⟩,
        ⟨(some 7), none, .build [.int .u8 0, .int .u8 0, .int .u8 0, .int .u8 0] []⟩,
        ⟨(some 8), none, .call (.c (.fn 37 [] [])) [(.s 5), (.s 6), (.s 7)] [] [] [] false⟩,
        ⟨(some 4), none, .mv (.s 8)⟩])
      .ret)) }
/- cuboid/lattice.Meet -/
def f16 : MFun := { nt := 20, np := 2, no := 3, res := [.cell 4 2 (some 4)], body :=
  (.seq
    (.region false [
      ⟨(some 2), none, .box 0 (.s 0)⟩,
      ⟨(some 3), none, .box 1 (.s 1)⟩,
      ⟨(some 4), none, .alloc 2 [.int .u8 0, .int .u8 0, .int .u8 0, .int .u8 0]⟩])
    (.seq
      (.seq
        (.region false [
          ⟨(some 6), none, .mv (.c (.int .i64 0))⟩])
        (.block 0
          (.loop [2, 3, 4, 6] [0, 1, 2]
            (.seq
              (.region false [
                ⟨(some 7), none, .bin .lss .int (.s 6) (.c (.int .i64 4))⟩])
              (.seq
                (.cond (.s 7)
                  .skip
                  (.exit 0))
                (.seq
                  (.block 1
                    (.seq
                      (.region false [
                        ⟨(some 8), none, .mv (.s 6)⟩,
                        ⟨(some 5), none, .mv (.s 8)⟩])
                      (.region true [
                        ⟨(some 9), none, .mv (.s 5)⟩,
                        ⟨(some 10), none, .mv (.s 5)⟩,
                        ⟨(some 11), none, .iaddrA 4 1 (.s 2) (.s 10)⟩,
                        ⟨(some 12), none, .load none (some 0) (.s 11)⟩,
                        ⟨(some 13), none, .mv (.s 5)⟩,
                        ⟨(some 14), none, .iaddrA 4 1 (.s 3) (.s 13)⟩,
                        ⟨(some 15), none, .load none (some 1) (.s 14)⟩,
                        ⟨(some 16), none, .minmax false [(.s 12), (.s 15)]⟩,
                        ⟨(some 17), none, .iaddrA 4 1 (.s 2) (.s 9)⟩,
                        ⟨none, none, .store 1 0 [] (.s 17) (.s 16)⟩])))
                  (.region false [
                    ⟨(some 18), none, .bin .add .int (.s 6) (.c (.int .i64 1))⟩,
                    ⟨(some 6), none, .mv (.s 18)⟩])))))))
      (.seq
        (.region false [
          ⟨(some 19), none, .load (some 4) (some 0) (.s 2)⟩,
          ⟨none, none, .store 4 2 [] (.s 4) (.s 19)⟩])
        .ret))) }
/- cuboid/lattice.Below -/
def f12 : MFun := { nt := 10, np := 2, no := 2, res := [.slot 4], body :=
  (.seq
    (.region false [
      ⟨(some 2), none, .box 0 (.s 0)⟩,
      ⟨(some 3), none, .box 1 (.s 1)⟩,
      ⟨(some 4), none, .mv (.c (.bool false))⟩])
    (.seq
      (.region true [
        ⟨(some 5), none, .load (some 4) (some 0) (.s 2)⟩,
        ⟨(some 6), none, .load (some 4) (some 1) (.s 3)⟩,
        ⟨(some 7), none, .call (.c (.fn 16 [] [])) [(.s 5), (.s 6)] [] [] [] false⟩,
        ⟨(some 8), none, .load (some 4) (some 0) (.s 2)⟩,
        ⟨(some 9), none, .bin .eql (.agg [some .u8, some .u8, some .u8, some .u8]) (.s 7) (.s 8)⟩,
        ⟨(some 4), none, .mv (.s 9)⟩])
      .ret)) }
/- cuboid/schema.Levels -/
def f38 : MFun := { nt := 25, np := 2, no := 1, res := [.slot 4], body :=
  (.seq
    (.region false [
      ⟨(some 2), none, .box 0 (.s 0)⟩,
      ⟨(some 4), none, .mv (.c (.int .i64 0))⟩])
    (.seq
      (.seq
        (.region false [
          ⟨(some 5), none, .load (some 2) (some 0) (.s 2)⟩,
          ⟨(some 6), none, .call (.c (.fn 35 [] [])) [(.s 5)] [] [] [] false⟩,
          ⟨(some 7), none, .un .not (.s 6)⟩,
          ⟨(some 8), none, .mv (.s 7)⟩,
          ⟨(some 9), (some (8, false)), .mv (.s 1)⟩,
          ⟨(some 10), (some (8, false)), .faddr 0 (.s 2)⟩,
          ⟨(some 11), (some (8, false)), .load none (some 0) (.s 10)⟩,
          ⟨(some 12), (some (8, false)), .len (.s 11)⟩,
          ⟨(some 13), (some (8, false)), .bin .sub .int (.s 12) (.c (.int .i64 1))⟩,
          ⟨(some 14), (some (8, false)), .call (.c (.fn 42 [] [])) [(.s 9), (.c (.int .i64 0)), (.s 13)] [] [] [] false⟩,
          ⟨(some 15), (some (8, false)), .un .not (.s 14)⟩,
          ⟨(some 16), none, .pick (.s 8) (.c (.bool true)) (.s 15)⟩])
        (.cond (.s 16)
          (.seq
            (.region false [
              ⟨(some 4), none, .mv (.c (.int .i64 0))⟩])
            .ret)
          .skip))
      (.seq
        (.region false [
          ⟨(some 17), none, .faddr 0 (.s 2)⟩,
          ⟨(some 18), none, .load none (some 0) (.s 17)⟩,
          ⟨(some 19), none, .mv (.s 1)⟩,
          ⟨(some 20), none, .iaddrS 2 (.s 18) (.s 19)⟩,
          ⟨(some 21), none, .faddr 0 (.s 20)⟩,
          ⟨(some 22), none, .load none none (.s 21)⟩,
          ⟨(some 23), none, .len (.s 22)⟩,
          ⟨(some 24), none, .bin .add .int (.s 23) (.c (.int .i64 1))⟩,
          ⟨(some 4), none, .mv (.s 24)⟩])
        .ret))) }
/- cuboid/lattice.Count -/
def f15 : MFun := { nt := 21, np := 1, no := 1, res := [.slot 2], body :=
  (.seq
    (.region false [
      ⟨(some 1), none, .box 0 (.s 0)⟩,
      ⟨(some 2), none, .mv (.c (.int .i64 0))⟩])
    (.seq
      (.seq
        (.region false [
          ⟨(some 5), none, .load (some 2) (some 0) (.s 1)⟩,
          ⟨(some 6), none, .call (.c (.fn 35 [] [])) [(.s 5)] [] [] [] false⟩,
          ⟨(some 7), none, .un .not (.s 6)⟩])
        (.cond (.s 7)
          (.seq
            (.region false [
              ⟨(some 2), none, .mv (.c (.int .i64 0))⟩])
            .ret)
          .skip))
      (.seq
        (.region false [
          ⟨(some 3), none, .mv (.c (.int .i64 1))⟩])
        (.seq
          (.seq
            (.region false [
              ⟨(some 8), none, .faddr 0 (.s 1)⟩,
              ⟨(some 9), none, .load none (some 0) (.s 8)⟩,
              ⟨(some 10), none, .len (.s 9)⟩,
              ⟨(some 11), none, .mv (.c (.int .i64 0))⟩])
            (.block 0
              (.loop [1, 3, 10, 11] [0]
                (.seq
                  (.region false [
                    ⟨(some 12), none, .bin .lss .int (.s 11) (.s 10)⟩])
                  (.seq
                    (.cond (.s 12)
                      .skip
                      (.exit 0))
                    (.seq
                      (.block 1
                        (.seq
                          (.region false [
                            ⟨(some 13), none, .mv (.s 11)⟩,
                            ⟨(some 4), none, .mv (.s 13)⟩])
                          (.region false [
                            ⟨(some 14), none, .mv (.s 3)⟩,
                            ⟨(some 15), none, .load (some 2) (some 0) (.s 1)⟩,
                            ⟨(some 16), none, .mv (.s 4)⟩,
                            ⟨(some 17), none, .call (.c (.fn 38 [] [])) [(.s 15), (.s 16)] [] [] [] false⟩,
                            ⟨(some 18), none, .bin .mul .int (.s 14) (.s 17)⟩,
                            ⟨(some 3), none, .mv (.s 18)⟩])))
                      (.region false [
                        ⟨(some 19), none, .bin .add .int (.s 11) (.c (.int .i64 1))⟩,
                        ⟨(some 11), none, .mv (.s 19)⟩])))))))
          (.seq
            (.region false [
              ⟨(some 20), none, .mv (.s 3)⟩,
              ⟨(some 2), none, .mv (.s 20)⟩])
            .ret))))) }
/- cuboid/lattice.Rank -/
def f18 : MFun := { nt := 16, np := 1, no := 1, res := [.slot 2], body :=
  (.seq
    (.region false [
      ⟨(some 1), none, .box 0 (.s 0)⟩,
      ⟨(some 2), none, .mv (.c (.int .i64 0))⟩])
    (.seq
      (.region false [
        ⟨(some 3), none, .mv (.c (.int .i64 0))⟩])
      (.seq
        (.seq
          (.region false [
            ⟨(some 6), none, .load (some 4) (some 0) (.s 1)⟩,
            ⟨(some 7), none, .mv (.c (.int .i64 0))⟩])
          (.block 0
            (.loop [3, 6, 7] []
              (.seq
                (.region false [
                  ⟨(some 8), none, .bin .lss .int (.s 7) (.c (.int .i64 4))⟩])
                (.seq
                  (.cond (.s 8)
                    .skip
                    (.exit 0))
                  (.seq
                    (.block 1
                      (.seq
                        (.region false [
                          ⟨(some 9), none, .index 4 1 false (.s 6) (.s 7)⟩,
                          ⟨(some 5), none, .mv (.s 9)⟩])
                        (.region false [
                          ⟨(some 10), none, .mv (.s 3)⟩,
                          ⟨(some 11), none, .mv (.s 5)⟩,
                          ⟨(some 12), none, .conv .i64 (.s 11)⟩,
                          ⟨(some 13), none, .bin .add .int (.s 10) (.s 12)⟩,
                          ⟨(some 3), none, .mv (.s 13)⟩])))
                    (.region false [
                      ⟨(some 14), none, .bin .add .int (.s 7) (.c (.int .i64 1))⟩,
                      ⟨(some 7), none, .mv (.s 14)⟩])))))))
        (.seq
          (.region false [
            ⟨(some 15), none, .mv (.s 3)⟩,
            ⟨(some 2), none, .mv (.s 15)⟩])
          .ret)))) }
/- cuboid/lattice.Cost -/
def f22 : MFun := { nt := 30, np := 2, no := 3, res := [.slot 4], body :=
  (.seq
    (.region false [
      ⟨(some 2), none, .box 0 (.s 0)⟩,
      ⟨(some 3), none, .box 1 (.s 1)⟩,
      ⟨(some 4), none, .mv (.c (.int .i64 0))⟩])
    (.seq
      (.seq
        (.region false [
          ⟨(some 8), none, .load (some 2) (some 0) (.s 2)⟩,
          ⟨(some 9), none, .load (some 4) (some 1) (.s 3)⟩,
          ⟨(some 10), none, .call (.c (.fn 11 [] [])) [(.s 8), (.s 9)] [] [] [] false⟩,
          ⟨(some 11), none, .un .not (.s 10)⟩])
        (.cond (.s 11)
          (.seq
            (.region false [
              ⟨(some 4), none, .mv (.c (.int .i64 0))⟩])
            .ret)
          .skip))
      (.seq
        (.region false [
          ⟨(some 5), none, .mv (.c (.int .i64 1))⟩])
        (.seq
          (.seq
            (.region false [
              ⟨(some 12), none, .faddr 0 (.s 2)⟩,
              ⟨(some 13), none, .load none (some 0) (.s 12)⟩,
              ⟨(some 14), none, .len (.s 13)⟩,
              ⟨(some 15), none, .mv (.c (.int .i64 0))⟩])
            (.block 0
              (.loop [3, 5, 13, 14, 15] [1]
                (.seq
                  (.region false [
                    ⟨(some 16), none, .bin .lss .int (.s 15) (.s 14)⟩])
                  (.seq
                    (.cond (.s 16)
                      .skip
                      (.exit 0))
                    (.seq
                      (.block 1
                        (.seq
                          (.region false [
                            ⟨(some 17), none, .mv (.s 15)⟩,
                            ⟨(some 18), none, .iaddrS 2 (.s 13) (.s 15)⟩,
                            ⟨(some 19), none, .load (some 2) none (.s 18)⟩,
                            ⟨(some 7), none, .alloc 2 [.nilsl, .nilsl]⟩,
                            ⟨(some 6), none, .mv (.s 17)⟩,
                            ⟨none, none, .store 2 2 [] (.s 7) (.s 19)⟩])
                          (.region true [
                            ⟨(some 20), none, .mv (.s 5)⟩,
                            ⟨(some 21), none, .load (some 2) (some 2) (.s 7)⟩,
                            ⟨(some 22), none, .mv (.s 6)⟩,
                            ⟨(some 23), none, .iaddrA 4 1 (.s 3) (.s 22)⟩,
                            ⟨(some 24), none, .load none (some 1) (.s 23)⟩,
                            ⟨(some 25), none, .conv .i64 (.s 24)⟩,
                            ⟨(some 26), none, .call (.c (.fn 40 [] [])) [(.s 21), (.s 25)] [] [] [] false⟩,
                            ⟨(some 27), none, .bin .mul .int (.s 20) (.s 26)⟩,
                            ⟨(some 5), none, .mv (.s 27)⟩])))
                      (.region false [
                        ⟨(some 28), none, .bin .add .int (.s 15) (.c (.int .i64 1))⟩,
                        ⟨(some 15), none, .mv (.s 28)⟩])))))))
          (.seq
            (.region false [
              ⟨(some 29), none, .mv (.s 5)⟩,
              ⟨(some 4), none, .mv (.s 29)⟩])
            .ret))))) }
/- cuboid/cuboidlaw05.wakes -/
def f9 : MFun := { nt := 66, np := 0, no := 1, res := [.slot 0], body :=
  (.seq
    (.region false [
      ⟨(some 0), none, .mv (.c (.bool false))⟩])
    (.seq
      (.region false [
        ⟨(some 3), none, .lit none [] 1 1 [.int .i64 0] [(0, 1, (.c (.int .i64 2)))]⟩,
        ⟨(some 4), none, .build [.nilsl, .nilsl] [(0, 1, (.s 3))]⟩,
        ⟨(some 5), none, .lit none [] 1 1 [.int .i64 0] [(0, 1, (.c (.int .i64 3)))]⟩,
        ⟨(some 6), none, .build [.nilsl, .nilsl] [(0, 1, (.s 5))]⟩,
        ⟨(some 7), none, .lit none [] 2 2 [.nilsl, .nilsl] [(0, 2, (.s 4)), (2, 2, (.s 6))]⟩,
        ⟨(some 8), none, .build [.nilsl, .int .i64 0] [(0, 1, (.s 7)), (1, 1, (.c (.int .i64 1)))]⟩,
        ⟨(some 1), none, .alloc 0 [.nilsl, .int .i64 0]⟩,
        ⟨none, none, .store 2 0 [] (.s 1) (.s 8)⟩])
      (.seq
        (.region false [
          ⟨(some 9), none, .load (some 2) (some 0) (.s 1)⟩,
          ⟨(some 10), none, .call (.c (.fn 10 [] [])) [(.s 9)] [] [] [] true⟩,
          ⟨(some 2), none, .mv (.s 10)⟩])
        (.seq
          (.region false [
            ⟨(some 11), none, .mv (.s 2)⟩,
            ⟨(some 12), none, .len (.s 11)⟩,
            ⟨(some 13), none, .bin .eql .int (.s 12) (.c (.int .i64 4))⟩,
            ⟨(some 14), none, .mv (.s 13)⟩,
            ⟨(some 15), (some (14, true)), .mv (.s 2)⟩,
            ⟨(some 16), (some (14, true)), .iaddrS 4 (.s 15) (.c (.int .i64 1))⟩,
            ⟨(some 17), (some (14, true)), .load (some 4) none (.s 16)⟩,
            ⟨(some 18), (some (14, true)), .build [.int .u8 0, .int .u8 0, .int .u8 0, .int .u8 0] [(0, 1, (.c (.int .u8 0))), (1, 1, (.c (.int .u8 1)))]⟩,
            ⟨(some 19), (some (14, true)), .bin .eql (.agg [some .u8, some .u8, some .u8, some .u8]) (.s 17) (.s 18)⟩,
            ⟨(some 20), none, .pick (.s 14) (.s 19) (.c (.bool false))⟩,
            ⟨(some 21), none, .mv (.s 20)⟩,
            ⟨(some 22), (some (21, true)), .mv (.s 2)⟩,
            ⟨(some 23), (some (21, true)), .iaddrS 4 (.s 22) (.c (.int .i64 2))⟩,
            ⟨(some 24), (some (21, true)), .load (some 4) none (.s 23)⟩,
            ⟨(some 25), (some (21, true)), .build [.int .u8 0, .int .u8 0, .int .u8 0, .int .u8 0] [(0, 1, (.c (.int .u8 1))), (1, 1, (.c (.int .u8 0)))]⟩,
            ⟨(some 26), (some (21, true)), .bin .eql (.agg [some .u8, some .u8, some .u8, some .u8]) (.s 24) (.s 25)⟩,
            ⟨(some 27), none, .pick (.s 21) (.s 26) (.c (.bool false))⟩,
            ⟨(some 28), none, .mv (.s 27)⟩,
            ⟨(some 29), (some (28, true)), .load (some 2) (some 0) (.s 1)⟩,
            ⟨(some 30), (some (28, true)), .call (.c (.fn 15 [] [])) [(.s 29)] [] [] [] false⟩,
            ⟨(some 31), (some (28, true)), .bin .eql .int (.s 30) (.c (.int .i64 4))⟩,
            ⟨(some 32), none, .pick (.s 28) (.s 31) (.c (.bool false))⟩,
            ⟨(some 33), none, .mv (.s 32)⟩,
            ⟨(some 34), (some (33, true)), .load (some 2) (some 0) (.s 1)⟩,
            ⟨(some 35), (some (33, true)), .build [.int .u8 0, .int .u8 0, .int .u8 0, .int .u8 0] []⟩,
            ⟨(some 36), (some (33, true)), .call (.c (.fn 22 [] [])) [(.s 34), (.s 35)] [] [] [] false⟩,
            ⟨(some 37), (some (33, true)), .bin .eql .int (.s 36) (.c (.int .i64 6))⟩,
            ⟨(some 38), none, .pick (.s 33) (.s 37) (.c (.bool false))⟩,
            ⟨(some 39), none, .mv (.s 38)⟩,
            ⟨(some 40), (some (39, true)), .load (some 2) (some 0) (.s 1)⟩,
            ⟨(some 41), (some (39, true)), .call (.c (.fn 14 [] [])) [(.s 40)] [] [] [] false⟩,
            ⟨(some 42), (some (39, true)), .build [.int .u8 0, .int .u8 0, .int .u8 0, .int .u8 0] [(0, 1, (.c (.int .u8 1))), (1, 1, (.c (.int .u8 1)))]⟩,
            ⟨(some 43), (some (39, true)), .bin .eql (.agg [some .u8, some .u8, some .u8, some .u8]) (.s 41) (.s 42)⟩,
            ⟨(some 44), none, .pick (.s 39) (.s 43) (.c (.bool false))⟩,
            ⟨(some 45), none, .mv (.s 44)⟩,
            ⟨(some 46), (some (45, true)), .load (some 2) (some 0) (.s 1)⟩,
            ⟨(some 47), (some (45, true)), .build [.int .u8 0, .int .u8 0, .int .u8 0, .int .u8 0] [(0, 1, (.c (.int .u8 1)))]⟩,
            ⟨(some 48), (some (45, true)), .call (.c (.fn 11 [] [])) [(.s 46), (.s 47)] [] [] [] false⟩,
            ⟨(some 49), none, .pick (.s 45) (.s 48) (.c (.bool false))⟩,
            ⟨(some 50), none, .mv (.s 49)⟩,
            ⟨(some 51), (some (50, true)), .load (some 2) (some 0) (.s 1)⟩,
            ⟨(some 52), (some (50, true)), .build [.int .u8 0, .int .u8 0, .int .u8 0, .int .u8 0] [(0, 1, (.c (.int .u8 2)))]⟩,
            ⟨(some 53), (some (50, true)), .call (.c (.fn 11 [] [])) [(.s 51), (.s 52)] [] [] [] false⟩,
            ⟨(some 54), (some (50, true)), .un .not (.s 53)⟩,
            ⟨(some 55), none, .pick (.s 50) (.s 54) (.c (.bool false))⟩,
            ⟨(some 56), none, .mv (.s 55)⟩,
            ⟨(some 57), (some (56, true)), .build [.int .u8 0, .int .u8 0, .int .u8 0, .int .u8 0] []⟩,
            ⟨(some 58), (some (56, true)), .build [.int .u8 0, .int .u8 0, .int .u8 0, .int .u8 0] [(0, 1, (.c (.int .u8 1)))]⟩,
            ⟨(some 59), (some (56, true)), .call (.c (.fn 12 [] [])) [(.s 57), (.s 58)] [] [] [] false⟩,
            ⟨(some 60), none, .pick (.s 56) (.s 59) (.c (.bool false))⟩,
            ⟨(some 61), none, .mv (.s 60)⟩,
            ⟨(some 62), (some (61, true)), .build [.int .u8 0, .int .u8 0, .int .u8 0, .int .u8 0] [(0, 1, (.c (.int .u8 1))), (1, 1, (.c (.int .u8 2)))]⟩,
            ⟨(some 63), (some (61, true)), .call (.c (.fn 18 [] [])) [(.s 62)] [] [] [] false⟩,
            ⟨(some 64), (some (61, true)), .bin .eql .int (.s 63) (.c (.int .i64 3))⟩,
            ⟨(some 65), none, .pick (.s 61) (.s 64) (.c (.bool false))⟩,
            ⟨(some 0), none, .mv (.s 65)⟩])
          .ret)))) }
/- cuboid/cuboidlaw05.LatticeAll -/
def f3 : MFun := { nt := 86, np := 2, no := 2, res := [.slot 4], body :=
  (.seq
    (.region false [
      ⟨(some 2), none, .box 0 (.s 0)⟩,
      ⟨(some 3), none, .box 1 (.s 1)⟩,
      ⟨(some 4), none, .mv (.c (.bool false))⟩])
    (.seq
      (.seq
        (.region false [
          ⟨(some 8), none, .load (some 2) (some 0) (.s 2)⟩,
          ⟨(some 9), none, .call (.c (.fn 8 [] [])) [(.s 8)] [] [] [] false⟩,
          ⟨(some 10), none, .un .not (.s 9)⟩])
        (.cond (.s 10)
          (.seq
            (.region false [
              ⟨(some 11), none, .call (.c (.fn 9 [] [])) [] [] [] [] false⟩,
              ⟨(some 4), none, .mv (.s 11)⟩])
            .ret)
          .skip))
      (.seq
        (.region false [
          ⟨(some 12), none, .load (some 2) (some 0) (.s 2)⟩,
          ⟨(some 13), none, .call (.c (.fn 10 [] [])) [(.s 12)] [] [] [] true⟩,
          ⟨(some 5), none, .mv (.s 13)⟩])
        (.seq
          (.region false [
            ⟨(some 6), none, .mv (.c (.bool false))⟩])
          (.seq
            (.seq
              (.region false [
                ⟨(some 7), none, .mv (.c (.int .i64 0))⟩])
              (.block 0
                (.loop [2, 3, 5, 6, 7] [0, 1]
                  (.seq
                    (.seq
                      (.region false [
                        ⟨(some 14), none, .mv (.s 7)⟩,
                        ⟨(some 15), none, .mv (.s 5)⟩,
                        ⟨(some 16), none, .len (.s 15)⟩,
                        ⟨(some 17), none, .bin .lss .int (.s 14) (.s 16)⟩])
                      (.cond (.s 17)
                        .skip
                        (.exit 0)))
                    (.seq
                      (.block 1
                        (.seq
                          (.seq
                            (.region true [
                              ⟨(some 20), none, .load (some 2) (some 0) (.s 2)⟩,
                              ⟨(some 21), none, .mv (.s 5)⟩,
                              ⟨(some 22), none, .mv (.s 7)⟩,
                              ⟨(some 23), none, .iaddrS 4 (.s 21) (.s 22)⟩,
                              ⟨(some 24), none, .load (some 4) none (.s 23)⟩,
                              ⟨(some 25), none, .call (.c (.fn 11 [] [])) [(.s 20), (.s 24)] [] [] [] false⟩,
                              ⟨(some 26), none, .un .not (.s 25)⟩,
                              ⟨(some 27), none, .mv (.s 26)⟩,
                              ⟨(some 28), (some (27, false)), .call (.c (.fn 13 [] [])) [] [] [] [] false⟩,
                              ⟨(some 29), (some (27, false)), .mv (.s 5)⟩,
                              ⟨(some 30), (some (27, false)), .mv (.s 7)⟩,
                              ⟨(some 31), (some (27, false)), .iaddrS 4 (.s 29) (.s 30)⟩,
                              ⟨(some 32), (some (27, false)), .load (some 4) none (.s 31)⟩,
                              ⟨(some 33), (some (27, false)), .call (.c (.fn 12 [] [])) [(.s 28), (.s 32)] [] [] [] false⟩,
                              ⟨(some 34), (some (27, false)), .un .not (.s 33)⟩,
                              ⟨(some 35), none, .pick (.s 27) (.c (.bool true)) (.s 34)⟩,
                              ⟨(some 36), none, .mv (.s 35)⟩,
                              ⟨(some 37), (some (36, false)), .mv (.s 5)⟩,
                              ⟨(some 38), (some (36, false)), .mv (.s 7)⟩,
                              ⟨(some 39), (some (36, false)), .iaddrS 4 (.s 37) (.s 38)⟩,
                              ⟨(some 40), (some (36, false)), .load (some 4) none (.s 39)⟩,
                              ⟨(some 41), (some (36, false)), .load (some 2) (some 0) (.s 2)⟩,
                              ⟨(some 42), (some (36, false)), .call (.c (.fn 14 [] [])) [(.s 41)] [] [] [] false⟩,
                              ⟨(some 43), (some (36, false)), .call (.c (.fn 12 [] [])) [(.s 40), (.s 42)] [] [] [] false⟩,
                              ⟨(some 44), (some (36, false)), .un .not (.s 43)⟩,
                              ⟨(some 45), none, .pick (.s 36) (.c (.bool true)) (.s 44)⟩])
                            (.cond (.s 45)
                              (.seq
                                (.region false [
                                  ⟨(some 4), none, .mv (.c (.bool false))⟩])
                                .ret)
                              .skip))
                          (.seq
                            (.seq
                              (.region true [
                                ⟨(some 46), none, .mv (.s 7)⟩,
                                ⟨(some 47), none, .bin .gtr .int (.s 46) (.c (.int .i64 0))⟩,
                                ⟨(some 48), none, .mv (.s 47)⟩,
                                ⟨(some 49), (some (48, true)), .mv (.s 5)⟩,
                                ⟨(some 50), (some (48, true)), .mv (.s 7)⟩,
                                ⟨(some 51), (some (48, true)), .bin .sub .int (.s 50) (.c (.int .i64 1))⟩,
                                ⟨(some 52), (some (48, true)), .iaddrS 4 (.s 49) (.s 51)⟩,
                                ⟨(some 53), (some (48, true)), .sliceA 4 1 none (.s 52) none none⟩,
                                ⟨(some 54), (some (48, true)), .b2s none (.s 53)⟩,
                                ⟨(some 55), (some (48, true)), .mv (.s 5)⟩,
                                ⟨(some 56), (some (48, true)), .mv (.s 7)⟩,
                                ⟨(some 57), (some (48, true)), .iaddrS 4 (.s 55) (.s 56)⟩,
                                ⟨(some 58), (some (48, true)), .sliceA 4 1 none (.s 57) none none⟩,
                                ⟨(some 59), (some (48, true)), .b2s none (.s 58)⟩,
                                ⟨(some 60), (some (48, true)), .bin .geq .str (.s 54) (.s 59)⟩,
                                ⟨(some 61), none, .pick (.s 48) (.s 60) (.c (.bool false))⟩])
                              (.cond (.s 61)
                                (.seq
                                  (.region false [
                                    ⟨(some 4), none, .mv (.c (.bool false))⟩])
                                  .ret)
                                .skip))
                            (.region true [
                              ⟨(some 62), none, .mv (.s 6)⟩,
                              ⟨(some 63), none, .mv (.s 62)⟩,
                              ⟨(some 64), (some (63, false)), .mv (.s 5)⟩,
                              ⟨(some 65), (some (63, false)), .mv (.s 7)⟩,
                              ⟨(some 66), (some (63, false)), .iaddrS 4 (.s 64) (.s 65)⟩,
                              ⟨(some 67), (some (63, false)), .load (some 4) none (.s 66)⟩,
                              ⟨(some 68), (some (63, false)), .load (some 4) (some 1) (.s 3)⟩,
                              ⟨(some 69), (some (63, false)), .bin .eql (.agg [some .u8, some .u8, some .u8, some .u8]) (.s 67) (.s 68)⟩,
                              ⟨(some 70), none, .pick (.s 63) (.c (.bool true)) (.s 69)⟩,
                              ⟨(some 6), none, .mv (.s 70)⟩]))))
                      (.region false [
                        ⟨(some 18), none, .mv (.s 7)⟩,
                        ⟨(some 19), none, .bin .add .int (.s 18) (.c (.int .i64 1))⟩,
                        ⟨(some 7), none, .mv (.s 19)⟩]))))))
            (.seq
              (.region false [
                ⟨(some 71), none, .mv (.s 6)⟩,
                ⟨(some 72), none, .load (some 2) (some 0) (.s 2)⟩,
                ⟨(some 73), none, .load (some 4) (some 1) (.s 3)⟩,
                ⟨(some 74), none, .call (.c (.fn 11 [] [])) [(.s 72), (.s 73)] [] [] [] false⟩,
                ⟨(some 75), none, .bin .eql .bool (.s 71) (.s 74)⟩,
                ⟨(some 76), none, .mv (.s 75)⟩,
                ⟨(some 77), (some (76, true)), .mv (.s 5)⟩,
                ⟨(some 78), (some (76, true)), .len (.s 77)⟩,
                ⟨(some 79), (some (76, true)), .load (some 2) (some 0) (.s 2)⟩,
                ⟨(some 80), (some (76, true)), .call (.c (.fn 15 [] [])) [(.s 79)] [] [] [] false⟩,
                ⟨(some 81), (some (76, true)), .bin .eql .int (.s 78) (.s 80)⟩,
                ⟨(some 82), none, .pick (.s 76) (.s 81) (.c (.bool false))⟩,
                ⟨(some 83), none, .mv (.s 82)⟩,
                ⟨(some 84), (some (83, true)), .call (.c (.fn 9 [] [])) [] [] [] [] false⟩,
                ⟨(some 85), none, .pick (.s 83) (.s 84) (.c (.bool false))⟩,
                ⟨(some 4), none, .mv (.s 85)⟩])
              .ret)))))) }
/- cuboid/lattice.Join -/
def f17 : MFun := { nt := 20, np := 2, no := 3, res := [.cell 4 2 (some 4)], body :=
  (.seq
    (.region false [
      ⟨(some 2), none, .box 0 (.s 0)⟩,
      ⟨(some 3), none, .box 1 (.s 1)⟩,
      ⟨(some 4), none, .alloc 2 [.int .u8 0, .int .u8 0, .int .u8 0, .int .u8 0]⟩])
    (.seq
      (.seq
        (.region false [
          ⟨(some 6), none, .mv (.c (.int .i64 0))⟩])
        (.block 0
          (.loop [2, 3, 4, 6] [0, 1, 2]
            (.seq
              (.region false [
                ⟨(some 7), none, .bin .lss .int (.s 6) (.c (.int .i64 4))⟩])
              (.seq
                (.cond (.s 7)
                  .skip
                  (.exit 0))
                (.seq
                  (.block 1
                    (.seq
                      (.region false [
                        ⟨(some 8), none, .mv (.s 6)⟩,
                        ⟨(some 5), none, .mv (.s 8)⟩])
                      (.region true [
                        ⟨(some 9), none, .mv (.s 5)⟩,
                        ⟨(some 10), none, .mv (.s 5)⟩,
                        ⟨(some 11), none, .iaddrA 4 1 (.s 2) (.s 10)⟩,
                        ⟨(some 12), none, .load none (some 0) (.s 11)⟩,
                        ⟨(some 13), none, .mv (.s 5)⟩,
                        ⟨(some 14), none, .iaddrA 4 1 (.s 3) (.s 13)⟩,
                        ⟨(some 15), none, .load none (some 1) (.s 14)⟩,
                        ⟨(some 16), none, .minmax true [(.s 12), (.s 15)]⟩,
                        ⟨(some 17), none, .iaddrA 4 1 (.s 2) (.s 9)⟩,
                        ⟨none, none, .store 1 0 [] (.s 17) (.s 16)⟩])))
                  (.region false [
                    ⟨(some 18), none, .bin .add .int (.s 6) (.c (.int .i64 1))⟩,
                    ⟨(some 6), none, .mv (.s 18)⟩])))))))
      (.seq
        (.region false [
          ⟨(some 19), none, .load (some 4) (some 0) (.s 2)⟩,
          ⟨none, none, .store 4 2 [] (.s 4) (.s 19)⟩])
        .ret))) }
/- cuboid/cuboidlaw05.LatticeMeets -/
def f4 : MFun := { nt := 89, np := 3, no := 5, res := [.slot 6], body :=
  (.seq
    (.region false [
      ⟨(some 3), none, .box 0 (.s 0)⟩,
      ⟨(some 4), none, .box 1 (.s 1)⟩,
      ⟨(some 5), none, .box 2 (.s 2)⟩,
      ⟨(some 6), none, .mv (.c (.bool false))⟩])
    (.seq
      (.region true [
        ⟨(some 9), none, .load (some 4) (some 0) (.s 3)⟩,
        ⟨(some 10), none, .load (some 4) (some 1) (.s 4)⟩,
        ⟨(some 11), none, .call (.c (.fn 16 [] [])) [(.s 9), (.s 10)] [] [] [] false⟩,
        ⟨(some 12), none, .load (some 4) (some 0) (.s 3)⟩,
        ⟨(some 13), none, .load (some 4) (some 1) (.s 4)⟩,
        ⟨(some 14), none, .call (.c (.fn 17 [] [])) [(.s 12), (.s 13)] [] [] [] false⟩,
        ⟨(some 7), none, .alloc 3 [.int .u8 0, .int .u8 0, .int .u8 0, .int .u8 0]⟩,
        ⟨(some 8), none, .alloc 4 [.int .u8 0, .int .u8 0, .int .u8 0, .int .u8 0]⟩,
        ⟨none, none, .store 4 3 [] (.s 7) (.s 11)⟩,
        ⟨none, none, .store 4 4 [] (.s 8) (.s 14)⟩])
      (.seq
        (.region true [
          ⟨(some 15), none, .load (some 4) (some 2) (.s 5)⟩,
          ⟨(some 16), none, .load (some 4) (some 3) (.s 7)⟩,
          ⟨(some 17), none, .call (.c (.fn 12 [] [])) [(.s 15), (.s 16)] [] [] [] false⟩,
          ⟨(some 18), none, .load (some 4) (some 2) (.s 5)⟩,
          ⟨(some 19), none, .load (some 4) (some 0) (.s 3)⟩,
          ⟨(some 20), none, .call (.c (.fn 12 [] [])) [(.s 18), (.s 19)] [] [] [] false⟩,
          ⟨(some 21), none, .mv (.s 20)⟩,
          ⟨(some 22), (some (21, true)), .load (some 4) (some 2) (.s 5)⟩,
          ⟨(some 23), (some (21, true)), .load (some 4) (some 1) (.s 4)⟩,
          ⟨(some 24), (some (21, true)), .call (.c (.fn 12 [] [])) [(.s 22), (.s 23)] [] [] [] false⟩,
          ⟨(some 25), none, .pick (.s 21) (.s 24) (.c (.bool false))⟩,
          ⟨(some 26), none, .bin .eql .bool (.s 17) (.s 25)⟩,
          ⟨(some 27), none, .mv (.s 26)⟩,
          ⟨(some 28), (some (27, true)), .load (some 4) (some 4) (.s 8)⟩,
          ⟨(some 29), (some (27, true)), .load (some 4) (some 2) (.s 5)⟩,
          ⟨(some 30), (some (27, true)), .call (.c (.fn 12 [] [])) [(.s 28), (.s 29)] [] [] [] false⟩,
          ⟨(some 31), (some (27, true)), .load (some 4) (some 0) (.s 3)⟩,
          ⟨(some 32), (some (27, true)), .load (some 4) (some 2) (.s 5)⟩,
          ⟨(some 33), (some (27, true)), .call (.c (.fn 12 [] [])) [(.s 31), (.s 32)] [] [] [] false⟩,
          ⟨(some 34), (some (27, true)), .mv (.s 33)⟩,
          ⟨(some 35), (some (34, true)), .load (some 4) (some 1) (.s 4)⟩,
          ⟨(some 36), (some (34, true)), .load (some 4) (some 2) (.s 5)⟩,
          ⟨(some 37), (some (34, true)), .call (.c (.fn 12 [] [])) [(.s 35), (.s 36)] [] [] [] false⟩,
          ⟨(some 38), (some (27, true)), .pick (.s 34) (.s 37) (.c (.bool false))⟩,
          ⟨(some 39), (some (27, true)), .bin .eql .bool (.s 30) (.s 38)⟩,
          ⟨(some 40), none, .pick (.s 27) (.s 39) (.c (.bool false))⟩,
          ⟨(some 41), none, .mv (.s 40)⟩,
          ⟨(some 42), (some (41, true)), .load (some 4) (some 3) (.s 7)⟩,
          ⟨(some 43), (some (41, true)), .load (some 4) (some 1) (.s 4)⟩,
          ⟨(some 44), (some (41, true)), .load (some 4) (some 0) (.s 3)⟩,
          ⟨(some 45), (some (41, true)), .call (.c (.fn 16 [] [])) [(.s 43), (.s 44)] [] [] [] false⟩,
          ⟨(some 46), (some (41, true)), .bin .eql (.agg [some .u8, some .u8, some .u8, some .u8]) (.s 42) (.s 45)⟩,
          ⟨(some 47), none, .pick (.s 41) (.s 46) (.c (.bool false))⟩,
          ⟨(some 48), none, .mv (.s 47)⟩,
          ⟨(some 49), (some (48, true)), .load (some 4) (some 4) (.s 8)⟩,
          ⟨(some 50), (some (48, true)), .load (some 4) (some 1) (.s 4)⟩,
          ⟨(some 51), (some (48, true)), .load (some 4) (some 0) (.s 3)⟩,
          ⟨(some 52), (some (48, true)), .call (.c (.fn 17 [] [])) [(.s 50), (.s 51)] [] [] [] false⟩,
          ⟨(some 53), (some (48, true)), .bin .eql (.agg [some .u8, some .u8, some .u8, some .u8]) (.s 49) (.s 52)⟩,
          ⟨(some 54), none, .pick (.s 48) (.s 53) (.c (.bool false))⟩,
          ⟨(some 55), none, .mv (.s 54)⟩,
          ⟨(some 56), (some (55, true)), .load (some 4) (some 3) (.s 7)⟩,
          ⟨(some 57), (some (55, true)), .load (some 4) (some 0) (.s 3)⟩,
          ⟨(some 58), (some (55, true)), .bin .eql (.agg [some .u8, some .u8, some .u8, some .u8]) (.s 56) (.s 57)⟩,
          ⟨(some 59), (some (55, true)), .load (some 4) (some 0) (.s 3)⟩,
          ⟨(some 60), (some (55, true)), .load (some 4) (some 1) (.s 4)⟩,
          ⟨(some 61), (some (55, true)), .call (.c (.fn 12 [] [])) [(.s 59), (.s 60)] [] [] [] false⟩,
          ⟨(some 62), (some (55, true)), .bin .eql .bool (.s 58) (.s 61)⟩,
          ⟨(some 63), none, .pick (.s 55) (.s 62) (.c (.bool false))⟩,
          ⟨(some 64), none, .mv (.s 63)⟩,
          ⟨(some 65), (some (64, true)), .load (some 4) (some 4) (.s 8)⟩,
          ⟨(some 66), (some (64, true)), .load (some 4) (some 0) (.s 3)⟩,
          ⟨(some 67), (some (64, true)), .bin .eql (.agg [some .u8, some .u8, some .u8, some .u8]) (.s 65) (.s 66)⟩,
          ⟨(some 68), (some (64, true)), .load (some 4) (some 1) (.s 4)⟩,
          ⟨(some 69), (some (64, true)), .load (some 4) (some 0) (.s 3)⟩,
          ⟨(some 70), (some (64, true)), .call (.c (.fn 12 [] [])) [(.s 68), (.s 69)] [] [] [] false⟩,
          ⟨(some 71), (some (64, true)), .bin .eql .bool (.s 67) (.s 70)⟩,
          ⟨(some 72), none, .pick (.s 64) (.s 71) (.c (.bool false))⟩,
          ⟨(some 73), none, .mv (.s 72)⟩,
          ⟨(some 74), (some (73, true)), .load (some 4) (some 3) (.s 7)⟩,
          ⟨(some 75), (some (73, true)), .call (.c (.fn 18 [] [])) [(.s 74)] [] [] [] false⟩,
          ⟨(some 76), (some (73, true)), .load (some 4) (some 4) (.s 8)⟩,
          ⟨(some 77), (some (73, true)), .call (.c (.fn 18 [] [])) [(.s 76)] [] [] [] false⟩,
          ⟨(some 78), (some (73, true)), .bin .add .int (.s 75) (.s 77)⟩,
          ⟨(some 79), (some (73, true)), .load (some 4) (some 0) (.s 3)⟩,
          ⟨(some 80), (some (73, true)), .call (.c (.fn 18 [] [])) [(.s 79)] [] [] [] false⟩,
          ⟨(some 81), (some (73, true)), .load (some 4) (some 1) (.s 4)⟩,
          ⟨(some 82), (some (73, true)), .call (.c (.fn 18 [] [])) [(.s 81)] [] [] [] false⟩,
          ⟨(some 83), (some (73, true)), .bin .add .int (.s 80) (.s 82)⟩,
          ⟨(some 84), (some (73, true)), .bin .eql .int (.s 78) (.s 83)⟩,
          ⟨(some 85), none, .pick (.s 73) (.s 84) (.c (.bool false))⟩,
          ⟨(some 86), none, .mv (.s 85)⟩,
          ⟨(some 87), (some (86, true)), .call (.c (.fn 9 [] [])) [] [] [] [] false⟩,
          ⟨(some 88), none, .pick (.s 86) (.s 87) (.c (.bool false))⟩,
          ⟨(some 6), none, .mv (.s 88)⟩])
        .ret))) }
/- cuboid/cuboidref03.Size -/
def f39 : MFun := { nt := 31, np := 2, no := 1, res := [.slot 4], body :=
  (.seq
    (.region false [
      ⟨(some 2), none, .box 0 (.s 0)⟩,
      ⟨(some 4), none, .mv (.c (.int .i64 0))⟩])
    (.seq
      (.block 0
        (.seq
          (.region false [
            ⟨(some 6), none, .load (some 2) (some 0) (.s 2)⟩,
            ⟨(some 7), none, .call (.c (.fn 34 [] [])) [(.s 6)] [] [] [] false⟩,
            ⟨(some 8), none, .un .not (.s 7)⟩,
            ⟨(some 9), none, .mv (.s 8)⟩,
            ⟨(some 10), (some (9, false)), .mv (.s 1)⟩,
            ⟨(some 11), (some (9, false)), .bin .lss .int (.s 10) (.c (.int .i64 0))⟩,
            ⟨(some 12), none, .pick (.s 9) (.c (.bool true)) (.s 11)⟩,
            ⟨(some 13), none, .mv (.s 12)⟩,
            ⟨(some 14), (some (13, false)), .mv (.s 1)⟩,
            ⟨(some 15), (some (13, false)), .faddr 0 (.s 2)⟩,
            ⟨(some 16), (some (13, false)), .load none (some 0) (.s 15)⟩,
            ⟨(some 17), (some (13, false)), .len (.s 16)⟩,
            ⟨(some 18), (some (13, false)), .bin .gtr .int (.s 14) (.s 17)⟩,
            ⟨(some 19), none, .pick (.s 13) (.c (.bool true)) (.s 18)⟩,
            ⟨(some 5), none, .mv (.s 19)⟩])
          (.cond (.s 5)
            (.seq
              (.region false [
                ⟨(some 4), none, .mv (.c (.int .i64 0))⟩])
              .ret)
            (.seq
              (.region false [
                ⟨(some 21), none, .mv (.s 1)⟩,
                ⟨(some 22), none, .faddr 0 (.s 2)⟩,
                ⟨(some 23), none, .load none (some 0) (.s 22)⟩,
                ⟨(some 24), none, .len (.s 23)⟩,
                ⟨(some 25), none, .bin .eql .int (.s 21) (.s 24)⟩,
                ⟨(some 20), none, .mv (.s 25)⟩])
              (.cond (.s 20)
                (.seq
                  (.region false [
                    ⟨(some 4), none, .mv (.c (.int .i64 1))⟩])
                  .ret)
                .skip)))))
      (.seq
        (.region false [
          ⟨(some 26), none, .faddr 0 (.s 2)⟩,
          ⟨(some 27), none, .load none (some 0) (.s 26)⟩,
          ⟨(some 28), none, .mv (.s 1)⟩,
          ⟨(some 29), none, .iaddrS 1 (.s 27) (.s 28)⟩,
          ⟨(some 30), none, .load none none (.s 29)⟩,
          ⟨(some 4), none, .mv (.s 30)⟩])
        .ret))) }
/- cuboid/cuboidref04.Right -/
def f21 : MFun := { nt := 45, np := 3, no := 3, res := [.slot 6], body :=
  (.seq
    (.region false [
      ⟨(some 3), none, .box 0 (.s 0)⟩,
      ⟨(some 4), none, .box 1 (.s 1)⟩,
      ⟨(some 5), none, .box 2 (.s 2)⟩,
      ⟨(some 6), none, .mv (.c (.bool false))⟩])
    (.seq
      (.seq
        (.region false [
          ⟨(some 8), none, .load (some 2) (some 0) (.s 3)⟩,
          ⟨(some 9), none, .call (.c (.fn 8 [] [])) [(.s 8)] [] [] [] false⟩,
          ⟨(some 10), none, .un .not (.s 9)⟩])
        (.cond (.s 10)
          (.seq
            (.region false [
              ⟨(some 6), none, .mv (.c (.bool false))⟩])
            .ret)
          .skip))
      (.seq
        (.seq
          (.region false [
            ⟨(some 7), none, .mv (.c (.int .i64 0))⟩])
          (.block 0
            (.loop [3, 4, 5, 7] [0, 1, 2]
              (.seq
                (.seq
                  (.region false [
                    ⟨(some 11), none, .mv (.s 7)⟩,
                    ⟨(some 12), none, .bin .lss .int (.s 11) (.c (.int .i64 4))⟩])
                  (.cond (.s 12)
                    .skip
                    (.exit 0)))
                (.seq
                  (.block 1
                    (.seq
                      (.region false [
                        ⟨(some 15), none, .mv (.s 7)⟩,
                        ⟨(some 16), none, .faddr 0 (.s 3)⟩,
                        ⟨(some 17), none, .load none (some 0) (.s 16)⟩,
                        ⟨(some 18), none, .len (.s 17)⟩,
                        ⟨(some 19), none, .bin .geq .int (.s 15) (.s 18)⟩])
                      (.cond (.s 19)
                        (.seq
                          (.region false [
                            ⟨(some 20), none, .mv (.s 7)⟩,
                            ⟨(some 21), none, .iaddrA 4 1 (.s 4) (.s 20)⟩,
                            ⟨(some 22), none, .load none (some 1) (.s 21)⟩,
                            ⟨(some 23), none, .bin .neq .int (.s 22) (.c (.int .u8 0))⟩,
                            ⟨(some 24), none, .mv (.s 23)⟩,
                            ⟨(some 25), (some (24, false)), .mv (.s 7)⟩,
                            ⟨(some 26), (some (24, false)), .iaddrA 4 1 (.s 5) (.s 25)⟩,
                            ⟨(some 27), (some (24, false)), .load none (some 2) (.s 26)⟩,
                            ⟨(some 28), (some (24, false)), .bin .neq .int (.s 27) (.c (.int .u8 0))⟩,
                            ⟨(some 29), none, .pick (.s 24) (.c (.bool true)) (.s 28)⟩])
                          (.cond (.s 29)
                            (.seq
                              (.region false [
                                ⟨(some 6), none, .mv (.c (.bool false))⟩])
                              .ret)
                            .skip))
                        (.seq
                          (.region true [
                            ⟨(some 30), none, .mv (.s 7)⟩,
                            ⟨(some 31), none, .iaddrA 4 1 (.s 5) (.s 30)⟩,
                            ⟨(some 32), none, .load none (some 2) (.s 31)⟩,
                            ⟨(some 33), none, .conv .i64 (.s 32)⟩,
                            ⟨(some 34), none, .faddr 0 (.s 3)⟩,
                            ⟨(some 35), none, .load none (some 0) (.s 34)⟩,
                            ⟨(some 36), none, .mv (.s 7)⟩,
                            ⟨(some 37), none, .iaddrS 2 (.s 35) (.s 36)⟩,
                            ⟨(some 38), none, .load (some 2) none (.s 37)⟩,
                            ⟨(some 39), none, .mv (.s 7)⟩,
                            ⟨(some 40), none, .iaddrA 4 1 (.s 4) (.s 39)⟩,
                            ⟨(some 41), none, .load none (some 1) (.s 40)⟩,
                            ⟨(some 42), none, .conv .i64 (.s 41)⟩,
                            ⟨(some 43), none, .call (.c (.fn 39 [] [])) [(.s 38), (.s 42)] [] [] [] false⟩,
                            ⟨(some 44), none, .bin .geq .int (.s 33) (.s 43)⟩])
                          (.cond (.s 44)
                            (.seq
                              (.region false [
                                ⟨(some 6), none, .mv (.c (.bool false))⟩])
                              .ret)
                            .skip)))))
                  (.region false [
                    ⟨(some 13), none, .mv (.s 7)⟩,
                    ⟨(some 14), none, .bin .add .int (.s 13) (.c (.int .i64 1))⟩,
                    ⟨(some 7), none, .mv (.s 14)⟩]))))))
        (.seq
          (.region false [
            ⟨(some 6), none, .mv (.c (.bool true))⟩])
          .ret)))) }
/- cuboid/cuboidref05.Good -/
def f19 : MFun := { nt := 9, np := 2, no := 2, res := [.slot 4], body :=
  (.seq
    (.region false [
      ⟨(some 2), none, .box 0 (.s 0)⟩,
      ⟨(some 3), none, .box 1 (.s 1)⟩,
      ⟨(some 4), none, .mv (.c (.bool false))⟩])
    (.seq
      (.region false [
        ⟨(some 5), none, .load (some 2) (some 0) (.s 2)⟩,
        ⟨(some 6), none, .load (some 4) (some 1) (.s 3)⟩,
        ⟨(some 7), none, .build [.int .u8 0, .int .u8 0, .int .u8 0, .int .u8 0] []⟩,
        ⟨(some 8), none, .call (.c (.fn 21 [] [])) [(.s 5), (.s 6), (.s 7)] [] [] [] false⟩,
        ⟨(some 4), none, .mv (.s 8)⟩])
      .ret)) }
/- cuboid/cuboidref05.Cost -/
def f30 : MFun := { nt := 31, np := 2, no := 2, res := [.slot 4], body :=
  (.seq
    (.region false [
      ⟨(some 2), none, .box 0 (.s 0)⟩,
      ⟨(some 3), none, .box 1 (.s 1)⟩,
      ⟨(some 4), none, .mv (.c (.int .i64 0))⟩])
    (.seq
      (.seq
        (.region false [
          ⟨(some 7), none, .load (some 2) (some 0) (.s 2)⟩,
          ⟨(some 8), none, .load (some 4) (some 1) (.s 3)⟩,
          ⟨(some 9), none, .call (.c (.fn 19 [] [])) [(.s 7), (.s 8)] [] [] [] false⟩,
          ⟨(some 10), none, .un .not (.s 9)⟩])
        (.cond (.s 10)
          (.seq
            (.region false [
              ⟨(some 4), none, .mv (.c (.int .i64 0))⟩])
            .ret)
          .skip))
      (.seq
        (.region false [
          ⟨(some 5), none, .mv (.c (.int .i64 1))⟩])
        (.seq
          (.seq
            (.region false [
              ⟨(some 6), none, .mv (.c (.int .i64 0))⟩])
            (.block 0
              (.loop [2, 3, 5, 6] [0, 1]
                (.seq
                  (.seq
                    (.region false [
                      ⟨(some 11), none, .mv (.s 6)⟩,
                      ⟨(some 12), none, .faddr 0 (.s 2)⟩,
                      ⟨(some 13), none, .load none (some 0) (.s 12)⟩,
                      ⟨(some 14), none, .len (.s 13)⟩,
                      ⟨(some 15), none, .bin .lss .int (.s 11) (.s 14)⟩])
                    (.cond (.s 15)
                      .skip
                      (.exit 0)))
                  (.seq
                    (.block 1
                      (.region true [
                        ⟨(some 18), none, .mv (.s 5)⟩,
                        ⟨(some 19), none, .faddr 0 (.s 2)⟩,
                        ⟨(some 20), none, .load none (some 0) (.s 19)⟩,
                        ⟨(some 21), none, .mv (.s 6)⟩,
                        ⟨(some 22), none, .iaddrS 2 (.s 20) (.s 21)⟩,
                        ⟨(some 23), none, .load (some 2) none (.s 22)⟩,
                        ⟨(some 24), none, .mv (.s 6)⟩,
                        ⟨(some 25), none, .iaddrA 4 1 (.s 3) (.s 24)⟩,
                        ⟨(some 26), none, .load none (some 1) (.s 25)⟩,
                        ⟨(some 27), none, .conv .i64 (.s 26)⟩,
                        ⟨(some 28), none, .call (.c (.fn 39 [] [])) [(.s 23), (.s 27)] [] [] [] false⟩,
                        ⟨(some 29), none, .bin .mul .int (.s 18) (.s 28)⟩,
                        ⟨(some 5), none, .mv (.s 29)⟩]))
                    (.region false [
                      ⟨(some 16), none, .mv (.s 6)⟩,
                      ⟨(some 17), none, .bin .add .int (.s 16) (.c (.int .i64 1))⟩,
                      ⟨(some 6), none, .mv (.s 17)⟩]))))))
          (.seq
            (.region false [
              ⟨(some 30), none, .mv (.s 5)⟩,
              ⟨(some 4), none, .mv (.s 30)⟩])
            .ret))))) }
/- cuboid/cuboidref06.Places -/
def f20 : MFun := { nt := 58, np := 3, no := 4, res := [.slot 6], body :=
  (.seq
    (.region false [
      ⟨(some 3), none, .box 0 (.s 0)⟩,
      ⟨(some 4), none, .box 1 (.s 1)⟩,
      ⟨(some 6), none, .mv (.c .nilsl)⟩])
    (.seq
      (.region false [
        ⟨(some 14), none, .load (some 2) (some 0) (.s 3)⟩,
        ⟨(some 15), none, .load (some 4) (some 1) (.s 4)⟩,
        ⟨(some 16), none, .call (.c (.fn 30 [] [])) [(.s 14), (.s 15)] [] [] [] false⟩,
        ⟨(some 7), none, .mv (.s 16)⟩])
      (.seq
        (.seq
          (.region false [
            ⟨(some 17), none, .mv (.s 7)⟩,
            ⟨(some 18), none, .mv (.s 2)⟩,
            ⟨(some 19), none, .bin .gtr .int (.s 17) (.s 18)⟩])
          (.cond (.s 19)
            (.seq
              (.region false [
                ⟨(some 6), none, .mv (.c .nilsl)⟩])
              .ret)
            .skip))
        (.seq
          (.region false [
            ⟨(some 8), none, .vnil 2 4⟩])
          (.seq
            (.seq
              (.region false [
                ⟨(some 9), none, .mv (.c (.int .i64 0))⟩])
              (.block 0
                (.loop [3, 4, 7, 8, 9] [0, 1, 2]
                  (.seq
                    (.seq
                      (.region false [
                        ⟨(some 20), none, .mv (.s 9)⟩,
                        ⟨(some 21), none, .mv (.s 7)⟩,
                        ⟨(some 22), none, .bin .lss .int (.s 20) (.s 21)⟩])
                      (.cond (.s 22)
                        .skip
                        (.exit 0)))
                    (.seq
                      (.block 1
                        (.seq
                          (.region false [
                            ⟨(some 10), none, .alloc 3 [.int .u8 0, .int .u8 0, .int .u8 0, .int .u8 0]⟩])
                          (.seq
                            (.region false [
                              ⟨(some 25), none, .mv (.s 9)⟩,
                              ⟨(some 11), none, .mv (.s 25)⟩])
                            (.seq
                              (.seq
                                (.region false [
                                  ⟨(some 26), none, .faddr 0 (.s 3)⟩,
                                  ⟨(some 27), none, .load none (some 0) (.s 26)⟩,
                                  ⟨(some 28), none, .len (.s 27)⟩,
                                  ⟨(some 29), none, .bin .sub .int (.s 28) (.c (.int .i64 1))⟩,
                                  ⟨(some 12), none, .mv (.s 29)⟩])
                                (.block 2
                                  (.loop [3, 4, 7, 8, 9, 10, 11, 12] [0, 1, 2, 3]
                                    (.seq
                                      (.seq
                                        (.region false [
                                          ⟨(some 30), none, .mv (.s 12)⟩,
                                          ⟨(some 31), none, .bin .geq .int (.s 30) (.c (.int .i64 0))⟩])
                                        (.cond (.s 31)
                                          .skip
                                          (.exit 2)))
                                      (.seq
                                        (.block 3
                                          (.seq
                                            (.region true [
                                              ⟨(some 34), none, .faddr 0 (.s 3)⟩,
                                              ⟨(some 35), none, .load none (some 0) (.s 34)⟩,
                                              ⟨(some 36), none, .mv (.s 12)⟩,
                                              ⟨(some 37), none, .iaddrS 2 (.s 35) (.s 36)⟩,
                                              ⟨(some 38), none, .load (some 2) none (.s 37)⟩,
                                              ⟨(some 39), none, .mv (.s 12)⟩,
                                              ⟨(some 40), none, .iaddrA 4 1 (.s 4) (.s 39)⟩,
                                              ⟨(some 41), none, .load none (some 1) (.s 40)⟩,
                                              ⟨(some 42), none, .conv .i64 (.s 41)⟩,
                                              ⟨(some 43), none, .call (.c (.fn 39 [] [])) [(.s 38), (.s 42)] [] [] [] false⟩,
                                              ⟨(some 13), none, .mv (.s 43)⟩])
                                            (.seq
                                              (.region false [
                                                ⟨(some 44), none, .mv (.s 12)⟩,
                                                ⟨(some 45), none, .mv (.s 11)⟩,
                                                ⟨(some 46), none, .mv (.s 13)⟩,
                                                ⟨(some 47), none, .bin .rem .int (.s 45) (.s 46)⟩,
                                                ⟨(some 48), none, .conv .u8 (.s 47)⟩,
                                                ⟨(some 49), none, .iaddrA 4 1 (.s 10) (.s 44)⟩,
                                                ⟨none, none, .store 1 3 [] (.s 49) (.s 48)⟩])
                                              (.region false [
                                                ⟨(some 50), none, .mv (.s 11)⟩,
                                                ⟨(some 51), none, .mv (.s 13)⟩,
                                                ⟨(some 52), none, .bin .quo .int (.s 50) (.s 51)⟩,
                                                ⟨(some 11), none, .mv (.s 52)⟩]))))
                                        (.region false [
                                          ⟨(some 32), none, .mv (.s 12)⟩,
                                          ⟨(some 33), none, .bin .sub .int (.s 32) (.c (.int .i64 1))⟩,
                                          ⟨(some 12), none, .mv (.s 33)⟩]))))))
                              (.region false [
                                ⟨(some 53), none, .mv (.s 8)⟩,
                                ⟨(some 54), none, .load (some 4) (some 3) (.s 10)⟩,
                                ⟨(some 55), none, .lit none [] 1 4 [.int .u8 0, .int .u8 0, .int .u8 0, .int .u8 0] [(0, 4, (.s 54))]⟩,
                                ⟨(some 56), none, .append 4 4 2 none (.s 53) (.s 55)⟩,
                                ⟨(some 8), none, .mv (.s 56)⟩])))))
                      (.region false [
                        ⟨(some 23), none, .mv (.s 9)⟩,
                        ⟨(some 24), none, .bin .add .int (.s 23) (.c (.int .i64 1))⟩,
                        ⟨(some 9), none, .mv (.s 24)⟩]))))))
            (.seq
              (.region false [
                ⟨(some 57), none, .mv (.s 8)⟩,
                ⟨(some 6), none, .mv (.s 57)⟩])
              .ret)))))) }
/- cuboid/cuboidlaw05.LatticeCost -/
def f5 : MFun := { nt := 89, np := 3, no := 3, res := [.slot 6], body :=
  (.seq
    (.region false [
      ⟨(some 3), none, .box 0 (.s 0)⟩,
      ⟨(some 4), none, .box 1 (.s 1)⟩,
      ⟨(some 5), none, .box 2 (.s 2)⟩,
      ⟨(some 6), none, .mv (.c (.bool false))⟩])
    (.seq
      (.seq
        (.region false [
          ⟨(some 10), none, .load (some 2) (some 0) (.s 3)⟩,
          ⟨(some 11), none, .load (some 4) (some 1) (.s 4)⟩,
          ⟨(some 12), none, .call (.c (.fn 19 [] [])) [(.s 10), (.s 11)] [] [] [] false⟩,
          ⟨(some 13), none, .un .not (.s 12)⟩,
          ⟨(some 14), none, .mv (.s 13)⟩,
          ⟨(some 15), (some (14, false)), .load (some 2) (some 0) (.s 3)⟩,
          ⟨(some 16), (some (14, false)), .load (some 4) (some 2) (.s 5)⟩,
          ⟨(some 17), (some (14, false)), .call (.c (.fn 19 [] [])) [(.s 15), (.s 16)] [] [] [] false⟩,
          ⟨(some 18), (some (14, false)), .un .not (.s 17)⟩,
          ⟨(some 19), none, .pick (.s 14) (.c (.bool true)) (.s 18)⟩])
        (.cond (.s 19)
          (.seq
            (.region false [
              ⟨(some 20), none, .call (.c (.fn 9 [] [])) [] [] [] [] false⟩,
              ⟨(some 6), none, .mv (.s 20)⟩])
            .ret)
          .skip))
      (.seq
        (.region false [
          ⟨(some 21), none, .load (some 2) (some 0) (.s 3)⟩,
          ⟨(some 22), none, .load (some 4) (some 1) (.s 4)⟩,
          ⟨(some 23), none, .call (.c (.fn 20 [] [])) [(.s 21), (.s 22), (.c (.int .i64 4000))] [] [] [] true⟩,
          ⟨(some 7), none, .mv (.s 23)⟩])
        (.seq
          (.seq
            (.region false [
              ⟨(some 8), none, .mv (.c (.int .i64 0))⟩])
            (.block 0
              (.loop [3, 4, 5, 7, 8] [0, 1, 2]
                (.seq
                  (.seq
                    (.region false [
                      ⟨(some 24), none, .mv (.s 8)⟩,
                      ⟨(some 25), none, .mv (.s 7)⟩,
                      ⟨(some 26), none, .len (.s 25)⟩,
                      ⟨(some 27), none, .bin .lss .int (.s 24) (.s 26)⟩])
                    (.cond (.s 27)
                      .skip
                      (.exit 0)))
                  (.seq
                    (.block 1
                      (.seq
                        (.region true [
                          ⟨(some 30), none, .load (some 2) (some 0) (.s 3)⟩,
                          ⟨(some 31), none, .load (some 4) (some 1) (.s 4)⟩,
                          ⟨(some 32), none, .mv (.s 7)⟩,
                          ⟨(some 33), none, .mv (.s 8)⟩,
                          ⟨(some 34), none, .iaddrS 4 (.s 32) (.s 33)⟩,
                          ⟨(some 35), none, .load (some 4) none (.s 34)⟩,
                          ⟨(some 36), none, .call (.c (.fn 21 [] [])) [(.s 30), (.s 31), (.s 35)] [] [] [] false⟩,
                          ⟨(some 37), none, .un .not (.s 36)⟩])
                        (.cond (.s 37)
                          (.seq
                            (.region false [
                              ⟨(some 6), none, .mv (.c (.bool false))⟩])
                            .ret)
                          .skip)))
                    (.region false [
                      ⟨(some 28), none, .mv (.s 8)⟩,
                      ⟨(some 29), none, .bin .add .int (.s 28) (.c (.int .i64 1))⟩,
                      ⟨(some 8), none, .mv (.s 29)⟩]))))))
          (.seq
            (.region false [
              ⟨(some 38), none, .load (some 2) (some 0) (.s 3)⟩,
              ⟨(some 39), none, .load (some 4) (some 1) (.s 4)⟩,
              ⟨(some 40), none, .call (.c (.fn 22 [] [])) [(.s 38), (.s 39)] [] [] [] false⟩,
              ⟨(some 9), none, .mv (.s 40)⟩])
            (.seq
              (.seq
                (.region false [
                  ⟨(some 41), none, .mv (.s 9)⟩,
                  ⟨(some 42), none, .bin .lss .int (.s 41) (.c (.int .i64 1))⟩,
                  ⟨(some 43), none, .mv (.s 42)⟩,
                  ⟨(some 44), (some (43, false)), .mv (.s 9)⟩,
                  ⟨(some 45), (some (43, false)), .bin .leq .int (.s 44) (.c (.int .i64 4000))⟩,
                  ⟨(some 46), (some (43, false)), .mv (.s 45)⟩,
                  ⟨(some 47), (some (46, true)), .mv (.s 9)⟩,
                  ⟨(some 48), (some (46, true)), .mv (.s 7)⟩,
                  ⟨(some 49), (some (46, true)), .len (.s 48)⟩,
                  ⟨(some 50), (some (46, true)), .bin .neq .int (.s 47) (.s 49)⟩,
                  ⟨(some 51), (some (43, false)), .pick (.s 46) (.s 50) (.c (.bool false))⟩,
                  ⟨(some 52), none, .pick (.s 43) (.c (.bool true)) (.s 51)⟩,
                  ⟨(some 53), none, .mv (.s 52)⟩,
                  ⟨(some 54), (some (53, false)), .mv (.s 9)⟩,
                  ⟨(some 55), (some (53, false)), .bin .gtr .int (.s 54) (.c (.int .i64 4000))⟩,
                  ⟨(some 56), (some (53, false)), .mv (.s 55)⟩,
                  ⟨(some 57), (some (56, true)), .mv (.s 7)⟩,
                  ⟨(some 58), (some (56, true)), .len (.s 57)⟩,
                  ⟨(some 59), (some (56, true)), .bin .gtr .int (.s 58) (.c (.int .i64 0))⟩,
                  ⟨(some 60), (some (53, false)), .pick (.s 56) (.s 59) (.c (.bool false))⟩,
                  ⟨(some 61), none, .pick (.s 53) (.c (.bool true)) (.s 60)⟩])
                (.cond (.s 61)
                  (.seq
                    (.region false [
                      ⟨(some 6), none, .mv (.c (.bool false))⟩])
                    .ret)
                  .skip))
              (.seq
                (.region true [
                  ⟨(some 62), none, .load (some 2) (some 0) (.s 3)⟩,
                  ⟨(some 63), none, .load (some 4) (some 1) (.s 4)⟩,
                  ⟨(some 64), none, .load (some 4) (some 2) (.s 5)⟩,
                  ⟨(some 65), none, .call (.c (.fn 16 [] [])) [(.s 63), (.s 64)] [] [] [] false⟩,
                  ⟨(some 66), none, .call (.c (.fn 22 [] [])) [(.s 62), (.s 65)] [] [] [] false⟩,
                  ⟨(some 67), none, .load (some 2) (some 0) (.s 3)⟩,
                  ⟨(some 68), none, .load (some 4) (some 1) (.s 4)⟩,
                  ⟨(some 69), none, .load (some 4) (some 2) (.s 5)⟩,
                  ⟨(some 70), none, .call (.c (.fn 17 [] [])) [(.s 68), (.s 69)] [] [] [] false⟩,
                  ⟨(some 71), none, .call (.c (.fn 22 [] [])) [(.s 67), (.s 70)] [] [] [] false⟩,
                  ⟨(some 72), none, .bin .mul .int (.s 66) (.s 71)⟩,
                  ⟨(some 73), none, .mv (.s 9)⟩,
                  ⟨(some 74), none, .load (some 2) (some 0) (.s 3)⟩,
                  ⟨(some 75), none, .load (some 4) (some 2) (.s 5)⟩,
                  ⟨(some 76), none, .call (.c (.fn 22 [] [])) [(.s 74), (.s 75)] [] [] [] false⟩,
                  ⟨(some 77), none, .bin .mul .int (.s 73) (.s 76)⟩,
                  ⟨(some 78), none, .bin .eql .int (.s 72) (.s 77)⟩,
                  ⟨(some 79), none, .mv (.s 78)⟩,
                  ⟨(some 80), (some (79, true)), .load (some 2) (some 0) (.s 3)⟩,
                  ⟨(some 81), (some (79, true)), .load (some 2) (some 0) (.s 3)⟩,
                  ⟨(some 82), (some (79, true)), .call (.c (.fn 14 [] [])) [(.s 81)] [] [] [] false⟩,
                  ⟨(some 83), (some (79, true)), .call (.c (.fn 22 [] [])) [(.s 80), (.s 82)] [] [] [] false⟩,
                  ⟨(some 84), (some (79, true)), .bin .eql .int (.s 83) (.c (.int .i64 1))⟩,
                  ⟨(some 85), none, .pick (.s 79) (.s 84) (.c (.bool false))⟩,
                  ⟨(some 86), none, .mv (.s 85)⟩,
                  ⟨(some 87), (some (86, true)), .call (.c (.fn 9 [] [])) [] [] [] [] false⟩,
                  ⟨(some 88), none, .pick (.s 86) (.s 87) (.c (.bool false))⟩,
                  ⟨(some 6), none, .mv (.s 88)⟩])
                .ret))))))) }
/- cuboid/lattice.Covers -/
def f23 : MFun := { nt := 40, np := 2, no := 5, res := [.slot 4], body :=
  (.seq
    (.region false [
      ⟨(some 2), none, .box 0 (.s 0)⟩,
      ⟨(some 3), none, .box 1 (.s 1)⟩,
      ⟨(some 4), none, .mv (.c .nilsl)⟩])
    (.seq
      (.seq
        (.region false [
          ⟨(some 9), none, .load (some 2) (some 0) (.s 2)⟩,
          ⟨(some 10), none, .load (some 4) (some 1) (.s 3)⟩,
          ⟨(some 11), none, .call (.c (.fn 11 [] [])) [(.s 9), (.s 10)] [] [] [] false⟩,
          ⟨(some 12), none, .un .not (.s 11)⟩])
        (.cond (.s 12)
          (.seq
            (.region false [
              ⟨(some 4), none, .mv (.c .nilsl)⟩])
            .ret)
          .skip))
      (.seq
        (.region false [
          ⟨(some 5), none, .vnil 2 4⟩])
        (.seq
          (.region false [
            ⟨(some 13), none, .load (some 2) (some 0) (.s 2)⟩,
            ⟨(some 14), none, .call (.c (.fn 14 [] [])) [(.s 13)] [] [] [] false⟩,
            ⟨(some 6), none, .alloc 3 [.int .u8 0, .int .u8 0, .int .u8 0, .int .u8 0]⟩,
            ⟨none, none, .store 4 3 [] (.s 6) (.s 14)⟩])
          (.seq
            (.seq
              (.region false [
                ⟨(some 15), none, .faddr 0 (.s 2)⟩,
                ⟨(some 16), none, .load none (some 0) (.s 15)⟩,
                ⟨(some 17), none, .len (.s 16)⟩,
                ⟨(some 18), none, .mv (.c (.int .i64 0))⟩])
              (.block 0
                (.loop [3, 5, 6, 17, 18] [1, 2, 3]
                  (.seq
                    (.region false [
                      ⟨(some 19), none, .bin .lss .int (.s 18) (.s 17)⟩])
                    (.seq
                      (.cond (.s 19)
                        .skip
                        (.exit 0))
                      (.seq
                        (.block 1
                          (.seq
                            (.region false [
                              ⟨(some 20), none, .mv (.s 18)⟩,
                              ⟨(some 7), none, .mv (.s 20)⟩])
                            (.seq
                              (.region true [
                                ⟨(some 21), none, .mv (.s 7)⟩,
                                ⟨(some 22), none, .iaddrA 4 1 (.s 3) (.s 21)⟩,
                                ⟨(some 23), none, .load none (some 1) (.s 22)⟩,
                                ⟨(some 24), none, .mv (.s 7)⟩,
                                ⟨(some 25), none, .iaddrA 4 1 (.s 6) (.s 24)⟩,
                                ⟨(some 26), none, .load none (some 3) (.s 25)⟩,
                                ⟨(some 27), none, .bin .lss .int (.s 23) (.s 26)⟩])
                              (.cond (.s 27)
                                (.seq
                                  (.region false [
                                    ⟨(some 28), none, .load (some 4) (some 1) (.s 3)⟩,
                                    ⟨(some 8), none, .alloc 4 [.int .u8 0, .int .u8 0, .int .u8 0, .int .u8 0]⟩,
                                    ⟨none, none, .store 4 4 [] (.s 8) (.s 28)⟩])
                                  (.seq
                                    (.region false [
                                      ⟨(some 29), none, .mv (.s 7)⟩,
                                      ⟨(some 30), none, .iaddrA 4 1 (.s 8) (.s 29)⟩,
                                      ⟨(some 31), none, .load none (some 4) (.s 30)⟩,
                                      ⟨(some 32), none, .bin .add .int (.s 31) (.c (.int .u8 1))⟩,
                                      ⟨(some 33), none, .iaddrA 4 1 (.s 8) (.s 29)⟩,
                                      ⟨none, none, .store 1 4 [] (.s 33) (.s 32)⟩])
                                    (.region false [
                                      ⟨(some 34), none, .mv (.s 5)⟩,
                                      ⟨(some 35), none, .load (some 4) (some 4) (.s 8)⟩,
                                      ⟨(some 36), none, .lit none [] 1 4 [.int .u8 0, .int .u8 0, .int .u8 0, .int .u8 0] [(0, 4, (.s 35))]⟩,
                                      ⟨(some 37), none, .append 4 4 2 none (.s 34) (.s 36)⟩,
                                      ⟨(some 5), none, .mv (.s 37)⟩])))
                                .skip))))
                        (.region false [
                          ⟨(some 38), none, .bin .add .int (.s 18) (.c (.int .i64 1))⟩,
                          ⟨(some 18), none, .mv (.s 38)⟩])))))))
            (.seq
              (.region false [
                ⟨(some 39), none, .mv (.s 5)⟩,
                ⟨(some 4), none, .mv (.s 39)⟩])
              .ret)))))) }
/- cuboid/cuboidlaw05.LatticeCovers -/
def f6 : MFun := { nt := 105, np := 2, no := 3, res := [.slot 4], body :=
  (.seq
    (.region false [
      ⟨(some 2), none, .box 0 (.s 0)⟩,
      ⟨(some 3), none, .box 1 (.s 1)⟩,
      ⟨(some 4), none, .mv (.c (.bool false))⟩])
    (.seq
      (.seq
        (.region false [
          ⟨(some 11), none, .load (some 2) (some 0) (.s 2)⟩,
          ⟨(some 12), none, .load (some 4) (some 1) (.s 3)⟩,
          ⟨(some 13), none, .call (.c (.fn 19 [] [])) [(.s 11), (.s 12)] [] [] [] false⟩,
          ⟨(some 14), none, .un .not (.s 13)⟩])
        (.cond (.s 14)
          (.seq
            (.region false [
              ⟨(some 15), none, .call (.c (.fn 9 [] [])) [] [] [] [] false⟩,
              ⟨(some 4), none, .mv (.s 15)⟩])
            .ret)
          .skip))
      (.seq
        (.region false [
          ⟨(some 16), none, .load (some 2) (some 0) (.s 2)⟩,
          ⟨(some 17), none, .load (some 4) (some 1) (.s 3)⟩,
          ⟨(some 18), none, .call (.c (.fn 23 [] [])) [(.s 16), (.s 17)] [] [] [] true⟩,
          ⟨(some 5), none, .mv (.s 18)⟩])
        (.seq
          (.seq
            (.region false [
              ⟨(some 6), none, .mv (.c (.int .i64 0))⟩])
            (.block 0
              (.loop [2, 3, 5, 6] [0, 1]
                (.seq
                  (.seq
                    (.region false [
                      ⟨(some 19), none, .mv (.s 6)⟩,
                      ⟨(some 20), none, .mv (.s 5)⟩,
                      ⟨(some 21), none, .len (.s 20)⟩,
                      ⟨(some 22), none, .bin .lss .int (.s 19) (.s 21)⟩])
                    (.cond (.s 22)
                      .skip
                      (.exit 0)))
                  (.seq
                    (.block 1
                      (.seq
                        (.region true [
                          ⟨(some 25), none, .load (some 2) (some 0) (.s 2)⟩,
                          ⟨(some 26), none, .mv (.s 5)⟩,
                          ⟨(some 27), none, .mv (.s 6)⟩,
                          ⟨(some 28), none, .iaddrS 4 (.s 26) (.s 27)⟩,
                          ⟨(some 29), none, .load (some 4) none (.s 28)⟩,
                          ⟨(some 30), none, .call (.c (.fn 11 [] [])) [(.s 25), (.s 29)] [] [] [] false⟩,
                          ⟨(some 31), none, .un .not (.s 30)⟩,
                          ⟨(some 32), none, .mv (.s 31)⟩,
                          ⟨(some 33), (some (32, false)), .load (some 4) (some 1) (.s 3)⟩,
                          ⟨(some 34), (some (32, false)), .mv (.s 5)⟩,
                          ⟨(some 35), (some (32, false)), .mv (.s 6)⟩,
                          ⟨(some 36), (some (32, false)), .iaddrS 4 (.s 34) (.s 35)⟩,
                          ⟨(some 37), (some (32, false)), .load (some 4) none (.s 36)⟩,
                          ⟨(some 38), (some (32, false)), .call (.c (.fn 12 [] [])) [(.s 33), (.s 37)] [] [] [] false⟩,
                          ⟨(some 39), (some (32, false)), .un .not (.s 38)⟩,
                          ⟨(some 40), none, .pick (.s 32) (.c (.bool true)) (.s 39)⟩,
                          ⟨(some 41), none, .mv (.s 40)⟩,
                          ⟨(some 42), (some (41, false)), .mv (.s 5)⟩,
                          ⟨(some 43), (some (41, false)), .mv (.s 6)⟩,
                          ⟨(some 44), (some (41, false)), .iaddrS 4 (.s 42) (.s 43)⟩,
                          ⟨(some 45), (some (41, false)), .load (some 4) none (.s 44)⟩,
                          ⟨(some 46), (some (41, false)), .call (.c (.fn 18 [] [])) [(.s 45)] [] [] [] false⟩,
                          ⟨(some 47), (some (41, false)), .load (some 4) (some 1) (.s 3)⟩,
                          ⟨(some 48), (some (41, false)), .call (.c (.fn 18 [] [])) [(.s 47)] [] [] [] false⟩,
                          ⟨(some 49), (some (41, false)), .bin .add .int (.s 48) (.c (.int .i64 1))⟩,
                          ⟨(some 50), (some (41, false)), .bin .neq .int (.s 46) (.s 49)⟩,
                          ⟨(some 51), none, .pick (.s 41) (.c (.bool true)) (.s 50)⟩])
                        (.cond (.s 51)
                          (.seq
                            (.region false [
                              ⟨(some 4), none, .mv (.c (.bool false))⟩])
                            .ret)
                          .skip)))
                    (.region false [
                      ⟨(some 23), none, .mv (.s 6)⟩,
                      ⟨(some 24), none, .bin .add .int (.s 23) (.c (.int .i64 1))⟩,
                      ⟨(some 6), none, .mv (.s 24)⟩]))))))
          (.seq
            (.region false [
              ⟨(some 52), none, .call (.c (.fn 13 [] [])) [] [] [] [] false⟩,
              ⟨(some 8), none, .alloc 2 [.int .u8 0, .int .u8 0, .int .u8 0, .int .u8 0]⟩,
              ⟨(some 7), none, .mv (.c (.int .i64 0))⟩,
              ⟨none, none, .store 4 2 [] (.s 8) (.s 52)⟩])
            (.seq
              (.block 2
                (.loop [2, 3, 5, 7, 8] [0, 1, 2]
                  (.seq
                    (.seq
                      (.region false [
                        ⟨(some 53), none, .mv (.s 7)⟩,
                        ⟨(some 54), none, .bin .lss .int (.s 53) (.c (.int .i64 100))⟩,
                        ⟨(some 55), none, .mv (.s 54)⟩,
                        ⟨(some 56), (some (55, true)), .load (some 4) (some 2) (.s 8)⟩,
                        ⟨(some 57), (some (55, true)), .load (some 4) (some 1) (.s 3)⟩,
                        ⟨(some 58), (some (55, true)), .bin .neq (.agg [some .u8, some .u8, some .u8, some .u8]) (.s 56) (.s 57)⟩,
                        ⟨(some 59), none, .pick (.s 55) (.s 58) (.c (.bool false))⟩])
                      (.cond (.s 59)
                        .skip
                        (.exit 2)))
                    (.block 3
                      (.seq
                        (.region false [
                          ⟨(some 60), none, .load (some 2) (some 0) (.s 2)⟩,
                          ⟨(some 61), none, .load (some 4) (some 2) (.s 8)⟩,
                          ⟨(some 62), none, .call (.c (.fn 23 [] [])) [(.s 60), (.s 61)] [] [] [] true⟩,
                          ⟨(some 9), none, .mv (.s 62)⟩])
                        (.seq
                          (.region false [
                            ⟨(some 10), none, .mv (.c (.int .i64 0))⟩])
                          (.seq
                            (.block 4
                              (.loop [2, 3, 5, 7, 8, 9, 10] [0, 1, 2]
                                (.seq
                                  (.seq
                                    (.region true [
                                      ⟨(some 63), none, .mv (.s 10)⟩,
                                      ⟨(some 64), none, .mv (.s 9)⟩,
                                      ⟨(some 65), none, .len (.s 64)⟩,
                                      ⟨(some 66), none, .bin .lss .int (.s 63) (.s 65)⟩,
                                      ⟨(some 67), none, .mv (.s 66)⟩,
                                      ⟨(some 68), (some (67, true)), .mv (.s 9)⟩,
                                      ⟨(some 69), (some (67, true)), .mv (.s 10)⟩,
                                      ⟨(some 70), (some (67, true)), .iaddrS 4 (.s 68) (.s 69)⟩,
                                      ⟨(some 71), (some (67, true)), .load (some 4) none (.s 70)⟩,
                                      ⟨(some 72), (some (67, true)), .load (some 4) (some 1) (.s 3)⟩,
                                      ⟨(some 73), (some (67, true)), .call (.c (.fn 12 [] [])) [(.s 71), (.s 72)] [] [] [] false⟩,
                                      ⟨(some 74), (some (67, true)), .un .not (.s 73)⟩,
                                      ⟨(some 75), none, .pick (.s 67) (.s 74) (.c (.bool false))⟩])
                                    (.cond (.s 75)
                                      .skip
                                      (.exit 4)))
                                  (.block 5
                                    (.region false [
                                      ⟨(some 76), none, .mv (.s 10)⟩,
                                      ⟨(some 77), none, .bin .add .int (.s 76) (.c (.int .i64 1))⟩,
                                      ⟨(some 10), none, .mv (.s 77)⟩])))))
                            (.seq
                              (.seq
                                (.region false [
                                  ⟨(some 78), none, .mv (.s 10)⟩,
                                  ⟨(some 79), none, .mv (.s 9)⟩,
                                  ⟨(some 80), none, .len (.s 79)⟩,
                                  ⟨(some 81), none, .bin .geq .int (.s 78) (.s 80)⟩])
                                (.cond (.s 81)
                                  (.seq
                                    (.region false [
                                      ⟨(some 4), none, .mv (.c (.bool false))⟩])
                                    .ret)
                                  .skip))
                              (.seq
                                (.region false [
                                  ⟨(some 82), none, .mv (.s 9)⟩,
                                  ⟨(some 83), none, .mv (.s 10)⟩,
                                  ⟨(some 84), none, .iaddrS 4 (.s 82) (.s 83)⟩,
                                  ⟨(some 85), none, .load (some 4) none (.s 84)⟩,
                                  ⟨none, none, .store 4 2 [] (.s 8) (.s 85)⟩])
                                (.region false [
                                  ⟨(some 86), none, .mv (.s 7)⟩,
                                  ⟨(some 87), none, .bin .add .int (.s 86) (.c (.int .i64 1))⟩,
                                  ⟨(some 7), none, .mv (.s 87)⟩]))))))))))
              (.seq
                (.region true [
                  ⟨(some 88), none, .mv (.s 7)⟩,
                  ⟨(some 89), none, .load (some 4) (some 1) (.s 3)⟩,
                  ⟨(some 90), none, .call (.c (.fn 18 [] [])) [(.s 89)] [] [] [] false⟩,
                  ⟨(some 91), none, .bin .eql .int (.s 88) (.s 90)⟩,
                  ⟨(some 92), none, .mv (.s 91)⟩,
                  ⟨(some 93), (some (92, true)), .mv (.s 5)⟩,
                  ⟨(some 94), (some (92, true)), .len (.s 93)⟩,
                  ⟨(some 95), (some (92, true)), .bin .eql .int (.s 94) (.c (.int .i64 0))⟩,
                  ⟨(some 96), (some (92, true)), .load (some 4) (some 1) (.s 3)⟩,
                  ⟨(some 97), (some (92, true)), .load (some 2) (some 0) (.s 2)⟩,
                  ⟨(some 98), (some (92, true)), .call (.c (.fn 14 [] [])) [(.s 97)] [] [] [] false⟩,
                  ⟨(some 99), (some (92, true)), .bin .eql (.agg [some .u8, some .u8, some .u8, some .u8]) (.s 96) (.s 98)⟩,
                  ⟨(some 100), (some (92, true)), .bin .eql .bool (.s 95) (.s 99)⟩,
                  ⟨(some 101), none, .pick (.s 92) (.s 100) (.c (.bool false))⟩,
                  ⟨(some 102), none, .mv (.s 101)⟩,
                  ⟨(some 103), (some (102, true)), .call (.c (.fn 9 [] [])) [] [] [] [] false⟩,
                  ⟨(some 104), none, .pick (.s 102) (.s 103) (.c (.bool false))⟩,
                  ⟨(some 4), none, .mv (.s 104)⟩])
                .ret))))))) }
/- cuboid/cuboidkeep.LightDim -/
def f41 : MFun := { nt := 28, np := 1, no := 1, res := [.slot 2], body :=
  (.seq
    (.region false [
      ⟨(some 1), none, .box 0 (.s 0)⟩,
      ⟨(some 2), none, .mv (.c (.bool false))⟩])
    (.seq
      (.seq
        (.region false [
          ⟨(some 4), none, .faddr 0 (.s 1)⟩,
          ⟨(some 5), none, .load none (some 0) (.s 4)⟩,
          ⟨(some 6), none, .len (.s 5)⟩,
          ⟨(some 7), none, .bin .gtr .int (.s 6) (.c (.int .i64 10))⟩,
          ⟨(some 8), none, .mv (.s 7)⟩,
          ⟨(some 9), (some (8, false)), .faddr 1 (.s 1)⟩,
          ⟨(some 10), (some (8, false)), .load none (some 0) (.s 9)⟩,
          ⟨(some 11), (some (8, false)), .len (.s 10)⟩,
          ⟨(some 12), (some (8, false)), .bin .gtr .int (.s 11) (.c (.int .i64 10))⟩,
          ⟨(some 13), none, .pick (.s 8) (.c (.bool true)) (.s 12)⟩])
        (.cond (.s 13)
          (.seq
            (.region false [
              ⟨(some 2), none, .mv (.c (.bool false))⟩])
            .ret)
          .skip))
      (.seq
        (.seq
          (.region false [
            ⟨(some 3), none, .mv (.c (.int .i64 0))⟩])
          (.block 0
            (.loop [1, 3] [0]
              (.seq
                (.seq
                  (.region false [
                    ⟨(some 14), none, .mv (.s 3)⟩,
                    ⟨(some 15), none, .faddr 1 (.s 1)⟩,
                    ⟨(some 16), none, .load none (some 0) (.s 15)⟩,
                    ⟨(some 17), none, .len (.s 16)⟩,
                    ⟨(some 18), none, .bin .lss .int (.s 14) (.s 17)⟩])
                  (.cond (.s 18)
                    .skip
                    (.exit 0)))
                (.seq
                  (.block 1
                    (.seq
                      (.region false [
                        ⟨(some 21), none, .faddr 1 (.s 1)⟩,
                        ⟨(some 22), none, .load none (some 0) (.s 21)⟩,
                        ⟨(some 23), none, .mv (.s 3)⟩,
                        ⟨(some 24), none, .iaddrS 1 (.s 22) (.s 23)⟩,
                        ⟨(some 25), none, .load none none (.s 24)⟩,
                        ⟨(some 26), none, .len (.s 25)⟩,
                        ⟨(some 27), none, .bin .gtr .int (.s 26) (.c (.int .i64 60))⟩])
                      (.cond (.s 27)
                        (.seq
                          (.region false [
                            ⟨(some 2), none, .mv (.c (.bool false))⟩])
                          .ret)
                        .skip)))
                  (.region false [
                    ⟨(some 19), none, .mv (.s 3)⟩,
                    ⟨(some 20), none, .bin .add .int (.s 19) (.c (.int .i64 1))⟩,
                    ⟨(some 3), none, .mv (.s 20)⟩]))))))
        (.seq
          (.region false [
            ⟨(some 2), none, .mv (.c (.bool true))⟩])
          .ret)))) }
/- cuboid/cuboidkeep.LightCat -/
def f24 : MFun := { nt := 22, np := 1, no := 1, res := [.slot 2], body :=
  (.seq
    (.region false [
      ⟨(some 1), none, .box 0 (.s 0)⟩,
      ⟨(some 2), none, .mv (.c (.bool false))⟩])
    (.seq
      (.seq
        (.region false [
          ⟨(some 4), none, .faddr 0 (.s 1)⟩,
          ⟨(some 5), none, .load none (some 0) (.s 4)⟩,
          ⟨(some 6), none, .len (.s 5)⟩,
          ⟨(some 7), none, .bin .gtr .int (.s 6) (.c (.int .i64 8))⟩])
        (.cond (.s 7)
          (.seq
            (.region false [
              ⟨(some 2), none, .mv (.c (.bool false))⟩])
            .ret)
          .skip))
      (.seq
        (.seq
          (.region false [
            ⟨(some 3), none, .mv (.c (.int .i64 0))⟩])
          (.block 0
            (.loop [1, 3] [0]
              (.seq
                (.seq
                  (.region false [
                    ⟨(some 8), none, .mv (.s 3)⟩,
                    ⟨(some 9), none, .faddr 0 (.s 1)⟩,
                    ⟨(some 10), none, .load none (some 0) (.s 9)⟩,
                    ⟨(some 11), none, .len (.s 10)⟩,
                    ⟨(some 12), none, .bin .lss .int (.s 8) (.s 11)⟩])
                  (.cond (.s 12)
                    .skip
                    (.exit 0)))
                (.seq
                  (.block 1
                    (.seq
                      (.region false [
                        ⟨(some 15), none, .faddr 0 (.s 1)⟩,
                        ⟨(some 16), none, .load none (some 0) (.s 15)⟩,
                        ⟨(some 17), none, .mv (.s 3)⟩,
                        ⟨(some 18), none, .iaddrS 2 (.s 16) (.s 17)⟩,
                        ⟨(some 19), none, .load (some 2) none (.s 18)⟩,
                        ⟨(some 20), none, .call (.c (.fn 41 [] [])) [(.s 19)] [] [] [] false⟩,
                        ⟨(some 21), none, .un .not (.s 20)⟩])
                      (.cond (.s 21)
                        (.seq
                          (.region false [
                            ⟨(some 2), none, .mv (.c (.bool false))⟩])
                          .ret)
                        .skip)))
                  (.region false [
                    ⟨(some 13), none, .mv (.s 3)⟩,
                    ⟨(some 14), none, .bin .add .int (.s 13) (.c (.int .i64 1))⟩,
                    ⟨(some 3), none, .mv (.s 14)⟩]))))))
        (.seq
          (.region false [
            ⟨(some 2), none, .mv (.c (.bool true))⟩])
          .ret)))) }
/- cuboid/cuboidref05.Below -/
def f25 : MFun := { nt := 17, np := 2, no := 2, res := [.slot 4], body :=
  (.seq
    (.region false [
      ⟨(some 2), none, .box 0 (.s 0)⟩,
      ⟨(some 3), none, .box 1 (.s 1)⟩,
      ⟨(some 4), none, .mv (.c (.bool false))⟩])
    (.seq
      (.seq
        (.region false [
          ⟨(some 5), none, .mv (.c (.int .i64 0))⟩])
        (.block 0
          (.loop [2, 3, 5] [0, 1]
            (.seq
              (.seq
                (.region false [
                  ⟨(some 6), none, .mv (.s 5)⟩,
                  ⟨(some 7), none, .bin .lss .int (.s 6) (.c (.int .i64 4))⟩])
                (.cond (.s 7)
                  .skip
                  (.exit 0)))
              (.seq
                (.block 1
                  (.seq
                    (.region true [
                      ⟨(some 10), none, .mv (.s 5)⟩,
                      ⟨(some 11), none, .iaddrA 4 1 (.s 2) (.s 10)⟩,
                      ⟨(some 12), none, .load none (some 0) (.s 11)⟩,
                      ⟨(some 13), none, .mv (.s 5)⟩,
                      ⟨(some 14), none, .iaddrA 4 1 (.s 3) (.s 13)⟩,
                      ⟨(some 15), none, .load none (some 1) (.s 14)⟩,
                      ⟨(some 16), none, .bin .gtr .int (.s 12) (.s 15)⟩])
                    (.cond (.s 16)
                      (.seq
                        (.region false [
                          ⟨(some 4), none, .mv (.c (.bool false))⟩])
                        .ret)
                      .skip)))
                (.region false [
                  ⟨(some 8), none, .mv (.s 5)⟩,
                  ⟨(some 9), none, .bin .add .int (.s 8) (.c (.int .i64 1))⟩,
                  ⟨(some 5), none, .mv (.s 9)⟩]))))))
      (.seq
        (.region false [
          ⟨(some 4), none, .mv (.c (.bool true))⟩])
        .ret))) }
/- cuboid/cuboidref05.Meet -/
def f26 : MFun := { nt := 20, np := 2, no := 3, res := [.cell 4 2 (some 4)], body :=
  (.seq
    (.region false [
      ⟨(some 2), none, .box 0 (.s 0)⟩,
      ⟨(some 3), none, .box 1 (.s 1)⟩,
      ⟨(some 4), none, .alloc 2 [.int .u8 0, .int .u8 0, .int .u8 0, .int .u8 0]⟩])
    (.seq
      (.seq
        (.region false [
          ⟨(some 5), none, .mv (.c (.int .i64 0))⟩])
        (.block 0
          (.loop [2, 3, 4, 5] [0, 1, 2]
            (.seq
              (.seq
                (.region false [
                  ⟨(some 6), none, .mv (.s 5)⟩,
                  ⟨(some 7), none, .bin .lss .int (.s 6) (.c (.int .i64 4))⟩])
                (.cond (.s 7)
                  .skip
                  (.exit 0)))
              (.seq
                (.block 1
                  (.region true [
                    ⟨(some 10), none, .mv (.s 5)⟩,
                    ⟨(some 11), none, .mv (.s 5)⟩,
                    ⟨(some 12), none, .iaddrA 4 1 (.s 2) (.s 11)⟩,
                    ⟨(some 13), none, .load none (some 0) (.s 12)⟩,
                    ⟨(some 14), none, .mv (.s 5)⟩,
                    ⟨(some 15), none, .iaddrA 4 1 (.s 3) (.s 14)⟩,
                    ⟨(some 16), none, .load none (some 1) (.s 15)⟩,
                    ⟨(some 17), none, .minmax false [(.s 13), (.s 16)]⟩,
                    ⟨(some 18), none, .iaddrA 4 1 (.s 2) (.s 10)⟩,
                    ⟨none, none, .store 1 0 [] (.s 18) (.s 17)⟩]))
                (.region false [
                  ⟨(some 8), none, .mv (.s 5)⟩,
                  ⟨(some 9), none, .bin .add .int (.s 8) (.c (.int .i64 1))⟩,
                  ⟨(some 5), none, .mv (.s 9)⟩]))))))
      (.seq
        (.region false [
          ⟨(some 19), none, .load (some 4) (some 0) (.s 2)⟩,
          ⟨none, none, .store 4 2 [] (.s 4) (.s 19)⟩])
        .ret))) }
/- cuboid/cuboidref05.Join -/
def f27 : MFun := { nt := 20, np := 2, no := 3, res := [.cell 4 2 (some 4)], body :=
  (.seq
    (.region false [
      ⟨(some 2), none, .box 0 (.s 0)⟩,
      ⟨(some 3), none, .box 1 (.s 1)⟩,
      ⟨(some 4), none, .alloc 2 [.int .u8 0, .int .u8 0, .int .u8 0, .int .u8 0]⟩])
    (.seq
      (.seq
        (.region false [
          ⟨(some 5), none, .mv (.c (.int .i64 0))⟩])
        (.block 0
          (.loop [2, 3, 4, 5] [0, 1, 2]
            (.seq
              (.seq
                (.region false [
                  ⟨(some 6), none, .mv (.s 5)⟩,
                  ⟨(some 7), none, .bin .lss .int (.s 6) (.c (.int .i64 4))⟩])
                (.cond (.s 7)
                  .skip
                  (.exit 0)))
              (.seq
                (.block 1
                  (.region true [
                    ⟨(some 10), none, .mv (.s 5)⟩,
                    ⟨(some 11), none, .mv (.s 5)⟩,
                    ⟨(some 12), none, .iaddrA 4 1 (.s 2) (.s 11)⟩,
                    ⟨(some 13), none, .load none (some 0) (.s 12)⟩,
                    ⟨(some 14), none, .mv (.s 5)⟩,
                    ⟨(some 15), none, .iaddrA 4 1 (.s 3) (.s 14)⟩,
                    ⟨(some 16), none, .load none (some 1) (.s 15)⟩,
                    ⟨(some 17), none, .minmax true [(.s 13), (.s 16)]⟩,
                    ⟨(some 18), none, .iaddrA 4 1 (.s 2) (.s 10)⟩,
                    ⟨none, none, .store 1 0 [] (.s 18) (.s 17)⟩]))
                (.region false [
                  ⟨(some 8), none, .mv (.s 5)⟩,
                  ⟨(some 9), none, .bin .add .int (.s 8) (.c (.int .i64 1))⟩,
                  ⟨(some 5), none, .mv (.s 9)⟩]))))))
      (.seq
        (.region false [
          ⟨(some 19), none, .load (some 4) (some 0) (.s 2)⟩,
          ⟨none, none, .store 4 2 [] (.s 4) (.s 19)⟩])
        .ret))) }
/- cuboid/cuboidref05.Rank -/
def f28 : MFun := { nt := 16, np := 1, no := 1, res := [.slot 2], body :=
  (.seq
    (.region false [
      ⟨(some 1), none, .box 0 (.s 0)⟩,
      ⟨(some 2), none, .mv (.c (.int .i64 0))⟩])
    (.seq
      (.region false [
        ⟨(some 3), none, .mv (.c (.int .i64 0))⟩])
      (.seq
        (.seq
          (.region false [
            ⟨(some 4), none, .mv (.c (.int .i64 0))⟩])
          (.block 0
            (.loop [1, 3, 4] [0]
              (.seq
                (.seq
                  (.region false [
                    ⟨(some 5), none, .mv (.s 4)⟩,
                    ⟨(some 6), none, .bin .lss .int (.s 5) (.c (.int .i64 4))⟩])
                  (.cond (.s 6)
                    .skip
                    (.exit 0)))
                (.seq
                  (.block 1
                    (.region false [
                      ⟨(some 9), none, .mv (.s 3)⟩,
                      ⟨(some 10), none, .mv (.s 4)⟩,
                      ⟨(some 11), none, .iaddrA 4 1 (.s 1) (.s 10)⟩,
                      ⟨(some 12), none, .load none (some 0) (.s 11)⟩,
                      ⟨(some 13), none, .conv .i64 (.s 12)⟩,
                      ⟨(some 14), none, .bin .add .int (.s 9) (.s 13)⟩,
                      ⟨(some 3), none, .mv (.s 14)⟩]))
                  (.region false [
                    ⟨(some 7), none, .mv (.s 4)⟩,
                    ⟨(some 8), none, .bin .add .int (.s 7) (.c (.int .i64 1))⟩,
                    ⟨(some 4), none, .mv (.s 8)⟩]))))))
        (.seq
          (.region false [
            ⟨(some 15), none, .mv (.s 3)⟩,
            ⟨(some 2), none, .mv (.s 15)⟩])
          .ret)))) }
/- cuboid/cuboidref05.Whole -/
def f29 : MFun := { nt := 27, np := 1, no := 3, res := [.cell 2 1 (some 4)], body :=
  (.seq
    (.region false [
      ⟨(some 1), none, .box 0 (.s 0)⟩,
      ⟨(some 2), none, .alloc 1 [.int .u8 0, .int .u8 0, .int .u8 0, .int .u8 0]⟩])
    (.seq
      (.region false [
        ⟨(some 3), none, .alloc 2 [.int .u8 0, .int .u8 0, .int .u8 0, .int .u8 0]⟩])
      (.seq
        (.seq
          (.region false [
            ⟨(some 4), none, .mv (.c (.int .i64 0))⟩])
          (.block 0
            (.loop [1, 2, 3, 4] [0, 1, 2]
              (.seq
                (.seq
                  (.region false [
                    ⟨(some 5), none, .load (some 2) (some 0) (.s 1)⟩,
                    ⟨(some 6), none, .call (.c (.fn 8 [] [])) [(.s 5)] [] [] [] false⟩,
                    ⟨(some 7), none, .mv (.s 6)⟩,
                    ⟨(some 8), (some (7, true)), .mv (.s 4)⟩,
                    ⟨(some 9), (some (7, true)), .faddr 0 (.s 1)⟩,
                    ⟨(some 10), (some (7, true)), .load none (some 0) (.s 9)⟩,
                    ⟨(some 11), (some (7, true)), .len (.s 10)⟩,
                    ⟨(some 12), (some (7, true)), .bin .lss .int (.s 8) (.s 11)⟩,
                    ⟨(some 13), none, .pick (.s 7) (.s 12) (.c (.bool false))⟩])
                  (.cond (.s 13)
                    .skip
                    (.exit 0)))
                (.seq
                  (.block 1
                    (.region false [
                      ⟨(some 16), none, .mv (.s 4)⟩,
                      ⟨(some 17), none, .faddr 0 (.s 1)⟩,
                      ⟨(some 18), none, .load none (some 0) (.s 17)⟩,
                      ⟨(some 19), none, .mv (.s 4)⟩,
                      ⟨(some 20), none, .iaddrS 2 (.s 18) (.s 19)⟩,
                      ⟨(some 21), none, .faddr 0 (.s 20)⟩,
                      ⟨(some 22), none, .load none none (.s 21)⟩,
                      ⟨(some 23), none, .len (.s 22)⟩,
                      ⟨(some 24), none, .conv .u8 (.s 23)⟩,
                      ⟨(some 25), none, .iaddrA 4 1 (.s 3) (.s 16)⟩,
                      ⟨none, none, .store 1 2 [] (.s 25) (.s 24)⟩]))
                  (.region false [
                    ⟨(some 14), none, .mv (.s 4)⟩,
                    ⟨(some 15), none, .bin .add .int (.s 14) (.c (.int .i64 1))⟩,
                    ⟨(some 4), none, .mv (.s 15)⟩]))))))
        (.seq
          (.region false [
            ⟨(some 26), none, .load (some 4) (some 2) (.s 3)⟩,
            ⟨none, none, .store 4 1 [] (.s 2) (.s 26)⟩])
          .ret)))) }
/- cuboid/cuboidkeep.Nodes -/
def f31 : MFun := { nt := 26, np := 2, no := 0, res := [.slot 4], body :=
  (.seq
    (.region false [
      ⟨(some 4), none, .mv (.c (.bool false))⟩])
    (.seq
      (.seq
        (.region false [
          ⟨(some 6), none, .mv (.s 0)⟩,
          ⟨(some 7), none, .len (.s 6)⟩,
          ⟨(some 8), none, .mv (.s 1)⟩,
          ⟨(some 9), none, .len (.s 8)⟩,
          ⟨(some 10), none, .bin .neq .int (.s 7) (.s 9)⟩])
        (.cond (.s 10)
          (.seq
            (.region false [
              ⟨(some 4), none, .mv (.c (.bool false))⟩])
            .ret)
          .skip))
      (.seq
        (.seq
          (.region false [
            ⟨(some 5), none, .mv (.c (.int .i64 0))⟩])
          (.block 0
            (.loop [0, 1, 5] []
              (.seq
                (.seq
                  (.region false [
                    ⟨(some 11), none, .mv (.s 5)⟩,
                    ⟨(some 12), none, .mv (.s 0)⟩,
                    ⟨(some 13), none, .len (.s 12)⟩,
                    ⟨(some 14), none, .bin .lss .int (.s 11) (.s 13)⟩])
                  (.cond (.s 14)
                    .skip
                    (.exit 0)))
                (.seq
                  (.block 1
                    (.seq
                      (.region true [
                        ⟨(some 17), none, .mv (.s 0)⟩,
                        ⟨(some 18), none, .mv (.s 5)⟩,
                        ⟨(some 19), none, .iaddrS 4 (.s 17) (.s 18)⟩,
                        ⟨(some 20), none, .load (some 4) none (.s 19)⟩,
                        ⟨(some 21), none, .mv (.s 1)⟩,
                        ⟨(some 22), none, .mv (.s 5)⟩,
                        ⟨(some 23), none, .iaddrS 4 (.s 21) (.s 22)⟩,
                        ⟨(some 24), none, .load (some 4) none (.s 23)⟩,
                        ⟨(some 25), none, .bin .neq (.agg [some .u8, some .u8, some .u8, some .u8]) (.s 20) (.s 24)⟩])
                      (.cond (.s 25)
                        (.seq
                          (.region false [
                            ⟨(some 4), none, .mv (.c (.bool false))⟩])
                          .ret)
                        .skip)))
                  (.region false [
                    ⟨(some 15), none, .mv (.s 5)⟩,
                    ⟨(some 16), none, .bin .add .int (.s 15) (.c (.int .i64 1))⟩,
                    ⟨(some 5), none, .mv (.s 16)⟩]))))))
        (.seq
          (.region false [
            ⟨(some 4), none, .mv (.c (.bool true))⟩])
          .ret)))) }
/- cuboid/cuboidref05.Covers -/
def f32 : MFun := { nt := 34, np := 2, no := 4, res := [.slot 4], body :=
  (.seq
    (.region false [
      ⟨(some 2), none, .box 0 (.s 0)⟩,
      ⟨(some 3), none, .box 1 (.s 1)⟩,
      ⟨(some 4), none, .mv (.c .nilsl)⟩])
    (.seq
      (.region false [
        ⟨(some 5), none, .vnil 2 4⟩])
      (.seq
        (.seq
          (.region false [
            ⟨(some 6), none, .mv (.c (.int .i64 0))⟩])
          (.block 0
            (.loop [2, 3, 5, 6] [0, 1, 2]
              (.seq
                (.seq
                  (.region false [
                    ⟨(some 8), none, .load (some 2) (some 0) (.s 2)⟩,
                    ⟨(some 9), none, .load (some 4) (some 1) (.s 3)⟩,
                    ⟨(some 10), none, .call (.c (.fn 19 [] [])) [(.s 8), (.s 9)] [] [] [] false⟩,
                    ⟨(some 11), none, .mv (.s 10)⟩,
                    ⟨(some 12), (some (11, true)), .mv (.s 6)⟩,
                    ⟨(some 13), (some (11, true)), .faddr 0 (.s 2)⟩,
                    ⟨(some 14), (some (11, true)), .load none (some 0) (.s 13)⟩,
                    ⟨(some 15), (some (11, true)), .len (.s 14)⟩,
                    ⟨(some 16), (some (11, true)), .bin .lss .int (.s 12) (.s 15)⟩,
                    ⟨(some 17), none, .pick (.s 11) (.s 16) (.c (.bool false))⟩])
                  (.cond (.s 17)
                    .skip
                    (.exit 0)))
                (.seq
                  (.block 1
                    (.seq
                      (.region false [
                        ⟨(some 20), none, .load (some 4) (some 1) (.s 3)⟩,
                        ⟨(some 7), none, .alloc 3 [.int .u8 0, .int .u8 0, .int .u8 0, .int .u8 0]⟩,
                        ⟨none, none, .store 4 3 [] (.s 7) (.s 20)⟩])
                      (.seq
                        (.region false [
                          ⟨(some 21), none, .mv (.s 6)⟩,
                          ⟨(some 22), none, .iaddrA 4 1 (.s 7) (.s 21)⟩,
                          ⟨(some 23), none, .load none (some 3) (.s 22)⟩,
                          ⟨(some 24), none, .bin .add .int (.s 23) (.c (.int .u8 1))⟩,
                          ⟨(some 25), none, .iaddrA 4 1 (.s 7) (.s 21)⟩,
                          ⟨none, none, .store 1 3 [] (.s 25) (.s 24)⟩])
                        (.seq
                          (.region false [
                            ⟨(some 26), none, .load (some 2) (some 0) (.s 2)⟩,
                            ⟨(some 27), none, .load (some 4) (some 3) (.s 7)⟩,
                            ⟨(some 28), none, .call (.c (.fn 19 [] [])) [(.s 26), (.s 27)] [] [] [] false⟩])
                          (.cond (.s 28)
                            (.region false [
                              ⟨(some 29), none, .mv (.s 5)⟩,
                              ⟨(some 30), none, .load (some 4) (some 3) (.s 7)⟩,
                              ⟨(some 31), none, .lit none [] 1 4 [.int .u8 0, .int .u8 0, .int .u8 0, .int .u8 0] [(0, 4, (.s 30))]⟩,
                              ⟨(some 32), none, .append 4 4 2 none (.s 29) (.s 31)⟩,
                              ⟨(some 5), none, .mv (.s 32)⟩])
                            .skip)))))
                  (.region false [
                    ⟨(some 18), none, .mv (.s 6)⟩,
                    ⟨(some 19), none, .bin .add .int (.s 18) (.c (.int .i64 1))⟩,
                    ⟨(some 6), none, .mv (.s 19)⟩]))))))
        (.seq
          (.region false [
            ⟨(some 33), none, .mv (.s 5)⟩,
            ⟨(some 4), none, .mv (.s 33)⟩])
          .ret)))) }
/- cuboid/cuboidref05.All -/
def f33 : MFun := { nt := 52, np := 1, no := 3, res := [.slot 2], body :=
  (.seq
    (.region false [
      ⟨(some 1), none, .box 0 (.s 0)⟩,
      ⟨(some 2), none, .mv (.c .nilsl)⟩])
    (.seq
      (.seq
        (.region false [
          ⟨(some 9), none, .load (some 2) (some 0) (.s 1)⟩,
          ⟨(some 10), none, .call (.c (.fn 8 [] [])) [(.s 9)] [] [] [] false⟩,
          ⟨(some 11), none, .un .not (.s 10)⟩])
        (.cond (.s 11)
          (.seq
            (.region false [
              ⟨(some 2), none, .mv (.c .nilsl)⟩])
            .ret)
          .skip))
      (.seq
        (.region false [
          ⟨(some 12), none, .build [.int .u8 0, .int .u8 0, .int .u8 0, .int .u8 0] []⟩,
          ⟨(some 13), none, .lit none [] 1 4 [.int .u8 0, .int .u8 0, .int .u8 0, .int .u8 0] [(0, 4, (.s 12))]⟩,
          ⟨(some 3), none, .frz [] (.s 13)⟩])
        (.seq
          (.seq
            (.region false [
              ⟨(some 4), none, .mv (.c (.int .i64 0))⟩])
            (.block 0
              (.loop [1, 3, 4] [0]
                (.seq
                  (.seq
                    (.region false [
                      ⟨(some 14), none, .mv (.s 4)⟩,
                      ⟨(some 15), none, .faddr 0 (.s 1)⟩,
                      ⟨(some 16), none, .load none (some 0) (.s 15)⟩,
                      ⟨(some 17), none, .len (.s 16)⟩,
                      ⟨(some 18), none, .bin .lss .int (.s 14) (.s 17)⟩])
                    (.cond (.s 18)
                      .skip
                      (.exit 0)))
                  (.seq
                    (.block 1
                      (.seq
                        (.region false [
                          ⟨(some 5), none, .vnil 1 4⟩])
                        (.seq
                          (.seq
                            (.region false [
                              ⟨(some 6), none, .mv (.c (.int .i64 0))⟩])
                            (.block 2
                              (.loop [1, 3, 4, 5, 6] [0, 1]
                                (.seq
                                  (.seq
                                    (.region false [
                                      ⟨(some 21), none, .mv (.s 6)⟩,
                                      ⟨(some 22), none, .mv (.s 3)⟩,
                                      ⟨(some 23), none, .len (.s 22)⟩,
                                      ⟨(some 24), none, .bin .lss .int (.s 21) (.s 23)⟩])
                                    (.cond (.s 24)
                                      .skip
                                      (.exit 2)))
                                  (.seq
                                    (.block 3
                                      (.seq
                                        (.region false [
                                          ⟨(some 7), none, .mv (.c (.int .i64 0))⟩])
                                        (.block 4
                                          (.loop [1, 3, 4, 5, 6, 7] [0, 1]
                                            (.seq
                                              (.seq
                                                (.region false [
                                                  ⟨(some 27), none, .mv (.s 7)⟩,
                                                  ⟨(some 28), none, .faddr 0 (.s 1)⟩,
                                                  ⟨(some 29), none, .load none (some 0) (.s 28)⟩,
                                                  ⟨(some 30), none, .mv (.s 4)⟩,
                                                  ⟨(some 31), none, .iaddrS 2 (.s 29) (.s 30)⟩,
                                                  ⟨(some 32), none, .faddr 0 (.s 31)⟩,
                                                  ⟨(some 33), none, .load none none (.s 32)⟩,
                                                  ⟨(some 34), none, .len (.s 33)⟩,
                                                  ⟨(some 35), none, .bin .leq .int (.s 27) (.s 34)⟩])
                                                (.cond (.s 35)
                                                  .skip
                                                  (.exit 4)))
                                              (.seq
                                                (.block 5
                                                  (.seq
                                                    (.region false [
                                                      ⟨(some 38), none, .mv (.s 3)⟩,
                                                      ⟨(some 39), none, .mv (.s 6)⟩,
                                                      ⟨(some 40), none, .iaddrS 4 (.s 38) (.s 39)⟩,
                                                      ⟨(some 41), none, .load (some 4) none (.s 40)⟩,
                                                      ⟨(some 8), none, .alloc 2 [.int .u8 0, .int .u8 0, .int .u8 0, .int .u8 0]⟩,
                                                      ⟨none, none, .store 4 2 [] (.s 8) (.s 41)⟩])
                                                    (.seq
                                                      (.region false [
                                                        ⟨(some 42), none, .mv (.s 4)⟩,
                                                        ⟨(some 43), none, .mv (.s 7)⟩,
                                                        ⟨(some 44), none, .conv .u8 (.s 43)⟩,
                                                        ⟨(some 45), none, .iaddrA 4 1 (.s 8) (.s 42)⟩,
                                                        ⟨none, none, .store 1 2 [] (.s 45) (.s 44)⟩])
                                                      (.region false [
                                                        ⟨(some 46), none, .mv (.s 5)⟩,
                                                        ⟨(some 47), none, .load (some 4) (some 2) (.s 8)⟩,
                                                        ⟨(some 48), none, .lit none [] 1 4 [.int .u8 0, .int .u8 0, .int .u8 0, .int .u8 0] [(0, 4, (.s 47))]⟩,
                                                        ⟨(some 49), none, .append 4 4 1 none (.s 46) (.s 48)⟩,
                                                        ⟨(some 5), none, .mv (.s 49)⟩]))))
                                                (.region false [
                                                  ⟨(some 36), none, .mv (.s 7)⟩,
                                                  ⟨(some 37), none, .bin .add .int (.s 36) (.c (.int .i64 1))⟩,
                                                  ⟨(some 7), none, .mv (.s 37)⟩])))))))
                                    (.region false [
                                      ⟨(some 25), none, .mv (.s 6)⟩,
                                      ⟨(some 26), none, .bin .add .int (.s 25) (.c (.int .i64 1))⟩,
                                      ⟨(some 6), none, .mv (.s 26)⟩]))))))
                          (.region false [
                            ⟨(some 50), none, .mv (.s 5)⟩,
                            ⟨(some 3), none, .frz [1] (.s 50)⟩]))))
                    (.region false [
                      ⟨(some 19), none, .mv (.s 4)⟩,
                      ⟨(some 20), none, .bin .add .int (.s 19) (.c (.int .i64 1))⟩,
                      ⟨(some 4), none, .mv (.s 20)⟩]))))))
          (.seq
            (.region false [
              ⟨(some 51), none, .mv (.s 3)⟩,
              ⟨(some 2), none, .mv (.s 51)⟩])
            .ret))))) }
/- cuboid/cuboidlaw05.LatticeTells -/
def f7 : MFun := { nt := 112, np := 3, no := 4, res := [.slot 6], body :=
  (.seq
    (.region false [
      ⟨(some 3), none, .box 0 (.s 0)⟩,
      ⟨(some 4), none, .box 1 (.s 1)⟩,
      ⟨(some 5), none, .box 2 (.s 2)⟩,
      ⟨(some 6), none, .mv (.c (.bool false))⟩])
    (.seq
      (.seq
        (.region false [
          ⟨(some 10), none, .load (some 2) (some 0) (.s 3)⟩,
          ⟨(some 11), none, .call (.c (.fn 24 [] [])) [(.s 10)] [] [] [] false⟩,
          ⟨(some 12), none, .un .not (.s 11)⟩])
        (.cond (.s 12)
          (.seq
            (.region false [
              ⟨(some 13), none, .call (.c (.fn 9 [] [])) [] [] [] [] false⟩,
              ⟨(some 6), none, .mv (.s 13)⟩])
            .ret)
          .skip))
      (.seq
        (.seq
          (.region true [
            ⟨(some 14), none, .call (.c (.fn 13 [] [])) [] [] [] [] false⟩,
            ⟨(some 15), none, .build [.int .u8 0, .int .u8 0, .int .u8 0, .int .u8 0] []⟩,
            ⟨(some 16), none, .bin .neq (.agg [some .u8, some .u8, some .u8, some .u8]) (.s 14) (.s 15)⟩,
            ⟨(some 17), none, .mv (.s 16)⟩,
            ⟨(some 18), (some (17, false)), .load (some 4) (some 1) (.s 4)⟩,
            ⟨(some 19), (some (17, false)), .load (some 4) (some 2) (.s 5)⟩,
            ⟨(some 20), (some (17, false)), .call (.c (.fn 12 [] [])) [(.s 18), (.s 19)] [] [] [] false⟩,
            ⟨(some 21), (some (17, false)), .load (some 4) (some 1) (.s 4)⟩,
            ⟨(some 22), (some (17, false)), .load (some 4) (some 2) (.s 5)⟩,
            ⟨(some 23), (some (17, false)), .call (.c (.fn 25 [] [])) [(.s 21), (.s 22)] [] [] [] false⟩,
            ⟨(some 24), (some (17, false)), .bin .neq .bool (.s 20) (.s 23)⟩,
            ⟨(some 25), none, .pick (.s 17) (.c (.bool true)) (.s 24)⟩,
            ⟨(some 26), none, .mv (.s 25)⟩,
            ⟨(some 27), (some (26, false)), .load (some 4) (some 1) (.s 4)⟩,
            ⟨(some 28), (some (26, false)), .load (some 4) (some 2) (.s 5)⟩,
            ⟨(some 29), (some (26, false)), .call (.c (.fn 16 [] [])) [(.s 27), (.s 28)] [] [] [] false⟩,
            ⟨(some 30), (some (26, false)), .load (some 4) (some 1) (.s 4)⟩,
            ⟨(some 31), (some (26, false)), .load (some 4) (some 2) (.s 5)⟩,
            ⟨(some 32), (some (26, false)), .call (.c (.fn 26 [] [])) [(.s 30), (.s 31)] [] [] [] false⟩,
            ⟨(some 33), (some (26, false)), .bin .neq (.agg [some .u8, some .u8, some .u8, some .u8]) (.s 29) (.s 32)⟩,
            ⟨(some 34), none, .pick (.s 26) (.c (.bool true)) (.s 33)⟩,
            ⟨(some 35), none, .mv (.s 34)⟩,
            ⟨(some 36), (some (35, false)), .load (some 4) (some 1) (.s 4)⟩,
            ⟨(some 37), (some (35, false)), .load (some 4) (some 2) (.s 5)⟩,
            ⟨(some 38), (some (35, false)), .call (.c (.fn 17 [] [])) [(.s 36), (.s 37)] [] [] [] false⟩,
            ⟨(some 39), (some (35, false)), .load (some 4) (some 1) (.s 4)⟩,
            ⟨(some 40), (some (35, false)), .load (some 4) (some 2) (.s 5)⟩,
            ⟨(some 41), (some (35, false)), .call (.c (.fn 27 [] [])) [(.s 39), (.s 40)] [] [] [] false⟩,
            ⟨(some 42), (some (35, false)), .bin .neq (.agg [some .u8, some .u8, some .u8, some .u8]) (.s 38) (.s 41)⟩,
            ⟨(some 43), none, .pick (.s 35) (.c (.bool true)) (.s 42)⟩,
            ⟨(some 44), none, .mv (.s 43)⟩,
            ⟨(some 45), (some (44, false)), .load (some 4) (some 1) (.s 4)⟩,
            ⟨(some 46), (some (44, false)), .call (.c (.fn 18 [] [])) [(.s 45)] [] [] [] false⟩,
            ⟨(some 47), (some (44, false)), .load (some 4) (some 1) (.s 4)⟩,
            ⟨(some 48), (some (44, false)), .call (.c (.fn 28 [] [])) [(.s 47)] [] [] [] false⟩,
            ⟨(some 49), (some (44, false)), .bin .neq .int (.s 46) (.s 48)⟩,
            ⟨(some 50), none, .pick (.s 44) (.c (.bool true)) (.s 49)⟩])
          (.cond (.s 50)
            (.seq
              (.region false [
                ⟨(some 6), none, .mv (.c (.bool false))⟩])
              .ret)
            .skip))
        (.seq
          (.seq
            (.region true [
              ⟨(some 51), none, .load (some 4) (some 1) (.s 4)⟩,
              ⟨(some 52), none, .load (some 4) (some 2) (.s 5)⟩,
              ⟨(some 53), none, .build [.int .u8 0, .int .u8 0, .int .u8 0, .int .u8 0] []⟩,
              ⟨(some 54), none, .load (some 2) (some 0) (.s 3)⟩,
              ⟨(some 55), none, .call (.c (.fn 29 [] [])) [(.s 54)] [] [] [] false⟩,
              ⟨(some 56), none, .lit none [] 4 4 [.int .u8 0, .int .u8 0, .int .u8 0, .int .u8 0] [(0, 4, (.s 51)), (4, 4, (.s 52)), (8, 4, (.s 53)), (12, 4, (.s 55))]⟩,
              ⟨(some 57), none, .len (.s 56)⟩,
              ⟨(some 58), none, .mv (.c (.int .i64 0))⟩])
            (.block 0
              (.loop [3, 56, 57, 58] [0]
                (.seq
                  (.region false [
                    ⟨(some 59), none, .bin .lss .int (.s 58) (.s 57)⟩])
                  (.seq
                    (.cond (.s 59)
                      .skip
                      (.exit 0))
                    (.seq
                      (.block 1
                        (.seq
                          (.region false [
                            ⟨(some 60), none, .iaddrS 4 (.s 56) (.s 58)⟩,
                            ⟨(some 61), none, .load (some 4) none (.s 60)⟩,
                            ⟨(some 8), none, .alloc 3 [.int .u8 0, .int .u8 0, .int .u8 0, .int .u8 0]⟩,
                            ⟨none, none, .store 4 3 [] (.s 8) (.s 61)⟩])
                          (.seq
                            (.region true [
                              ⟨(some 62), none, .load (some 2) (some 0) (.s 3)⟩,
                              ⟨(some 63), none, .load (some 4) (some 3) (.s 8)⟩,
                              ⟨(some 64), none, .call (.c (.fn 11 [] [])) [(.s 62), (.s 63)] [] [] [] false⟩,
                              ⟨(some 65), none, .load (some 2) (some 0) (.s 3)⟩,
                              ⟨(some 66), none, .load (some 4) (some 3) (.s 8)⟩,
                              ⟨(some 67), none, .call (.c (.fn 19 [] [])) [(.s 65), (.s 66)] [] [] [] false⟩,
                              ⟨(some 68), none, .bin .neq .bool (.s 64) (.s 67)⟩,
                              ⟨(some 69), none, .mv (.s 68)⟩,
                              ⟨(some 70), (some (69, false)), .load (some 2) (some 0) (.s 3)⟩,
                              ⟨(some 71), (some (69, false)), .load (some 4) (some 3) (.s 8)⟩,
                              ⟨(some 72), (some (69, false)), .call (.c (.fn 22 [] [])) [(.s 70), (.s 71)] [] [] [] false⟩,
                              ⟨(some 73), (some (69, false)), .load (some 2) (some 0) (.s 3)⟩,
                              ⟨(some 74), (some (69, false)), .load (some 4) (some 3) (.s 8)⟩,
                              ⟨(some 75), (some (69, false)), .call (.c (.fn 30 [] [])) [(.s 73), (.s 74)] [] [] [] false⟩,
                              ⟨(some 76), (some (69, false)), .bin .neq .int (.s 72) (.s 75)⟩,
                              ⟨(some 77), none, .pick (.s 69) (.c (.bool true)) (.s 76)⟩,
                              ⟨(some 78), none, .mv (.s 77)⟩,
                              ⟨(some 79), (some (78, false)), .load (some 2) (some 0) (.s 3)⟩,
                              ⟨(some 80), (some (78, false)), .load (some 4) (some 3) (.s 8)⟩,
                              ⟨(some 81), (some (78, false)), .call (.c (.fn 23 [] [])) [(.s 79), (.s 80)] [] [] [] true⟩,
                              ⟨(some 82), (some (78, false)), .load (some 2) (some 0) (.s 3)⟩,
                              ⟨(some 83), (some (78, false)), .load (some 4) (some 3) (.s 8)⟩,
                              ⟨(some 84), (some (78, false)), .call (.c (.fn 32 [] [])) [(.s 82), (.s 83)] [] [] [] true⟩,
                              ⟨(some 85), (some (78, false)), .call (.c (.fn 31 [] [])) [(.s 81), (.s 84)] [] [] [] false⟩,
                              ⟨(some 86), (some (78, false)), .un .not (.s 85)⟩,
                              ⟨(some 87), none, .pick (.s 78) (.c (.bool true)) (.s 86)⟩])
                            (.cond (.s 87)
                              (.seq
                                (.region false [
                                  ⟨(some 6), none, .mv (.c (.bool false))⟩])
                                .ret)
                              .skip))))
                      (.region false [
                        ⟨(some 88), none, .bin .add .int (.s 58) (.c (.int .i64 1))⟩,
                        ⟨(some 58), none, .mv (.s 88)⟩])))))))
          (.seq
            (.region false [
              ⟨(some 89), none, .load (some 2) (some 0) (.s 3)⟩,
              ⟨(some 90), none, .call (.c (.fn 33 [] [])) [(.s 89)] [] [] [] true⟩,
              ⟨(some 9), none, .mv (.s 90)⟩])
            (.seq
              (.region true [
                ⟨(some 91), none, .load (some 2) (some 0) (.s 3)⟩,
                ⟨(some 92), none, .call (.c (.fn 14 [] [])) [(.s 91)] [] [] [] false⟩,
                ⟨(some 93), none, .load (some 2) (some 0) (.s 3)⟩,
                ⟨(some 94), none, .call (.c (.fn 29 [] [])) [(.s 93)] [] [] [] false⟩,
                ⟨(some 95), none, .bin .eql (.agg [some .u8, some .u8, some .u8, some .u8]) (.s 92) (.s 94)⟩,
                ⟨(some 96), none, .mv (.s 95)⟩,
                ⟨(some 97), (some (96, true)), .load (some 2) (some 0) (.s 3)⟩,
                ⟨(some 98), (some (96, true)), .call (.c (.fn 15 [] [])) [(.s 97)] [] [] [] false⟩,
                ⟨(some 99), (some (96, true)), .mv (.s 9)⟩,
                ⟨(some 100), (some (96, true)), .len (.s 99)⟩,
                ⟨(some 101), (some (96, true)), .bin .eql .int (.s 98) (.s 100)⟩,
                ⟨(some 102), none, .pick (.s 96) (.s 101) (.c (.bool false))⟩,
                ⟨(some 103), none, .mv (.s 102)⟩,
                ⟨(some 104), (some (103, true)), .load (some 2) (some 0) (.s 3)⟩,
                ⟨(some 105), (some (103, true)), .call (.c (.fn 10 [] [])) [(.s 104)] [] [] [] true⟩,
                ⟨(some 106), (some (103, true)), .mv (.s 9)⟩,
                ⟨(some 107), (some (103, true)), .call (.c (.fn 31 [] [])) [(.s 105), (.s 106)] [] [] [] false⟩,
                ⟨(some 108), none, .pick (.s 103) (.s 107) (.c (.bool false))⟩,
                ⟨(some 109), none, .mv (.s 108)⟩,
                ⟨(some 110), (some (109, true)), .call (.c (.fn 9 [] [])) [] [] [] [] false⟩,
                ⟨(some 111), none, .pick (.s 109) (.s 110) (.c (.bool false))⟩,
                ⟨(some 6), none, .mv (.s 111)⟩])
              .ret)))))) }
end Mf
theorem mf34_ok : chkFun Try.prog Mf.f34 Try.f34 = true := by kernel_rfl
theorem mf8_ok : chkFun Try.prog Mf.f8 Try.f8 = true := by kernel_rfl
theorem mf13_ok : chkFun Try.prog Mf.f13 Try.f13 = true := by kernel_rfl
theorem mf42_ok : chkFun Try.prog Mf.f42 Try.f42 = true := by kernel_rfl
theorem mf44_ok : chkFun Try.prog Mf.f44 Try.f44 = true := by kernel_rfl
theorem mf45_ok : chkFun Try.prog Mf.f45 Try.f45 = true := by kernel_rfl
theorem mf43_ok : chkFun Try.prog Mf.f43 Try.f43 = true := by kernel_rfl
theorem mf35_ok : chkFun Try.prog Mf.f35 Try.f35 = true := by kernel_rfl
theorem mf14_ok : chkFun Try.prog Mf.f14 Try.f14 = true := by kernel_rfl
theorem mf36_ok : chkFun Try.prog Mf.f36 Try.f36 = true := by kernel_rfl
theorem mf10_ok : chkFun Try.prog Mf.f10 Try.f10 = true := by kernel_rfl
theorem mf40_ok : chkFun Try.prog Mf.f40 Try.f40 = true := by kernel_rfl
theorem mf37_ok : chkFun Try.prog Mf.f37 Try.f37 = true := by kernel_rfl
theorem mf11_ok : chkFun Try.prog Mf.f11 Try.f11 = true := by kernel_rfl
theorem mf16_ok : chkFun Try.prog Mf.f16 Try.f16 = true := by kernel_rfl
theorem mf12_ok : chkFun Try.prog Mf.f12 Try.f12 = true := by kernel_rfl
theorem mf38_ok : chkFun Try.prog Mf.f38 Try.f38 = true := by kernel_rfl
theorem mf15_ok : chkFun Try.prog Mf.f15 Try.f15 = true := by kernel_rfl
theorem mf18_ok : chkFun Try.prog Mf.f18 Try.f18 = true := by kernel_rfl
theorem mf22_ok : chkFun Try.prog Mf.f22 Try.f22 = true := by kernel_rfl
theorem mf9_ok : chkFun Try.prog Mf.f9 Try.f9 = true := by kernel_rfl
theorem mf3_ok : chkFun Try.prog Mf.f3 Try.f3 = true := by kernel_rfl
theorem mf17_ok : chkFun Try.prog Mf.f17 Try.f17 = true := by kernel_rfl
theorem mf4_ok : chkFun Try.prog Mf.f4 Try.f4 = true := by kernel_rfl
theorem mf39_ok : chkFun Try.prog Mf.f39 Try.f39 = true := by kernel_rfl
theorem mf21_ok : chkFun Try.prog Mf.f21 Try.f21 = true := by kernel_rfl
theorem mf19_ok : chkFun Try.prog Mf.f19 Try.f19 = true := by kernel_rfl
theorem mf30_ok : chkFun Try.prog Mf.f30 Try.f30 = true := by kernel_rfl
theorem mf20_ok : chkFun Try.prog Mf.f20 Try.f20 = true := by kernel_rfl
theorem mf5_ok : chkFun Try.prog Mf.f5 Try.f5 = true := by kernel_rfl
theorem mf23_ok : chkFun Try.prog Mf.f23 Try.f23 = true := by kernel_rfl
theorem mf6_ok : chkFun Try.prog Mf.f6 Try.f6 = true := by kernel_rfl
theorem mf41_ok : chkFun Try.prog Mf.f41 Try.f41 = true := by kernel_rfl
theorem mf24_ok : chkFun Try.prog Mf.f24 Try.f24 = true := by kernel_rfl
theorem mf25_ok : chkFun Try.prog Mf.f25 Try.f25 = true := by kernel_rfl
theorem mf26_ok : chkFun Try.prog Mf.f26 Try.f26 = true := by kernel_rfl
theorem mf27_ok : chkFun Try.prog Mf.f27 Try.f27 = true := by kernel_rfl
theorem mf28_ok : chkFun Try.prog Mf.f28 Try.f28 = true := by kernel_rfl
theorem mf29_ok : chkFun Try.prog Mf.f29 Try.f29 = true := by kernel_rfl
theorem mf31_ok : chkFun Try.prog Mf.f31 Try.f31 = true := by kernel_rfl
theorem mf32_ok : chkFun Try.prog Mf.f32 Try.f32 = true := by kernel_rfl
theorem mf33_ok : chkFun Try.prog Mf.f33 Try.f33 = true := by kernel_rfl
theorem mf7_ok : chkFun Try.prog Mf.f7 Try.f7 = true := by kernel_rfl
def fnTab : FuncId → Option MFun
  | 34 => some Mf.f34
  | 8 => some Mf.f8
  | 13 => some Mf.f13
  | 42 => some Mf.f42
  | 44 => some Mf.f44
  | 45 => some Mf.f45
  | 43 => some Mf.f43
  | 35 => some Mf.f35
  | 14 => some Mf.f14
  | 36 => some Mf.f36
  | 10 => some Mf.f10
  | 40 => some Mf.f40
  | 37 => some Mf.f37
  | 11 => some Mf.f11
  | 16 => some Mf.f16
  | 12 => some Mf.f12
  | 38 => some Mf.f38
  | 15 => some Mf.f15
  | 18 => some Mf.f18
  | 22 => some Mf.f22
  | 9 => some Mf.f9
  | 3 => some Mf.f3
  | 17 => some Mf.f17
  | 4 => some Mf.f4
  | 39 => some Mf.f39
  | 21 => some Mf.f21
  | 19 => some Mf.f19
  | 30 => some Mf.f30
  | 20 => some Mf.f20
  | 5 => some Mf.f5
  | 23 => some Mf.f23
  | 6 => some Mf.f6
  | 41 => some Mf.f41
  | 24 => some Mf.f24
  | 25 => some Mf.f25
  | 26 => some Mf.f26
  | 27 => some Mf.f27
  | 28 => some Mf.f28
  | 29 => some Mf.f29
  | 31 => some Mf.f31
  | 32 => some Mf.f32
  | 33 => some Mf.f33
  | 7 => some Mf.f7
  | _ => none
theorem fnTab_ok : ∀ f mf, fnTab f = some mf → ∃ fn, Try.prog.funcs[f]? = some fn ∧ chkFun Try.prog mf fn = true := by
  intro f mf h
  unfold fnTab at h
  split at h
  · cases h; exact ⟨Try.f34, Try.func34, mf34_ok⟩
  · cases h; exact ⟨Try.f8, Try.func8, mf8_ok⟩
  · cases h; exact ⟨Try.f13, Try.func13, mf13_ok⟩
  · cases h; exact ⟨Try.f42, Try.func42, mf42_ok⟩
  · cases h; exact ⟨Try.f44, Try.func44, mf44_ok⟩
  · cases h; exact ⟨Try.f45, Try.func45, mf45_ok⟩
  · cases h; exact ⟨Try.f43, Try.func43, mf43_ok⟩
  · cases h; exact ⟨Try.f35, Try.func35, mf35_ok⟩
  · cases h; exact ⟨Try.f14, Try.func14, mf14_ok⟩
  · cases h; exact ⟨Try.f36, Try.func36, mf36_ok⟩
  · cases h; exact ⟨Try.f10, Try.func10, mf10_ok⟩
  · cases h; exact ⟨Try.f40, Try.func40, mf40_ok⟩
  · cases h; exact ⟨Try.f37, Try.func37, mf37_ok⟩
  · cases h; exact ⟨Try.f11, Try.func11, mf11_ok⟩
  · cases h; exact ⟨Try.f16, Try.func16, mf16_ok⟩
  · cases h; exact ⟨Try.f12, Try.func12, mf12_ok⟩
  · cases h; exact ⟨Try.f38, Try.func38, mf38_ok⟩
  · cases h; exact ⟨Try.f15, Try.func15, mf15_ok⟩
  · cases h; exact ⟨Try.f18, Try.func18, mf18_ok⟩
  · cases h; exact ⟨Try.f22, Try.func22, mf22_ok⟩
  · cases h; exact ⟨Try.f9, Try.func9, mf9_ok⟩
  · cases h; exact ⟨Try.f3, Try.func3, mf3_ok⟩
  · cases h; exact ⟨Try.f17, Try.func17, mf17_ok⟩
  · cases h; exact ⟨Try.f4, Try.func4, mf4_ok⟩
  · cases h; exact ⟨Try.f39, Try.func39, mf39_ok⟩
  · cases h; exact ⟨Try.f21, Try.func21, mf21_ok⟩
  · cases h; exact ⟨Try.f19, Try.func19, mf19_ok⟩
  · cases h; exact ⟨Try.f30, Try.func30, mf30_ok⟩
  · cases h; exact ⟨Try.f20, Try.func20, mf20_ok⟩
  · cases h; exact ⟨Try.f5, Try.func5, mf5_ok⟩
  · cases h; exact ⟨Try.f23, Try.func23, mf23_ok⟩
  · cases h; exact ⟨Try.f6, Try.func6, mf6_ok⟩
  · cases h; exact ⟨Try.f41, Try.func41, mf41_ok⟩
  · cases h; exact ⟨Try.f24, Try.func24, mf24_ok⟩
  · cases h; exact ⟨Try.f25, Try.func25, mf25_ok⟩
  · cases h; exact ⟨Try.f26, Try.func26, mf26_ok⟩
  · cases h; exact ⟨Try.f27, Try.func27, mf27_ok⟩
  · cases h; exact ⟨Try.f28, Try.func28, mf28_ok⟩
  · cases h; exact ⟨Try.f29, Try.func29, mf29_ok⟩
  · cases h; exact ⟨Try.f31, Try.func31, mf31_ok⟩
  · cases h; exact ⟨Try.f32, Try.func32, mf32_ok⟩
  · cases h; exact ⟨Try.f33, Try.func33, mf33_ok⟩
  · cases h; exact ⟨Try.f7, Try.func7, mf7_ok⟩
  · cases h
end Go.Proofs.Ytldijlajoaddnaa
