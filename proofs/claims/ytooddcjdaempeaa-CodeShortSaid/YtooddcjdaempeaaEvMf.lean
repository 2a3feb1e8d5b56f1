/- The evaluator's code of each function of this seat, and that it is the loaded one. Printed by a program (gen.py). -/
import Derived.Test.YtooddcjdaempeaaChecked
import Derived.KernelRfl
import Derived.Test.YtooddcjdaempeaaEvLaw
set_option linter.unusedSimpArgs false
set_option linter.unusedVariables false
set_option maxRecDepth 100000
namespace Go.Proofs.Ytooddcjdaempeaa
open Go.Ev
namespace Mf
/- cuboid/code.Flip -/
def f9 : MFun := { nt := 6, np := 1, no := 0, res := [.slot 2], body :=
  (.seq
    (.region false [
      ⟨(some 2), none, .mv (.c (.int .u64 0))⟩])
    (.seq
      (.region false [
        ⟨(some 3), none, .mv (.s 0)⟩,
        ⟨(some 4), none, .conv .u64 (.s 3)⟩,
        ⟨(some 5), none, .bin .xor .int (.s 4) (.c (.int .u64 9223372036854775808))⟩,
        ⟨(some 2), none, .mv (.s 5)⟩])
      .ret)) }
/- cuboid/code.Key -/
def f10 : MFun := { nt := 17, np := 1, no := 1, res := [.slot 2], body :=
  (.seq
    (.region false [
      ⟨(some 1), none, .box 0 (.s 0)⟩,
      ⟨(some 2), none, .mv (.c (.int .u32 0))⟩])
    (.seq
      (.region false [
        ⟨(some 3), none, .mv (.c (.int .u32 0))⟩])
      (.seq
        (.seq
          (.region false [
            ⟨(some 6), none, .load (some 4) (some 0) (.s 1)⟩,
            ⟨(some 7), none, .mv (.c (.int .i64 0))⟩])
          (.block 0
            (.loop [3, 6, 7] []
              (.seq
                (.region false [
                  ⟨(some 8), none, .bin .lss .int (.s 7) (.c (.int .i64 4))⟩])
                (.seq
                  (.cond (.s 8)
                    .skip
                    (.exit 0))
                  (.seq
                    (.block 1
                      (.seq
                        (.region false [
                          ⟨(some 9), none, .index 4 1 false (.s 6) (.s 7)⟩,
                          ⟨(some 5), none, .mv (.s 9)⟩])
                        (.region false [
                          ⟨(some 10), none, .mv (.s 3)⟩,
                          ⟨(some 11), none, .bin .shl .int (.s 10) (.c (.int .u64 8))⟩,
                          ⟨(some 12), none, .mv (.s 5)⟩,
                          ⟨(some 13), none, .conv .u32 (.s 12)⟩,
                          ⟨(some 14), none, .bin .or .int (.s 11) (.s 13)⟩,
                          ⟨(some 3), none, .mv (.s 14)⟩])))
                    (.region false [
                      ⟨(some 15), none, .bin .add .int (.s 7) (.c (.int .i64 1))⟩,
                      ⟨(some 7), none, .mv (.s 15)⟩])))))))
        (.seq
          (.region false [
            ⟨(some 16), none, .mv (.s 3)⟩,
            ⟨(some 2), none, .mv (.s 16)⟩])
          .ret)))) }
/- cuboid/code.Get -/
def f12 : MFun := { nt := 47, np := 1, no := 0, res := [.slot 2, .slot 3, .slot 4], body :=
  (.seq
    (.region false [
      ⟨(some 2), none, .mv (.c (.int .u64 0))⟩,
      ⟨(some 3), none, .mv (.c (.int .i64 0))⟩,
      ⟨(some 4), none, .mv (.c (.bool false))⟩])
    (.seq
      (.region false [
        ⟨(some 5), none, .mv (.c (.int .u64 0))⟩])
      (.seq
        (.seq
          (.region false [
            ⟨(some 8), none, .mv (.s 0)⟩,
            ⟨(some 9), none, .mv (.s 0)⟩,
            ⟨(some 10), none, .len (.s 9)⟩,
            ⟨(some 11), none, .minmax false [(.s 10), (.c (.int .i64 10))]⟩,
            ⟨(some 12), none, .sliceS 1 (.s 8) none (some (.s 11))⟩,
            ⟨(some 13), none, .len (.s 12)⟩,
            ⟨(some 14), none, .mv (.c (.int .i64 0))⟩])
          (.block 0
            (.loop [5, 12, 13, 14] []
              (.seq
                (.region false [
                  ⟨(some 15), none, .bin .lss .int (.s 14) (.s 13)⟩])
                (.seq
                  (.cond (.s 15)
                    .skip
                    (.exit 0))
                  (.seq
                    (.block 1
                      (.seq
                        (.region false [
                          ⟨(some 16), none, .mv (.s 14)⟩,
                          ⟨(some 17), none, .iaddrS 1 (.s 12) (.s 14)⟩,
                          ⟨(some 18), none, .load none none (.s 17)⟩,
                          ⟨(some 6), none, .mv (.s 16)⟩,
                          ⟨(some 7), none, .mv (.s 18)⟩])
                        (.seq
                          (.region false [
                            ⟨(some 19), none, .mv (.s 5)⟩,
                            ⟨(some 20), none, .mv (.s 7)⟩,
                            ⟨(some 21), none, .bin .and .int (.s 20) (.c (.int .u8 127))⟩,
                            ⟨(some 22), none, .conv .u64 (.s 21)⟩,
                            ⟨(some 23), none, .mv (.s 6)⟩,
                            ⟨(some 24), none, .bin .mul .int (.c (.int .i64 7)) (.s 23)⟩,
                            ⟨(some 25), none, .bin .shl .int (.s 22) (.s 24)⟩,
                            ⟨(some 26), none, .bin .or .int (.s 19) (.s 25)⟩,
                            ⟨(some 5), none, .mv (.s 26)⟩])
                          (.seq
                            (.seq
                              (.region false [
                                ⟨(some 27), none, .mv (.s 7)⟩,
                                ⟨(some 28), none, .bin .geq .int (.s 27) (.c (.int .u8 128))⟩])
                              (.cond (.s 28)
                                (.exit 1)
                                .skip))
                            (.seq
                              (.seq
                                (.region false [
                                  ⟨(some 29), none, .mv (.s 6)⟩,
                                  ⟨(some 30), none, .bin .eql .int (.s 29) (.c (.int .i64 9))⟩,
                                  ⟨(some 31), none, .mv (.s 30)⟩,
                                  ⟨(some 32), (some (31, true)), .mv (.s 7)⟩,
                                  ⟨(some 33), (some (31, true)), .bin .gtr .int (.s 32) (.c (.int .u8 1))⟩,
                                  ⟨(some 34), none, .pick (.s 31) (.s 33) (.c (.bool false))⟩,
                                  ⟨(some 35), none, .mv (.s 34)⟩,
                                  ⟨(some 36), (some (35, false)), .mv (.s 6)⟩,
                                  ⟨(some 37), (some (35, false)), .bin .gtr .int (.s 36) (.c (.int .i64 0))⟩,
                                  ⟨(some 38), (some (35, false)), .mv (.s 37)⟩,
                                  ⟨(some 39), (some (38, true)), .mv (.s 7)⟩,
                                  ⟨(some 40), (some (38, true)), .bin .eql .int (.s 39) (.c (.int .u8 0))⟩,
                                  ⟨(some 41), (some (35, false)), .pick (.s 38) (.s 40) (.c (.bool false))⟩,
                                  ⟨(some 42), none, .pick (.s 35) (.c (.bool true)) (.s 41)⟩])
                                (.cond (.s 42)
                                  (.seq
                                    (.region false [
                                      ⟨(some 2), none, .mv (.c (.int .u64 0))⟩,
                                      ⟨(some 3), none, .mv (.c (.int .i64 0))⟩,
                                      ⟨(some 4), none, .mv (.c (.bool false))⟩])
                                    .ret)
                                  .skip))
                              (.seq
                                (.region false [
                                  ⟨(some 43), none, .mv (.s 5)⟩,
                                  ⟨(some 44), none, .mv (.s 6)⟩,
                                  ⟨(some 45), none, .bin .add .int (.s 44) (.c (.int .i64 1))⟩,
                                  ⟨(some 2), none, .mv (.s 43)⟩,
                                  ⟨(some 3), none, .mv (.s 45)⟩,
                                  ⟨(some 4), none, .mv (.c (.bool true))⟩])
                                .ret))))))
                    (.region false [
                      ⟨(some 46), none, .bin .add .int (.s 14) (.c (.int .i64 1))⟩,
                      ⟨(some 14), none, .mv (.s 46)⟩])))))))
        (.seq
          (.region false [
            ⟨(some 2), none, .mv (.c (.int .u64 0))⟩,
            ⟨(some 3), none, .mv (.c (.int .i64 0))⟩,
            ⟨(some 4), none, .mv (.c (.bool false))⟩])
          .ret)))) }
/- slices.Clone[[]byte,byte] -/
def f27 : MFun := { nt := 8, np := 1, no := 1, res := [.slot 2], body :=
  (.seq
    (.region false [
      ⟨(some 2), none, .mv (.c .nilsl)⟩])
    (.seq
      (.seq
        (.region false [
          ⟨(some 3), none, .mv (.s 0)⟩,
          ⟨(some 4), none, .bin .eql .sl (.s 3) (.c .nilsl)⟩])
        (.cond (.s 4)
          (.seq
            (.region false [
              ⟨(some 2), none, .mv (.c .nilsl)⟩])
            .ret)
          .skip))
      (.seq
        (.region false [
          ⟨(some 5), none, .lit (some 0) [] 0 1 [.int .u8 0] []⟩,
          ⟨(some 6), none, .mv (.s 0)⟩,
          ⟨(some 7), none, .append 1 1 0 none (.s 5) (.s 6)⟩,
          ⟨(some 2), none, .mv (.s 7)⟩])
        .ret))) }
/- cuboid/code.Put -/
def f14 : MFun := { nt := 23, np := 2, no := 1, res := [.slot 4], body :=
  (.seq
    (.region false [
      ⟨(some 4), none, .mv (.c .nilsl)⟩])
    (.seq
      (.region false [
        ⟨(some 6), none, .mv (.s 0)⟩,
        ⟨(some 7), none, .call (.c (.fn 27 [] [])) [(.s 6)] [] [] [(0, 0)] true⟩,
        ⟨(some 5), none, .mv (.s 7)⟩])
      (.seq
        (.block 0
          (.loop [1, 5] [0]
            (.seq
              (.seq
                (.region false [
                  ⟨(some 8), none, .mv (.s 1)⟩,
                  ⟨(some 9), none, .bin .geq .int (.s 8) (.c (.int .u64 128))⟩])
                (.cond (.s 9)
                  .skip
                  (.exit 0)))
              (.block 1
                (.seq
                  (.region false [
                    ⟨(some 10), none, .mv (.s 5)⟩,
                    ⟨(some 11), none, .mv (.s 1)⟩,
                    ⟨(some 12), none, .conv .u8 (.s 11)⟩,
                    ⟨(some 13), none, .bin .or .int (.s 12) (.c (.int .u8 128))⟩,
                    ⟨(some 14), none, .lit none [] 1 1 [.int .u8 0] [(0, 1, (.s 13))]⟩,
                    ⟨(some 15), none, .append 1 1 0 none (.s 10) (.s 14)⟩,
                    ⟨(some 5), none, .mv (.s 15)⟩])
                  (.region false [
                    ⟨(some 16), none, .mv (.s 1)⟩,
                    ⟨(some 17), none, .bin .shr .int (.s 16) (.c (.int .u64 7))⟩,
                    ⟨(some 1), none, .mv (.s 17)⟩]))))))
        (.seq
          (.region false [
            ⟨(some 18), none, .mv (.s 5)⟩,
            ⟨(some 19), none, .mv (.s 1)⟩,
            ⟨(some 20), none, .conv .u8 (.s 19)⟩,
            ⟨(some 21), none, .lit none [] 1 1 [.int .u8 0] [(0, 1, (.s 20))]⟩,
            ⟨(some 22), none, .append 1 1 0 none (.s 18) (.s 21)⟩,
            ⟨(some 4), none, .mv (.s 22)⟩])
          .ret)))) }
/- cuboid/code.Zig -/
def f20 : MFun := { nt := 10, np := 1, no := 0, res := [.slot 2], body :=
  (.seq
    (.region false [
      ⟨(some 2), none, .mv (.c (.int .u64 0))⟩])
    (.seq
      (.region false [
        ⟨(some 3), none, .mv (.s 0)⟩,
        ⟨(some 4), none, .conv .u64 (.s 3)⟩,
        ⟨(some 5), none, .bin .shl .int (.s 4) (.c (.int .u64 1))⟩,
        ⟨(some 6), none, .mv (.s 0)⟩,
        ⟨(some 7), none, .bin .shr .int (.s 6) (.c (.int .u64 63))⟩,
        ⟨(some 8), none, .conv .u64 (.s 7)⟩,
        ⟨(some 9), none, .bin .xor .int (.s 5) (.s 8)⟩,
        ⟨(some 2), none, .mv (.s 9)⟩])
      .ret)) }
/- cuboid/code.Zag -/
def f22 : MFun := { nt := 11, np := 1, no := 0, res := [.slot 2], body :=
  (.seq
    (.region false [
      ⟨(some 2), none, .mv (.c (.int .i64 0))⟩])
    (.seq
      (.region false [
        ⟨(some 3), none, .mv (.s 0)⟩,
        ⟨(some 4), none, .bin .shr .int (.s 3) (.c (.int .u64 1))⟩,
        ⟨(some 5), none, .conv .i64 (.s 4)⟩,
        ⟨(some 6), none, .mv (.s 0)⟩,
        ⟨(some 7), none, .bin .and .int (.s 6) (.c (.int .u64 1))⟩,
        ⟨(some 8), none, .conv .i64 (.s 7)⟩,
        ⟨(some 9), none, .un .neg (.s 8)⟩,
        ⟨(some 10), none, .bin .xor .int (.s 5) (.s 9)⟩,
        ⟨(some 2), none, .mv (.s 10)⟩])
      .ret)) }
/- cuboid/code.At -/
def f25 : MFun := { nt := 18, np := 1, no := 2, res := [.cell 2 0 (some 4)], body :=
  (.seq
    (.region false [
      ⟨(some 2), none, .alloc 0 [.int .u8 0, .int .u8 0, .int .u8 0, .int .u8 0]⟩])
    (.seq
      (.region false [
        ⟨(some 3), none, .alloc 1 [.int .u8 0, .int .u8 0, .int .u8 0, .int .u8 0]⟩])
      (.seq
        (.seq
          (.region false [
            ⟨(some 5), none, .mv (.c (.int .i64 0))⟩])
          (.block 0
            (.loop [0, 2, 3, 5] [0, 1]
              (.seq
                (.region false [
                  ⟨(some 6), none, .bin .lss .int (.s 5) (.c (.int .i64 4))⟩])
                (.seq
                  (.cond (.s 6)
                    .skip
                    (.exit 0))
                  (.seq
                    (.block 1
                      (.seq
                        (.region false [
                          ⟨(some 7), none, .mv (.s 5)⟩,
                          ⟨(some 4), none, .mv (.s 7)⟩])
                        (.region false [
                          ⟨(some 8), none, .mv (.s 4)⟩,
                          ⟨(some 9), none, .mv (.s 0)⟩,
                          ⟨(some 10), none, .mv (.s 4)⟩,
                          ⟨(some 11), none, .bin .sub .int (.c (.int .i64 3)) (.s 10)⟩,
                          ⟨(some 12), none, .bin .mul .int (.c (.int .i64 8)) (.s 11)⟩,
                          ⟨(some 13), none, .bin .shr .int (.s 9) (.s 12)⟩,
                          ⟨(some 14), none, .conv .u8 (.s 13)⟩,
                          ⟨(some 15), none, .iaddrA 4 1 (.s 3) (.s 8)⟩,
                          ⟨none, none, .store 1 1 [] (.s 15) (.s 14)⟩])))
                    (.region false [
                      ⟨(some 16), none, .bin .add .int (.s 5) (.c (.int .i64 1))⟩,
                      ⟨(some 5), none, .mv (.s 16)⟩])))))))
        (.seq
          (.region false [
            ⟨(some 17), none, .load (some 4) (some 1) (.s 3)⟩,
            ⟨none, none, .store 4 0 [] (.s 2) (.s 17)⟩])
          .ret)))) }
/- cuboid/cuboidlaw02.wakes -/
def f11 : MFun := { nt := 67, np := 0, no := 0, res := [.slot 0], body :=
  (.seq
    (.region false [
      ⟨(some 0), none, .mv (.c (.bool false))⟩])
    (.seq
      (.region false [
        ⟨(some 8), none, .call (.c (.fn 14 [] [])) [(.c .nilsl), (.c (.int .u64 300))] [] [] [] true⟩,
        ⟨(some 1), none, .mv (.s 8)⟩])
      (.seq
        (.region false [
          ⟨(some 10), none, .lit none [] 3 1 [.int .u8 0] [(0, 1, (.c (.int .u8 172))), (1, 1, (.c (.int .u8 2))), (2, 1, (.c (.int .u8 9)))]⟩,
          ⟨(some 11), none, .call (.c (.fn 12 [] [])) [(.s 10)] [] [] [] false⟩,
          ⟨(some 9), none, .mv (.s 11)⟩,
          ⟨(some 12), none, .extract (.s 9) 0⟩,
          ⟨(some 13), none, .extract (.s 9) 1⟩,
          ⟨(some 14), none, .extract (.s 9) 2⟩,
          ⟨(some 2), none, .mv (.s 12)⟩,
          ⟨(some 3), none, .mv (.s 13)⟩,
          ⟨(some 4), none, .mv (.s 14)⟩])
        (.seq
          (.region false [
            ⟨(some 16), none, .lit none [] 2 1 [.int .u8 0] [(0, 1, (.c (.int .u8 128))), (1, 1, (.c (.int .u8 0)))]⟩,
            ⟨(some 17), none, .call (.c (.fn 12 [] [])) [(.s 16)] [] [] [] false⟩,
            ⟨(some 15), none, .mv (.s 17)⟩,
            ⟨(some 18), none, .extract (.s 15) 0⟩,
            ⟨(some 19), none, .extract (.s 15) 1⟩,
            ⟨(some 20), none, .extract (.s 15) 2⟩,
            ⟨(some 5), none, .mv (.s 18)⟩,
            ⟨(some 6), none, .mv (.s 19)⟩,
            ⟨(some 7), none, .mv (.s 20)⟩])
          (.seq
            (.region false [
              ⟨(some 21), none, .build [.int .u8 0, .int .u8 0, .int .u8 0, .int .u8 0] [(0, 1, (.c (.int .u8 1))), (1, 1, (.c (.int .u8 2))), (2, 1, (.c (.int .u8 3))), (3, 1, (.c (.int .u8 4)))]⟩,
              ⟨(some 22), none, .call (.c (.fn 10 [] [])) [(.s 21)] [] [] [] false⟩,
              ⟨(some 23), none, .bin .eql .int (.s 22) (.c (.int .u32 16909060))⟩,
              ⟨(some 24), none, .mv (.s 23)⟩,
              ⟨(some 25), (some (24, true)), .call (.c (.fn 25 [] [])) [(.c (.int .u32 7))] [] [] [] false⟩,
              ⟨(some 26), (some (24, true)), .build [.int .u8 0, .int .u8 0, .int .u8 0, .int .u8 0] [(3, 1, (.c (.int .u8 7)))]⟩,
              ⟨(some 27), (some (24, true)), .bin .eql (.agg [some .u8, some .u8, some .u8, some .u8]) (.s 25) (.s 26)⟩,
              ⟨(some 28), none, .pick (.s 24) (.s 27) (.c (.bool false))⟩,
              ⟨(some 29), none, .mv (.s 28)⟩,
              ⟨(some 30), (some (29, true)), .call (.c (.fn 20 [] [])) [(.c (.int .i64 (-1)))] [] [] [] false⟩,
              ⟨(some 31), (some (29, true)), .bin .eql .int (.s 30) (.c (.int .u64 1))⟩,
              ⟨(some 32), none, .pick (.s 29) (.s 31) (.c (.bool false))⟩,
              ⟨(some 33), none, .mv (.s 32)⟩,
              ⟨(some 34), (some (33, true)), .call (.c (.fn 22 [] [])) [(.c (.int .u64 2))] [] [] [] false⟩,
              ⟨(some 35), (some (33, true)), .bin .eql .int (.s 34) (.c (.int .i64 1))⟩,
              ⟨(some 36), none, .pick (.s 33) (.s 35) (.c (.bool false))⟩,
              ⟨(some 37), none, .mv (.s 36)⟩,
              ⟨(some 38), (some (37, true)), .mv (.s 1)⟩,
              ⟨(some 39), (some (37, true)), .len (.s 38)⟩,
              ⟨(some 40), (some (37, true)), .bin .eql .int (.s 39) (.c (.int .i64 2))⟩,
              ⟨(some 41), none, .pick (.s 37) (.s 40) (.c (.bool false))⟩,
              ⟨(some 42), none, .mv (.s 41)⟩,
              ⟨(some 43), (some (42, true)), .mv (.s 1)⟩,
              ⟨(some 44), (some (42, true)), .iaddrS 1 (.s 43) (.c (.int .i64 1))⟩,
              ⟨(some 45), (some (42, true)), .load none none (.s 44)⟩,
              ⟨(some 46), (some (42, true)), .bin .eql .int (.s 45) (.c (.int .u8 2))⟩,
              ⟨(some 47), none, .pick (.s 42) (.s 46) (.c (.bool false))⟩,
              ⟨(some 48), none, .mv (.s 47)⟩,
              ⟨(some 49), (some (48, true)), .mv (.s 2)⟩,
              ⟨(some 50), (some (48, true)), .bin .eql .int (.s 49) (.c (.int .u64 300))⟩,
              ⟨(some 51), none, .pick (.s 48) (.s 50) (.c (.bool false))⟩,
              ⟨(some 52), none, .mv (.s 51)⟩,
              ⟨(some 53), (some (52, true)), .mv (.s 3)⟩,
              ⟨(some 54), (some (52, true)), .bin .eql .int (.s 53) (.c (.int .i64 2))⟩,
              ⟨(some 55), none, .pick (.s 52) (.s 54) (.c (.bool false))⟩,
              ⟨(some 56), none, .mv (.s 55)⟩,
              ⟨(some 57), (some (56, true)), .mv (.s 4)⟩,
              ⟨(some 58), none, .pick (.s 56) (.s 57) (.c (.bool false))⟩,
              ⟨(some 59), none, .mv (.s 58)⟩,
              ⟨(some 60), (some (59, true)), .mv (.s 7)⟩,
              ⟨(some 61), (some (59, true)), .un .not (.s 60)⟩,
              ⟨(some 62), none, .pick (.s 59) (.s 61) (.c (.bool false))⟩,
              ⟨(some 63), none, .mv (.s 62)⟩,
              ⟨(some 64), (some (63, true)), .call (.c (.fn 9 [] [])) [(.c (.int .i64 0))] [] [] [] false⟩,
              ⟨(some 65), (some (63, true)), .bin .eql .int (.s 64) (.c (.int .u64 9223372036854775808))⟩,
              ⟨(some 66), none, .pick (.s 63) (.s 65) (.c (.bool false))⟩,
              ⟨(some 0), none, .mv (.s 66)⟩])
            .ret))))) }
/- cuboid/cuboidlaw02.CodeOrder -/
def f3 : MFun := { nt := 59, np := 3, no := 1, res := [.slot 6], body :=
  (.seq
    (.region false [
      ⟨(some 5), none, .box 0 (.s 2)⟩,
      ⟨(some 6), none, .mv (.c (.bool false))⟩])
    (.seq
      (.region false [
        ⟨(some 7), none, .mv (.c (.bool false))⟩,
        ⟨(some 8), none, .mv (.c (.bool false))⟩])
      (.seq
        (.seq
          (.region false [
            ⟨(some 9), none, .mv (.c (.int .i64 0))⟩])
          (.block 0
            (.loop [0, 1, 5, 7, 8, 9] [0]
              (.seq
                (.seq
                  (.region false [
                    ⟨(some 10), none, .mv (.s 9)⟩,
                    ⟨(some 11), none, .bin .lss .int (.s 10) (.c (.int .i64 4))⟩,
                    ⟨(some 12), none, .mv (.s 11)⟩,
                    ⟨(some 13), (some (12, true)), .mv (.s 8)⟩,
                    ⟨(some 14), (some (12, true)), .un .not (.s 13)⟩,
                    ⟨(some 15), none, .pick (.s 12) (.s 14) (.c (.bool false))⟩])
                  (.cond (.s 15)
                    .skip
                    (.exit 0)))
                (.seq
                  (.block 1
                    (.seq
                      (.region true [
                        ⟨(some 18), none, .mv (.s 9)⟩,
                        ⟨(some 19), none, .iaddrA 2 4 (.s 5) (.c (.int .i64 0))⟩,
                        ⟨(some 20), none, .iaddrA 4 1 (.s 19) (.s 18)⟩,
                        ⟨(some 21), none, .load none (some 0) (.s 20)⟩,
                        ⟨(some 22), none, .mv (.s 9)⟩,
                        ⟨(some 23), none, .iaddrA 2 4 (.s 5) (.c (.int .i64 1))⟩,
                        ⟨(some 24), none, .iaddrA 4 1 (.s 23) (.s 22)⟩,
                        ⟨(some 25), none, .load none (some 0) (.s 24)⟩,
                        ⟨(some 26), none, .bin .neq .int (.s 21) (.s 25)⟩])
                      (.cond (.s 26)
                        (.region true [
                          ⟨(some 27), none, .mv (.s 9)⟩,
                          ⟨(some 28), none, .iaddrA 2 4 (.s 5) (.c (.int .i64 0))⟩,
                          ⟨(some 29), none, .iaddrA 4 1 (.s 28) (.s 27)⟩,
                          ⟨(some 30), none, .load none (some 0) (.s 29)⟩,
                          ⟨(some 31), none, .mv (.s 9)⟩,
                          ⟨(some 32), none, .iaddrA 2 4 (.s 5) (.c (.int .i64 1))⟩,
                          ⟨(some 33), none, .iaddrA 4 1 (.s 32) (.s 31)⟩,
                          ⟨(some 34), none, .load none (some 0) (.s 33)⟩,
                          ⟨(some 35), none, .bin .lss .int (.s 30) (.s 34)⟩,
                          ⟨(some 7), none, .mv (.s 35)⟩,
                          ⟨(some 8), none, .mv (.c (.bool true))⟩])
                        .skip)))
                  (.region false [
                    ⟨(some 16), none, .mv (.s 9)⟩,
                    ⟨(some 17), none, .bin .add .int (.s 16) (.c (.int .i64 1))⟩,
                    ⟨(some 9), none, .mv (.s 17)⟩]))))))
        (.seq
          (.region true [
            ⟨(some 36), none, .mv (.s 0)⟩,
            ⟨(some 37), none, .call (.c (.fn 9 [] [])) [(.s 36)] [] [] [] false⟩,
            ⟨(some 38), none, .mv (.s 1)⟩,
            ⟨(some 39), none, .call (.c (.fn 9 [] [])) [(.s 38)] [] [] [] false⟩,
            ⟨(some 40), none, .bin .lss .int (.s 37) (.s 39)⟩,
            ⟨(some 41), none, .mv (.s 0)⟩,
            ⟨(some 42), none, .mv (.s 1)⟩,
            ⟨(some 43), none, .bin .lss .int (.s 41) (.s 42)⟩,
            ⟨(some 44), none, .bin .eql .bool (.s 40) (.s 43)⟩,
            ⟨(some 45), none, .mv (.s 44)⟩,
            ⟨(some 46), (some (45, true)), .iaddrA 2 4 (.s 5) (.c (.int .i64 0))⟩,
            ⟨(some 47), (some (45, true)), .load (some 4) (some 0) (.s 46)⟩,
            ⟨(some 48), (some (45, true)), .call (.c (.fn 10 [] [])) [(.s 47)] [] [] [] false⟩,
            ⟨(some 49), (some (45, true)), .iaddrA 2 4 (.s 5) (.c (.int .i64 1))⟩,
            ⟨(some 50), (some (45, true)), .load (some 4) (some 0) (.s 49)⟩,
            ⟨(some 51), (some (45, true)), .call (.c (.fn 10 [] [])) [(.s 50)] [] [] [] false⟩,
            ⟨(some 52), (some (45, true)), .bin .lss .int (.s 48) (.s 51)⟩,
            ⟨(some 53), (some (45, true)), .mv (.s 7)⟩,
            ⟨(some 54), (some (45, true)), .bin .eql .bool (.s 52) (.s 53)⟩,
            ⟨(some 55), none, .pick (.s 45) (.s 54) (.c (.bool false))⟩,
            ⟨(some 56), none, .mv (.s 55)⟩,
            ⟨(some 57), (some (56, true)), .call (.c (.fn 11 [] [])) [] [] [] [] false⟩,
            ⟨(some 58), none, .pick (.s 56) (.s 57) (.c (.bool false))⟩,
            ⟨(some 6), none, .mv (.s 58)⟩])
          .ret)))) }
/- cuboid/cuboidref02.Get -/
def f13 : MFun := { nt := 67, np := 1, no := 0, res := [.slot 2, .slot 3], body :=
  (.seq
    (.region false [
      ⟨(some 2), none, .mv (.c (.int .u64 0))⟩,
      ⟨(some 3), none, .mv (.c (.int .i64 0))⟩])
    (.seq
      (.region false [
        ⟨(some 4), none, .mv (.c (.int .i64 0))⟩])
      (.seq
        (.block 0
          (.loop [0, 4] []
            (.seq
              (.seq
                (.region false [
                  ⟨(some 7), none, .mv (.s 4)⟩,
                  ⟨(some 8), none, .mv (.s 0)⟩,
                  ⟨(some 9), none, .len (.s 8)⟩,
                  ⟨(some 10), none, .bin .lss .int (.s 7) (.s 9)⟩,
                  ⟨(some 11), none, .mv (.s 10)⟩,
                  ⟨(some 12), (some (11, true)), .mv (.s 0)⟩,
                  ⟨(some 13), (some (11, true)), .mv (.s 4)⟩,
                  ⟨(some 14), (some (11, true)), .iaddrS 1 (.s 12) (.s 13)⟩,
                  ⟨(some 15), (some (11, true)), .load none none (.s 14)⟩,
                  ⟨(some 16), (some (11, true)), .bin .gtr .int (.s 15) (.c (.int .u8 127))⟩,
                  ⟨(some 17), none, .pick (.s 11) (.s 16) (.c (.bool false))⟩])
                (.cond (.s 17)
                  .skip
                  (.exit 0)))
              (.block 1
                (.region false [
                  ⟨(some 18), none, .mv (.s 4)⟩,
                  ⟨(some 19), none, .bin .add .int (.s 18) (.c (.int .i64 1))⟩,
                  ⟨(some 4), none, .mv (.s 19)⟩])))))
        (.seq
          (.seq
            (.region false [
              ⟨(some 20), none, .mv (.s 4)⟩,
              ⟨(some 21), none, .mv (.s 0)⟩,
              ⟨(some 22), none, .len (.s 21)⟩,
              ⟨(some 23), none, .bin .geq .int (.s 20) (.s 22)⟩,
              ⟨(some 24), none, .mv (.s 23)⟩,
              ⟨(some 25), (some (24, false)), .mv (.s 4)⟩,
              ⟨(some 26), (some (24, false)), .bin .gtr .int (.s 25) (.c (.int .i64 9))⟩,
              ⟨(some 27), none, .pick (.s 24) (.c (.bool true)) (.s 26)⟩,
              ⟨(some 28), none, .mv (.s 27)⟩,
              ⟨(some 29), (some (28, false)), .mv (.s 4)⟩,
              ⟨(some 30), (some (28, false)), .bin .gtr .int (.s 29) (.c (.int .i64 0))⟩,
              ⟨(some 31), (some (28, false)), .mv (.s 30)⟩,
              ⟨(some 32), (some (31, true)), .mv (.s 0)⟩,
              ⟨(some 33), (some (31, true)), .mv (.s 4)⟩,
              ⟨(some 34), (some (31, true)), .iaddrS 1 (.s 32) (.s 33)⟩,
              ⟨(some 35), (some (31, true)), .load none none (.s 34)⟩,
              ⟨(some 36), (some (31, true)), .bin .eql .int (.s 35) (.c (.int .u8 0))⟩,
              ⟨(some 37), (some (28, false)), .pick (.s 31) (.s 36) (.c (.bool false))⟩,
              ⟨(some 38), none, .pick (.s 28) (.c (.bool true)) (.s 37)⟩,
              ⟨(some 39), none, .mv (.s 38)⟩,
              ⟨(some 40), (some (39, false)), .mv (.s 4)⟩,
              ⟨(some 41), (some (39, false)), .bin .eql .int (.s 40) (.c (.int .i64 9))⟩,
              ⟨(some 42), (some (39, false)), .mv (.s 41)⟩,
              ⟨(some 43), (some (42, true)), .mv (.s 0)⟩,
              ⟨(some 44), (some (42, true)), .mv (.s 4)⟩,
              ⟨(some 45), (some (42, true)), .iaddrS 1 (.s 43) (.s 44)⟩,
              ⟨(some 46), (some (42, true)), .load none none (.s 45)⟩,
              ⟨(some 47), (some (42, true)), .bin .gtr .int (.s 46) (.c (.int .u8 1))⟩,
              ⟨(some 48), (some (39, false)), .pick (.s 42) (.s 47) (.c (.bool false))⟩,
              ⟨(some 49), none, .pick (.s 39) (.c (.bool true)) (.s 48)⟩])
            (.cond (.s 49)
              (.seq
                (.region false [
                  ⟨(some 2), none, .mv (.c (.int .u64 0))⟩,
                  ⟨(some 3), none, .mv (.c (.int .i64 0))⟩])
                .ret)
              .skip))
          (.seq
            (.region false [
              ⟨(some 5), none, .mv (.c (.int .u64 0))⟩])
            (.seq
              (.seq
                (.region false [
                  ⟨(some 50), none, .mv (.s 4)⟩,
                  ⟨(some 6), none, .mv (.s 50)⟩])
                (.block 2
                  (.loop [0, 4, 5, 6] []
                    (.seq
                      (.seq
                        (.region false [
                          ⟨(some 51), none, .mv (.s 6)⟩,
                          ⟨(some 52), none, .bin .geq .int (.s 51) (.c (.int .i64 0))⟩])
                        (.cond (.s 52)
                          .skip
                          (.exit 2)))
                      (.seq
                        (.block 3
                          (.region false [
                            ⟨(some 55), none, .mv (.s 5)⟩,
                            ⟨(some 56), none, .bin .mul .int (.s 55) (.c (.int .u64 128))⟩,
                            ⟨(some 57), none, .mv (.s 0)⟩,
                            ⟨(some 58), none, .mv (.s 6)⟩,
                            ⟨(some 59), none, .iaddrS 1 (.s 57) (.s 58)⟩,
                            ⟨(some 60), none, .load none none (.s 59)⟩,
                            ⟨(some 61), none, .bin .rem .int (.s 60) (.c (.int .u8 128))⟩,
                            ⟨(some 62), none, .conv .u64 (.s 61)⟩,
                            ⟨(some 63), none, .bin .add .int (.s 56) (.s 62)⟩,
                            ⟨(some 5), none, .mv (.s 63)⟩]))
                        (.region false [
                          ⟨(some 53), none, .mv (.s 6)⟩,
                          ⟨(some 54), none, .bin .sub .int (.s 53) (.c (.int .i64 1))⟩,
                          ⟨(some 6), none, .mv (.s 54)⟩]))))))
              (.seq
                (.region false [
                  ⟨(some 64), none, .mv (.s 5)⟩,
                  ⟨(some 65), none, .mv (.s 4)⟩,
                  ⟨(some 66), none, .bin .add .int (.s 65) (.c (.int .i64 1))⟩,
                  ⟨(some 2), none, .mv (.s 64)⟩,
                  ⟨(some 3), none, .mv (.s 66)⟩])
                .ret))))))) }
/- cuboid/cuboidref02.Bytes -/
def f15 : MFun := { nt := 10, np := 2, no := 1, res := [.slot 4], body :=
  (.seq
    (.region false [
      ⟨(some 4), none, .mv (.c .nilsl)⟩])
    (.seq
      (.region false [
        ⟨(some 5), none, .lit (some 0) [] 0 1 [.int .u8 0] []⟩,
        ⟨(some 6), none, .mv (.s 0)⟩,
        ⟨(some 7), none, .append 1 1 0 none (.s 5) (.s 6)⟩,
        ⟨(some 8), none, .mv (.s 1)⟩,
        ⟨(some 9), none, .append 1 1 0 none (.s 7) (.s 8)⟩,
        ⟨(some 4), none, .mv (.s 9)⟩])
      .ret)) }
/- cuboid/cuboidref02.Digits -/
def f16 : MFun := { nt := 20, np := 1, no := 1, res := [.slot 2], body :=
  (.seq
    (.region false [
      ⟨(some 2), none, .mv (.c .nilsl)⟩])
    (.seq
      (.region false [
        ⟨(some 3), none, .vnil 0 1⟩])
      (.seq
        (.block 0
          (.loop [0, 3] [0]
            (.seq
              (.seq
                (.region false [
                  ⟨(some 4), none, .mv (.s 0)⟩,
                  ⟨(some 5), none, .bin .gtr .int (.s 4) (.c (.int .u64 127))⟩])
                (.cond (.s 5)
                  .skip
                  (.exit 0)))
              (.block 1
                (.seq
                  (.region false [
                    ⟨(some 6), none, .mv (.s 3)⟩,
                    ⟨(some 7), none, .mv (.s 0)⟩,
                    ⟨(some 8), none, .bin .rem .int (.s 7) (.c (.int .u64 128))⟩,
                    ⟨(some 9), none, .conv .u8 (.s 8)⟩,
                    ⟨(some 10), none, .bin .add .int (.s 9) (.c (.int .u8 128))⟩,
                    ⟨(some 11), none, .lit none [] 1 1 [.int .u8 0] [(0, 1, (.s 10))]⟩,
                    ⟨(some 12), none, .append 1 1 0 none (.s 6) (.s 11)⟩,
                    ⟨(some 3), none, .mv (.s 12)⟩])
                  (.region false [
                    ⟨(some 13), none, .mv (.s 0)⟩,
                    ⟨(some 14), none, .bin .quo .int (.s 13) (.c (.int .u64 128))⟩,
                    ⟨(some 0), none, .mv (.s 14)⟩]))))))
        (.seq
          (.region false [
            ⟨(some 15), none, .mv (.s 3)⟩,
            ⟨(some 16), none, .mv (.s 0)⟩,
            ⟨(some 17), none, .conv .u8 (.s 16)⟩,
            ⟨(some 18), none, .lit none [] 1 1 [.int .u8 0] [(0, 1, (.s 17))]⟩,
            ⟨(some 19), none, .append 1 1 0 none (.s 15) (.s 18)⟩,
            ⟨(some 2), none, .mv (.s 19)⟩])
          .ret)))) }
/- cuboid/cuboidlaw02.CodeNumbers -/
def f4 : MFun := { nt := 54, np := 2, no := 0, res := [.slot 4], body :=
  (.seq
    (.region false [
      ⟨(some 4), none, .mv (.c (.bool false))⟩])
    (.seq
      (.seq
        (.region false [
          ⟨(some 10), none, .mv (.s 0)⟩,
          ⟨(some 11), none, .len (.s 10)⟩,
          ⟨(some 12), none, .bin .gtr .int (.s 11) (.c (.int .i64 3000))⟩])
        (.cond (.s 12)
          (.seq
            (.region false [
              ⟨(some 13), none, .call (.c (.fn 11 [] [])) [] [] [] [] false⟩,
              ⟨(some 4), none, .mv (.s 13)⟩])
            .ret)
          .skip))
      (.seq
        (.region false [
          ⟨(some 15), none, .mv (.s 0)⟩,
          ⟨(some 16), none, .call (.c (.fn 12 [] [])) [(.s 15)] [] [] [] false⟩,
          ⟨(some 14), none, .mv (.s 16)⟩,
          ⟨(some 17), none, .extract (.s 14) 0⟩,
          ⟨(some 18), none, .extract (.s 14) 1⟩,
          ⟨(some 19), none, .extract (.s 14) 2⟩,
          ⟨(some 5), none, .mv (.s 17)⟩,
          ⟨(some 6), none, .mv (.s 18)⟩,
          ⟨(some 7), none, .mv (.s 19)⟩])
        (.seq
          (.region false [
            ⟨(some 21), none, .mv (.s 0)⟩,
            ⟨(some 22), none, .call (.c (.fn 13 [] [])) [(.s 21)] [] [] [] false⟩,
            ⟨(some 20), none, .mv (.s 22)⟩,
            ⟨(some 23), none, .extract (.s 20) 0⟩,
            ⟨(some 24), none, .extract (.s 20) 1⟩,
            ⟨(some 8), none, .mv (.s 23)⟩,
            ⟨(some 9), none, .mv (.s 24)⟩])
          (.seq
            (.region true [
              ⟨(some 25), none, .mv (.s 5)⟩,
              ⟨(some 26), none, .mv (.s 8)⟩,
              ⟨(some 27), none, .bin .eql .int (.s 25) (.s 26)⟩,
              ⟨(some 28), none, .mv (.s 27)⟩,
              ⟨(some 29), (some (28, true)), .mv (.s 6)⟩,
              ⟨(some 30), (some (28, true)), .mv (.s 9)⟩,
              ⟨(some 31), (some (28, true)), .bin .eql .int (.s 29) (.s 30)⟩,
              ⟨(some 32), none, .pick (.s 28) (.s 31) (.c (.bool false))⟩,
              ⟨(some 33), none, .mv (.s 32)⟩,
              ⟨(some 34), (some (33, true)), .mv (.s 7)⟩,
              ⟨(some 35), (some (33, true)), .mv (.s 9)⟩,
              ⟨(some 36), (some (33, true)), .bin .gtr .int (.s 35) (.c (.int .i64 0))⟩,
              ⟨(some 37), (some (33, true)), .bin .eql .bool (.s 34) (.s 36)⟩,
              ⟨(some 38), none, .pick (.s 33) (.s 37) (.c (.bool false))⟩,
              ⟨(some 39), none, .mv (.s 38)⟩,
              ⟨(some 40), (some (39, true)), .mv (.s 0)⟩,
              ⟨(some 41), (some (39, true)), .mv (.s 1)⟩,
              ⟨(some 42), (some (39, true)), .call (.c (.fn 14 [] [])) [(.s 40), (.s 41)] [] [] [] true⟩,
              ⟨(some 43), (some (39, true)), .b2s none (.s 42)⟩,
              ⟨(some 44), (some (39, true)), .mv (.s 0)⟩,
              ⟨(some 45), (some (39, true)), .mv (.s 1)⟩,
              ⟨(some 46), (some (39, true)), .call (.c (.fn 16 [] [])) [(.s 45)] [] [] [] true⟩,
              ⟨(some 47), (some (39, true)), .call (.c (.fn 15 [] [])) [(.s 44), (.s 46)] [] [] [] true⟩,
              ⟨(some 48), (some (39, true)), .b2s none (.s 47)⟩,
              ⟨(some 49), (some (39, true)), .bin .eql .str (.s 43) (.s 48)⟩,
              ⟨(some 50), none, .pick (.s 39) (.s 49) (.c (.bool false))⟩,
              ⟨(some 51), none, .mv (.s 50)⟩,
              ⟨(some 52), (some (51, true)), .call (.c (.fn 11 [] [])) [] [] [] [] false⟩,
              ⟨(some 53), none, .pick (.s 51) (.s 52) (.c (.bool false))⟩,
              ⟨(some 4), none, .mv (.s 53)⟩])
            .ret))))) }
/- cuboid/cuboidlaw02.CodeRow -/
def f5 : MFun := { nt := 86, np := 2, no := 1, res := [.slot 4], body :=
  (.seq
    (.region false [
      ⟨(some 4), none, .mv (.c (.bool false))⟩])
    (.seq
      (.seq
        (.region false [
          ⟨(some 13), none, .mv (.s 0)⟩,
          ⟨(some 14), none, .len (.s 13)⟩,
          ⟨(some 15), none, .bin .gtr .int (.s 14) (.c (.int .i64 500))⟩,
          ⟨(some 16), none, .mv (.s 15)⟩,
          ⟨(some 17), (some (16, false)), .mv (.s 1)⟩,
          ⟨(some 18), (some (16, false)), .len (.s 17)⟩,
          ⟨(some 19), (some (16, false)), .bin .gtr .int (.s 18) (.c (.int .i64 500))⟩,
          ⟨(some 20), none, .pick (.s 16) (.c (.bool true)) (.s 19)⟩])
        (.cond (.s 20)
          (.seq
            (.region false [
              ⟨(some 21), none, .call (.c (.fn 11 [] [])) [] [] [] [] false⟩,
              ⟨(some 4), none, .mv (.s 21)⟩])
            .ret)
          .skip))
      (.seq
        (.region false [
          ⟨(some 5), none, .mv (.c .nilsl)⟩])
        (.seq
          (.seq
            (.region false [
              ⟨(some 6), none, .mv (.c (.int .i64 0))⟩])
            (.block 0
              (.loop [0, 1, 5, 6] [0]
                (.seq
                  (.seq
                    (.region false [
                      ⟨(some 22), none, .mv (.s 6)⟩,
                      ⟨(some 23), none, .mv (.s 0)⟩,
                      ⟨(some 24), none, .len (.s 23)⟩,
                      ⟨(some 25), none, .bin .lss .int (.s 22) (.s 24)⟩])
                    (.cond (.s 25)
                      .skip
                      (.exit 0)))
                  (.seq
                    (.block 1
                      (.region false [
                        ⟨(some 28), none, .mv (.s 5)⟩,
                        ⟨(some 29), none, .mv (.s 0)⟩,
                        ⟨(some 30), none, .mv (.s 6)⟩,
                        ⟨(some 31), none, .iaddrS 1 (.s 29) (.s 30)⟩,
                        ⟨(some 32), none, .load none none (.s 31)⟩,
                        ⟨(some 33), none, .call (.c (.fn 14 [] [])) [(.s 28), (.s 32)] [] [0] [] true⟩,
                        ⟨(some 5), none, .mv (.s 33)⟩]))
                    (.region false [
                      ⟨(some 26), none, .mv (.s 6)⟩,
                      ⟨(some 27), none, .bin .add .int (.s 26) (.c (.int .i64 1))⟩,
                      ⟨(some 6), none, .mv (.s 27)⟩]))))))
          (.seq
            (.region false [
              ⟨(some 34), none, .mv (.s 5)⟩,
              ⟨(some 35), none, .len (.s 34)⟩,
              ⟨(some 7), none, .mv (.s 35)⟩])
            (.seq
              (.region false [
                ⟨(some 36), none, .lit (some 0) [] 0 1 [.int .u8 0] []⟩,
                ⟨(some 37), none, .mv (.s 5)⟩,
                ⟨(some 38), none, .append 1 1 0 (some 0) (.s 36) (.s 37)⟩,
                ⟨(some 39), none, .mv (.s 1)⟩,
                ⟨(some 40), none, .append 1 1 0 none (.s 38) (.s 39)⟩,
                ⟨(some 5), none, .mv (.s 40)⟩])
              (.seq
                (.region false [
                  ⟨(some 8), none, .mv (.c (.int .i64 0))⟩])
                (.seq
                  (.seq
                    (.region false [
                      ⟨(some 9), none, .mv (.c (.int .i64 0))⟩])
                    (.block 2
                      (.loop [0, 5, 7, 8, 9] [0]
                        (.seq
                          (.seq
                            (.region false [
                              ⟨(some 41), none, .mv (.s 9)⟩,
                              ⟨(some 42), none, .mv (.s 0)⟩,
                              ⟨(some 43), none, .len (.s 42)⟩,
                              ⟨(some 44), none, .bin .lss .int (.s 41) (.s 43)⟩])
                            (.cond (.s 44)
                              .skip
                              (.exit 2)))
                          (.seq
                            (.block 3
                              (.seq
                                (.region false [
                                  ⟨(some 48), none, .mv (.s 5)⟩,
                                  ⟨(some 49), none, .mv (.s 8)⟩,
                                  ⟨(some 50), none, .sliceS 1 (.s 48) (some (.s 49)) none⟩,
                                  ⟨(some 51), none, .call (.c (.fn 12 [] [])) [(.s 50)] [] [0] [] false⟩,
                                  ⟨(some 47), none, .mv (.s 51)⟩,
                                  ⟨(some 52), none, .extract (.s 47) 0⟩,
                                  ⟨(some 53), none, .extract (.s 47) 1⟩,
                                  ⟨(some 54), none, .extract (.s 47) 2⟩,
                                  ⟨(some 10), none, .mv (.s 52)⟩,
                                  ⟨(some 11), none, .mv (.s 53)⟩,
                                  ⟨(some 12), none, .mv (.s 54)⟩])
                                (.seq
                                  (.seq
                                    (.region false [
                                      ⟨(some 55), none, .mv (.s 12)⟩,
                                      ⟨(some 56), none, .un .not (.s 55)⟩,
                                      ⟨(some 57), none, .mv (.s 56)⟩,
                                      ⟨(some 58), (some (57, false)), .mv (.s 10)⟩,
                                      ⟨(some 59), (some (57, false)), .mv (.s 0)⟩,
                                      ⟨(some 60), (some (57, false)), .mv (.s 9)⟩,
                                      ⟨(some 61), (some (57, false)), .iaddrS 1 (.s 59) (.s 60)⟩,
                                      ⟨(some 62), (some (57, false)), .load none none (.s 61)⟩,
                                      ⟨(some 63), (some (57, false)), .bin .neq .int (.s 58) (.s 62)⟩,
                                      ⟨(some 64), none, .pick (.s 57) (.c (.bool true)) (.s 63)⟩,
                                      ⟨(some 65), none, .mv (.s 64)⟩,
                                      ⟨(some 66), (some (65, false)), .mv (.s 11)⟩,
                                      ⟨(some 67), (some (65, false)), .bin .lss .int (.s 66) (.c (.int .i64 1))⟩,
                                      ⟨(some 68), none, .pick (.s 65) (.c (.bool true)) (.s 67)⟩,
                                      ⟨(some 69), none, .mv (.s 68)⟩,
                                      ⟨(some 70), (some (69, false)), .mv (.s 11)⟩,
                                      ⟨(some 71), (some (69, false)), .mv (.s 5)⟩,
                                      ⟨(some 72), (some (69, false)), .len (.s 71)⟩,
                                      ⟨(some 73), (some (69, false)), .mv (.s 8)⟩,
                                      ⟨(some 74), (some (69, false)), .bin .sub .int (.s 72) (.s 73)⟩,
                                      ⟨(some 75), (some (69, false)), .bin .gtr .int (.s 70) (.s 74)⟩,
                                      ⟨(some 76), none, .pick (.s 69) (.c (.bool true)) (.s 75)⟩])
                                    (.cond (.s 76)
                                      (.seq
                                        (.region false [
                                          ⟨(some 4), none, .mv (.c (.bool false))⟩])
                                        .ret)
                                      .skip))
                                  (.region false [
                                    ⟨(some 77), none, .mv (.s 8)⟩,
                                    ⟨(some 78), none, .mv (.s 11)⟩,
                                    ⟨(some 79), none, .bin .add .int (.s 77) (.s 78)⟩,
                                    ⟨(some 8), none, .mv (.s 79)⟩]))))
                            (.region false [
                              ⟨(some 45), none, .mv (.s 9)⟩,
                              ⟨(some 46), none, .bin .add .int (.s 45) (.c (.int .i64 1))⟩,
                              ⟨(some 9), none, .mv (.s 46)⟩]))))))
                  (.seq
                    (.region false [
                      ⟨(some 80), none, .mv (.s 8)⟩,
                      ⟨(some 81), none, .mv (.s 7)⟩,
                      ⟨(some 82), none, .bin .eql .int (.s 80) (.s 81)⟩,
                      ⟨(some 83), none, .mv (.s 82)⟩,
                      ⟨(some 84), (some (83, true)), .call (.c (.fn 11 [] [])) [] [] [] [] false⟩,
                      ⟨(some 85), none, .pick (.s 83) (.s 84) (.c (.bool false))⟩,
                      ⟨(some 4), none, .mv (.s 85)⟩])
                    .ret))))))))) }
/- cuboid/cuboidlaw02.CodeShort -/
def f6 : MFun := { nt := 72, np := 2, no := 1, res := [.slot 4], body :=
  (.seq
    (.region false [
      ⟨(some 4), none, .mv (.c (.bool false))⟩])
    (.seq
      (.region false [
        ⟨(some 16), none, .mv (.s 0)⟩,
        ⟨(some 17), none, .call (.c (.fn 14 [] [])) [(.c .nilsl), (.s 16)] [] [] [] true⟩,
        ⟨(some 5), none, .mv (.s 17)⟩])
      (.seq
        (.region false [
          ⟨(some 6), none, .mv (.c (.int .i64 1))⟩])
        (.seq
          (.seq
            (.region false [
              ⟨(some 18), none, .mv (.s 0)⟩,
              ⟨(some 19), none, .bin .shr .int (.s 18) (.c (.int .u64 7))⟩,
              ⟨(some 7), none, .mv (.s 19)⟩])
            (.block 0
              (.loop [1, 5, 6, 7] []
                (.seq
                  (.seq
                    (.region false [
                      ⟨(some 20), none, .mv (.s 7)⟩,
                      ⟨(some 21), none, .bin .gtr .int (.s 20) (.c (.int .u64 0))⟩])
                    (.cond (.s 21)
                      .skip
                      (.exit 0)))
                  (.seq
                    (.block 1
                      (.region false [
                        ⟨(some 24), none, .mv (.s 6)⟩,
                        ⟨(some 25), none, .bin .add .int (.s 24) (.c (.int .i64 1))⟩,
                        ⟨(some 6), none, .mv (.s 25)⟩]))
                    (.region false [
                      ⟨(some 22), none, .mv (.s 7)⟩,
                      ⟨(some 23), none, .bin .shr .int (.s 22) (.c (.int .u64 7))⟩,
                      ⟨(some 7), none, .mv (.s 23)⟩]))))))
          (.seq
            (.seq
              (.region false [
                ⟨(some 26), none, .mv (.s 5)⟩,
                ⟨(some 27), none, .len (.s 26)⟩,
                ⟨(some 28), none, .mv (.s 6)⟩,
                ⟨(some 29), none, .bin .neq .int (.s 27) (.s 28)⟩])
              (.cond (.s 29)
                (.seq
                  (.region false [
                    ⟨(some 4), none, .mv (.c (.bool false))⟩])
                  .ret)
                .skip))
            (.seq
              (.region false [
                ⟨(some 30), none, .mv (.s 1)⟩,
                ⟨(some 31), none, .mv (.s 6)⟩,
                ⟨(some 32), none, .bin .rem .int (.s 30) (.s 31)⟩,
                ⟨(some 8), none, .mv (.s 32)⟩])
              (.seq
                (.seq
                  (.region false [
                    ⟨(some 33), none, .mv (.s 8)⟩,
                    ⟨(some 34), none, .bin .lss .int (.s 33) (.c (.int .i64 0))⟩])
                  (.cond (.s 34)
                    (.region false [
                      ⟨(some 35), none, .mv (.s 8)⟩,
                      ⟨(some 36), none, .un .neg (.s 35)⟩,
                      ⟨(some 8), none, .mv (.s 36)⟩])
                    .skip))
                (.seq
                  (.region false [
                    ⟨(some 38), none, .mv (.s 5)⟩,
                    ⟨(some 39), none, .mv (.s 8)⟩,
                    ⟨(some 40), none, .sliceS 1 (.s 38) none (some (.s 39))⟩,
                    ⟨(some 41), none, .call (.c (.fn 12 [] [])) [(.s 40)] [] [] [] false⟩,
                    ⟨(some 37), none, .mv (.s 41)⟩,
                    ⟨(some 42), none, .extract (.s 37) 0⟩,
                    ⟨(some 43), none, .extract (.s 37) 1⟩,
                    ⟨(some 44), none, .extract (.s 37) 2⟩,
                    ⟨(some 9), none, .mv (.s 42)⟩,
                    ⟨(some 10), none, .mv (.s 43)⟩,
                    ⟨(some 11), none, .mv (.s 44)⟩])
                  (.seq
                    (.region false [
                      ⟨(some 45), none, .lit (some 0) [] 0 1 [.int .u8 0] []⟩,
                      ⟨(some 46), none, .mv (.s 5)⟩,
                      ⟨(some 47), none, .append 1 1 0 none (.s 45) (.s 46)⟩,
                      ⟨(some 12), none, .mv (.s 47)⟩])
                    (.seq
                      (.region false [
                        ⟨(some 48), none, .mv (.s 12)⟩,
                        ⟨(some 49), none, .mv (.s 6)⟩,
                        ⟨(some 50), none, .bin .sub .int (.s 49) (.c (.int .i64 1))⟩,
                        ⟨(some 51), none, .iaddrS 1 (.s 48) (.s 50)⟩,
                        ⟨(some 52), none, .load none (some 0) (.s 51)⟩,
                        ⟨(some 53), none, .bin .add .int (.s 52) (.c (.int .u8 128))⟩,
                        ⟨(some 54), none, .iaddrS 1 (.s 48) (.s 50)⟩,
                        ⟨none, none, .store 1 0 [] (.s 54) (.s 53)⟩])
                      (.seq
                        (.region false [
                          ⟨(some 56), none, .mv (.s 12)⟩,
                          ⟨(some 57), none, .lit none [] 1 1 [.int .u8 0] [(0, 1, (.c (.int .u8 0)))]⟩,
                          ⟨(some 58), none, .append 1 1 0 none (.s 56) (.s 57)⟩,
                          ⟨(some 59), none, .call (.c (.fn 12 [] [])) [(.s 58)] [] [0] [] false⟩,
                          ⟨(some 55), none, .mv (.s 59)⟩,
                          ⟨(some 60), none, .extract (.s 55) 0⟩,
                          ⟨(some 61), none, .extract (.s 55) 1⟩,
                          ⟨(some 62), none, .extract (.s 55) 2⟩,
                          ⟨(some 13), none, .mv (.s 60)⟩,
                          ⟨(some 14), none, .mv (.s 61)⟩,
                          ⟨(some 15), none, .mv (.s 62)⟩])
                        (.seq
                          (.region false [
                            ⟨(some 63), none, .mv (.s 11)⟩,
                            ⟨(some 64), none, .un .not (.s 63)⟩,
                            ⟨(some 65), none, .mv (.s 64)⟩,
                            ⟨(some 66), (some (65, true)), .mv (.s 15)⟩,
                            ⟨(some 67), (some (65, true)), .un .not (.s 66)⟩,
                            ⟨(some 68), none, .pick (.s 65) (.s 67) (.c (.bool false))⟩,
                            ⟨(some 69), none, .mv (.s 68)⟩,
                            ⟨(some 70), (some (69, true)), .call (.c (.fn 11 [] [])) [] [] [] [] false⟩,
                            ⟨(some 71), none, .pick (.s 69) (.s 70) (.c (.bool false))⟩,
                            ⟨(some 4), none, .mv (.s 71)⟩])
                          .ret)))))))))))) }
/- cuboid/cuboidref02.Flip -/
def f17 : MFun := { nt := 6, np := 1, no := 0, res := [.slot 2], body :=
  (.seq
    (.region false [
      ⟨(some 2), none, .mv (.c (.int .u64 0))⟩])
    (.seq
      (.region false [
        ⟨(some 3), none, .mv (.s 0)⟩,
        ⟨(some 4), none, .conv .u64 (.s 3)⟩,
        ⟨(some 5), none, .bin .xor .int (.s 4) (.c (.int .u64 9223372036854775808))⟩,
        ⟨(some 2), none, .mv (.s 5)⟩])
      .ret)) }
/- cuboid/code.Back -/
def f18 : MFun := { nt := 6, np := 1, no := 0, res := [.slot 2], body :=
  (.seq
    (.region false [
      ⟨(some 2), none, .mv (.c (.int .i64 0))⟩])
    (.seq
      (.region false [
        ⟨(some 3), none, .mv (.s 0)⟩,
        ⟨(some 4), none, .bin .xor .int (.s 3) (.c (.int .u64 9223372036854775808))⟩,
        ⟨(some 5), none, .conv .i64 (.s 4)⟩,
        ⟨(some 2), none, .mv (.s 5)⟩])
      .ret)) }
/- cuboid/cuboidref02.Back -/
def f19 : MFun := { nt := 6, np := 1, no := 0, res := [.slot 2], body :=
  (.seq
    (.region false [
      ⟨(some 2), none, .mv (.c (.int .i64 0))⟩])
    (.seq
      (.region false [
        ⟨(some 3), none, .mv (.s 0)⟩,
        ⟨(some 4), none, .bin .xor .int (.s 3) (.c (.int .u64 9223372036854775808))⟩,
        ⟨(some 5), none, .conv .i64 (.s 4)⟩,
        ⟨(some 2), none, .mv (.s 5)⟩])
      .ret)) }
/- cuboid/cuboidref02.Zig -/
def f21 : MFun := { nt := 14, np := 1, no := 0, res := [.slot 2], body :=
  (.seq
    (.region false [
      ⟨(some 2), none, .mv (.c (.int .u64 0))⟩])
    (.seq
      (.seq
        (.region false [
          ⟨(some 3), none, .mv (.s 0)⟩,
          ⟨(some 4), none, .bin .lss .int (.s 3) (.c (.int .i64 0))⟩])
        (.cond (.s 4)
          (.seq
            (.region false [
              ⟨(some 5), none, .mv (.s 0)⟩,
              ⟨(some 6), none, .bin .add .int (.s 5) (.c (.int .i64 1))⟩,
              ⟨(some 7), none, .un .neg (.s 6)⟩,
              ⟨(some 8), none, .conv .u64 (.s 7)⟩,
              ⟨(some 9), none, .bin .mul .int (.c (.int .u64 2)) (.s 8)⟩,
              ⟨(some 10), none, .bin .add .int (.s 9) (.c (.int .u64 1))⟩,
              ⟨(some 2), none, .mv (.s 10)⟩])
            .ret)
          .skip))
      (.seq
        (.region false [
          ⟨(some 11), none, .mv (.s 0)⟩,
          ⟨(some 12), none, .conv .u64 (.s 11)⟩,
          ⟨(some 13), none, .bin .mul .int (.c (.int .u64 2)) (.s 12)⟩,
          ⟨(some 2), none, .mv (.s 13)⟩])
        .ret))) }
/- cuboid/cuboidref02.Zag -/
def f23 : MFun := { nt := 14, np := 1, no := 0, res := [.slot 2], body :=
  (.seq
    (.region false [
      ⟨(some 2), none, .mv (.c (.int .i64 0))⟩])
    (.seq
      (.seq
        (.region false [
          ⟨(some 3), none, .mv (.s 0)⟩,
          ⟨(some 4), none, .bin .rem .int (.s 3) (.c (.int .u64 2))⟩,
          ⟨(some 5), none, .bin .eql .int (.s 4) (.c (.int .u64 1))⟩])
        (.cond (.s 5)
          (.seq
            (.region false [
              ⟨(some 6), none, .mv (.s 0)⟩,
              ⟨(some 7), none, .bin .quo .int (.s 6) (.c (.int .u64 2))⟩,
              ⟨(some 8), none, .conv .i64 (.s 7)⟩,
              ⟨(some 9), none, .un .neg (.s 8)⟩,
              ⟨(some 10), none, .bin .sub .int (.s 9) (.c (.int .i64 1))⟩,
              ⟨(some 2), none, .mv (.s 10)⟩])
            .ret)
          .skip))
      (.seq
        (.region false [
          ⟨(some 11), none, .mv (.s 0)⟩,
          ⟨(some 12), none, .bin .quo .int (.s 11) (.c (.int .u64 2))⟩,
          ⟨(some 13), none, .conv .i64 (.s 12)⟩,
          ⟨(some 2), none, .mv (.s 13)⟩])
        .ret))) }
/- cuboid/cuboidref02.Key -/
def f24 : MFun := { nt := 17, np := 1, no := 1, res := [.slot 2], body :=
  (.seq
    (.region false [
      ⟨(some 1), none, .box 0 (.s 0)⟩,
      ⟨(some 2), none, .mv (.c (.int .u32 0))⟩])
    (.seq
      (.region false [
        ⟨(some 3), none, .mv (.c (.int .u32 0))⟩])
      (.seq
        (.seq
          (.region false [
            ⟨(some 4), none, .mv (.c (.int .i64 0))⟩])
          (.block 0
            (.loop [1, 3, 4] [0]
              (.seq
                (.seq
                  (.region false [
                    ⟨(some 5), none, .mv (.s 4)⟩,
                    ⟨(some 6), none, .bin .lss .int (.s 5) (.c (.int .i64 4))⟩])
                  (.cond (.s 6)
                    .skip
                    (.exit 0)))
                (.seq
                  (.block 1
                    (.region false [
                      ⟨(some 9), none, .mv (.s 3)⟩,
                      ⟨(some 10), none, .bin .mul .int (.s 9) (.c (.int .u32 256))⟩,
                      ⟨(some 11), none, .mv (.s 4)⟩,
                      ⟨(some 12), none, .iaddrA 4 1 (.s 1) (.s 11)⟩,
                      ⟨(some 13), none, .load none (some 0) (.s 12)⟩,
                      ⟨(some 14), none, .conv .u32 (.s 13)⟩,
                      ⟨(some 15), none, .bin .add .int (.s 10) (.s 14)⟩,
                      ⟨(some 3), none, .mv (.s 15)⟩]))
                  (.region false [
                    ⟨(some 7), none, .mv (.s 4)⟩,
                    ⟨(some 8), none, .bin .add .int (.s 7) (.c (.int .i64 1))⟩,
                    ⟨(some 4), none, .mv (.s 8)⟩]))))))
        (.seq
          (.region false [
            ⟨(some 16), none, .mv (.s 3)⟩,
            ⟨(some 2), none, .mv (.s 16)⟩])
          .ret)))) }
/- cuboid/cuboidref02.At -/
def f26 : MFun := { nt := 17, np := 1, no := 2, res := [.cell 2 0 (some 4)], body :=
  (.seq
    (.region false [
      ⟨(some 2), none, .alloc 0 [.int .u8 0, .int .u8 0, .int .u8 0, .int .u8 0]⟩])
    (.seq
      (.region false [
        ⟨(some 3), none, .alloc 1 [.int .u8 0, .int .u8 0, .int .u8 0, .int .u8 0]⟩])
      (.seq
        (.seq
          (.region false [
            ⟨(some 4), none, .mv (.c (.int .i64 3))⟩])
          (.block 0
            (.loop [0, 2, 3, 4] [0, 1]
              (.seq
                (.seq
                  (.region false [
                    ⟨(some 5), none, .mv (.s 4)⟩,
                    ⟨(some 6), none, .bin .geq .int (.s 5) (.c (.int .i64 0))⟩])
                  (.cond (.s 6)
                    .skip
                    (.exit 0)))
                (.seq
                  (.block 1
                    (.seq
                      (.region false [
                        ⟨(some 9), none, .mv (.s 4)⟩,
                        ⟨(some 10), none, .mv (.s 0)⟩,
                        ⟨(some 11), none, .bin .rem .int (.s 10) (.c (.int .u32 256))⟩,
                        ⟨(some 12), none, .conv .u8 (.s 11)⟩,
                        ⟨(some 13), none, .iaddrA 4 1 (.s 3) (.s 9)⟩,
                        ⟨none, none, .store 1 1 [] (.s 13) (.s 12)⟩])
                      (.region false [
                        ⟨(some 14), none, .mv (.s 0)⟩,
                        ⟨(some 15), none, .bin .quo .int (.s 14) (.c (.int .u32 256))⟩,
                        ⟨(some 0), none, .mv (.s 15)⟩])))
                  (.region false [
                    ⟨(some 7), none, .mv (.s 4)⟩,
                    ⟨(some 8), none, .bin .sub .int (.s 7) (.c (.int .i64 1))⟩,
                    ⟨(some 4), none, .mv (.s 8)⟩]))))))
        (.seq
          (.region false [
            ⟨(some 16), none, .load (some 4) (some 1) (.s 3)⟩,
            ⟨none, none, .store 4 0 [] (.s 2) (.s 16)⟩])
          .ret)))) }
/- cuboid/cuboidlaw02.CodeTells -/
def f7 : MFun := { nt := 58, np := 1, no := 1, res := [.slot 2], body :=
  (.seq
    (.region false [
      ⟨(some 1), none, .box 0 (.s 0)⟩,
      ⟨(some 2), none, .mv (.c (.bool false))⟩])
    (.seq
      (.region true [
        ⟨(some 3), none, .faddr 0 (.s 1)⟩,
        ⟨(some 4), none, .load none (some 0) (.s 3)⟩,
        ⟨(some 5), none, .call (.c (.fn 9 [] [])) [(.s 4)] [] [] [] false⟩,
        ⟨(some 6), none, .faddr 0 (.s 1)⟩,
        ⟨(some 7), none, .load none (some 0) (.s 6)⟩,
        ⟨(some 8), none, .call (.c (.fn 17 [] [])) [(.s 7)] [] [] [] false⟩,
        ⟨(some 9), none, .bin .eql .int (.s 5) (.s 8)⟩,
        ⟨(some 10), none, .mv (.s 9)⟩,
        ⟨(some 11), (some (10, true)), .faddr 1 (.s 1)⟩,
        ⟨(some 12), (some (10, true)), .load none (some 0) (.s 11)⟩,
        ⟨(some 13), (some (10, true)), .call (.c (.fn 18 [] [])) [(.s 12)] [] [] [] false⟩,
        ⟨(some 14), (some (10, true)), .faddr 1 (.s 1)⟩,
        ⟨(some 15), (some (10, true)), .load none (some 0) (.s 14)⟩,
        ⟨(some 16), (some (10, true)), .call (.c (.fn 19 [] [])) [(.s 15)] [] [] [] false⟩,
        ⟨(some 17), (some (10, true)), .bin .eql .int (.s 13) (.s 16)⟩,
        ⟨(some 18), none, .pick (.s 10) (.s 17) (.c (.bool false))⟩,
        ⟨(some 19), none, .mv (.s 18)⟩,
        ⟨(some 20), (some (19, true)), .faddr 0 (.s 1)⟩,
        ⟨(some 21), (some (19, true)), .load none (some 0) (.s 20)⟩,
        ⟨(some 22), (some (19, true)), .call (.c (.fn 20 [] [])) [(.s 21)] [] [] [] false⟩,
        ⟨(some 23), (some (19, true)), .faddr 0 (.s 1)⟩,
        ⟨(some 24), (some (19, true)), .load none (some 0) (.s 23)⟩,
        ⟨(some 25), (some (19, true)), .call (.c (.fn 21 [] [])) [(.s 24)] [] [] [] false⟩,
        ⟨(some 26), (some (19, true)), .bin .eql .int (.s 22) (.s 25)⟩,
        ⟨(some 27), none, .pick (.s 19) (.s 26) (.c (.bool false))⟩,
        ⟨(some 28), none, .mv (.s 27)⟩,
        ⟨(some 29), (some (28, true)), .faddr 1 (.s 1)⟩,
        ⟨(some 30), (some (28, true)), .load none (some 0) (.s 29)⟩,
        ⟨(some 31), (some (28, true)), .call (.c (.fn 22 [] [])) [(.s 30)] [] [] [] false⟩,
        ⟨(some 32), (some (28, true)), .faddr 1 (.s 1)⟩,
        ⟨(some 33), (some (28, true)), .load none (some 0) (.s 32)⟩,
        ⟨(some 34), (some (28, true)), .call (.c (.fn 23 [] [])) [(.s 33)] [] [] [] false⟩,
        ⟨(some 35), (some (28, true)), .bin .eql .int (.s 31) (.s 34)⟩,
        ⟨(some 36), none, .pick (.s 28) (.s 35) (.c (.bool false))⟩,
        ⟨(some 37), none, .mv (.s 36)⟩,
        ⟨(some 38), (some (37, true)), .faddr 3 (.s 1)⟩,
        ⟨(some 39), (some (37, true)), .load (some 4) (some 0) (.s 38)⟩,
        ⟨(some 40), (some (37, true)), .call (.c (.fn 10 [] [])) [(.s 39)] [] [] [] false⟩,
        ⟨(some 41), (some (37, true)), .faddr 3 (.s 1)⟩,
        ⟨(some 42), (some (37, true)), .load (some 4) (some 0) (.s 41)⟩,
        ⟨(some 43), (some (37, true)), .call (.c (.fn 24 [] [])) [(.s 42)] [] [] [] false⟩,
        ⟨(some 44), (some (37, true)), .bin .eql .int (.s 40) (.s 43)⟩,
        ⟨(some 45), none, .pick (.s 37) (.s 44) (.c (.bool false))⟩,
        ⟨(some 46), none, .mv (.s 45)⟩,
        ⟨(some 47), (some (46, true)), .faddr 2 (.s 1)⟩,
        ⟨(some 48), (some (46, true)), .load none (some 0) (.s 47)⟩,
        ⟨(some 49), (some (46, true)), .call (.c (.fn 25 [] [])) [(.s 48)] [] [] [] false⟩,
        ⟨(some 50), (some (46, true)), .faddr 2 (.s 1)⟩,
        ⟨(some 51), (some (46, true)), .load none (some 0) (.s 50)⟩,
        ⟨(some 52), (some (46, true)), .call (.c (.fn 26 [] [])) [(.s 51)] [] [] [] false⟩,
        ⟨(some 53), (some (46, true)), .bin .eql (.agg [some .u8, some .u8, some .u8, some .u8]) (.s 49) (.s 52)⟩,
        ⟨(some 54), none, .pick (.s 46) (.s 53) (.c (.bool false))⟩,
        ⟨(some 55), none, .mv (.s 54)⟩,
        ⟨(some 56), (some (55, true)), .call (.c (.fn 11 [] [])) [] [] [] [] false⟩,
        ⟨(some 57), none, .pick (.s 55) (.s 56) (.c (.bool false))⟩,
        ⟨(some 2), none, .mv (.s 57)⟩])
      .ret)) }
/- cuboid/cuboidlaw02.CodeBack -/
def f8 : MFun := { nt := 86, np := 1, no := 1, res := [.slot 2], body :=
  (.seq
    (.region false [
      ⟨(some 1), none, .box 0 (.s 0)⟩,
      ⟨(some 2), none, .mv (.c (.bool false))⟩])
    (.seq
      (.region false [
        ⟨(some 7), none, .faddr 1 (.s 1)⟩,
        ⟨(some 8), none, .load none (some 0) (.s 7)⟩,
        ⟨(some 9), none, .call (.c (.fn 14 [] [])) [(.c .nilsl), (.s 8)] [] [] [] true⟩,
        ⟨(some 3), none, .mv (.s 9)⟩])
      (.seq
        (.region false [
          ⟨(some 11), none, .mv (.s 3)⟩,
          ⟨(some 12), none, .call (.c (.fn 12 [] [])) [(.s 11)] [] [] [] false⟩,
          ⟨(some 10), none, .mv (.s 12)⟩,
          ⟨(some 13), none, .extract (.s 10) 0⟩,
          ⟨(some 14), none, .extract (.s 10) 1⟩,
          ⟨(some 15), none, .extract (.s 10) 2⟩,
          ⟨(some 4), none, .mv (.s 13)⟩,
          ⟨(some 5), none, .mv (.s 14)⟩,
          ⟨(some 6), none, .mv (.s 15)⟩])
        (.seq
          (.region true [
            ⟨(some 16), none, .faddr 0 (.s 1)⟩,
            ⟨(some 17), none, .load none (some 0) (.s 16)⟩,
            ⟨(some 18), none, .call (.c (.fn 9 [] [])) [(.s 17)] [] [] [] false⟩,
            ⟨(some 19), none, .call (.c (.fn 18 [] [])) [(.s 18)] [] [] [] false⟩,
            ⟨(some 20), none, .faddr 0 (.s 1)⟩,
            ⟨(some 21), none, .load none (some 0) (.s 20)⟩,
            ⟨(some 22), none, .bin .eql .int (.s 19) (.s 21)⟩,
            ⟨(some 23), none, .mv (.s 22)⟩,
            ⟨(some 24), (some (23, true)), .faddr 1 (.s 1)⟩,
            ⟨(some 25), (some (23, true)), .load none (some 0) (.s 24)⟩,
            ⟨(some 26), (some (23, true)), .call (.c (.fn 18 [] [])) [(.s 25)] [] [] [] false⟩,
            ⟨(some 27), (some (23, true)), .call (.c (.fn 9 [] [])) [(.s 26)] [] [] [] false⟩,
            ⟨(some 28), (some (23, true)), .faddr 1 (.s 1)⟩,
            ⟨(some 29), (some (23, true)), .load none (some 0) (.s 28)⟩,
            ⟨(some 30), (some (23, true)), .bin .eql .int (.s 27) (.s 29)⟩,
            ⟨(some 31), none, .pick (.s 23) (.s 30) (.c (.bool false))⟩,
            ⟨(some 32), none, .mv (.s 31)⟩,
            ⟨(some 33), (some (32, true)), .faddr 0 (.s 1)⟩,
            ⟨(some 34), (some (32, true)), .load none (some 0) (.s 33)⟩,
            ⟨(some 35), (some (32, true)), .call (.c (.fn 20 [] [])) [(.s 34)] [] [] [] false⟩,
            ⟨(some 36), (some (32, true)), .call (.c (.fn 22 [] [])) [(.s 35)] [] [] [] false⟩,
            ⟨(some 37), (some (32, true)), .faddr 0 (.s 1)⟩,
            ⟨(some 38), (some (32, true)), .load none (some 0) (.s 37)⟩,
            ⟨(some 39), (some (32, true)), .bin .eql .int (.s 36) (.s 38)⟩,
            ⟨(some 40), none, .pick (.s 32) (.s 39) (.c (.bool false))⟩,
            ⟨(some 41), none, .mv (.s 40)⟩,
            ⟨(some 42), (some (41, true)), .faddr 1 (.s 1)⟩,
            ⟨(some 43), (some (41, true)), .load none (some 0) (.s 42)⟩,
            ⟨(some 44), (some (41, true)), .call (.c (.fn 22 [] [])) [(.s 43)] [] [] [] false⟩,
            ⟨(some 45), (some (41, true)), .call (.c (.fn 20 [] [])) [(.s 44)] [] [] [] false⟩,
            ⟨(some 46), (some (41, true)), .faddr 1 (.s 1)⟩,
            ⟨(some 47), (some (41, true)), .load none (some 0) (.s 46)⟩,
            ⟨(some 48), (some (41, true)), .bin .eql .int (.s 45) (.s 47)⟩,
            ⟨(some 49), none, .pick (.s 41) (.s 48) (.c (.bool false))⟩,
            ⟨(some 50), none, .mv (.s 49)⟩,
            ⟨(some 51), (some (50, true)), .faddr 3 (.s 1)⟩,
            ⟨(some 52), (some (50, true)), .load (some 4) (some 0) (.s 51)⟩,
            ⟨(some 53), (some (50, true)), .call (.c (.fn 10 [] [])) [(.s 52)] [] [] [] false⟩,
            ⟨(some 54), (some (50, true)), .call (.c (.fn 25 [] [])) [(.s 53)] [] [] [] false⟩,
            ⟨(some 55), (some (50, true)), .faddr 3 (.s 1)⟩,
            ⟨(some 56), (some (50, true)), .load (some 4) (some 0) (.s 55)⟩,
            ⟨(some 57), (some (50, true)), .bin .eql (.agg [some .u8, some .u8, some .u8, some .u8]) (.s 54) (.s 56)⟩,
            ⟨(some 58), none, .pick (.s 50) (.s 57) (.c (.bool false))⟩,
            ⟨(some 59), none, .mv (.s 58)⟩,
            ⟨(some 60), (some (59, true)), .faddr 2 (.s 1)⟩,
            ⟨(some 61), (some (59, true)), .load none (some 0) (.s 60)⟩,
            ⟨(some 62), (some (59, true)), .call (.c (.fn 25 [] [])) [(.s 61)] [] [] [] false⟩,
            ⟨(some 63), (some (59, true)), .call (.c (.fn 10 [] [])) [(.s 62)] [] [] [] false⟩,
            ⟨(some 64), (some (59, true)), .faddr 2 (.s 1)⟩,
            ⟨(some 65), (some (59, true)), .load none (some 0) (.s 64)⟩,
            ⟨(some 66), (some (59, true)), .bin .eql .int (.s 63) (.s 65)⟩,
            ⟨(some 67), none, .pick (.s 59) (.s 66) (.c (.bool false))⟩,
            ⟨(some 68), none, .mv (.s 67)⟩,
            ⟨(some 69), (some (68, true)), .mv (.s 6)⟩,
            ⟨(some 70), none, .pick (.s 68) (.s 69) (.c (.bool false))⟩,
            ⟨(some 71), none, .mv (.s 70)⟩,
            ⟨(some 72), (some (71, true)), .mv (.s 4)⟩,
            ⟨(some 73), (some (71, true)), .faddr 1 (.s 1)⟩,
            ⟨(some 74), (some (71, true)), .load none (some 0) (.s 73)⟩,
            ⟨(some 75), (some (71, true)), .bin .eql .int (.s 72) (.s 74)⟩,
            ⟨(some 76), none, .pick (.s 71) (.s 75) (.c (.bool false))⟩,
            ⟨(some 77), none, .mv (.s 76)⟩,
            ⟨(some 78), (some (77, true)), .mv (.s 5)⟩,
            ⟨(some 79), (some (77, true)), .mv (.s 3)⟩,
            ⟨(some 80), (some (77, true)), .len (.s 79)⟩,
            ⟨(some 81), (some (77, true)), .bin .eql .int (.s 78) (.s 80)⟩,
            ⟨(some 82), none, .pick (.s 77) (.s 81) (.c (.bool false))⟩,
            ⟨(some 83), none, .mv (.s 82)⟩,
            ⟨(some 84), (some (83, true)), .call (.c (.fn 11 [] [])) [] [] [] [] false⟩,
            ⟨(some 85), none, .pick (.s 83) (.s 84) (.c (.bool false))⟩,
            ⟨(some 2), none, .mv (.s 85)⟩])
          .ret)))) }
end Mf
theorem mf9_ok : chkFun Try.prog Mf.f9 Try.f9 = true := by kernel_rfl
theorem mf10_ok : chkFun Try.prog Mf.f10 Try.f10 = true := by kernel_rfl
theorem mf12_ok : chkFun Try.prog Mf.f12 Try.f12 = true := by kernel_rfl
theorem mf27_ok : chkFun Try.prog Mf.f27 Try.f27 = true := by kernel_rfl
theorem mf14_ok : chkFun Try.prog Mf.f14 Try.f14 = true := by kernel_rfl
theorem mf20_ok : chkFun Try.prog Mf.f20 Try.f20 = true := by kernel_rfl
theorem mf22_ok : chkFun Try.prog Mf.f22 Try.f22 = true := by kernel_rfl
theorem mf25_ok : chkFun Try.prog Mf.f25 Try.f25 = true := by kernel_rfl
theorem mf11_ok : chkFun Try.prog Mf.f11 Try.f11 = true := by kernel_rfl
theorem mf3_ok : chkFun Try.prog Mf.f3 Try.f3 = true := by kernel_rfl
theorem mf13_ok : chkFun Try.prog Mf.f13 Try.f13 = true := by kernel_rfl
theorem mf15_ok : chkFun Try.prog Mf.f15 Try.f15 = true := by kernel_rfl
theorem mf16_ok : chkFun Try.prog Mf.f16 Try.f16 = true := by kernel_rfl
theorem mf4_ok : chkFun Try.prog Mf.f4 Try.f4 = true := by kernel_rfl
theorem mf5_ok : chkFun Try.prog Mf.f5 Try.f5 = true := by kernel_rfl
theorem mf6_ok : chkFun Try.prog Mf.f6 Try.f6 = true := by kernel_rfl
theorem mf17_ok : chkFun Try.prog Mf.f17 Try.f17 = true := by kernel_rfl
theorem mf18_ok : chkFun Try.prog Mf.f18 Try.f18 = true := by kernel_rfl
theorem mf19_ok : chkFun Try.prog Mf.f19 Try.f19 = true := by kernel_rfl
theorem mf21_ok : chkFun Try.prog Mf.f21 Try.f21 = true := by kernel_rfl
theorem mf23_ok : chkFun Try.prog Mf.f23 Try.f23 = true := by kernel_rfl
theorem mf24_ok : chkFun Try.prog Mf.f24 Try.f24 = true := by kernel_rfl
theorem mf26_ok : chkFun Try.prog Mf.f26 Try.f26 = true := by kernel_rfl
theorem mf7_ok : chkFun Try.prog Mf.f7 Try.f7 = true := by kernel_rfl
theorem mf8_ok : chkFun Try.prog Mf.f8 Try.f8 = true := by kernel_rfl
def fnTab : FuncId → Option MFun
  | 9 => some Mf.f9
  | 10 => some Mf.f10
  | 12 => some Mf.f12
  | 27 => some Mf.f27
  | 14 => some Mf.f14
  | 20 => some Mf.f20
  | 22 => some Mf.f22
  | 25 => some Mf.f25
  | 11 => some Mf.f11
  | 3 => some Mf.f3
  | 13 => some Mf.f13
  | 15 => some Mf.f15
  | 16 => some Mf.f16
  | 4 => some Mf.f4
  | 5 => some Mf.f5
  | 6 => some Mf.f6
  | 17 => some Mf.f17
  | 18 => some Mf.f18
  | 19 => some Mf.f19
  | 21 => some Mf.f21
  | 23 => some Mf.f23
  | 24 => some Mf.f24
  | 26 => some Mf.f26
  | 7 => some Mf.f7
  | 8 => some Mf.f8
  | _ => none
theorem fnTab_ok : ∀ f mf, fnTab f = some mf → ∃ fn, Try.prog.funcs[f]? = some fn ∧ chkFun Try.prog mf fn = true := by
  intro f mf h
  unfold fnTab at h
  split at h
  · cases h; exact ⟨Try.f9, Try.func9, mf9_ok⟩
  · cases h; exact ⟨Try.f10, Try.func10, mf10_ok⟩
  · cases h; exact ⟨Try.f12, Try.func12, mf12_ok⟩
  · cases h; exact ⟨Try.f27, Try.func27, mf27_ok⟩
  · cases h; exact ⟨Try.f14, Try.func14, mf14_ok⟩
  · cases h; exact ⟨Try.f20, Try.func20, mf20_ok⟩
  · cases h; exact ⟨Try.f22, Try.func22, mf22_ok⟩
  · cases h; exact ⟨Try.f25, Try.func25, mf25_ok⟩
  · cases h; exact ⟨Try.f11, Try.func11, mf11_ok⟩
  · cases h; exact ⟨Try.f3, Try.func3, mf3_ok⟩
  · cases h; exact ⟨Try.f13, Try.func13, mf13_ok⟩
  · cases h; exact ⟨Try.f15, Try.func15, mf15_ok⟩
  · cases h; exact ⟨Try.f16, Try.func16, mf16_ok⟩
  · cases h; exact ⟨Try.f4, Try.func4, mf4_ok⟩
  · cases h; exact ⟨Try.f5, Try.func5, mf5_ok⟩
  · cases h; exact ⟨Try.f6, Try.func6, mf6_ok⟩
  · cases h; exact ⟨Try.f17, Try.func17, mf17_ok⟩
  · cases h; exact ⟨Try.f18, Try.func18, mf18_ok⟩
  · cases h; exact ⟨Try.f19, Try.func19, mf19_ok⟩
  · cases h; exact ⟨Try.f21, Try.func21, mf21_ok⟩
  · cases h; exact ⟨Try.f23, Try.func23, mf23_ok⟩
  · cases h; exact ⟨Try.f24, Try.func24, mf24_ok⟩
  · cases h; exact ⟨Try.f26, Try.func26, mf26_ok⟩
  · cases h; exact ⟨Try.f7, Try.func7, mf7_ok⟩
  · cases h; exact ⟨Try.f8, Try.func8, mf8_ok⟩
  · cases h
end Go.Proofs.Ytooddcjdaempeaa
