/- Short forms of functions, and that they are those functions. No condition. -/
import Derived.Test.YtkjghcbnmipgfaaGreatDoorVcEv
import Derived.Test.YtkjghcbnmipgfaaGreatDoorProg
namespace Go.Proofs.YtkjghcbnmipgfaaGreatDoor.Vc
open Go.RowKit

def F26 : Fn := ⟨20, 1, [.tmp 4],
 (.seq
  (.reg [⟨some 3, none, .box 0 3, [.t 1]⟩,
     ⟨some 4, none, .mov true, [.c (.p (.int .i64 0))]⟩])
  (.seq
  (.seq
   (.reg [⟨some 5, none, .mov true, [.c (.p (.int .i64 0))]⟩])
   (.block 0
   (.loop [1, 4, 6, 7, 8, 9, 10, 11, 12, 13, 14, 15, 16, 17, 18, 19] []
    (.seq
     (.seq
      (.reg [⟨some 6, none, .mov false, [.t 5]⟩,
         ⟨some 7, none, .mov false, [.t 0]⟩,
         ⟨some 8, none, .len, [.t 7]⟩,
         ⟨some 9, none, .bin .lss, [.t 6, .t 8]⟩])
      (.cond (.t 9)
      .skip
      (.exit 0)))
     (.seq
     (.block 1
      (.seq
       (.regd [⟨some 12, none, .mov false, [.t 0]⟩,
          ⟨some 13, none, .mov false, [.t 5]⟩,
          ⟨some 14, none, .iad 1, [.t 12, .t 13]⟩,
          ⟨some 15, none, .loadp 1 false, [.t 14]⟩,
          ⟨some 16, none, .at 0 (.load 3 true false), [.t 3]⟩,
          ⟨some 17, none, .pl (.call 49), [.t 15, .t 16]⟩,
          ⟨some 18, none, .pl (.call 34), [.t 17]⟩])
       (.cond (.t 18)
       (.seq
        (.reg [⟨some 19, none, .mov false, [.t 5]⟩,
           ⟨some 4, none, .mov true, [.t 19]⟩])
        .ret)
       .skip)))
     (.reg [⟨some 10, none, .mov false, [.t 5]⟩,
       ⟨some 11, none, .bin .add, [.t 10, .c (.p (.int .i64 1))]⟩,
       ⟨some 5, none, .mov true, [.t 11]⟩]))))))
  (.seq
  (.reg [⟨some 4, none, .mov true, [.c (.p (.int .i64 (-1)))]⟩])
  .ret)))⟩
-- a loop, at its head alive: [0, 3, 5]
theorem k26 : chkF Tryz.prog 26 F26 = true := by kernel_rfl
def F27 : Fn := ⟨89, 3, [.tmp 6],
 (.seq
  (.reg [⟨some 3, none, .box 0 5, [.t 0]⟩,
     ⟨some 4, none, .box 1 4, [.t 1]⟩,
     ⟨some 5, none, .box 2 2, [.t 2]⟩,
     ⟨some 6, none, .mov true, [.c (.p (.bool false))]⟩])
  (.seq
  (.seq
   (.reg [⟨some 8, none, .load 5 true false, [.t 3]⟩,
      ⟨some 9, none, .call 50, [.t 8]⟩,
      ⟨some 10, none, .un .not, [.t 9]⟩,
      ⟨some 11, none, .mov false, [.t 10]⟩,
      ⟨some 12, (some (11, false)), .load 5 true false, [.t 3]⟩,
      ⟨some 13, (some (11, false)), .load 4 true false, [.t 4]⟩,
      ⟨some 14, (some (11, false)), .call 51, [.t 12, .t 13]⟩,
      ⟨some 15, (some (11, false)), .un .not, [.t 14]⟩,
      ⟨some 16, none, .pick, [.t 11, .c (.p (.bool true)), .t 15]⟩,
      ⟨some 17, none, .mov false, [.t 16]⟩,
      ⟨some 18, (some (17, false)), .load 5 true false, [.t 3]⟩,
      ⟨some 19, (some (17, false)), .load 2 true false, [.t 5]⟩,
      ⟨some 20, (some (17, false)), .call 52, [.t 18, .t 19]⟩,
      ⟨some 21, (some (17, false)), .un .not, [.t 20]⟩,
      ⟨some 22, none, .pick, [.t 17, .c (.p (.bool true)), .t 21]⟩])
   (.cond (.t 22)
   (.seq
    (.reg [⟨some 6, none, .mov true, [.c (.p (.bool false))]⟩])
    .ret)
   .skip))
  (.seq
  (.reg [⟨some 23, none, .fad 1, [.t 5]⟩,
     ⟨some 24, none, .load 1 false false, [.t 23]⟩,
     ⟨some 25, none, .len, [.t 24]⟩,
     ⟨some 7, none, .mov true, [.t 25]⟩])
  (.seq
  (.seq
   (.reg [⟨some 26, none, .fad 0, [.t 5]⟩,
      ⟨some 27, none, .load 1 false false, [.t 26]⟩])
   (.block 0
   (.seq
    (.reg [⟨some 29, none, .bin .eql, [.t 27, .c (.p (.int .i64 1))]⟩,
       ⟨some 28, none, .mov true, [.t 29]⟩])
    (.cond (.t 28)
    (.seq
     (.regd [⟨some 30, none, .mov false, [.t 7]⟩,
        ⟨some 31, none, .bin .eql, [.t 30, .c (.p (.int .i64 1))]⟩,
        ⟨some 32, none, .mov false, [.t 31]⟩,
        ⟨some 33, (some (32, true)), .fad 1, [.t 5]⟩,
        ⟨some 34, (some (32, true)), .at 2 (.load 1 false false), [.t 33]⟩,
        ⟨some 35, (some (32, true)), .iad 4, [.t 34, .c (.p (.int .i64 0))]⟩,
        ⟨some 36, (some (32, true)), .fad 1, [.t 35]⟩,
        ⟨some 37, (some (32, true)), .loadp 1 false, [.t 36]⟩,
        ⟨some 38, (some (32, true)), .bin .eql, [.t 37, .c (.p (.int .i64 0))]⟩,
        ⟨some 39, none, .pick, [.t 32, .t 38, .c (.p (.bool false))]⟩,
        ⟨some 40, none, .mov false, [.t 39]⟩,
        ⟨some 41, (some (40, true)), .fad 1, [.t 5]⟩,
        ⟨some 42, (some (40, true)), .at 2 (.load 1 false false), [.t 41]⟩,
        ⟨some 43, (some (40, true)), .iad 4, [.t 42, .c (.p (.int .i64 0))]⟩,
        ⟨some 44, (some (40, true)), .fad 2, [.t 43]⟩,
        ⟨some 45, (some (40, true)), .loadp 1 false, [.t 44]⟩,
        ⟨some 46, (some (40, true)), .fad 1, [.t 4]⟩,
        ⟨some 47, (some (40, true)), .at 1 (.load 1 false false), [.t 46]⟩,
        ⟨some 48, (some (40, true)), .bin .eql, [.t 45, .t 47]⟩,
        ⟨some 49, none, .pick, [.t 40, .t 48, .c (.p (.bool false))]⟩,
        ⟨some 50, none, .mov false, [.t 49]⟩,
        ⟨some 51, (some (50, true)), .fad 1, [.t 5]⟩,
        ⟨some 52, (some (50, true)), .at 2 (.load 1 false false), [.t 51]⟩,
        ⟨some 53, (some (50, true)), .iad 4, [.t 52, .c (.p (.int .i64 0))]⟩,
        ⟨some 54, (some (50, true)), .fad 3, [.t 53]⟩,
        ⟨some 55, (some (50, true)), .loadp 1 false, [.t 54]⟩,
        ⟨some 56, (some (50, true)), .fad 0, [.t 4]⟩,
        ⟨some 57, (some (50, true)), .at 1 (.load 1 false false), [.t 56]⟩,
        ⟨some 58, (some (50, true)), .bin .eql, [.t 55, .t 57]⟩,
        ⟨some 59, none, .pick, [.t 50, .t 58, .c (.p (.bool false))]⟩,
        ⟨some 6, none, .mov true, [.t 59]⟩])
     .ret)
    (.seq
     (.reg [⟨some 61, none, .bin .eql, [.t 27, .c (.p (.int .i64 2))]⟩,
        ⟨some 60, none, .mov true, [.t 61]⟩])
     (.cond (.t 60)
     (.seq
      (.reg [⟨some 62, none, .load 5 true false, [.t 3]⟩,
         ⟨some 63, none, .load 4 true false, [.t 4]⟩,
         ⟨some 64, none, .load 2 true false, [.t 5]⟩,
         ⟨some 65, none, .call 53, [.t 62, .t 63, .t 64]⟩,
         ⟨some 6, none, .mov true, [.t 65]⟩])
      .ret)
     (.seq
      (.reg [⟨some 67, none, .bin .eql, [.t 27, .c (.p (.int .i64 3))]⟩,
         ⟨some 66, none, .mov true, [.t 67]⟩])
      (.cond (.t 66)
      (.seq
       (.regd [⟨some 68, none, .at 0 (.load 5 true false), [.t 3]⟩,
          ⟨some 69, none, .at 1 (.load 4 true false), [.t 4]⟩,
          ⟨some 70, none, .at 2 (.load 2 true false), [.t 5]⟩,
          ⟨some 71, none, .pl (.call 53), [.t 68, .t 69, .t 70]⟩,
          ⟨some 72, none, .mov false, [.t 71]⟩,
          ⟨some 73, (some (72, true)), .mov false, [.t 7]⟩,
          ⟨some 74, (some (72, true)), .bin .eql, [.t 73, .c (.p (.int .i64 2))]⟩,
          ⟨some 75, none, .pick, [.t 72, .t 74, .c (.p (.bool false))]⟩,
          ⟨some 76, none, .mov false, [.t 75]⟩,
          ⟨some 77, (some (76, true)), .fad 1, [.t 5]⟩,
          ⟨some 78, (some (76, true)), .at 2 (.load 1 false false), [.t 77]⟩,
          ⟨some 79, (some (76, true)), .iad 4, [.t 78, .c (.p (.int .i64 0))]⟩,
          ⟨some 80, (some (76, true)), .fad 2, [.t 79]⟩,
          ⟨some 81, (some (76, true)), .loadp 1 false, [.t 80]⟩,
          ⟨some 82, (some (76, true)), .fad 1, [.t 5]⟩,
          ⟨some 83, (some (76, true)), .at 2 (.load 1 false false), [.t 82]⟩,
          ⟨some 84, (some (76, true)), .iad 4, [.t 83, .c (.p (.int .i64 0))]⟩,
          ⟨some 85, (some (76, true)), .fad 3, [.t 84]⟩,
          ⟨some 86, (some (76, true)), .loadp 1 false, [.t 85]⟩,
          ⟨some 87, (some (76, true)), .bin .eql, [.t 81, .t 86]⟩,
          ⟨some 88, none, .pick, [.t 76, .t 87, .c (.p (.bool false))]⟩,
          ⟨some 6, none, .mov true, [.t 88]⟩])
       .ret)
      .skip))))))))
  (.seq
  (.reg [⟨some 6, none, .mov true, [.c (.p (.bool false))]⟩])
  .ret)))))⟩
theorem k27 : chkF Tryz.prog 27 F27 = true := by kernel_rfl
def F28 : Fn := ⟨64, 3, [.cell 6 2, .tmp 7],
 (.seq
  (.reg [⟨some 3, none, .box 0 5, [.t 0]⟩,
     ⟨some 5, none, .box 1 4, [.t 2]⟩,
     ⟨some 6, none, .alloc 2 2 [.p (.int .i64 0), .ow 4 true []], []⟩,
     ⟨some 7, none, .mov true, [.c (.p (.bool false))]⟩])
  (.seq
  (.seq
   (.reg [⟨some 12, none, .load 5 true false, [.t 3]⟩,
      ⟨some 13, none, .call 50, [.t 12]⟩,
      ⟨some 14, none, .un .not, [.t 13]⟩,
      ⟨some 15, none, .mov false, [.t 14]⟩,
      ⟨some 16, (some (15, false)), .load 5 true false, [.t 3]⟩,
      ⟨some 17, (some (15, false)), .load 4 true false, [.t 5]⟩,
      ⟨some 18, (some (15, false)), .call 51, [.t 16, .t 17]⟩,
      ⟨some 19, (some (15, false)), .un .not, [.t 18]⟩,
      ⟨some 20, none, .pick, [.t 15, .c (.p (.bool true)), .t 19]⟩,
      ⟨some 21, none, .mov false, [.t 20]⟩,
      ⟨some 22, (some (21, false)), .fad 3, [.t 5]⟩,
      ⟨some 23, (some (21, false)), .load 1 false false, [.t 22]⟩,
      ⟨some 24, (some (21, false)), .len, [.t 23]⟩,
      ⟨some 25, (some (21, false)), .bin .gtr, [.t 24, .c (.p (.int .i64 0))]⟩,
      ⟨some 26, none, .pick, [.t 21, .c (.p (.bool true)), .t 25]⟩,
      ⟨some 27, none, .mov false, [.t 26]⟩,
      ⟨some 28, (some (27, false)), .mov false, [.t 1]⟩,
      ⟨some 29, (some (27, false)), .len, [.t 28]⟩,
      ⟨some 30, (some (27, false)), .fad 0, [.t 3]⟩,
      ⟨some 31, (some (27, false)), .load 1 false false, [.t 30]⟩,
      ⟨some 32, (some (27, false)), .bin .neq, [.t 29, .t 31]⟩,
      ⟨some 33, none, .pick, [.t 27, .c (.p (.bool true)), .t 32]⟩])
   (.cond (.t 33)
   (.seq
    (.reg [⟨some 34, none, .build [.int .i64 0, .sl 4 true []] [], []⟩,
       ⟨none, none, .store 2, [.t 6, .t 34]⟩,
       ⟨some 7, none, .mov true, [.c (.p (.bool false))]⟩])
    .ret)
   .skip))
  (.seq
  (.seq
   (.reg [⟨some 8, none, .mov true, [.c (.p (.int .i64 2))]⟩])
   (.block 0
   (.loop [0, 2, 7, 9, 10, 11, 12, 13, 14, 15, 16, 17, 18, 19, 20, 21, 22, 23, 24, 25, 26, 27, 28, 29, 30, 31, 32, 33, 34, 35, 36, 37, 38, 39, 40, 41, 42, 43, 44, 45, 46, 47, 48, 49, 50, 51, 52, 53, 54, 55, 56, 57, 58, 59, 60, 61, 62, 63] []
    (.seq
     (.seq
      (.reg [⟨some 35, none, .mov false, [.t 8]⟩,
         ⟨some 36, none, .fad 0, [.t 3]⟩,
         ⟨some 37, none, .load 1 false false, [.t 36]⟩,
         ⟨some 38, none, .bin .leq, [.t 35, .t 37]⟩])
      (.cond (.t 38)
      .skip
      (.exit 0)))
     (.seq
     (.block 1
      (.seq
       (.reg [⟨some 41, none, .load 5 true false, [.t 3]⟩,
          ⟨some 42, none, .load 4 true false, [.t 5]⟩,
          ⟨some 43, none, .mov false, [.t 8]⟩,
          ⟨some 44, none, .call 30, [.t 41, .t 42, .t 43]⟩,
          ⟨some 9, none, .mov true, [.t 44]⟩])
       (.seq
       (.seq
        (.reg [⟨some 45, none, .mov false, [.t 9]⟩,
           ⟨some 46, none, .bin .eql, [.t 45, .c (.p (.int .i64 0))]⟩])
        (.cond (.t 46)
        (.exit 0)
        .skip))
       (.seq
       (.regd [⟨some 48, none, .at 0 (.load 5 true false), [.t 3]⟩,
          ⟨some 49, none, .at 1 (.load 4 true false), [.t 5]⟩,
          ⟨some 50, none, .mov false, [.t 9]⟩,
          ⟨some 51, none, .at 0 (.load 5 true false), [.t 3]⟩,
          ⟨some 52, none, .mov false, [.t 1]⟩,
          ⟨some 53, none, .at 1 (.load 4 true false), [.t 5]⟩,
          ⟨some 54, none, .mov false, [.t 8]⟩,
          ⟨some 55, none, .mov false, [.t 9]⟩,
          ⟨some 56, none, .pl (.call 55), [.t 51, .t 52, .t 53, .t 54, .t 55]⟩,
          ⟨some 57, none, .pl (.call 54), [.t 48, .t 49, .t 50, .t 56]⟩,
          ⟨some 47, none, .mov false, [.t 57]⟩,
          ⟨some 58, none, .extp 0, [.t 47]⟩,
          ⟨some 59, none, .extp 1, [.t 47]⟩,
          ⟨some 10, none, .mov true, [.t 58]⟩,
          ⟨some 11, none, .mov true, [.t 59]⟩])
       (.seq
       (.reg [⟨some 60, none, .mov false, [.t 11]⟩])
       (.cond (.t 60)
       (.seq
        (.reg [⟨some 61, none, .mov false, [.t 10]⟩,
           ⟨some 62, none, .build [.int .i64 0, .sl 4 true []] [(0, 1), (1, 1)], [.c (.p (.int .i64 2)), .t 61]⟩,
           ⟨none, none, .store 2, [.t 6, .t 62]⟩,
           ⟨some 7, none, .mov true, [.c (.p (.bool true))]⟩])
        .ret)
       .skip))))))
     (.reg [⟨some 39, none, .mov false, [.t 8]⟩,
       ⟨some 40, none, .bin .add, [.t 39, .c (.p (.int .i64 1))]⟩,
       ⟨some 8, none, .mov true, [.t 40]⟩]))))))
  (.seq
  (.reg [⟨some 63, none, .build [.int .i64 0, .sl 4 true []] [], []⟩,
     ⟨none, none, .store 2, [.t 6, .t 63]⟩,
     ⟨some 7, none, .mov true, [.c (.p (.bool false))]⟩])
  .ret))))⟩
-- a loop, at its head alive: [1, 3, 5, 6, 8]
theorem k28 : chkF Tryz.prog 28 F28 = true := by kernel_rfl
def F29 : Fn := ⟨125, 4, [.cell 6 2, .tmp 7],
 (.seq
  (.reg [⟨some 3, none, .box 0 5, [.t 0]⟩,
     ⟨some 5, none, .box 1 4, [.t 2]⟩,
     ⟨some 6, none, .alloc 2 2 [.p (.int .i64 0), .ow 4 true []], []⟩,
     ⟨some 7, none, .mov true, [.c (.p (.bool false))]⟩])
  (.seq
  (.seq
   (.reg [⟨some 8, none, .mov true, [.c (.p (.int .i64 2))]⟩])
   (.block 0
   (.loop [0, 2, 7, 9, 10, 11, 12, 13, 14, 15, 16, 17, 18, 19, 20, 21, 22, 23, 24, 25, 26, 27, 28, 29, 30, 31, 32, 33, 34, 35, 36, 37, 38, 39, 40, 41, 42, 43, 44, 45, 46, 47, 48, 49, 50, 51, 52, 53, 54, 55, 56, 57, 58, 59, 60, 61, 62, 63, 64, 65, 66, 67, 68, 69, 70, 71, 72, 73, 74, 75, 76, 77, 78, 79, 80, 81, 82, 83, 84, 85, 86, 87, 88, 89, 90, 91, 92, 93, 94, 95, 96, 97, 98, 99, 100, 101, 102, 103, 104, 105, 106, 107, 108, 109, 110, 111, 112, 113, 114, 115, 116, 117, 118, 119, 120, 121, 122, 123, 124] [3]
    (.seq
     (.seq
      (.reg [⟨some 18, none, .mov false, [.t 8]⟩,
         ⟨some 19, none, .fad 0, [.t 3]⟩,
         ⟨some 20, none, .load 1 false false, [.t 19]⟩,
         ⟨some 21, none, .bin .leq, [.t 18, .t 20]⟩,
         ⟨some 22, none, .mov false, [.t 21]⟩,
         ⟨some 23, (some (22, true)), .fad 3, [.t 5]⟩,
         ⟨some 24, (some (22, true)), .load 1 false false, [.t 23]⟩,
         ⟨some 25, (some (22, true)), .len, [.t 24]⟩,
         ⟨some 26, (some (22, true)), .bin .eql, [.t 25, .c (.p (.int .i64 0))]⟩,
         ⟨some 27, none, .pick, [.t 22, .t 26, .c (.p (.bool false))]⟩])
      (.cond (.t 27)
      .skip
      (.exit 0)))
     (.seq
     (.block 1
      (.seq
       (.reg [⟨some 30, none, .load 5 true false, [.t 3]⟩,
          ⟨some 31, none, .load 4 true false, [.t 5]⟩,
          ⟨some 32, none, .mov false, [.t 8]⟩,
          ⟨some 33, none, .call 31, [.t 30, .t 31, .t 32]⟩,
          ⟨some 9, none, .mov true, [.t 33]⟩])
       (.seq
       (.seq
        (.reg [⟨some 34, none, .mov false, [.t 9]⟩,
           ⟨some 35, none, .bin .eql, [.t 34, .c (.p (.int .i64 0))]⟩])
        (.cond (.t 35)
        (.exit 0)
        .skip))
       (.seq
       (.reg [⟨some 10, none, .mov true, [.c (.ow 1 true [])]⟩])
       (.seq
       (.seq
        (.reg [⟨some 11, none, .mov true, [.c (.p (.int .i64 0))]⟩])
        (.block 2
        (.loop [0, 2, 7, 12, 13, 14, 15, 16, 17, 18, 19, 20, 21, 22, 23, 24, 25, 26, 27, 28, 29, 30, 31, 32, 33, 34, 35, 36, 37, 38, 39, 40, 41, 42, 43, 44, 45, 46, 47, 48, 49, 50, 51, 52, 53, 54, 55, 56, 57, 58, 59, 60, 61, 62, 63, 64, 65, 66, 67, 68, 69, 70, 71, 72, 73, 74, 75, 76, 77, 78, 79, 80, 81, 82, 83, 84, 85, 86, 87, 88, 89, 90, 91, 92, 93, 94, 95, 96, 97, 98, 99, 100, 101, 102, 103, 104, 105, 106, 107, 108, 109, 110, 111, 112, 113, 114, 115, 116, 117, 118, 119, 120, 121, 122, 123, 124] []
         (.seq
          (.seq
           (.reg [⟨some 36, none, .mov false, [.t 11]⟩,
              ⟨some 37, none, .fad 0, [.t 3]⟩,
              ⟨some 38, none, .load 1 false false, [.t 37]⟩,
              ⟨some 39, none, .bin .lss, [.t 36, .t 38]⟩])
           (.cond (.t 39)
           .skip
           (.exit 2)))
          (.seq
          (.block 3
           (.regd [⟨some 42, none, .mov true, [.t 10]⟩,
              ⟨some 43, none, .mov false, [.t 1]⟩,
              ⟨some 44, none, .mov false, [.t 11]⟩,
              ⟨some 45, none, .iad 1, [.t 43, .t 44]⟩,
              ⟨some 46, none, .loadp 1 false, [.t 45]⟩,
              ⟨some 47, none, .mov false, [.t 9]⟩,
              ⟨some 48, none, .fad 2, [.t 5]⟩,
              ⟨some 49, none, .at 1 (.load 1 false false), [.t 48]⟩,
              ⟨some 50, none, .mov false, [.t 9]⟩,
              ⟨some 51, none, .pl (.call 56), [.t 46, .t 47, .t 49, .t 50]⟩,
              ⟨some 52, none, .bsl 1 1, [.t 51]⟩,
              ⟨some 53, none, .pl (.app 1 8), [.t 42, .t 52]⟩,
              ⟨some 10, none, .mov true, [.t 53]⟩]))
          (.reg [⟨some 40, none, .mov false, [.t 11]⟩,
            ⟨some 41, none, .bin .add, [.t 40, .c (.p (.int .i64 1))]⟩,
            ⟨some 11, none, .mov true, [.t 41]⟩]))))))
       (.seq
       (.reg [⟨some 54, none, .mov false, [.t 10]⟩,
          ⟨some 55, none, .mov false, [.t 8]⟩,
          ⟨some 56, none, .fad 3, [.t 3]⟩,
          ⟨some 57, none, .load 1 false false, [.t 56]⟩,
          ⟨some 58, none, .call 57, [.t 54, .t 55, .t 57]⟩,
          ⟨some 12, none, .mov true, [.t 58]⟩])
       (.seq
       (.reg [⟨some 59, none, .fad 0, [.t 5]⟩,
          ⟨some 60, none, .load 1 false false, [.t 59]⟩,
          ⟨some 13, none, .mov true, [.t 60]⟩])
       (.seq
       (.reg [⟨some 61, none, .build [.int .i64 0, .sl 4 true []] [(0, 1)], [.c (.p (.int .i64 2))]⟩,
          ⟨some 14, none, .alloc 3 2 [.p (.int .i64 0), .ow 4 true []], []⟩,
          ⟨none, none, .store 2, [.t 14, .t 61]⟩])
       (.seq
       (.seq
        (.reg [⟨some 15, none, .mov true, [.c (.p (.int .i64 0))]⟩])
        (.block 4
        (.loop [0, 2, 7, 11, 16, 17, 18, 19, 20, 21, 22, 23, 24, 25, 26, 27, 28, 29, 30, 31, 32, 33, 34, 35, 36, 37, 38, 39, 40, 41, 42, 43, 44, 45, 46, 47, 48, 49, 50, 51, 52, 53, 54, 55, 56, 57, 58, 59, 60, 61, 62, 63, 64, 65, 66, 67, 68, 69, 70, 71, 72, 73, 74, 75, 76, 77, 78, 79, 80, 81, 82, 83, 84, 85, 86, 87, 88, 89, 90, 91, 92, 93, 94, 95, 96, 97, 98, 99, 100, 101, 102, 103, 104, 105, 106, 107, 108, 109, 110, 111, 112, 113, 114, 115, 116, 117, 118, 119, 120, 121, 122, 123, 124] []
         (.seq
          (.seq
           (.reg [⟨some 62, none, .mov false, [.t 15]⟩,
              ⟨some 63, none, .mov false, [.t 12]⟩,
              ⟨some 64, none, .len, [.t 63]⟩,
              ⟨some 65, none, .bin .lss, [.t 62, .t 64]⟩,
              ⟨some 66, none, .mov false, [.t 65]⟩,
              ⟨some 67, (some (66, true)), .mov false, [.t 13]⟩,
              ⟨some 68, (some (66, true)), .bin .gtr, [.t 67, .c (.p (.int .i64 0))]⟩,
              ⟨some 69, none, .pick, [.t 66, .t 68, .c (.p (.bool false))]⟩])
           (.cond (.t 69)
           .skip
           (.exit 4)))
          (.seq
          (.block 5
           (.seq
            (.reg [⟨some 72, none, .fad 3, [.t 3]⟩,
               ⟨some 73, none, .load 1 false false, [.t 72]⟩,
               ⟨some 16, none, .mov true, [.t 73]⟩])
            (.seq
            (.seq
             (.reg [⟨some 74, none, .mov false, [.t 15]⟩,
                ⟨some 75, none, .bin .eql, [.t 74, .c (.p (.int .i64 0))]⟩])
             (.cond (.t 75)
             (.reg [⟨some 16, none, .mov true, [.c (.p (.int .i64 0))]⟩])
             .skip))
            (.seq
            (.reg [⟨some 76, none, .mov false, [.t 10]⟩,
               ⟨some 77, none, .mov false, [.t 12]⟩,
               ⟨some 78, none, .mov false, [.t 15]⟩,
               ⟨some 79, none, .iad 1, [.t 77, .t 78]⟩,
               ⟨some 80, none, .load 1 false false, [.t 79]⟩,
               ⟨some 81, none, .iad 1, [.t 76, .t 80]⟩,
               ⟨some 82, none, .load 1 false false, [.t 81]⟩,
               ⟨some 83, none, .mov false, [.t 16]⟩,
               ⟨some 84, none, .bin .sub, [.t 82, .t 83]⟩,
               ⟨some 85, none, .mov false, [.t 13]⟩,
               ⟨some 86, none, .mn, [.t 84, .t 85]⟩,
               ⟨some 17, none, .mov true, [.t 86]⟩])
            (.seq
            (.reg [⟨some 87, none, .mov false, [.t 13]⟩,
               ⟨some 88, none, .mov false, [.t 17]⟩,
               ⟨some 89, none, .bin .sub, [.t 87, .t 88]⟩,
               ⟨some 13, none, .mov true, [.t 89]⟩])
            (.regd [⟨some 90, none, .fad 1, [.t 14]⟩,
              ⟨some 91, none, .at 3 (.load 1 false true), [.t 90]⟩,
              ⟨some 92, none, .mov false, [.t 12]⟩,
              ⟨some 93, none, .mov false, [.t 15]⟩,
              ⟨some 94, none, .iad 1, [.t 92, .t 93]⟩,
              ⟨some 95, none, .loadp 1 false, [.t 94]⟩,
              ⟨some 96, none, .mov false, [.t 15]⟩,
              ⟨some 97, none, .mov false, [.t 9]⟩,
              ⟨some 98, none, .fad 2, [.t 3]⟩,
              ⟨some 99, none, .at 0 (.load 1 false false), [.t 98]⟩,
              ⟨some 100, none, .bin .add, [.t 97, .t 99]⟩,
              ⟨some 101, none, .bin .mul, [.t 96, .t 100]⟩,
              ⟨some 102, none, .mov false, [.t 9]⟩,
              ⟨some 103, none, .mov false, [.t 17]⟩,
              ⟨some 104, none, .mov false, [.t 16]⟩,
              ⟨some 105, none, .bin .add, [.t 103, .t 104]⟩,
              ⟨some 106, none, .build [.int .i64 0, .int .i64 0, .int .i64 0, .int .i64 0] [(0, 1), (1, 1), (2, 1), (3, 1)], [.t 95, .t 101, .t 102, .t 105]⟩,
              ⟨some 107, none, .bsl 4 1, [.t 106]⟩,
              ⟨some 108, none, .pl (.app 4 32), [.t 91, .t 107]⟩,
              ⟨some 109, none, .fad 1, [.t 14]⟩,
              ⟨none, none, .at 3 (.store 1), [.t 109, .t 108]⟩]))))))
          (.reg [⟨some 70, none, .mov false, [.t 15]⟩,
            ⟨some 71, none, .bin .add, [.t 70, .c (.p (.int .i64 1))]⟩,
            ⟨some 15, none, .mov true, [.t 71]⟩]))))))
       (.seq
       (.reg [⟨some 110, none, .mov false, [.t 12]⟩,
          ⟨some 111, none, .len, [.t 110]⟩,
          ⟨some 112, none, .bin .gtr, [.t 111, .c (.p (.int .i64 0))]⟩,
          ⟨some 113, none, .mov false, [.t 112]⟩,
          ⟨some 114, (some (113, true)), .mov false, [.t 13]⟩,
          ⟨some 115, (some (113, true)), .bin .eql, [.t 114, .c (.p (.int .i64 0))]⟩,
          ⟨some 116, none, .pick, [.t 113, .t 115, .c (.p (.bool false))]⟩,
          ⟨some 117, none, .mov false, [.t 116]⟩,
          ⟨some 118, (some (117, true)), .fad 1, [.t 14]⟩,
          ⟨some 119, (some (117, true)), .load 1 false false, [.t 118]⟩,
          ⟨some 120, (some (117, true)), .len, [.t 119]⟩,
          ⟨some 121, (some (117, true)), .bin .gtr, [.t 120, .c (.p (.int .i64 1))]⟩,
          ⟨some 122, none, .pick, [.t 117, .t 121, .c (.p (.bool false))]⟩])
       (.cond (.t 122)
       (.seq
        (.reg [⟨some 123, none, .load 2 true false, [.t 14]⟩,
           ⟨none, none, .store 2, [.t 6, .t 123]⟩,
           ⟨some 7, none, .mov true, [.c (.p (.bool true))]⟩])
        .ret)
       .skip)))))))))))
     (.reg [⟨some 28, none, .mov false, [.t 8]⟩,
       ⟨some 29, none, .bin .add, [.t 28, .c (.p (.int .i64 1))]⟩,
       ⟨some 8, none, .mov true, [.t 29]⟩]))))))
  (.seq
  (.reg [⟨some 124, none, .build [.int .i64 0, .sl 4 true []] [], []⟩,
     ⟨none, none, .store 2, [.t 6, .t 124]⟩,
     ⟨some 7, none, .mov true, [.c (.p (.bool false))]⟩])
  .ret)))⟩
-- a loop, at its head alive: [1, 3, 5, 6, 8]
-- a loop, at its head alive: [1, 3, 5, 6, 8, 9, 10, 11]
-- a loop, at its head alive: [1, 3, 5, 6, 8, 9, 10, 12, 13, 14, 15]
theorem k29 : chkF Tryz.prog 29 F29 = true := by kernel_rfl
def F30 : Fn := ⟨20, 2, [.tmp 6],
 (.seq
  (.reg [⟨some 3, none, .box 0 5, [.t 0]⟩,
     ⟨some 4, none, .box 1 4, [.t 1]⟩,
     ⟨some 6, none, .mov true, [.c (.p (.int .i64 0))]⟩])
  (.seq
  (.seq
   (.reg [⟨some 7, none, .mov false, [.t 2]⟩,
      ⟨some 8, none, .bin .lss, [.t 7, .c (.p (.int .i64 1))]⟩])
   (.cond (.t 8)
   (.seq
    (.reg [⟨some 6, none, .mov true, [.c (.p (.int .i64 0))]⟩])
    .ret)
   .skip))
  (.seq
  (.reg [⟨some 9, none, .fad 1, [.t 4]⟩,
     ⟨some 10, none, .load 1 false false, [.t 9]⟩,
     ⟨some 11, none, .mov false, [.t 2]⟩,
     ⟨some 12, none, .bin .sub, [.t 11, .c (.p (.int .i64 1))]⟩,
     ⟨some 13, none, .fad 2, [.t 3]⟩,
     ⟨some 14, none, .load 1 false false, [.t 13]⟩,
     ⟨some 15, none, .bin .mul, [.t 12, .t 14]⟩,
     ⟨some 16, none, .bin .sub, [.t 10, .t 15]⟩,
     ⟨some 17, none, .mov false, [.t 2]⟩,
     ⟨some 18, none, .call 58, [.t 16, .t 17]⟩,
     ⟨some 19, none, .mx, [.t 18, .c (.p (.int .i64 0))]⟩,
     ⟨some 6, none, .mov true, [.t 19]⟩])
  .ret)))⟩
theorem k30 : chkF Tryz.prog 30 F30 = true := by kernel_rfl
def F31 : Fn := ⟨26, 2, [.tmp 6],
 (.seq
  (.reg [⟨some 3, none, .box 0 5, [.t 0]⟩,
     ⟨some 4, none, .box 1 4, [.t 1]⟩,
     ⟨some 6, none, .mov true, [.c (.p (.int .i64 0))]⟩])
  (.seq
  (.reg [⟨some 8, none, .fad 1, [.t 4]⟩,
     ⟨some 9, none, .load 1 false false, [.t 8]⟩,
     ⟨some 10, none, .mov false, [.t 2]⟩,
     ⟨some 11, none, .bin .sub, [.t 10, .c (.p (.int .i64 1))]⟩,
     ⟨some 12, none, .fad 2, [.t 3]⟩,
     ⟨some 13, none, .load 1 false false, [.t 12]⟩,
     ⟨some 14, none, .bin .mul, [.t 11, .t 13]⟩,
     ⟨some 15, none, .bin .sub, [.t 9, .t 14]⟩,
     ⟨some 7, none, .mov true, [.t 15]⟩])
  (.seq
  (.seq
   (.reg [⟨some 16, none, .mov false, [.t 2]⟩,
      ⟨some 17, none, .bin .lss, [.t 16, .c (.p (.int .i64 1))]⟩,
      ⟨some 18, none, .mov false, [.t 17]⟩,
      ⟨some 19, (some (18, false)), .mov false, [.t 7]⟩,
      ⟨some 20, (some (18, false)), .mov false, [.t 2]⟩,
      ⟨some 21, (some (18, false)), .bin .lss, [.t 19, .t 20]⟩,
      ⟨some 22, none, .pick, [.t 18, .c (.p (.bool true)), .t 21]⟩])
   (.cond (.t 22)
   (.seq
    (.reg [⟨some 6, none, .mov true, [.c (.p (.int .i64 0))]⟩])
    .ret)
   .skip))
  (.seq
  (.reg [⟨some 23, none, .mov false, [.t 7]⟩,
     ⟨some 24, none, .mov false, [.t 2]⟩,
     ⟨some 25, none, .bin .quo, [.t 23, .t 24]⟩,
     ⟨some 6, none, .mov true, [.t 25]⟩])
  .ret))))⟩
theorem k31 : chkF Tryz.prog 31 F31 = true := by kernel_rfl
def F32 : Fn := ⟨62, 4, [.cell 6 2, .tmp 7],
 (.seq
  (.reg [⟨some 3, none, .box 0 5, [.t 0]⟩,
     ⟨some 5, none, .box 1 4, [.t 2]⟩,
     ⟨some 6, none, .alloc 2 2 [.p (.int .i64 0), .ow 4 true []], []⟩,
     ⟨some 7, none, .mov true, [.c (.p (.bool false))]⟩])
  (.seq
  (.seq
   (.reg [⟨some 12, none, .load 5 true false, [.t 3]⟩,
      ⟨some 13, none, .call 50, [.t 12]⟩,
      ⟨some 14, none, .un .not, [.t 13]⟩,
      ⟨some 15, none, .mov false, [.t 14]⟩,
      ⟨some 16, (some (15, false)), .load 5 true false, [.t 3]⟩,
      ⟨some 17, (some (15, false)), .load 4 true false, [.t 5]⟩,
      ⟨some 18, (some (15, false)), .call 51, [.t 16, .t 17]⟩,
      ⟨some 19, (some (15, false)), .un .not, [.t 18]⟩,
      ⟨some 20, none, .pick, [.t 15, .c (.p (.bool true)), .t 19]⟩,
      ⟨some 21, none, .mov false, [.t 20]⟩,
      ⟨some 22, (some (21, false)), .fad 3, [.t 5]⟩,
      ⟨some 23, (some (21, false)), .load 1 false false, [.t 22]⟩,
      ⟨some 24, (some (21, false)), .len, [.t 23]⟩,
      ⟨some 25, (some (21, false)), .bin .gtr, [.t 24, .c (.p (.int .i64 0))]⟩,
      ⟨some 26, none, .pick, [.t 21, .c (.p (.bool true)), .t 25]⟩,
      ⟨some 27, none, .mov false, [.t 26]⟩,
      ⟨some 28, (some (27, false)), .mov false, [.t 1]⟩,
      ⟨some 29, (some (27, false)), .len, [.t 28]⟩,
      ⟨some 30, (some (27, false)), .fad 0, [.t 3]⟩,
      ⟨some 31, (some (27, false)), .load 1 false false, [.t 30]⟩,
      ⟨some 32, (some (27, false)), .bin .neq, [.t 29, .t 31]⟩,
      ⟨some 33, none, .pick, [.t 27, .c (.p (.bool true)), .t 32]⟩])
   (.cond (.t 33)
   (.seq
    (.reg [⟨some 34, none, .build [.int .i64 0, .sl 4 true []] [], []⟩,
       ⟨none, none, .store 2, [.t 6, .t 34]⟩,
       ⟨some 7, none, .mov true, [.c (.p (.bool false))]⟩])
    .ret)
   .skip))
  (.seq
  (.seq
   (.reg [⟨some 35, none, .mov false, [.t 1]⟩,
      ⟨some 36, none, .len, [.t 35]⟩,
      ⟨some 37, none, .mov false, [.c (.p (.int .i64 0))]⟩])
   (.block 0
   (.loop [0, 2, 7, 8, 9, 10, 11, 12, 13, 14, 15, 16, 17, 18, 19, 20, 21, 22, 23, 24, 25, 26, 27, 28, 29, 30, 31, 32, 33, 34, 35, 38, 39, 40, 41, 42, 43, 44, 45, 46, 47, 48, 49, 50, 51, 52, 53, 54, 55, 56, 57, 58, 59, 60, 61] [3]
    (.seq
     (.reg [⟨some 38, none, .bin .lss, [.t 37, .t 36]⟩])
     (.seq
     (.cond (.t 38)
      .skip
      (.exit 0))
     (.seq
     (.block 1
      (.seq
       (.reg [⟨some 39, none, .mov false, [.t 37]⟩,
          ⟨some 8, none, .mov true, [.t 39]⟩])
       (.seq
       (.reg [⟨some 40, none, .mov false, [.t 1]⟩,
          ⟨some 41, none, .len, [.t 40]⟩,
          ⟨some 42, none, .mov false, [.c (.p (.int .i64 0))]⟩])
       (.block 2
       (.loop [0, 2, 7, 9, 10, 11, 12, 13, 14, 15, 16, 17, 18, 19, 20, 21, 22, 23, 24, 25, 26, 27, 28, 29, 30, 31, 32, 33, 34, 35, 38, 39, 40, 43, 44, 45, 46, 47, 48, 49, 50, 51, 52, 53, 54, 55, 56, 57, 58, 59, 60, 61] [3]
        (.seq
         (.reg [⟨some 43, none, .bin .lss, [.t 42, .t 41]⟩])
         (.seq
         (.cond (.t 43)
          .skip
          (.exit 2))
         (.seq
         (.block 3
          (.seq
           (.reg [⟨some 44, none, .mov false, [.t 42]⟩,
              ⟨some 9, none, .mov true, [.t 44]⟩])
           (.seq
           (.seq
            (.reg [⟨some 45, none, .mov false, [.t 8]⟩,
               ⟨some 46, none, .mov false, [.t 9]⟩,
               ⟨some 47, none, .bin .eql, [.t 45, .t 46]⟩])
            (.cond (.t 47)
            (.exit 3)
            .skip))
           (.seq
           (.reg [⟨some 49, none, .load 5 true false, [.t 3]⟩,
              ⟨some 50, none, .mov false, [.t 1]⟩,
              ⟨some 51, none, .load 4 true false, [.t 5]⟩,
              ⟨some 52, none, .mov false, [.t 8]⟩,
              ⟨some 53, none, .mov false, [.t 9]⟩,
              ⟨some 54, none, .call 59, [.t 49, .t 50, .t 51, .t 52, .t 53]⟩,
              ⟨some 48, none, .mov false, [.t 54]⟩,
              ⟨some 55, none, .ext 0, [.t 48]⟩,
              ⟨some 56, none, .ext 1, [.t 48]⟩,
              ⟨some 10, none, .alloc 3 2 [.p (.int .i64 0), .ow 4 true []], []⟩,
              ⟨none, none, .store 2, [.t 10, .t 55]⟩,
              ⟨some 11, none, .mov true, [.t 56]⟩])
           (.seq
           (.reg [⟨some 57, none, .mov false, [.t 11]⟩])
           (.cond (.t 57)
           (.seq
            (.reg [⟨some 58, none, .load 2 true false, [.t 10]⟩,
               ⟨none, none, .store 2, [.t 6, .t 58]⟩,
               ⟨some 7, none, .mov true, [.c (.p (.bool true))]⟩])
            .ret)
           .skip))))))
         (.reg [⟨some 59, none, .bin .add, [.t 42, .c (.p (.int .i64 1))]⟩,
           ⟨some 42, none, .mov false, [.t 59]⟩])))))))))
     (.reg [⟨some 60, none, .bin .add, [.t 37, .c (.p (.int .i64 1))]⟩,
       ⟨some 37, none, .mov false, [.t 60]⟩])))))))
  (.seq
  (.reg [⟨some 61, none, .build [.int .i64 0, .sl 4 true []] [], []⟩,
     ⟨none, none, .store 2, [.t 6, .t 61]⟩,
     ⟨some 7, none, .mov true, [.c (.p (.bool false))]⟩])
  .ret))))⟩
-- a loop, at its head alive: [1, 3, 5, 6, 36, 37]
-- a loop, at its head alive: [1, 3, 5, 6, 8, 36, 37, 41, 42]
theorem k32 : chkF Tryz.prog 32 F32 = true := by kernel_rfl
def F33 : Fn := ⟨95, 3, [.cell 6 2, .tmp 7],
 (.seq
  (.reg [⟨some 3, none, .box 0 5, [.t 0]⟩,
     ⟨some 5, none, .box 1 4, [.t 2]⟩,
     ⟨some 6, none, .alloc 2 2 [.p (.int .i64 0), .ow 4 true []], []⟩,
     ⟨some 7, none, .mov true, [.c (.p (.bool false))]⟩])
  (.seq
  (.seq
   (.reg [⟨some 8, none, .mov true, [.c (.p (.int .i64 0))]⟩])
   (.block 0
   (.loop [0, 2, 7, 9, 10, 11, 12, 13, 14, 15, 16, 17, 18, 19, 20, 21, 22, 23, 24, 25, 26, 27, 28, 29, 30, 31, 32, 33, 34, 35, 36, 37, 38, 39, 40, 41, 42, 43, 44, 45, 46, 47, 48, 49, 50, 51, 52, 53, 54, 55, 56, 57, 58, 59, 60, 61, 62, 63, 64, 65, 66, 67, 68, 69, 70, 71, 72, 73, 74, 75, 76, 77, 78, 79, 80, 81, 82, 83, 84, 85, 86, 87, 88, 89, 90, 91, 92, 93, 94] []
    (.seq
     (.seq
      (.reg [⟨some 13, none, .mov false, [.t 8]⟩,
         ⟨some 14, none, .fad 0, [.t 3]⟩,
         ⟨some 15, none, .load 1 false false, [.t 14]⟩,
         ⟨some 16, none, .bin .lss, [.t 13, .t 15]⟩,
         ⟨some 17, none, .mov false, [.t 16]⟩,
         ⟨some 18, (some (17, true)), .fad 3, [.t 5]⟩,
         ⟨some 19, (some (17, true)), .load 1 false false, [.t 18]⟩,
         ⟨some 20, (some (17, true)), .len, [.t 19]⟩,
         ⟨some 21, (some (17, true)), .bin .eql, [.t 20, .c (.p (.int .i64 0))]⟩,
         ⟨some 22, none, .pick, [.t 17, .t 21, .c (.p (.bool false))]⟩])
      (.cond (.t 22)
      .skip
      (.exit 0)))
     (.seq
     (.block 1
      (.seq
       (.reg [⟨some 9, none, .mov true, [.c (.p (.int .i64 0))]⟩])
       (.block 2
       (.loop [0, 2, 7, 10, 11, 12, 13, 14, 15, 16, 17, 18, 19, 20, 21, 22, 23, 24, 25, 26, 27, 28, 29, 30, 31, 32, 33, 34, 35, 36, 37, 38, 39, 40, 41, 42, 43, 44, 45, 46, 47, 48, 49, 50, 51, 52, 53, 54, 55, 56, 57, 58, 59, 60, 61, 62, 63, 64, 65, 66, 67, 68, 69, 70, 71, 72, 73, 74, 75, 76, 77, 78, 79, 80, 81, 82, 83, 84, 85, 86, 87, 88, 89, 90, 91, 92, 93, 94] []
        (.seq
         (.seq
          (.reg [⟨some 25, none, .mov false, [.t 9]⟩,
             ⟨some 26, none, .fad 0, [.t 3]⟩,
             ⟨some 27, none, .load 1 false false, [.t 26]⟩,
             ⟨some 28, none, .bin .lss, [.t 25, .t 27]⟩])
          (.cond (.t 28)
          .skip
          (.exit 2)))
         (.seq
         (.block 3
          (.seq
           (.regd [⟨some 31, none, .mov false, [.t 1]⟩,
              ⟨some 32, none, .mov false, [.t 8]⟩,
              ⟨some 33, none, .iad 1, [.t 31, .t 32]⟩,
              ⟨some 34, none, .loadp 1 false, [.t 33]⟩,
              ⟨some 35, none, .fad 2, [.t 5]⟩,
              ⟨some 36, none, .at 1 (.load 1 false false), [.t 35]⟩,
              ⟨some 37, none, .fad 0, [.t 5]⟩,
              ⟨some 38, none, .at 1 (.load 1 false false), [.t 37]⟩,
              ⟨some 39, none, .bin .sub, [.t 38, .c (.p (.int .i64 1))]⟩,
              ⟨some 40, none, .pl (.call 60), [.t 34, .t 36, .t 39]⟩,
              ⟨some 10, none, .mov true, [.t 40]⟩])
           (.seq
           (.regd [⟨some 41, none, .fad 0, [.t 5]⟩,
              ⟨some 42, none, .at 1 (.load 1 false false), [.t 41]⟩,
              ⟨some 43, none, .mov false, [.t 10]⟩,
              ⟨some 44, none, .bin .sub, [.t 42, .t 43]⟩,
              ⟨some 45, none, .fad 3, [.t 3]⟩,
              ⟨some 46, none, .at 0 (.load 1 false false), [.t 45]⟩,
              ⟨some 47, none, .bin .add, [.t 44, .t 46]⟩,
              ⟨some 48, none, .fad 1, [.t 5]⟩,
              ⟨some 49, none, .at 1 (.load 1 false false), [.t 48]⟩,
              ⟨some 50, none, .mov false, [.t 10]⟩,
              ⟨some 51, none, .bin .sub, [.t 49, .t 50]⟩,
              ⟨some 52, none, .fad 2, [.t 3]⟩,
              ⟨some 53, none, .at 0 (.load 1 false false), [.t 52]⟩,
              ⟨some 54, none, .bin .sub, [.t 51, .t 53]⟩,
              ⟨some 11, none, .mov true, [.t 47]⟩,
              ⟨some 12, none, .mov true, [.t 54]⟩])
           (.seq
           (.regd [⟨some 55, none, .mov false, [.t 8]⟩,
              ⟨some 56, none, .mov false, [.t 9]⟩,
              ⟨some 57, none, .bin .neq, [.t 55, .t 56]⟩,
              ⟨some 58, none, .mov false, [.t 57]⟩,
              ⟨some 59, (some (58, true)), .mov false, [.t 10]⟩,
              ⟨some 60, (some (58, true)), .bin .geq, [.t 59, .c (.p (.int .i64 1))]⟩,
              ⟨some 61, none, .pick, [.t 58, .t 60, .c (.p (.bool false))]⟩,
              ⟨some 62, none, .mov false, [.t 61]⟩,
              ⟨some 63, (some (62, true)), .mov false, [.t 11]⟩,
              ⟨some 64, (some (62, true)), .mov false, [.t 12]⟩,
              ⟨some 65, (some (62, true)), .bin .leq, [.t 63, .t 64]⟩,
              ⟨some 66, none, .pick, [.t 62, .t 65, .c (.p (.bool false))]⟩,
              ⟨some 67, none, .mov false, [.t 66]⟩,
              ⟨some 68, (some (67, true)), .mov false, [.t 1]⟩,
              ⟨some 69, (some (67, true)), .mov false, [.t 9]⟩,
              ⟨some 70, (some (67, true)), .iad 1, [.t 68, .t 69]⟩,
              ⟨some 71, (some (67, true)), .loadp 1 false, [.t 70]⟩,
              ⟨some 72, (some (67, true)), .mov false, [.t 11]⟩,
              ⟨some 73, (some (67, true)), .mov false, [.t 12]⟩,
              ⟨some 74, (some (67, true)), .fad 2, [.t 5]⟩,
              ⟨some 75, (some (67, true)), .at 1 (.load 1 false false), [.t 74]⟩,
              ⟨some 76, (some (67, true)), .build [.int .i64 0, .int .i64 0, .int .i64 0] [(0, 1), (1, 1), (2, 1)], [.t 72, .t 73, .t 75]⟩,
              ⟨some 77, (some (67, true)), .pl (.call 49), [.t 71, .t 76]⟩,
              ⟨some 78, (some (67, true)), .pl (.call 34), [.t 77]⟩,
              ⟨some 79, none, .pick, [.t 67, .t 78, .c (.p (.bool false))]⟩])
           (.cond (.t 79)
           (.seq
            (.reg [⟨some 80, none, .mov false, [.t 8]⟩,
               ⟨some 81, none, .mov false, [.t 10]⟩,
               ⟨some 82, none, .mov false, [.t 10]⟩,
               ⟨some 83, none, .build [.int .i64 0, .int .i64 0, .int .i64 0, .int .i64 0] [(0, 1), (2, 1), (3, 1)], [.t 80, .t 81, .t 82]⟩,
               ⟨some 84, none, .mov false, [.t 9]⟩,
               ⟨some 85, none, .mov false, [.t 10]⟩,
               ⟨some 86, none, .fad 2, [.t 3]⟩,
               ⟨some 87, none, .load 1 false false, [.t 86]⟩,
               ⟨some 88, none, .bin .add, [.t 85, .t 87]⟩,
               ⟨some 89, none, .mov false, [.t 12]⟩,
               ⟨some 90, none, .mov false, [.t 11]⟩,
               ⟨some 91, none, .build [.int .i64 0, .int .i64 0, .int .i64 0, .int .i64 0] [(0, 1), (1, 1), (2, 1), (3, 1)], [.t 84, .t 88, .t 89, .t 90]⟩,
               ⟨some 92, none, .bsl 4 2, [.t 83, .t 91]⟩,
               ⟨some 93, none, .build [.int .i64 0, .sl 4 true []] [(0, 1), (1, 1)], [.c (.p (.int .i64 3)), .t 92]⟩,
               ⟨none, none, .store 2, [.t 6, .t 93]⟩,
               ⟨some 7, none, .mov true, [.c (.p (.bool true))]⟩])
            .ret)
           .skip)))))
         (.reg [⟨some 29, none, .mov false, [.t 9]⟩,
           ⟨some 30, none, .bin .add, [.t 29, .c (.p (.int .i64 1))]⟩,
           ⟨some 9, none, .mov true, [.t 30]⟩])))))))
     (.reg [⟨some 23, none, .mov false, [.t 8]⟩,
       ⟨some 24, none, .bin .add, [.t 23, .c (.p (.int .i64 1))]⟩,
       ⟨some 8, none, .mov true, [.t 24]⟩]))))))
  (.seq
  (.reg [⟨some 94, none, .build [.int .i64 0, .sl 4 true []] [], []⟩,
     ⟨none, none, .store 2, [.t 6, .t 94]⟩,
     ⟨some 7, none, .mov true, [.c (.p (.bool false))]⟩])
  .ret)))⟩
-- a loop, at its head alive: [1, 3, 5, 6, 8]
-- a loop, at its head alive: [1, 3, 5, 6, 8, 9]
theorem k33 : chkF Tryz.prog 33 F33 = true := by kernel_rfl
def F34 : Fn := ⟨15, 0, [.tmp 2],
 (.seq
  (.reg [⟨some 2, none, .mov true, [.c (.p (.bool false))]⟩])
  (.seq
  (.reg [⟨some 6, none, .mov false, [.t 0]⟩,
     ⟨some 7, none, .call 61, [.t 6]⟩,
     ⟨some 5, none, .mov false, [.t 7]⟩,
     ⟨some 8, none, .ext 0, [.t 5]⟩,
     ⟨some 9, none, .ext 1, [.t 5]⟩,
     ⟨some 3, none, .mov true, [.t 8]⟩,
     ⟨some 4, none, .mov true, [.t 9]⟩])
  (.seq
  (.reg [⟨some 10, none, .mov false, [.t 4]⟩,
     ⟨some 11, none, .mov false, [.t 10]⟩,
     ⟨some 12, (some (11, true)), .mov false, [.t 3]⟩,
     ⟨some 13, (some (11, true)), .bin .eql, [.t 12, .c (.p (.int .i64 0))]⟩,
     ⟨some 14, none, .pick, [.t 11, .t 13, .c (.p (.bool false))]⟩,
     ⟨some 2, none, .mov true, [.t 14]⟩])
  .ret)))⟩
theorem k34 : chkF Tryz.prog 34 F34 = true := by kernel_rfl
def F35 : Fn := ⟨19, 2, [.tmp 2],
 (.seq
  (.reg [⟨some 1, none, .box 0 2, [.t 0]⟩,
     ⟨some 2, none, .mov true, [.c (.p (.int .i64 0))]⟩])
  (.seq
  (.reg [⟨some 3, none, .mov true, [.c (.p (.int .i64 0))]⟩])
  (.seq
  (.seq
   (.reg [⟨some 6, none, .fad 1, [.t 1]⟩,
      ⟨some 7, none, .load 1 false false, [.t 6]⟩,
      ⟨some 8, none, .len, [.t 7]⟩,
      ⟨some 9, none, .mov false, [.c (.p (.int .i64 0))]⟩])
   (.block 0
   (.loop [0, 1, 2, 5, 6, 10, 11, 12, 13, 14, 15, 16, 17, 18] [1]
    (.seq
     (.reg [⟨some 10, none, .bin .lss, [.t 9, .t 8]⟩])
     (.seq
     (.cond (.t 10)
      .skip
      (.exit 0))
     (.seq
     (.block 1
      (.seq
       (.reg [⟨some 11, none, .iad 4, [.t 7, .t 9]⟩,
          ⟨some 12, none, .load 4 true false, [.t 11]⟩,
          ⟨some 5, none, .alloc 1 4 [.p (.int .i64 0), .p (.int .i64 0), .p (.int .i64 0), .p (.int .i64 0)], []⟩,
          ⟨none, none, .store 4, [.t 5, .t 12]⟩])
       (.reg [⟨some 13, none, .mov false, [.t 3]⟩,
         ⟨some 14, none, .fad 3, [.t 5]⟩,
         ⟨some 15, none, .load 1 false false, [.t 14]⟩,
         ⟨some 16, none, .bin .add, [.t 13, .t 15]⟩,
         ⟨some 3, none, .mov true, [.t 16]⟩])))
     (.reg [⟨some 17, none, .bin .add, [.t 9, .c (.p (.int .i64 1))]⟩,
       ⟨some 9, none, .mov false, [.t 17]⟩])))))))
  (.seq
  (.reg [⟨some 18, none, .mov false, [.t 3]⟩,
     ⟨some 2, none, .mov true, [.t 18]⟩])
  .ret))))⟩
-- a loop, at its head alive: [3, 7, 8, 9]
theorem k35 : chkF Tryz.prog 35 F35 = true := by kernel_rfl
def F36 : Fn := ⟨171, 4, [.tmp 6],
 (.seq
  (.reg [⟨some 3, none, .box 0 5, [.t 0]⟩,
     ⟨some 4, none, .box 1 4, [.t 1]⟩,
     ⟨some 5, none, .box 2 2, [.t 2]⟩,
     ⟨some 6, none, .mov true, [.c (.p (.bool false))]⟩])
  (.seq
  (.reg [⟨some 12, none, .fad 1, [.t 5]⟩,
     ⟨some 13, none, .load 1 false false, [.t 12]⟩,
     ⟨some 14, none, .len, [.t 13]⟩,
     ⟨some 7, none, .mov true, [.t 14]⟩])
  (.seq
  (.reg [⟨some 8, none, .mov true, [.c (.p (.int .i64 0))]⟩])
  (.seq
  (.seq
   (.reg [⟨some 9, none, .mov true, [.c (.p (.int .i64 0))]⟩])
   (.block 0
   (.loop [0, 1, 2, 6, 10, 11, 12, 13, 14, 15, 16, 17, 18, 19, 20, 21, 22, 23, 24, 25, 26, 27, 28, 29, 30, 31, 32, 33, 34, 35, 36, 37, 38, 39, 40, 41, 42, 43, 44, 45, 46, 47, 48, 49, 50, 51, 52, 53, 54, 55, 56, 57, 58, 59, 60, 61, 62, 63, 64, 65, 66, 67, 68, 69, 70, 71, 72, 73, 74, 75, 76, 77, 78, 79, 80, 81, 82, 83, 84, 85, 86, 87, 88, 89, 90, 91, 92, 93, 94, 95, 96, 97, 98, 99, 100, 101, 102, 103, 104, 105, 106, 107, 108, 109, 110, 111, 112, 113, 114, 115, 116, 117, 118, 119, 120, 121, 122, 123, 124, 125, 126, 127, 128, 129, 130, 131, 132, 133, 134, 135, 136, 137, 138, 139, 140, 141, 142, 143, 144, 145, 146, 147, 148, 149, 150, 151, 152, 153, 154, 155, 156, 157, 158, 159, 160, 161, 162, 163, 164, 165, 166, 167, 168, 169, 170] [3]
    (.seq
     (.seq
      (.reg [⟨some 15, none, .mov false, [.t 9]⟩,
         ⟨some 16, none, .mov false, [.t 7]⟩,
         ⟨some 17, none, .bin .lss, [.t 15, .t 16]⟩])
      (.cond (.t 17)
      .skip
      (.exit 0)))
     (.seq
     (.block 1
      (.seq
       (.reg [⟨some 20, none, .fad 1, [.t 5]⟩,
          ⟨some 21, none, .load 1 false false, [.t 20]⟩,
          ⟨some 22, none, .mov false, [.t 9]⟩,
          ⟨some 23, none, .iad 4, [.t 21, .t 22]⟩,
          ⟨some 24, none, .load 4 true false, [.t 23]⟩,
          ⟨some 10, none, .alloc 3 4 [.p (.int .i64 0), .p (.int .i64 0), .p (.int .i64 0), .p (.int .i64 0)], []⟩,
          ⟨none, none, .store 4, [.t 10, .t 24]⟩])
       (.seq
       (.seq
        (.reg [⟨some 25, none, .load 5 true false, [.t 3]⟩,
           ⟨some 26, none, .load 4 true false, [.t 10]⟩,
           ⟨some 27, none, .call 62, [.t 25, .t 26]⟩,
           ⟨some 28, none, .un .not, [.t 27]⟩])
        (.cond (.t 28)
        (.seq
         (.reg [⟨some 6, none, .mov true, [.c (.p (.bool false))]⟩])
         .ret)
        .skip))
       (.seq
       (.reg [⟨some 29, none, .mov false, [.t 8]⟩,
          ⟨some 30, none, .fad 3, [.t 10]⟩,
          ⟨some 31, none, .load 1 false false, [.t 30]⟩,
          ⟨some 32, none, .bin .add, [.t 29, .t 31]⟩,
          ⟨some 8, none, .mov true, [.t 32]⟩])
       (.seq
       (.seq
        (.reg [⟨some 11, none, .mov true, [.c (.p (.int .i64 0))]⟩])
        (.block 2
        (.loop [0, 1, 2, 6, 12, 13, 14, 15, 16, 17, 18, 19, 20, 21, 22, 23, 24, 25, 26, 27, 28, 29, 30, 31, 32, 33, 34, 35, 36, 37, 38, 39, 40, 41, 42, 43, 44, 45, 46, 47, 48, 49, 50, 51, 52, 53, 54, 55, 56, 57, 58, 59, 60, 61, 62, 63, 64, 65, 66, 67, 68, 69, 70, 71, 72, 73, 74, 75, 76, 77, 78, 79, 80, 81, 82, 83, 84, 85, 86, 87, 88, 89, 90, 91, 92, 93, 94, 95, 96, 97, 98, 99, 100, 101, 102, 103, 104, 105, 106, 107, 108, 109, 110, 111, 112, 113, 114, 115, 116, 117, 118, 119, 120, 121, 122, 123, 124, 125, 126, 127, 128, 129, 130, 131, 132, 133, 134, 135, 136, 137, 138, 139, 140, 141, 142, 143, 144, 145, 146, 147, 148, 149, 150, 151, 152, 153, 154, 155, 156, 157, 158, 159, 160, 161, 162, 163, 164, 165, 166, 167, 168, 169, 170] []
         (.seq
          (.seq
           (.reg [⟨some 33, none, .mov false, [.t 11]⟩,
              ⟨some 34, none, .mov false, [.t 9]⟩,
              ⟨some 35, none, .bin .lss, [.t 33, .t 34]⟩])
           (.cond (.t 35)
           .skip
           (.exit 2)))
          (.seq
          (.block 3
           (.seq
            (.regd [⟨some 38, none, .fad 1, [.t 5]⟩,
               ⟨some 39, none, .at 2 (.load 1 false false), [.t 38]⟩,
               ⟨some 40, none, .mov false, [.t 11]⟩,
               ⟨some 41, none, .iad 4, [.t 39, .t 40]⟩,
               ⟨some 42, none, .fad 0, [.t 41]⟩,
               ⟨some 43, none, .loadp 1 false, [.t 42]⟩,
               ⟨some 44, none, .fad 0, [.t 10]⟩,
               ⟨some 45, none, .at 3 (.load 1 false false), [.t 44]⟩,
               ⟨some 46, none, .bin .eql, [.t 43, .t 45]⟩])
            (.cond (.t 46)
            (.seq
             (.reg [⟨some 6, none, .mov true, [.c (.p (.bool false))]⟩])
             .ret)
            .skip)))
          (.reg [⟨some 36, none, .mov false, [.t 11]⟩,
            ⟨some 37, none, .bin .add, [.t 36, .c (.p (.int .i64 1))]⟩,
            ⟨some 11, none, .mov true, [.t 37]⟩]))))))
       (.seq
       (.regd [⟨some 47, none, .mov false, [.t 9]⟩,
          ⟨some 48, none, .bin .eql, [.t 47, .c (.p (.int .i64 0))]⟩,
          ⟨some 49, none, .mov false, [.t 48]⟩,
          ⟨some 50, (some (49, true)), .fad 1, [.t 10]⟩,
          ⟨some 51, (some (49, true)), .at 3 (.load 1 false false), [.t 50]⟩,
          ⟨some 52, (some (49, true)), .bin .neq, [.t 51, .c (.p (.int .i64 0))]⟩,
          ⟨some 53, none, .pick, [.t 49, .t 52, .c (.p (.bool false))]⟩,
          ⟨some 54, none, .mov false, [.t 53]⟩,
          ⟨some 55, (some (54, false)), .mov false, [.t 9]⟩,
          ⟨some 56, (some (54, false)), .bin .gtr, [.t 55, .c (.p (.int .i64 0))]⟩,
          ⟨some 57, (some (54, false)), .mov false, [.t 56]⟩,
          ⟨some 58, (some (57, true)), .fad 1, [.t 10]⟩,
          ⟨some 59, (some (57, true)), .at 3 (.load 1 false false), [.t 58]⟩,
          ⟨some 60, (some (57, true)), .fad 1, [.t 5]⟩,
          ⟨some 61, (some (57, true)), .at 2 (.load 1 false false), [.t 60]⟩,
          ⟨some 62, (some (57, true)), .mov false, [.t 9]⟩,
          ⟨some 63, (some (57, true)), .bin .sub, [.t 62, .c (.p (.int .i64 1))]⟩,
          ⟨some 64, (some (57, true)), .iad 4, [.t 61, .t 63]⟩,
          ⟨some 65, (some (57, true)), .fad 1, [.t 64]⟩,
          ⟨some 66, (some (57, true)), .loadp 1 false, [.t 65]⟩,
          ⟨some 67, (some (57, true)), .fad 1, [.t 5]⟩,
          ⟨some 68, (some (57, true)), .at 2 (.load 1 false false), [.t 67]⟩,
          ⟨some 69, (some (57, true)), .mov false, [.t 9]⟩,
          ⟨some 70, (some (57, true)), .bin .sub, [.t 69, .c (.p (.int .i64 1))]⟩,
          ⟨some 71, (some (57, true)), .iad 4, [.t 68, .t 70]⟩,
          ⟨some 72, (some (57, true)), .fad 2, [.t 71]⟩,
          ⟨some 73, (some (57, true)), .loadp 1 false, [.t 72]⟩,
          ⟨some 74, (some (57, true)), .bin .add, [.t 66, .t 73]⟩,
          ⟨some 75, (some (57, true)), .fad 2, [.t 3]⟩,
          ⟨some 76, (some (57, true)), .at 0 (.load 1 false false), [.t 75]⟩,
          ⟨some 77, (some (57, true)), .bin .add, [.t 74, .t 76]⟩,
          ⟨some 78, (some (57, true)), .bin .lss, [.t 59, .t 77]⟩,
          ⟨some 79, (some (57, true)), .mov false, [.t 78]⟩,
          ⟨some 80, (some (79, false)), .fad 3, [.t 10]⟩,
          ⟨some 81, (some (79, false)), .at 3 (.load 1 false false), [.t 80]⟩,
          ⟨some 82, (some (79, false)), .fad 3, [.t 3]⟩,
          ⟨some 83, (some (79, false)), .at 0 (.load 1 false false), [.t 82]⟩,
          ⟨some 84, (some (79, false)), .bin .leq, [.t 81, .t 83]⟩,
          ⟨some 85, (some (57, true)), .pick, [.t 79, .c (.p (.bool true)), .t 84]⟩,
          ⟨some 86, (some (54, false)), .pick, [.t 57, .t 85, .c (.p (.bool false))]⟩,
          ⟨some 87, none, .pick, [.t 54, .c (.p (.bool true)), .t 86]⟩])
       (.cond (.t 87)
       (.seq
        (.reg [⟨some 6, none, .mov true, [.c (.p (.bool false))]⟩])
        .ret)
       .skip)))))))
     (.reg [⟨some 18, none, .mov false, [.t 9]⟩,
       ⟨some 19, none, .bin .add, [.t 18, .c (.p (.int .i64 1))]⟩,
       ⟨some 9, none, .mov true, [.t 19]⟩]))))))
  (.seq
  (.seq
   (.regd [⟨some 88, none, .mov false, [.t 7]⟩,
      ⟨some 89, none, .bin .eql, [.t 88, .c (.p (.int .i64 0))]⟩,
      ⟨some 90, none, .mov false, [.t 89]⟩,
      ⟨some 91, (some (90, false)), .mov false, [.t 8]⟩,
      ⟨some 92, (some (90, false)), .fad 0, [.t 4]⟩,
      ⟨some 93, (some (90, false)), .at 1 (.load 1 false false), [.t 92]⟩,
      ⟨some 94, (some (90, false)), .mov false, [.t 7]⟩,
      ⟨some 95, (some (90, false)), .bin .sub, [.t 94, .c (.p (.int .i64 1))]⟩,
      ⟨some 96, (some (90, false)), .fad 3, [.t 3]⟩,
      ⟨some 97, (some (90, false)), .at 0 (.load 1 false false), [.t 96]⟩,
      ⟨some 98, (some (90, false)), .bin .mul, [.t 95, .t 97]⟩,
      ⟨some 99, (some (90, false)), .bin .add, [.t 93, .t 98]⟩,
      ⟨some 100, (some (90, false)), .bin .neq, [.t 91, .t 99]⟩,
      ⟨some 101, none, .pick, [.t 90, .c (.p (.bool true)), .t 100]⟩,
      ⟨some 102, none, .mov false, [.t 101]⟩,
      ⟨some 103, (some (102, false)), .fad 1, [.t 5]⟩,
      ⟨some 104, (some (102, false)), .at 2 (.load 1 false false), [.t 103]⟩,
      ⟨some 105, (some (102, false)), .mov false, [.t 7]⟩,
      ⟨some 106, (some (102, false)), .bin .sub, [.t 105, .c (.p (.int .i64 1))]⟩,
      ⟨some 107, (some (102, false)), .iad 4, [.t 104, .t 106]⟩,
      ⟨some 108, (some (102, false)), .fad 1, [.t 107]⟩,
      ⟨some 109, (some (102, false)), .loadp 1 false, [.t 108]⟩,
      ⟨some 110, (some (102, false)), .fad 1, [.t 5]⟩,
      ⟨some 111, (some (102, false)), .at 2 (.load 1 false false), [.t 110]⟩,
      ⟨some 112, (some (102, false)), .mov false, [.t 7]⟩,
      ⟨some 113, (some (102, false)), .bin .sub, [.t 112, .c (.p (.int .i64 1))]⟩,
      ⟨some 114, (some (102, false)), .iad 4, [.t 111, .t 113]⟩,
      ⟨some 115, (some (102, false)), .fad 2, [.t 114]⟩,
      ⟨some 116, (some (102, false)), .loadp 1 false, [.t 115]⟩,
      ⟨some 117, (some (102, false)), .bin .add, [.t 109, .t 116]⟩,
      ⟨some 118, (some (102, false)), .fad 1, [.t 4]⟩,
      ⟨some 119, (some (102, false)), .at 1 (.load 1 false false), [.t 118]⟩,
      ⟨some 120, (some (102, false)), .bin .gtr, [.t 117, .t 119]⟩,
      ⟨some 121, none, .pick, [.t 102, .c (.p (.bool true)), .t 120]⟩])
   (.cond (.t 121)
   (.seq
    (.reg [⟨some 6, none, .mov true, [.c (.p (.bool false))]⟩])
    .ret)
   .skip))
  (.seq
  (.seq
   (.reg [⟨some 122, none, .fad 0, [.t 5]⟩,
      ⟨some 123, none, .load 1 false false, [.t 122]⟩])
   (.block 4
   (.seq
    (.reg [⟨some 125, none, .bin .eql, [.t 123, .c (.p (.int .i64 1))]⟩,
       ⟨some 124, none, .mov true, [.t 125]⟩])
    (.cond (.t 124)
    (.seq
     (.regd [⟨some 126, none, .mov false, [.t 7]⟩,
        ⟨some 127, none, .bin .eql, [.t 126, .c (.p (.int .i64 1))]⟩,
        ⟨some 128, none, .mov false, [.t 127]⟩,
        ⟨some 129, (some (128, true)), .fad 1, [.t 5]⟩,
        ⟨some 130, (some (128, true)), .at 2 (.load 1 false false), [.t 129]⟩,
        ⟨some 131, (some (128, true)), .iad 4, [.t 130, .c (.p (.int .i64 0))]⟩,
        ⟨some 132, (some (128, true)), .fad 2, [.t 131]⟩,
        ⟨some 133, (some (128, true)), .loadp 1 false, [.t 132]⟩,
        ⟨some 134, (some (128, true)), .fad 1, [.t 4]⟩,
        ⟨some 135, (some (128, true)), .at 1 (.load 1 false false), [.t 134]⟩,
        ⟨some 136, (some (128, true)), .bin .eql, [.t 133, .t 135]⟩,
        ⟨some 137, none, .pick, [.t 128, .t 136, .c (.p (.bool false))]⟩,
        ⟨some 6, none, .mov true, [.t 137]⟩])
     .ret)
    (.seq
     (.reg [⟨some 139, none, .bin .eql, [.t 123, .c (.p (.int .i64 2))]⟩,
        ⟨some 138, none, .mov true, [.t 139]⟩])
     (.cond (.t 138)
     (.seq
      (.reg [⟨some 140, none, .mov false, [.t 7]⟩,
         ⟨some 141, none, .bin .geq, [.t 140, .c (.p (.int .i64 2))]⟩,
         ⟨some 142, none, .mov false, [.t 141]⟩,
         ⟨some 143, (some (142, true)), .fad 3, [.t 4]⟩,
         ⟨some 144, (some (142, true)), .load 1 false false, [.t 143]⟩,
         ⟨some 145, (some (142, true)), .len, [.t 144]⟩,
         ⟨some 146, (some (142, true)), .bin .eql, [.t 145, .c (.p (.int .i64 0))]⟩,
         ⟨some 147, none, .pick, [.t 142, .t 146, .c (.p (.bool false))]⟩,
         ⟨some 6, none, .mov true, [.t 147]⟩])
      .ret)
     (.seq
      (.reg [⟨some 149, none, .bin .eql, [.t 123, .c (.p (.int .i64 3))]⟩,
         ⟨some 148, none, .mov true, [.t 149]⟩])
      (.cond (.t 148)
      (.seq
       (.regd [⟨some 150, none, .mov false, [.t 7]⟩,
          ⟨some 151, none, .bin .eql, [.t 150, .c (.p (.int .i64 2))]⟩,
          ⟨some 152, none, .mov false, [.t 151]⟩,
          ⟨some 153, (some (152, true)), .fad 3, [.t 4]⟩,
          ⟨some 154, (some (152, true)), .at 1 (.load 1 false false), [.t 153]⟩,
          ⟨some 155, (some (152, true)), .lenD, [.t 154]⟩,
          ⟨some 156, (some (152, true)), .bin .eql, [.t 155, .c (.p (.int .i64 0))]⟩,
          ⟨some 157, none, .pick, [.t 152, .t 156, .c (.p (.bool false))]⟩,
          ⟨some 158, none, .mov false, [.t 157]⟩,
          ⟨some 159, (some (158, true)), .fad 1, [.t 5]⟩,
          ⟨some 160, (some (158, true)), .at 2 (.load 1 false false), [.t 159]⟩,
          ⟨some 161, (some (158, true)), .iad 4, [.t 160, .c (.p (.int .i64 0))]⟩,
          ⟨some 162, (some (158, true)), .fad 2, [.t 161]⟩,
          ⟨some 163, (some (158, true)), .loadp 1 false, [.t 162]⟩,
          ⟨some 164, (some (158, true)), .fad 1, [.t 5]⟩,
          ⟨some 165, (some (158, true)), .at 2 (.load 1 false false), [.t 164]⟩,
          ⟨some 166, (some (158, true)), .iad 4, [.t 165, .c (.p (.int .i64 0))]⟩,
          ⟨some 167, (some (158, true)), .fad 3, [.t 166]⟩,
          ⟨some 168, (some (158, true)), .loadp 1 false, [.t 167]⟩,
          ⟨some 169, (some (158, true)), .bin .eql, [.t 163, .t 168]⟩,
          ⟨some 170, none, .pick, [.t 158, .t 169, .c (.p (.bool false))]⟩,
          ⟨some 6, none, .mov true, [.t 170]⟩])
       .ret)
      .skip))))))))
  (.seq
  (.reg [⟨some 6, none, .mov true, [.c (.p (.bool false))]⟩])
  .ret)))))))⟩
-- a loop, at its head alive: [3, 4, 5, 7, 8, 9]
-- a loop, at its head alive: [3, 4, 5, 7, 8, 9, 10, 11]
theorem k36 : chkF Tryz.prog 36 F36 = true := by kernel_rfl
def F37 : Fn := ⟨17, 2, [.tmp 4],
 (.seq
  (.reg [⟨some 2, none, .box 0 2, [.t 0]⟩,
     ⟨some 3, none, .box 1 2, [.t 1]⟩,
     ⟨some 4, none, .mov true, [.c (.p (.bool false))]⟩])
  (.seq
  (.reg [⟨some 5, none, .fad 0, [.t 2]⟩,
     ⟨some 6, none, .load 1 false false, [.t 5]⟩,
     ⟨some 7, none, .fad 0, [.t 3]⟩,
     ⟨some 8, none, .load 1 false false, [.t 7]⟩,
     ⟨some 9, none, .bin .eql, [.t 6, .t 8]⟩,
     ⟨some 10, none, .mov false, [.t 9]⟩,
     ⟨some 11, (some (10, true)), .fad 1, [.t 2]⟩,
     ⟨some 12, (some (10, true)), .load 1 false false, [.t 11]⟩,
     ⟨some 13, (some (10, true)), .fad 1, [.t 3]⟩,
     ⟨some 14, (some (10, true)), .load 1 false false, [.t 13]⟩,
     ⟨some 15, (some (10, true)), .call 63, [.t 12, .t 14]⟩,
     ⟨some 16, none, .pick, [.t 10, .t 15, .c (.p (.bool false))]⟩,
     ⟨some 4, none, .mov true, [.t 16]⟩])
  .ret))⟩
theorem k37 : chkF Tryz.prog 37 F37 = true := by kernel_rfl
def F38 : Fn := ⟨31, 1, [.tmp 6],
 (.seq
  (.reg [⟨some 3, none, .box 0 2, [.t 0]⟩,
     ⟨some 6, none, .mov true, [.c (.p (.int .i64 0))]⟩])
  (.seq
  (.seq
   (.reg [⟨some 7, none, .mov false, [.t 1]⟩,
      ⟨some 8, none, .bin .lss, [.t 7, .c (.p (.int .i64 0))]⟩,
      ⟨some 9, none, .mov false, [.t 8]⟩,
      ⟨some 10, (some (9, false)), .mov false, [.t 1]⟩,
      ⟨some 11, (some (9, false)), .fad 1, [.t 3]⟩,
      ⟨some 12, (some (9, false)), .load 1 false false, [.t 11]⟩,
      ⟨some 13, (some (9, false)), .len, [.t 12]⟩,
      ⟨some 14, (some (9, false)), .bin .geq, [.t 10, .t 13]⟩,
      ⟨some 15, none, .pick, [.t 9, .c (.p (.bool true)), .t 14]⟩])
   (.cond (.t 15)
   (.seq
    (.reg [⟨some 6, none, .mov true, [.c (.p (.int .i64 0))]⟩])
    .ret)
   .skip))
  (.seq
  (.regd [⟨some 16, none, .mov false, [.t 2]⟩,
     ⟨some 17, none, .fad 1, [.t 3]⟩,
     ⟨some 18, none, .at 0 (.load 1 false false), [.t 17]⟩,
     ⟨some 19, none, .mov false, [.t 1]⟩,
     ⟨some 20, none, .iad 4, [.t 18, .t 19]⟩,
     ⟨some 21, none, .fad 1, [.t 20]⟩,
     ⟨some 22, none, .loadp 1 false, [.t 21]⟩,
     ⟨some 23, none, .bin .add, [.t 16, .t 22]⟩,
     ⟨some 24, none, .fad 1, [.t 3]⟩,
     ⟨some 25, none, .at 0 (.load 1 false false), [.t 24]⟩,
     ⟨some 26, none, .mov false, [.t 1]⟩,
     ⟨some 27, none, .iad 4, [.t 25, .t 26]⟩,
     ⟨some 28, none, .fad 2, [.t 27]⟩,
     ⟨some 29, none, .loadp 1 false, [.t 28]⟩,
     ⟨some 30, none, .bin .add, [.t 23, .t 29]⟩,
     ⟨some 6, none, .mov true, [.t 30]⟩])
  .ret)))⟩
theorem k38 : chkF Tryz.prog 38 F38 = true := by kernel_rfl
def F39 : Fn := ⟨9, 0, [.tmp 2],
 (.seq
  (.reg [⟨some 2, none, .mov true, [.c (.ow 3 true [])]⟩])
  (.seq
  (.reg [⟨some 3, none, .mov false, [.t 0]⟩,
     ⟨some 4, none, .mov false, [.t 0]⟩,
     ⟨some 5, none, .len, [.t 4]⟩,
     ⟨some 6, none, .mn, [.t 5, .c (.p (.int .i64 10))]⟩,
     ⟨some 7, none, .slc 3 false true, [.t 3, .t 6]⟩,
     ⟨some 8, none, .app 3 24, [.c (.ow 3 true []), .t 7]⟩,
     ⟨some 2, none, .mov true, [.t 8]⟩])
  .ret))⟩
theorem k39 : chkF Tryz.prog 39 F39 = true := by kernel_rfl
def F40 : Fn := ⟨2, 0, [.tmp 0],
 (.seq
  (.reg [⟨some 0, none, .mov true, [.c (.p (.bool false))]⟩])
  (.seq
  (.reg [⟨some 1, none, .call 64, []⟩,
     ⟨some 0, none, .mov true, [.t 1]⟩])
  .ret))⟩
theorem k40 : chkF Tryz.prog 40 F40 = true := by kernel_rfl
def F41 : Fn := ⟨13, 2, [.cell 2 5],
 (.seq
  (.reg [⟨some 1, none, .box 0 5, [.t 0]⟩,
     ⟨some 2, none, .alloc 1 5 [.p (.int .i64 0), .p (.int .i64 0), .p (.int .i64 0), .p (.int .i64 0), .ow 1 true []], []⟩])
  (.seq
  (.reg [⟨some 3, none, .fad 4, [.t 1]⟩,
     ⟨some 4, none, .load 1 false false, [.t 3]⟩,
     ⟨some 5, none, .fad 4, [.t 1]⟩,
     ⟨some 6, none, .load 1 false false, [.t 5]⟩,
     ⟨some 7, none, .len, [.t 6]⟩,
     ⟨some 8, none, .mn, [.t 7, .c (.p (.int .i64 8))]⟩,
     ⟨some 9, none, .slc 1 false true, [.t 4, .t 8]⟩,
     ⟨some 10, none, .app 1 8, [.c (.ow 1 true []), .t 9]⟩,
     ⟨some 11, none, .fad 4, [.t 1]⟩,
     ⟨none, none, .store 1, [.t 11, .t 10]⟩])
  (.seq
  (.reg [⟨some 12, none, .load 5 true false, [.t 1]⟩,
     ⟨none, none, .store 5, [.t 2, .t 12]⟩])
  .ret)))⟩
theorem k41 : chkF Tryz.prog 41 F41 = true := by kernel_rfl
def F42 : Fn := ⟨51, 1, [.tmp 2],
 (.seq
  (.reg [⟨some 1, none, .box 0 5, [.t 0]⟩,
     ⟨some 2, none, .mov true, [.c (.p (.bool false))]⟩])
  (.seq
  (.seq
   (.reg [⟨some 3, none, .mov true, [.c (.p (.int .i64 0))]⟩])
   (.block 0
   (.loop [0, 2, 4, 5, 6, 7, 8, 9, 10, 11, 12, 13, 14, 15, 16, 17, 18, 19, 20, 21, 22, 23, 24, 25, 26, 27, 28, 29, 30, 31, 32, 33, 34, 35, 36, 37, 38, 39, 40, 41, 42, 43, 44, 45, 46, 47, 48, 49, 50] []
    (.seq
     (.seq
      (.reg [⟨some 4, none, .mov false, [.t 3]⟩,
         ⟨some 5, none, .fad 4, [.t 1]⟩,
         ⟨some 6, none, .load 1 false false, [.t 5]⟩,
         ⟨some 7, none, .len, [.t 6]⟩,
         ⟨some 8, none, .bin .lss, [.t 4, .t 7]⟩])
      (.cond (.t 8)
      .skip
      (.exit 0)))
     (.seq
     (.block 1
      (.seq
       (.regd [⟨some 11, none, .fad 4, [.t 1]⟩,
          ⟨some 12, none, .at 0 (.load 1 false false), [.t 11]⟩,
          ⟨some 13, none, .mov false, [.t 3]⟩,
          ⟨some 14, none, .iad 1, [.t 12, .t 13]⟩,
          ⟨some 15, none, .loadp 1 false, [.t 14]⟩,
          ⟨some 16, none, .bin .lss, [.t 15, .c (.p (.int .i64 0))]⟩,
          ⟨some 17, none, .mov false, [.t 16]⟩,
          ⟨some 18, (some (17, false)), .fad 4, [.t 1]⟩,
          ⟨some 19, (some (17, false)), .at 0 (.load 1 false false), [.t 18]⟩,
          ⟨some 20, (some (17, false)), .mov false, [.t 3]⟩,
          ⟨some 21, (some (17, false)), .iad 1, [.t 19, .t 20]⟩,
          ⟨some 22, (some (17, false)), .loadp 1 false, [.t 21]⟩,
          ⟨some 23, (some (17, false)), .fad 1, [.t 1]⟩,
          ⟨some 24, (some (17, false)), .at 0 (.load 1 false false), [.t 23]⟩,
          ⟨some 25, (some (17, false)), .bin .geq, [.t 22, .t 24]⟩,
          ⟨some 26, none, .pick, [.t 17, .c (.p (.bool true)), .t 25]⟩])
       (.cond (.t 26)
       (.seq
        (.reg [⟨some 2, none, .mov true, [.c (.p (.bool false))]⟩])
        .ret)
       .skip)))
     (.reg [⟨some 9, none, .mov false, [.t 3]⟩,
       ⟨some 10, none, .bin .add, [.t 9, .c (.p (.int .i64 1))]⟩,
       ⟨some 3, none, .mov true, [.t 10]⟩]))))))
  (.seq
  (.reg [⟨some 27, none, .fad 0, [.t 1]⟩,
     ⟨some 28, none, .load 1 false false, [.t 27]⟩,
     ⟨some 29, none, .call 65, [.t 28, .c (.p (.int .i64 1)), .c (.p (.int .i64 6))]⟩,
     ⟨some 30, none, .mov false, [.t 29]⟩,
     ⟨some 31, (some (30, true)), .fad 1, [.t 1]⟩,
     ⟨some 32, (some (30, true)), .load 1 false false, [.t 31]⟩,
     ⟨some 33, (some (30, true)), .call 65, [.t 32, .c (.p (.int .i64 0)), .c (.p (.int .i64 3))]⟩,
     ⟨some 34, none, .pick, [.t 30, .t 33, .c (.p (.bool false))]⟩,
     ⟨some 35, none, .mov false, [.t 34]⟩,
     ⟨some 36, (some (35, true)), .fad 2, [.t 1]⟩,
     ⟨some 37, (some (35, true)), .load 1 false false, [.t 36]⟩,
     ⟨some 38, (some (35, true)), .call 65, [.t 37, .c (.p (.int .i64 0)), .c (.p (.int .i64 5))]⟩,
     ⟨some 39, none, .pick, [.t 35, .t 38, .c (.p (.bool false))]⟩,
     ⟨some 40, none, .mov false, [.t 39]⟩,
     ⟨some 41, (some (40, true)), .fad 3, [.t 1]⟩,
     ⟨some 42, (some (40, true)), .load 1 false false, [.t 41]⟩,
     ⟨some 43, (some (40, true)), .call 65, [.t 42, .c (.p (.int .i64 0)), .c (.p (.int .i64 5))]⟩,
     ⟨some 44, none, .pick, [.t 40, .t 43, .c (.p (.bool false))]⟩,
     ⟨some 45, none, .mov false, [.t 44]⟩,
     ⟨some 46, (some (45, true)), .fad 4, [.t 1]⟩,
     ⟨some 47, (some (45, true)), .load 1 false false, [.t 46]⟩,
     ⟨some 48, (some (45, true)), .len, [.t 47]⟩,
     ⟨some 49, (some (45, true)), .bin .leq, [.t 48, .c (.p (.int .i64 6))]⟩,
     ⟨some 50, none, .pick, [.t 45, .t 49, .c (.p (.bool false))]⟩,
     ⟨some 2, none, .mov true, [.t 50]⟩])
  .ret)))⟩
-- a loop, at its head alive: [1, 3]
theorem k42 : chkF Tryz.prog 42 F42 = true := by kernel_rfl
def F43 : Fn := ⟨13, 2, [.cell 2 4],
 (.seq
  (.reg [⟨some 1, none, .box 0 4, [.t 0]⟩,
     ⟨some 2, none, .alloc 1 4 [.p (.int .i64 0), .p (.int .i64 0), .p (.int .i64 0), .ow 3 true []], []⟩])
  (.seq
  (.reg [⟨some 3, none, .fad 3, [.t 1]⟩,
     ⟨some 4, none, .load 1 false false, [.t 3]⟩,
     ⟨some 5, none, .fad 3, [.t 1]⟩,
     ⟨some 6, none, .load 1 false false, [.t 5]⟩,
     ⟨some 7, none, .len, [.t 6]⟩,
     ⟨some 8, none, .mn, [.t 7, .c (.p (.int .i64 4))]⟩,
     ⟨some 9, none, .slc 3 false true, [.t 4, .t 8]⟩,
     ⟨some 10, none, .app 3 24, [.c (.ow 3 true []), .t 9]⟩,
     ⟨some 11, none, .fad 3, [.t 1]⟩,
     ⟨none, none, .store 1, [.t 11, .t 10]⟩])
  (.seq
  (.reg [⟨some 12, none, .load 4 true false, [.t 1]⟩,
     ⟨none, none, .store 4, [.t 2, .t 12]⟩])
  .ret)))⟩
theorem k43 : chkF Tryz.prog 43 F43 = true := by kernel_rfl
def F44 : Fn := ⟨89, 3, [.tmp 4],
 (.seq
  (.reg [⟨some 2, none, .box 0 5, [.t 0]⟩,
     ⟨some 3, none, .box 1 4, [.t 1]⟩,
     ⟨some 4, none, .mov true, [.c (.p (.bool false))]⟩])
  (.seq
  (.seq
   (.reg [⟨some 7, none, .fad 0, [.t 3]⟩,
      ⟨some 8, none, .load 1 false false, [.t 7]⟩,
      ⟨some 9, none, .bin .lss, [.t 8, .c (.p (.int .i64 1))]⟩,
      ⟨some 10, none, .mov false, [.t 9]⟩,
      ⟨some 11, (some (10, false)), .fad 1, [.t 3]⟩,
      ⟨some 12, (some (10, false)), .load 1 false false, [.t 11]⟩,
      ⟨some 13, (some (10, false)), .fad 0, [.t 3]⟩,
      ⟨some 14, (some (10, false)), .load 1 false false, [.t 13]⟩,
      ⟨some 15, (some (10, false)), .bin .lss, [.t 12, .t 14]⟩,
      ⟨some 16, none, .pick, [.t 10, .c (.p (.bool true)), .t 15]⟩,
      ⟨some 17, none, .mov false, [.t 16]⟩,
      ⟨some 18, (some (17, false)), .fad 2, [.t 3]⟩,
      ⟨some 19, (some (17, false)), .load 1 false false, [.t 18]⟩,
      ⟨some 20, (some (17, false)), .fad 1, [.t 3]⟩,
      ⟨some 21, (some (17, false)), .load 1 false false, [.t 20]⟩,
      ⟨some 22, (some (17, false)), .bin .lss, [.t 19, .t 21]⟩,
      ⟨some 23, none, .pick, [.t 17, .c (.p (.bool true)), .t 22]⟩,
      ⟨some 24, none, .mov false, [.t 23]⟩,
      ⟨some 25, (some (24, false)), .fad 2, [.t 3]⟩,
      ⟨some 26, (some (24, false)), .load 1 false false, [.t 25]⟩,
      ⟨some 27, (some (24, false)), .bin .gtr, [.t 26, .c (.p (.int .i64 200))]⟩,
      ⟨some 28, none, .pick, [.t 24, .c (.p (.bool true)), .t 27]⟩,
      ⟨some 29, none, .mov false, [.t 28]⟩,
      ⟨some 30, (some (29, false)), .fad 3, [.t 3]⟩,
      ⟨some 31, (some (29, false)), .load 1 false false, [.t 30]⟩,
      ⟨some 32, (some (29, false)), .len, [.t 31]⟩,
      ⟨some 33, (some (29, false)), .bin .gtr, [.t 32, .c (.p (.int .i64 2))]⟩,
      ⟨some 34, none, .pick, [.t 29, .c (.p (.bool true)), .t 33]⟩])
   (.cond (.t 34)
   (.seq
    (.reg [⟨some 4, none, .mov true, [.c (.p (.bool false))]⟩])
    .ret)
   .skip))
  (.seq
  (.seq
   (.reg [⟨some 5, none, .mov true, [.c (.p (.int .i64 0))]⟩])
   (.block 0
   (.loop [0, 1, 4, 6, 7, 8, 9, 10, 11, 12, 13, 14, 15, 16, 17, 18, 19, 20, 21, 22, 23, 24, 25, 26, 27, 28, 29, 30, 31, 32, 33, 34, 35, 36, 37, 38, 39, 40, 41, 42, 43, 44, 45, 46, 47, 48, 49, 50, 51, 52, 53, 54, 55, 56, 57, 58, 59, 60, 61, 62, 63, 64, 65, 66, 67, 68, 69, 70, 71, 72, 73, 74, 75, 76, 77, 78, 79, 80, 81, 82, 83, 84, 85, 86, 87, 88] [2]
    (.seq
     (.seq
      (.reg [⟨some 35, none, .mov false, [.t 5]⟩,
         ⟨some 36, none, .fad 3, [.t 3]⟩,
         ⟨some 37, none, .load 1 false false, [.t 36]⟩,
         ⟨some 38, none, .len, [.t 37]⟩,
         ⟨some 39, none, .bin .lss, [.t 35, .t 38]⟩])
      (.cond (.t 39)
      .skip
      (.exit 0)))
     (.seq
     (.block 1
      (.seq
       (.reg [⟨some 42, none, .fad 3, [.t 3]⟩,
          ⟨some 43, none, .load 1 false false, [.t 42]⟩,
          ⟨some 44, none, .mov false, [.t 5]⟩,
          ⟨some 45, none, .iad 3, [.t 43, .t 44]⟩,
          ⟨some 46, none, .load 3 true false, [.t 45]⟩,
          ⟨some 6, none, .alloc 2 3 [.p (.int .i64 0), .p (.int .i64 0), .p (.int .i64 0)], []⟩,
          ⟨none, none, .store 3, [.t 6, .t 46]⟩])
       (.seq
       (.regd [⟨some 47, none, .fad 0, [.t 6]⟩,
          ⟨some 48, none, .at 2 (.load 1 false false), [.t 47]⟩,
          ⟨some 49, none, .bin .lss, [.t 48, .c (.p (.int .i64 0))]⟩,
          ⟨some 50, none, .mov false, [.t 49]⟩,
          ⟨some 51, (some (50, false)), .fad 0, [.t 6]⟩,
          ⟨some 52, (some (50, false)), .at 2 (.load 1 false false), [.t 51]⟩,
          ⟨some 53, (some (50, false)), .fad 4, [.t 2]⟩,
          ⟨some 54, (some (50, false)), .at 0 (.load 1 false false), [.t 53]⟩,
          ⟨some 55, (some (50, false)), .lenD, [.t 54]⟩,
          ⟨some 56, (some (50, false)), .bin .geq, [.t 52, .t 55]⟩,
          ⟨some 57, none, .pick, [.t 50, .c (.p (.bool true)), .t 56]⟩,
          ⟨some 58, none, .mov false, [.t 57]⟩,
          ⟨some 59, (some (58, false)), .fad 2, [.t 6]⟩,
          ⟨some 60, (some (58, false)), .at 2 (.load 1 false false), [.t 59]⟩,
          ⟨some 61, (some (58, false)), .pl (.call 65), [.t 60, .c (.p (.int .i64 1)), .c (.p (.int .i64 200))]⟩,
          ⟨some 62, (some (58, false)), .un .not, [.t 61]⟩,
          ⟨some 63, none, .pick, [.t 58, .c (.p (.bool true)), .t 62]⟩,
          ⟨some 64, none, .mov false, [.t 63]⟩,
          ⟨some 65, (some (64, false)), .fad 1, [.t 6]⟩,
          ⟨some 66, (some (64, false)), .at 2 (.load 1 false false), [.t 65]⟩,
          ⟨some 67, (some (64, false)), .fad 0, [.t 3]⟩,
          ⟨some 68, (some (64, false)), .at 1 (.load 1 false false), [.t 67]⟩,
          ⟨some 69, (some (64, false)), .bin .sub, [.t 68, .c (.p (.int .i64 1))]⟩,
          ⟨some 70, (some (64, false)), .pl (.call 65), [.t 66, .c (.p (.int .i64 1)), .t 69]⟩,
          ⟨some 71, (some (64, false)), .un .not, [.t 70]⟩,
          ⟨some 72, none, .pick, [.t 64, .c (.p (.bool true)), .t 71]⟩,
          ⟨some 73, none, .mov false, [.t 72]⟩,
          ⟨some 74, (some (73, false)), .mov false, [.t 5]⟩,
          ⟨some 75, (some (73, false)), .bin .gtr, [.t 74, .c (.p (.int .i64 0))]⟩,
          ⟨some 76, (some (73, false)), .mov false, [.t 75]⟩,
          ⟨some 77, (some (76, true)), .fad 1, [.t 6]⟩,
          ⟨some 78, (some (76, true)), .at 2 (.load 1 false false), [.t 77]⟩,
          ⟨some 79, (some (76, true)), .fad 3, [.t 3]⟩,
          ⟨some 80, (some (76, true)), .at 1 (.load 1 false false), [.t 79]⟩,
          ⟨some 81, (some (76, true)), .mov false, [.t 5]⟩,
          ⟨some 82, (some (76, true)), .bin .sub, [.t 81, .c (.p (.int .i64 1))]⟩,
          ⟨some 83, (some (76, true)), .iad 3, [.t 80, .t 82]⟩,
          ⟨some 84, (some (76, true)), .fad 1, [.t 83]⟩,
          ⟨some 85, (some (76, true)), .loadp 1 false, [.t 84]⟩,
          ⟨some 86, (some (76, true)), .bin .leq, [.t 78, .t 85]⟩,
          ⟨some 87, (some (73, false)), .pick, [.t 76, .t 86, .c (.p (.bool false))]⟩,
          ⟨some 88, none, .pick, [.t 73, .c (.p (.bool true)), .t 87]⟩])
       (.cond (.t 88)
       (.seq
        (.reg [⟨some 4, none, .mov true, [.c (.p (.bool false))]⟩])
        .ret)
       .skip))))
     (.reg [⟨some 40, none, .mov false, [.t 5]⟩,
       ⟨some 41, none, .bin .add, [.t 40, .c (.p (.int .i64 1))]⟩,
       ⟨some 5, none, .mov true, [.t 41]⟩]))))))
  (.seq
  (.reg [⟨some 4, none, .mov true, [.c (.p (.bool true))]⟩])
  .ret))))⟩
-- a loop, at its head alive: [2, 3, 5]
theorem k44 : chkF Tryz.prog 44 F44 = true := by kernel_rfl
def F45 : Fn := ⟨19, 0, [.tmp 4],
 (.seq
  (.reg [⟨some 4, none, .mov true, [.c (.p (.int .i64 0))]⟩])
  (.seq
  (.seq
   (.reg [⟨some 6, none, .mov false, [.t 0]⟩,
      ⟨some 7, none, .len, [.t 6]⟩,
      ⟨some 8, none, .mov false, [.c (.p (.int .i64 0))]⟩])
   (.block 0
   (.loop [4, 5, 6, 9, 10, 11, 12, 13, 14, 15, 16, 17, 18] []
    (.seq
     (.reg [⟨some 9, none, .bin .lss, [.t 8, .t 7]⟩])
     (.seq
     (.cond (.t 9)
      .skip
      (.exit 0))
     (.seq
     (.block 1
      (.seq
       (.reg [⟨some 10, none, .mov false, [.t 8]⟩,
          ⟨some 5, none, .mov true, [.t 10]⟩])
       (.seq
       (.reg [⟨some 11, none, .mov false, [.t 1]⟩,
          ⟨some 12, none, .mov false, [.t 0]⟩,
          ⟨some 13, none, .mov false, [.t 5]⟩,
          ⟨some 14, none, .iad 1, [.t 12, .t 13]⟩,
          ⟨some 15, none, .load 1 false false, [.t 14]⟩,
          ⟨some 16, none, .callv, [.t 11, .t 15]⟩])
       (.cond (.t 16)
       (.seq
        (.reg [⟨some 17, none, .mov false, [.t 5]⟩,
           ⟨some 4, none, .mov true, [.t 17]⟩])
        .ret)
       .skip))))
     (.reg [⟨some 18, none, .bin .add, [.t 8, .c (.p (.int .i64 1))]⟩,
       ⟨some 8, none, .mov false, [.t 18]⟩])))))))
  (.seq
  (.reg [⟨some 4, none, .mov true, [.c (.p (.int .i64 (-1)))]⟩])
  .ret)))⟩
-- a loop, at its head alive: [0, 1, 7, 8]
theorem k45 : chkF Tryz.prog 45 F45 = true := by kernel_rfl
def F46 : Fn := ⟨10, 0, [.tmp 3],
 (.seq
  (.reg [⟨some 3, none, .mov true, [.c (.p (.bool false))]⟩])
  (.seq
  (.regd [⟨some 4, none, .mov false, [.t 0]⟩,
     ⟨some 5, none, .pl (.call 48), [.t 4]⟩,
     ⟨some 6, none, .loadp 3 true, [.t 1]⟩,
     ⟨some 7, none, .bsl 3 1, [.t 6]⟩,
     ⟨some 8, none, .pl (.app 3 24), [.t 5, .t 7]⟩,
     ⟨some 9, none, .pl (.call 47), [.t 8]⟩,
     ⟨some 3, none, .mov true, [.t 9]⟩])
  .ret))⟩
theorem k46 : chkF Tryz.prog 46 F46 = true := by kernel_rfl
def F47 : Fn := ⟨22, 0, [.tmp 2],
 (.seq
  (.reg [⟨some 2, none, .mov true, [.c (.p (.bool false))]⟩])
  (.seq
  (.reg [⟨some 8, none, .mov false, [.t 0]⟩,
     ⟨some 9, none, .call 66, [.t 8]⟩,
     ⟨some 7, none, .mov false, [.t 9]⟩,
     ⟨some 10, none, .ext 0, [.t 7]⟩,
     ⟨some 11, none, .ext 1, [.t 7]⟩,
     ⟨some 3, none, .mov true, [.t 10]⟩,
     ⟨some 4, none, .mov true, [.t 11]⟩])
  (.seq
  (.reg [⟨some 13, none, .mov false, [.t 0]⟩,
     ⟨some 14, none, .call 67, [.t 13]⟩,
     ⟨some 12, none, .mov false, [.t 14]⟩,
     ⟨some 15, none, .ext 0, [.t 12]⟩,
     ⟨some 16, none, .ext 1, [.t 12]⟩,
     ⟨some 5, none, .mov true, [.t 15]⟩,
     ⟨some 6, none, .mov true, [.t 16]⟩])
  (.seq
  (.reg [⟨some 17, none, .mov false, [.t 4]⟩,
     ⟨some 18, none, .mov false, [.t 17]⟩,
     ⟨some 19, (some (18, true)), .mov false, [.t 6]⟩,
     ⟨some 20, (some (18, true)), .un .not, [.t 19]⟩,
     ⟨some 21, none, .pick, [.t 18, .t 20, .c (.p (.bool false))]⟩,
     ⟨some 2, none, .mov true, [.t 21]⟩])
  .ret))))⟩
theorem k47 : chkF Tryz.prog 47 F47 = true := by kernel_rfl
def F48 : Fn := ⟨8, 0, [.tmp 2],
 (.seq
  (.reg [⟨some 2, none, .mov true, [.c (.ow 3 true [])]⟩])
  (.seq
  (.seq
   (.reg [⟨some 3, none, .mov false, [.t 0]⟩,
      ⟨some 4, none, .eqnil false, [.t 3, .c (.ow 3 true [])]⟩])
   (.cond (.t 4)
   (.seq
    (.reg [⟨some 2, none, .mov true, [.c (.ow 3 true [])]⟩])
    .ret)
   .skip))
  (.seq
  (.reg [⟨some 5, none, .bsl 3 0, []⟩,
     ⟨some 6, none, .mov false, [.t 0]⟩,
     ⟨some 7, none, .app 3 24, [.t 5, .t 6]⟩,
     ⟨some 2, none, .mov true, [.t 7]⟩])
  .ret)))⟩
theorem k48 : chkF Tryz.prog 48 F48 = true := by kernel_rfl
def F49 : Fn := ⟨10, 1, [.tmp 4],
 (.seq
  (.reg [⟨some 3, none, .box 0 3, [.t 1]⟩,
     ⟨some 4, none, .mov true, [.c (.ow 3 true [])]⟩])
  (.seq
  (.regd [⟨some 5, none, .mov false, [.t 0]⟩,
     ⟨some 6, none, .pl (.app 3 24), [.c (.ow 3 true []), .t 5]⟩,
     ⟨some 7, none, .at 0 (.load 3 true false), [.t 3]⟩,
     ⟨some 8, none, .bsl 3 1, [.t 7]⟩,
     ⟨some 9, none, .pl (.app 3 24), [.t 6, .t 8]⟩,
     ⟨some 4, none, .mov true, [.t 9]⟩])
  .ret))⟩
theorem k49 : chkF Tryz.prog 49 F49 = true := by kernel_rfl
def F50 : Fn := ⟨38, 1, [.tmp 2],
 (.seq
  (.reg [⟨some 1, none, .box 0 5, [.t 0]⟩,
     ⟨some 2, none, .mov true, [.c (.p (.bool false))]⟩])
  (.seq
  (.seq
   (.reg [⟨some 4, none, .fad 0, [.t 1]⟩,
      ⟨some 5, none, .load 1 false false, [.t 4]⟩,
      ⟨some 6, none, .call 68, [.t 5, .c (.p (.int .i64 1)), .c (.p (.int .i64 6))]⟩,
      ⟨some 7, none, .un .not, [.t 6]⟩,
      ⟨some 8, none, .mov false, [.t 7]⟩,
      ⟨some 9, (some (8, false)), .fad 1, [.t 1]⟩,
      ⟨some 10, (some (8, false)), .load 1 false false, [.t 9]⟩,
      ⟨some 11, (some (8, false)), .call 68, [.t 10, .c (.p (.int .i64 0)), .c (.p (.int .i64 3))]⟩,
      ⟨some 12, (some (8, false)), .un .not, [.t 11]⟩,
      ⟨some 13, none, .pick, [.t 8, .c (.p (.bool true)), .t 12]⟩,
      ⟨some 14, none, .mov false, [.t 13]⟩,
      ⟨some 15, (some (14, false)), .fad 2, [.t 1]⟩,
      ⟨some 16, (some (14, false)), .load 1 false false, [.t 15]⟩,
      ⟨some 17, (some (14, false)), .call 68, [.t 16, .c (.p (.int .i64 0)), .c (.p (.int .i64 5))]⟩,
      ⟨some 18, (some (14, false)), .un .not, [.t 17]⟩,
      ⟨some 19, none, .pick, [.t 14, .c (.p (.bool true)), .t 18]⟩,
      ⟨some 20, none, .mov false, [.t 19]⟩,
      ⟨some 21, (some (20, false)), .fad 3, [.t 1]⟩,
      ⟨some 22, (some (20, false)), .load 1 false false, [.t 21]⟩,
      ⟨some 23, (some (20, false)), .call 68, [.t 22, .c (.p (.int .i64 0)), .c (.p (.int .i64 5))]⟩,
      ⟨some 24, (some (20, false)), .un .not, [.t 23]⟩,
      ⟨some 25, none, .pick, [.t 20, .c (.p (.bool true)), .t 24]⟩])
   (.cond (.t 25)
   (.seq
    (.reg [⟨some 2, none, .mov true, [.c (.p (.bool false))]⟩])
    .ret)
   .skip))
  (.seq
  (.pre [] [0] [] (.reg [⟨some 26, none, .mkfn 69, [.t 1]⟩,
     ⟨some 3, none, .mov true, [.t 26]⟩]))
  (.seq
  (.reg [⟨some 27, none, .fad 4, [.t 1]⟩,
     ⟨some 28, none, .load 1 false false, [.t 27]⟩,
     ⟨some 29, none, .len, [.t 28]⟩,
     ⟨some 30, none, .bin .leq, [.t 29, .c (.p (.int .i64 6))]⟩,
     ⟨some 31, none, .mov false, [.t 30]⟩,
     ⟨some 32, (some (31, true)), .fad 4, [.t 1]⟩,
     ⟨some 33, (some (31, true)), .load 1 false false, [.t 32]⟩,
     ⟨some 34, (some (31, true)), .mov false, [.t 3]⟩,
     ⟨some 35, (some (31, true)), .call 70, [.t 33, .t 34]⟩,
     ⟨some 36, (some (31, true)), .un .not, [.t 35]⟩,
     ⟨some 37, none, .pick, [.t 31, .t 36, .c (.p (.bool false))]⟩,
     ⟨some 2, none, .mov true, [.t 37]⟩])
  .ret))))⟩
theorem k50 : chkF Tryz.prog 50 F50 = true := by kernel_rfl
def F51 : Fn := ⟨76, 3, [.tmp 4],
 (.seq
  (.reg [⟨some 2, none, .box 0 5, [.t 0]⟩,
     ⟨some 3, none, .box 1 4, [.t 1]⟩,
     ⟨some 4, none, .mov true, [.c (.p (.bool false))]⟩])
  (.seq
  (.seq
   (.reg [⟨some 8, none, .fad 0, [.t 3]⟩,
      ⟨some 9, none, .load 1 false false, [.t 8]⟩,
      ⟨some 10, none, .bin .lss, [.t 9, .c (.p (.int .i64 1))]⟩,
      ⟨some 11, none, .mov false, [.t 10]⟩,
      ⟨some 12, (some (11, false)), .fad 0, [.t 3]⟩,
      ⟨some 13, (some (11, false)), .load 1 false false, [.t 12]⟩,
      ⟨some 14, (some (11, false)), .fad 1, [.t 3]⟩,
      ⟨some 15, (some (11, false)), .load 1 false false, [.t 14]⟩,
      ⟨some 16, (some (11, false)), .bin .gtr, [.t 13, .t 15]⟩,
      ⟨some 17, none, .pick, [.t 11, .c (.p (.bool true)), .t 16]⟩,
      ⟨some 18, none, .mov false, [.t 17]⟩,
      ⟨some 19, (some (18, false)), .fad 1, [.t 3]⟩,
      ⟨some 20, (some (18, false)), .load 1 false false, [.t 19]⟩,
      ⟨some 21, (some (18, false)), .fad 2, [.t 3]⟩,
      ⟨some 22, (some (18, false)), .load 1 false false, [.t 21]⟩,
      ⟨some 23, (some (18, false)), .bin .gtr, [.t 20, .t 22]⟩,
      ⟨some 24, none, .pick, [.t 18, .c (.p (.bool true)), .t 23]⟩,
      ⟨some 25, none, .mov false, [.t 24]⟩,
      ⟨some 26, (some (25, false)), .fad 2, [.t 3]⟩,
      ⟨some 27, (some (25, false)), .load 1 false false, [.t 26]⟩,
      ⟨some 28, (some (25, false)), .bin .gtr, [.t 27, .c (.p (.int .i64 200))]⟩,
      ⟨some 29, none, .pick, [.t 25, .c (.p (.bool true)), .t 28]⟩,
      ⟨some 30, none, .mov false, [.t 29]⟩,
      ⟨some 31, (some (30, false)), .fad 3, [.t 3]⟩,
      ⟨some 32, (some (30, false)), .load 1 false false, [.t 31]⟩,
      ⟨some 33, (some (30, false)), .len, [.t 32]⟩,
      ⟨some 34, (some (30, false)), .bin .gtr, [.t 33, .c (.p (.int .i64 2))]⟩,
      ⟨some 35, none, .pick, [.t 30, .c (.p (.bool true)), .t 34]⟩])
   (.cond (.t 35)
   (.seq
    (.reg [⟨some 4, none, .mov true, [.c (.p (.bool false))]⟩])
    .ret)
   .skip))
  (.seq
  (.reg [⟨some 5, none, .mov true, [.c (.p (.int .i64 0))]⟩])
  (.seq
  (.seq
   (.reg [⟨some 36, none, .fad 3, [.t 3]⟩,
      ⟨some 37, none, .load 1 false false, [.t 36]⟩,
      ⟨some 38, none, .len, [.t 37]⟩,
      ⟨some 39, none, .mov false, [.c (.p (.int .i64 0))]⟩])
   (.block 0
   (.loop [0, 1, 4, 7, 8, 9, 10, 11, 12, 13, 14, 15, 16, 17, 18, 19, 20, 21, 22, 23, 24, 25, 26, 27, 28, 29, 30, 31, 32, 33, 34, 35, 36, 40, 41, 42, 43, 44, 45, 46, 47, 48, 49, 50, 51, 52, 53, 54, 55, 56, 57, 58, 59, 60, 61, 62, 63, 64, 65, 66, 67, 68, 69, 70, 71, 72, 73, 74, 75] [2]
    (.seq
     (.reg [⟨some 40, none, .bin .lss, [.t 39, .t 38]⟩])
     (.seq
     (.cond (.t 40)
      .skip
      (.exit 0))
     (.seq
     (.block 1
      (.seq
       (.reg [⟨some 41, none, .iad 3, [.t 37, .t 39]⟩,
          ⟨some 42, none, .load 3 true false, [.t 41]⟩,
          ⟨some 7, none, .alloc 2 3 [.p (.int .i64 0), .p (.int .i64 0), .p (.int .i64 0)], []⟩,
          ⟨none, none, .store 3, [.t 7, .t 42]⟩])
       (.seq
       (.seq
        (.reg [⟨some 43, none, .fad 0, [.t 7]⟩,
           ⟨some 44, none, .load 1 false false, [.t 43]⟩,
           ⟨some 45, none, .bin .lss, [.t 44, .c (.p (.int .i64 0))]⟩,
           ⟨some 46, none, .mov false, [.t 45]⟩,
           ⟨some 47, (some (46, false)), .fad 0, [.t 7]⟩,
           ⟨some 48, (some (46, false)), .load 1 false false, [.t 47]⟩,
           ⟨some 49, (some (46, false)), .fad 4, [.t 2]⟩,
           ⟨some 50, (some (46, false)), .load 1 false false, [.t 49]⟩,
           ⟨some 51, (some (46, false)), .len, [.t 50]⟩,
           ⟨some 52, (some (46, false)), .bin .geq, [.t 48, .t 51]⟩,
           ⟨some 53, none, .pick, [.t 46, .c (.p (.bool true)), .t 52]⟩,
           ⟨some 54, none, .mov false, [.t 53]⟩,
           ⟨some 55, (some (54, false)), .fad 2, [.t 7]⟩,
           ⟨some 56, (some (54, false)), .load 1 false false, [.t 55]⟩,
           ⟨some 57, (some (54, false)), .call 68, [.t 56, .c (.p (.int .i64 1)), .c (.p (.int .i64 200))]⟩,
           ⟨some 58, (some (54, false)), .un .not, [.t 57]⟩,
           ⟨some 59, none, .pick, [.t 54, .c (.p (.bool true)), .t 58]⟩,
           ⟨some 60, none, .mov false, [.t 59]⟩,
           ⟨some 61, (some (60, false)), .fad 1, [.t 7]⟩,
           ⟨some 62, (some (60, false)), .load 1 false false, [.t 61]⟩,
           ⟨some 63, (some (60, false)), .mov false, [.t 5]⟩,
           ⟨some 64, (some (60, false)), .bin .leq, [.t 62, .t 63]⟩,
           ⟨some 65, none, .pick, [.t 60, .c (.p (.bool true)), .t 64]⟩,
           ⟨some 66, none, .mov false, [.t 65]⟩,
           ⟨some 67, (some (66, false)), .fad 1, [.t 7]⟩,
           ⟨some 68, (some (66, false)), .load 1 false false, [.t 67]⟩,
           ⟨some 69, (some (66, false)), .fad 0, [.t 3]⟩,
           ⟨some 70, (some (66, false)), .load 1 false false, [.t 69]⟩,
           ⟨some 71, (some (66, false)), .bin .geq, [.t 68, .t 70]⟩,
           ⟨some 72, none, .pick, [.t 66, .c (.p (.bool true)), .t 71]⟩])
        (.cond (.t 72)
        (.seq
         (.reg [⟨some 4, none, .mov true, [.c (.p (.bool false))]⟩])
         .ret)
        .skip))
       (.reg [⟨some 73, none, .fad 1, [.t 7]⟩,
         ⟨some 74, none, .load 1 false false, [.t 73]⟩,
         ⟨some 5, none, .mov true, [.t 74]⟩]))))
     (.reg [⟨some 75, none, .bin .add, [.t 39, .c (.p (.int .i64 1))]⟩,
       ⟨some 39, none, .mov false, [.t 75]⟩])))))))
  (.seq
  (.reg [⟨some 4, none, .mov true, [.c (.p (.bool true))]⟩])
  .ret)))))⟩
-- a loop, at its head alive: [2, 3, 5, 37, 38, 39]
theorem k51 : chkF Tryz.prog 51 F51 = true := by kernel_rfl
def F52 : Fn := ⟨30, 4, [.tmp 4],
 (.seq
  (.reg [⟨some 2, none, .box 0 5, [.t 0]⟩,
     ⟨some 3, none, .box 1 2, [.t 1]⟩,
     ⟨some 4, none, .mov true, [.c (.p (.bool false))]⟩])
  (.seq
  (.reg [⟨some 8, none, .mkmap 2, []⟩,
     ⟨some 5, none, .mov true, [.t 8]⟩])
  (.seq
  (.seq
   (.reg [⟨some 9, none, .fad 1, [.t 3]⟩,
      ⟨some 10, none, .load 1 false false, [.t 9]⟩,
      ⟨some 11, none, .len, [.t 10]⟩,
      ⟨some 12, none, .mov false, [.c (.p (.int .i64 0))]⟩])
   (.block 0
   (.loop [0, 1, 3, 4, 7, 8, 9, 13, 14, 15, 16, 17, 18, 19, 20, 21, 22, 23, 24, 25, 26, 27, 28, 29] [3]
    (.seq
     (.reg [⟨some 13, none, .bin .lss, [.t 12, .t 11]⟩])
     (.seq
     (.cond (.t 13)
      .skip
      (.exit 0))
     (.seq
     (.block 1
      (.seq
       (.reg [⟨some 14, none, .iad 4, [.t 10, .t 12]⟩,
          ⟨some 15, none, .load 4 true false, [.t 14]⟩,
          ⟨some 7, none, .alloc 3 4 [.p (.int .i64 0), .p (.int .i64 0), .p (.int .i64 0), .p (.int .i64 0)], []⟩,
          ⟨none, none, .store 4, [.t 7, .t 15]⟩])
       (.seq
       (.seq
        (.reg [⟨some 16, none, .load 5 true false, [.t 2]⟩,
           ⟨some 17, none, .load 4 true false, [.t 7]⟩,
           ⟨some 18, none, .call 71, [.t 16, .t 17]⟩,
           ⟨some 19, none, .un .not, [.t 18]⟩,
           ⟨some 20, none, .mov false, [.t 19]⟩,
           ⟨some 21, (some (20, false)), .mov false, [.t 5]⟩,
           ⟨some 22, (some (20, false)), .fad 0, [.t 7]⟩,
           ⟨some 23, (some (20, false)), .load 1 false false, [.t 22]⟩,
           ⟨some 24, (some (20, false)), .look .i64 (.bool false), [.t 21, .t 23]⟩,
           ⟨some 25, none, .pick, [.t 20, .c (.p (.bool true)), .t 24]⟩])
        (.cond (.t 25)
        (.seq
         (.reg [⟨some 4, none, .mov true, [.c (.p (.bool false))]⟩])
         .ret)
        .skip))
       (.reg [⟨some 26, none, .mov false, [.t 5]⟩,
         ⟨some 27, none, .fad 0, [.t 7]⟩,
         ⟨some 28, none, .load 1 false false, [.t 27]⟩,
         ⟨none, none, .mupd .i64, [.t 26, .t 28, .c (.p (.bool true))]⟩]))))
     (.reg [⟨some 29, none, .bin .add, [.t 12, .c (.p (.int .i64 1))]⟩,
       ⟨some 12, none, .mov false, [.t 29]⟩])))))))
  (.seq
  (.reg [⟨some 4, none, .mov true, [.c (.p (.bool true))]⟩])
  .ret))))⟩
-- a loop, at its head alive: [2, 5, 10, 11, 12]
theorem k52 : chkF Tryz.prog 52 F52 = true := by kernel_rfl
def F53 : Fn := ⟨92, 6, [.tmp 6],
 (.seq
  (.reg [⟨some 3, none, .box 0 5, [.t 0]⟩,
     ⟨some 4, none, .box 1 4, [.t 1]⟩,
     ⟨some 5, none, .box 2 2, [.t 2]⟩,
     ⟨some 6, none, .mov true, [.c (.p (.bool false))]⟩])
  (.seq
  (.reg [⟨some 12, none, .fad 1, [.t 5]⟩,
     ⟨some 13, none, .load 1 false false, [.t 12]⟩,
     ⟨some 14, none, .len, [.t 13]⟩,
     ⟨some 7, none, .mov true, [.t 14]⟩])
  (.seq
  (.seq
   (.reg [⟨some 15, none, .fad 3, [.t 4]⟩,
      ⟨some 16, none, .load 1 false false, [.t 15]⟩,
      ⟨some 17, none, .len, [.t 16]⟩,
      ⟨some 18, none, .bin .gtr, [.t 17, .c (.p (.int .i64 0))]⟩,
      ⟨some 19, none, .mov false, [.t 18]⟩,
      ⟨some 20, (some (19, false)), .mov false, [.t 7]⟩,
      ⟨some 21, (some (19, false)), .bin .lss, [.t 20, .c (.p (.int .i64 2))]⟩,
      ⟨some 22, none, .pick, [.t 19, .c (.p (.bool true)), .t 21]⟩,
      ⟨some 23, none, .mov false, [.t 22]⟩,
      ⟨some 24, (some (23, false)), .fad 1, [.t 5]⟩,
      ⟨some 25, (some (23, false)), .load 1 false false, [.t 24]⟩,
      ⟨some 26, (some (23, false)), .iad 4, [.t 25, .c (.p (.int .i64 0))]⟩,
      ⟨some 27, (some (23, false)), .fad 1, [.t 26]⟩,
      ⟨some 28, (some (23, false)), .load 1 false false, [.t 27]⟩,
      ⟨some 29, (some (23, false)), .bin .neq, [.t 28, .c (.p (.int .i64 0))]⟩,
      ⟨some 30, none, .pick, [.t 23, .c (.p (.bool true)), .t 29]⟩])
   (.cond (.t 30)
   (.seq
    (.reg [⟨some 6, none, .mov true, [.c (.p (.bool false))]⟩])
    .ret)
   .skip))
  (.seq
  (.seq
   (.reg [⟨some 8, none, .mov true, [.c (.p (.int .i64 1))]⟩])
   (.block 0
   (.loop [0, 1, 2, 6, 9, 10, 11, 12, 13, 14, 15, 16, 17, 18, 19, 20, 21, 22, 23, 24, 25, 26, 27, 28, 29, 30, 31, 32, 33, 34, 35, 36, 37, 38, 39, 40, 41, 42, 43, 44, 45, 46, 47, 48, 49, 50, 51, 52, 53, 54, 55, 56, 57, 58, 59, 60, 61, 62, 63, 64, 65, 66, 67, 68, 69, 70, 71, 72, 73, 74, 75, 76, 77, 78, 79, 80, 81, 82, 83, 84, 85, 86, 87, 88, 89, 90, 91] [3, 4]
    (.seq
     (.seq
      (.reg [⟨some 31, none, .mov false, [.t 8]⟩,
         ⟨some 32, none, .mov false, [.t 7]⟩,
         ⟨some 33, none, .bin .lss, [.t 31, .t 32]⟩])
      (.cond (.t 33)
      .skip
      (.exit 0)))
     (.seq
     (.block 1
      (.seq
       (.pre [9, 10, 47, 49, 51, 59] [] [3, 4] (.rega [⟨some 36, none, .fad 1, [.t 5]⟩,
          ⟨some 37, none, .at 2 (.load 1 false false), [.t 36]⟩,
          ⟨some 38, none, .mov false, [.t 8]⟩,
          ⟨some 39, none, .bin .sub, [.t 38, .c (.p (.int .i64 1))]⟩,
          ⟨some 40, none, .iad 4, [.t 37, .t 39]⟩,
          ⟨some 41, none, .loadp 4 true, [.t 40]⟩,
          ⟨some 42, none, .fad 1, [.t 5]⟩,
          ⟨some 43, none, .at 2 (.load 1 false false), [.t 42]⟩,
          ⟨some 44, none, .mov false, [.t 8]⟩,
          ⟨some 45, none, .iad 4, [.t 43, .t 44]⟩,
          ⟨some 46, none, .loadp 4 true, [.t 45]⟩,
          ⟨some 9, none, .alloc 3 4 [.p (.int .i64 0), .p (.int .i64 0), .p (.int .i64 0), .p (.int .i64 0)], []⟩,
          ⟨some 10, none, .alloc 4 4 [.p (.int .i64 0), .p (.int .i64 0), .p (.int .i64 0), .p (.int .i64 0)], []⟩,
          ⟨none, none, .at 3 (.store 4), [.t 9, .t 41]⟩,
          ⟨none, none, .at 4 (.store 4), [.t 10, .t 46]⟩]))
       (.seq
       (.reg [⟨some 47, none, .fad 1, [.t 10]⟩,
          ⟨some 48, none, .load 1 false false, [.t 47]⟩,
          ⟨some 49, none, .fad 1, [.t 9]⟩,
          ⟨some 50, none, .load 1 false false, [.t 49]⟩,
          ⟨some 51, none, .fad 2, [.t 9]⟩,
          ⟨some 52, none, .load 1 false false, [.t 51]⟩,
          ⟨some 53, none, .bin .add, [.t 50, .t 52]⟩,
          ⟨some 54, none, .fad 2, [.t 3]⟩,
          ⟨some 55, none, .load 1 false false, [.t 54]⟩,
          ⟨some 56, none, .bin .add, [.t 53, .t 55]⟩,
          ⟨some 57, none, .bin .lss, [.t 48, .t 56]⟩,
          ⟨some 58, none, .mov false, [.t 57]⟩,
          ⟨some 59, (some (58, false)), .fad 3, [.t 10]⟩,
          ⟨some 60, (some (58, false)), .load 1 false false, [.t 59]⟩,
          ⟨some 61, (some (58, false)), .fad 3, [.t 3]⟩,
          ⟨some 62, (some (58, false)), .load 1 false false, [.t 61]⟩,
          ⟨some 63, (some (58, false)), .bin .leq, [.t 60, .t 62]⟩,
          ⟨some 64, none, .pick, [.t 58, .c (.p (.bool true)), .t 63]⟩])
       (.cond (.t 64)
       (.seq
        (.reg [⟨some 6, none, .mov true, [.c (.p (.bool false))]⟩])
        .ret)
       .skip))))
     (.reg [⟨some 34, none, .mov false, [.t 8]⟩,
       ⟨some 35, none, .bin .add, [.t 34, .c (.p (.int .i64 1))]⟩,
       ⟨some 8, none, .mov true, [.t 35]⟩]))))))
  (.seq
  (.reg [⟨some 65, none, .fad 1, [.t 5]⟩,
     ⟨some 66, none, .load 1 false false, [.t 65]⟩,
     ⟨some 67, none, .mov false, [.t 7]⟩,
     ⟨some 68, none, .bin .sub, [.t 67, .c (.p (.int .i64 1))]⟩,
     ⟨some 69, none, .iad 4, [.t 66, .t 68]⟩,
     ⟨some 70, none, .load 4 true false, [.t 69]⟩,
     ⟨some 11, none, .alloc 5 4 [.p (.int .i64 0), .p (.int .i64 0), .p (.int .i64 0), .p (.int .i64 0)], []⟩,
     ⟨none, none, .store 4, [.t 11, .t 70]⟩])
  (.seq
  (.regd [⟨some 71, none, .fad 1, [.t 11]⟩,
     ⟨some 72, none, .at 5 (.load 1 false false), [.t 71]⟩,
     ⟨some 73, none, .fad 2, [.t 11]⟩,
     ⟨some 74, none, .at 5 (.load 1 false false), [.t 73]⟩,
     ⟨some 75, none, .bin .add, [.t 72, .t 74]⟩,
     ⟨some 76, none, .fad 1, [.t 4]⟩,
     ⟨some 77, none, .at 1 (.load 1 false false), [.t 76]⟩,
     ⟨some 78, none, .bin .leq, [.t 75, .t 77]⟩,
     ⟨some 79, none, .mov false, [.t 78]⟩,
     ⟨some 80, (some (79, true)), .at 2 (.load 2 true false), [.t 5]⟩,
     ⟨some 81, (some (79, true)), .pl (.call 35), [.t 80]⟩,
     ⟨some 82, (some (79, true)), .fad 0, [.t 4]⟩,
     ⟨some 83, (some (79, true)), .at 1 (.load 1 false false), [.t 82]⟩,
     ⟨some 84, (some (79, true)), .mov false, [.t 7]⟩,
     ⟨some 85, (some (79, true)), .bin .sub, [.t 84, .c (.p (.int .i64 1))]⟩,
     ⟨some 86, (some (79, true)), .fad 3, [.t 3]⟩,
     ⟨some 87, (some (79, true)), .at 0 (.load 1 false false), [.t 86]⟩,
     ⟨some 88, (some (79, true)), .bin .mul, [.t 85, .t 87]⟩,
     ⟨some 89, (some (79, true)), .bin .add, [.t 83, .t 88]⟩,
     ⟨some 90, (some (79, true)), .bin .eql, [.t 81, .t 89]⟩,
     ⟨some 91, none, .pick, [.t 79, .t 90, .c (.p (.bool false))]⟩,
     ⟨some 6, none, .mov true, [.t 91]⟩])
  .ret))))))⟩
-- a loop, at its head alive: [3, 4, 5, 7, 8]
theorem k53 : chkF Tryz.prog 53 F53 = true := by kernel_rfl
def F54 : Fn := ⟨65, 3, [.tmp 8, .tmp 9],
 (.seq
  (.reg [⟨some 4, none, .box 0 5, [.t 0]⟩,
     ⟨some 5, none, .box 1 4, [.t 1]⟩,
     ⟨some 8, none, .mov true, [.c (.ow 4 true [])]⟩,
     ⟨some 9, none, .mov true, [.c (.p (.bool false))]⟩])
  (.seq
  (.reg [⟨some 10, none, .mov true, [.c (.ow 4 true [])]⟩])
  (.seq
  (.reg [⟨some 16, none, .fad 0, [.t 5]⟩,
     ⟨some 17, none, .load 1 false false, [.t 16]⟩,
     ⟨some 11, none, .mov true, [.t 17]⟩])
  (.seq
  (.seq
   (.reg [⟨some 18, none, .mov false, [.t 3]⟩,
      ⟨some 19, none, .len, [.t 18]⟩,
      ⟨some 20, none, .mov false, [.c (.p (.int .i64 0))]⟩])
   (.block 0
   (.loop [0, 1, 3, 5, 8, 9, 12, 13, 14, 15, 16, 17, 21, 22, 23, 24, 25, 26, 27, 28, 29, 30, 31, 32, 33, 34, 35, 36, 37, 38, 39, 40, 41, 42, 43, 44, 45, 46, 47, 48, 49, 50, 51, 52, 53, 54, 55, 56, 57, 58, 59, 60, 61, 62, 63, 64] [2]
    (.seq
     (.reg [⟨some 21, none, .bin .lss, [.t 20, .t 19]⟩])
     (.seq
     (.cond (.t 21)
      .skip
      (.exit 0))
     (.seq
     (.block 1
      (.seq
       (.reg [⟨some 22, none, .mov false, [.t 20]⟩,
          ⟨some 23, none, .iad 2, [.t 18, .t 20]⟩,
          ⟨some 24, none, .load 2 true false, [.t 23]⟩,
          ⟨some 13, none, .alloc 2 2 [.p (.int .i64 0), .p (.int .i64 0)], []⟩,
          ⟨some 12, none, .mov true, [.t 22]⟩,
          ⟨none, none, .store 2, [.t 13, .t 24]⟩])
       (.seq
       (.seq
        (.reg [⟨some 25, none, .mov false, [.t 11]⟩,
           ⟨some 26, none, .bin .eql, [.t 25, .c (.p (.int .i64 0))]⟩])
        (.cond (.t 26)
        (.exit 0)
        .skip))
       (.seq
       (.reg [⟨some 27, none, .fad 3, [.t 4]⟩,
          ⟨some 28, none, .load 1 false false, [.t 27]⟩,
          ⟨some 14, none, .mov true, [.t 28]⟩])
       (.seq
       (.seq
        (.reg [⟨some 29, none, .mov false, [.t 12]⟩,
           ⟨some 30, none, .bin .eql, [.t 29, .c (.p (.int .i64 0))]⟩])
        (.cond (.t 30)
        (.reg [⟨some 14, none, .mov true, [.c (.p (.int .i64 0))]⟩])
        .skip))
       (.seq
       (.reg [⟨some 31, none, .fad 1, [.t 13]⟩,
          ⟨some 32, none, .load 1 false false, [.t 31]⟩,
          ⟨some 33, none, .mov false, [.t 14]⟩,
          ⟨some 34, none, .bin .sub, [.t 32, .t 33]⟩,
          ⟨some 35, none, .mov false, [.t 11]⟩,
          ⟨some 36, none, .mn, [.t 34, .t 35]⟩,
          ⟨some 15, none, .mov true, [.t 36]⟩])
       (.seq
       (.reg [⟨some 37, none, .mov true, [.t 10]⟩,
          ⟨some 38, none, .fad 0, [.t 13]⟩,
          ⟨some 39, none, .load 1 false false, [.t 38]⟩,
          ⟨some 40, none, .mov false, [.t 12]⟩,
          ⟨some 41, none, .mov false, [.t 2]⟩,
          ⟨some 42, none, .fad 2, [.t 4]⟩,
          ⟨some 43, none, .load 1 false false, [.t 42]⟩,
          ⟨some 44, none, .bin .add, [.t 41, .t 43]⟩,
          ⟨some 45, none, .bin .mul, [.t 40, .t 44]⟩,
          ⟨some 46, none, .mov false, [.t 2]⟩,
          ⟨some 47, none, .mov false, [.t 14]⟩,
          ⟨some 48, none, .mov false, [.t 15]⟩,
          ⟨some 49, none, .bin .add, [.t 47, .t 48]⟩,
          ⟨some 50, none, .build [.int .i64 0, .int .i64 0, .int .i64 0, .int .i64 0] [(0, 1), (1, 1), (2, 1), (3, 1)], [.t 39, .t 45, .t 46, .t 49]⟩,
          ⟨some 51, none, .bsl 4 1, [.t 50]⟩,
          ⟨some 52, none, .app 4 32, [.t 37, .t 51]⟩,
          ⟨some 10, none, .mov true, [.t 52]⟩])
       (.reg [⟨some 53, none, .mov false, [.t 11]⟩,
         ⟨some 54, none, .mov false, [.t 15]⟩,
         ⟨some 55, none, .bin .sub, [.t 53, .t 54]⟩,
         ⟨some 11, none, .mov true, [.t 55]⟩]))))))))
     (.reg [⟨some 56, none, .bin .add, [.t 20, .c (.p (.int .i64 1))]⟩,
       ⟨some 20, none, .mov false, [.t 56]⟩])))))))
  (.seq
  (.reg [⟨some 57, none, .mov false, [.t 10]⟩,
     ⟨some 58, none, .mov false, [.t 11]⟩,
     ⟨some 59, none, .bin .eql, [.t 58, .c (.p (.int .i64 0))]⟩,
     ⟨some 60, none, .mov false, [.t 59]⟩,
     ⟨some 61, (some (60, true)), .mov false, [.t 10]⟩,
     ⟨some 62, (some (60, true)), .len, [.t 61]⟩,
     ⟨some 63, (some (60, true)), .bin .gtr, [.t 62, .c (.p (.int .i64 1))]⟩,
     ⟨some 64, none, .pick, [.t 60, .t 63, .c (.p (.bool false))]⟩,
     ⟨some 8, none, .mov true, [.t 57]⟩,
     ⟨some 9, none, .mov true, [.t 64]⟩])
  .ret)))))⟩
-- a loop, at its head alive: [2, 4, 10, 11, 18, 19, 20]
theorem k54 : chkF Tryz.prog 54 F54 = true := by kernel_rfl
def F55 : Fn := ⟨51, 3, [.tmp 10],
 (.seq
  (.reg [⟨some 5, none, .box 0 5, [.t 0]⟩,
     ⟨some 7, none, .box 1 4, [.t 2]⟩,
     ⟨some 10, none, .mov true, [.c (.ow 2 true [])]⟩])
  (.seq
  (.reg [⟨some 11, none, .mov true, [.c (.ow 2 true [])]⟩])
  (.seq
  (.seq
   (.reg [⟨some 15, none, .mov false, [.t 1]⟩,
      ⟨some 16, none, .len, [.t 15]⟩,
      ⟨some 17, none, .mov false, [.c (.p (.int .i64 0))]⟩])
   (.block 0
   (.loop [0, 1, 2, 10, 12, 13, 14, 18, 19, 20, 21, 22, 23, 24, 25, 26, 27, 28, 29, 30, 31, 32, 33, 34, 35, 36, 37, 38, 39, 40, 41, 42, 43, 44, 45, 46, 47, 48, 49, 50] []
    (.seq
     (.reg [⟨some 18, none, .bin .lss, [.t 17, .t 16]⟩])
     (.seq
     (.cond (.t 18)
      .skip
      (.exit 0))
     (.seq
     (.block 1
      (.seq
       (.reg [⟨some 19, none, .mov false, [.t 17]⟩,
          ⟨some 20, none, .iad 1, [.t 15, .t 17]⟩,
          ⟨some 21, none, .load 1 false false, [.t 20]⟩,
          ⟨some 12, none, .mov true, [.t 19]⟩,
          ⟨some 13, none, .mov true, [.t 21]⟩])
       (.seq
       (.reg [⟨some 22, none, .mov false, [.t 13]⟩,
          ⟨some 23, none, .mov false, [.t 4]⟩,
          ⟨some 24, none, .fad 2, [.t 7]⟩,
          ⟨some 25, none, .load 1 false false, [.t 24]⟩,
          ⟨some 26, none, .mov false, [.t 4]⟩,
          ⟨some 27, none, .call 72, [.t 22, .t 23, .t 25, .t 26]⟩,
          ⟨some 14, none, .mov true, [.t 27]⟩])
       (.seq
       (.reg [⟨some 28, none, .mov false, [.t 14]⟩,
          ⟨some 29, none, .fad 3, [.t 5]⟩,
          ⟨some 30, none, .load 1 false false, [.t 29]⟩,
          ⟨some 31, none, .bin .gtr, [.t 28, .t 30]⟩])
       (.cond (.t 31)
       (.reg [⟨some 32, none, .mov true, [.t 11]⟩,
          ⟨some 33, none, .mov false, [.t 12]⟩,
          ⟨some 34, none, .mov false, [.t 14]⟩,
          ⟨some 35, none, .build [.int .i64 0, .int .i64 0] [(0, 1), (1, 1)], [.t 33, .t 34]⟩,
          ⟨some 36, none, .bsl 2 1, [.t 35]⟩,
          ⟨some 37, none, .app 2 16, [.t 32, .t 36]⟩,
          ⟨some 11, none, .mov true, [.t 37]⟩])
       .skip)))))
     (.reg [⟨some 38, none, .bin .add, [.t 17, .c (.p (.int .i64 1))]⟩,
       ⟨some 17, none, .mov false, [.t 38]⟩])))))))
  (.seq
  (.seq
   (.reg [⟨some 39, none, .mov false, [.t 11]⟩,
      ⟨some 40, none, .len, [.t 39]⟩,
      ⟨some 41, none, .mov false, [.t 3]⟩,
      ⟨some 42, none, .bin .lss, [.t 40, .t 41]⟩])
   (.cond (.t 42)
   (.seq
    (.reg [⟨some 10, none, .mov true, [.c (.ow 2 true [])]⟩])
    .ret)
   .skip))
  (.seq
  (.pre [0, 1, 2, 4, 5, 7, 10, 12, 13, 14, 15, 16, 17, 18, 19, 20, 21, 22, 23, 24, 25, 26, 27, 28, 29, 30, 31, 32, 33, 34, 35, 36, 37, 38, 39, 40, 41, 42, 43, 44, 45, 46, 47, 48, 49, 50] [] [0, 1] (.own 11 2 true (.reg [⟨some 43, none, .mov false, [.t 11]⟩,
     ⟨some 44, none, .callm 73 2, [.t 43, .c (.p (.fn 74 []))]⟩])))
  (.seq
  (.reg [⟨some 45, none, .mov false, [.t 11]⟩,
     ⟨some 46, none, .mov false, [.t 3]⟩,
     ⟨some 47, none, .slb 2 2, [.t 45, .t 46]⟩,
     ⟨some 11, none, .mov true, [.t 47]⟩])
  (.seq
  (.reg [⟨some 48, none, .mov false, [.t 11]⟩,
     ⟨some 49, none, .callm 76 2, [.t 48, .c (.p (.fn 77 []))]⟩])
  (.seq
  (.reg [⟨some 50, none, .mov false, [.t 11]⟩,
     ⟨some 10, none, .mov true, [.t 50]⟩])
  (.pre [] [2] [] .ret)))))))))⟩
-- a loop, at its head alive: [3, 4, 5, 7, 11, 15, 16, 17]
theorem k55 : chkF Tryz.prog 55 F55 = true := by kernel_rfl
def F56 : Fn := ⟨46, 0, [.tmp 8],
 (.seq
  (.reg [⟨some 8, none, .mov true, [.c (.p (.int .i64 0))]⟩])
  (.seq
  (.seq
   (.reg [⟨some 10, none, .mov false, [.t 0]⟩,
      ⟨some 11, none, .len, [.t 10]⟩,
      ⟨some 12, none, .bin .gtr, [.t 11, .c (.p (.int .i64 23))]⟩,
      ⟨some 13, none, .mov false, [.t 12]⟩,
      ⟨some 14, (some (13, false)), .mov false, [.t 0]⟩,
      ⟨some 15, (some (13, false)), .call 34, [.t 14]⟩,
      ⟨some 16, (some (13, false)), .un .not, [.t 15]⟩,
      ⟨some 17, none, .pick, [.t 13, .c (.p (.bool true)), .t 16]⟩,
      ⟨some 18, none, .mov false, [.t 17]⟩,
      ⟨some 19, (some (18, false)), .mov false, [.t 1]⟩,
      ⟨some 20, (some (18, false)), .bin .lss, [.t 19, .c (.p (.int .i64 1))]⟩,
      ⟨some 21, none, .pick, [.t 18, .c (.p (.bool true)), .t 20]⟩,
      ⟨some 22, none, .mov false, [.t 21]⟩,
      ⟨some 23, (some (22, false)), .mov false, [.t 2]⟩,
      ⟨some 24, (some (22, false)), .mov false, [.t 1]⟩,
      ⟨some 25, (some (22, false)), .bin .lss, [.t 23, .t 24]⟩,
      ⟨some 26, none, .pick, [.t 22, .c (.p (.bool true)), .t 25]⟩,
      ⟨some 27, none, .mov false, [.t 26]⟩,
      ⟨some 28, (some (27, false)), .mov false, [.t 2]⟩,
      ⟨some 29, (some (27, false)), .bin .gtr, [.t 28, .c (.p (.int .i64 200))]⟩,
      ⟨some 30, none, .pick, [.t 27, .c (.p (.bool true)), .t 29]⟩])
   (.cond (.t 30)
   (.seq
    (.reg [⟨some 8, none, .mov true, [.c (.p (.int .i64 0))]⟩])
    .ret)
   .skip))
  (.seq
  (.seq
   (.reg [⟨some 31, none, .mov false, [.t 3]⟩,
      ⟨some 32, none, .mov false, [.t 1]⟩,
      ⟨some 33, none, .mn, [.t 31, .t 32]⟩,
      ⟨some 9, none, .mov true, [.t 33]⟩])
   (.block 0
   (.loop [3, 8, 10, 11, 12, 13, 14, 15, 16, 17, 18, 19, 20, 21, 22, 23, 24, 25, 26, 27, 28, 29, 30, 31, 32, 33, 34, 35, 36, 37, 38, 39, 40, 41, 42, 43, 44, 45] []
    (.seq
     (.seq
      (.reg [⟨some 34, none, .mov false, [.t 9]⟩,
         ⟨some 35, none, .bin .geq, [.t 34, .c (.p (.int .i64 1))]⟩])
      (.cond (.t 35)
      .skip
      (.exit 0)))
     (.seq
     (.block 1
      (.seq
       (.reg [⟨some 38, none, .mov false, [.t 0]⟩,
          ⟨some 39, none, .mov false, [.t 9]⟩,
          ⟨some 40, none, .mov false, [.t 1]⟩,
          ⟨some 41, none, .mov false, [.t 2]⟩,
          ⟨some 42, none, .build [.int .i64 0, .int .i64 0, .int .i64 0] [(0, 1), (1, 1), (2, 1)], [.t 39, .t 40, .t 41]⟩,
          ⟨some 43, none, .call 49, [.t 38, .t 42]⟩,
          ⟨some 44, none, .call 34, [.t 43]⟩])
       (.cond (.t 44)
       (.seq
        (.reg [⟨some 45, none, .mov false, [.t 9]⟩,
           ⟨some 8, none, .mov true, [.t 45]⟩])
        .ret)
       .skip)))
     (.reg [⟨some 36, none, .mov false, [.t 9]⟩,
       ⟨some 37, none, .bin .sub, [.t 36, .c (.p (.int .i64 1))]⟩,
       ⟨some 9, none, .mov true, [.t 37]⟩]))))))
  (.seq
  (.reg [⟨some 8, none, .mov true, [.c (.p (.int .i64 0))]⟩])
  .ret))))⟩
-- a loop, at its head alive: [0, 1, 2, 9]
theorem k56 : chkF Tryz.prog 56 F56 = true := by kernel_rfl
def F57 : Fn := ⟨76, 1, [.tmp 6],
 (.seq
  (.reg [⟨some 6, none, .mov true, [.c (.ow 1 true [])]⟩])
  (.seq
  (.reg [⟨some 13, none, .mov false, [.t 0]⟩,
     ⟨some 14, none, .len, [.t 13]⟩,
     ⟨some 15, none, .mksl 0 1 1 false [.p (.bool false)], [.t 14, .t 14]⟩,
     ⟨some 7, none, .mov true, [.t 15]⟩])
  (.seq
  (.seq
   (.reg [⟨some 8, none, .mov true, [.c (.p (.int .i64 0))]⟩])
   (.block 0
   (.loop [6, 9, 10, 11, 12, 13, 14, 15, 16, 17, 18, 19, 20, 21, 22, 23, 24, 25, 26, 27, 28, 29, 30, 31, 32, 33, 34, 35, 36, 37, 38, 39, 40, 41, 42, 43, 44, 45, 46, 47, 48, 49, 50, 51, 52, 53, 54, 55, 56, 57, 58, 59, 60, 61, 62, 63, 64, 65, 66, 67, 68, 69, 70, 71, 72, 73, 74, 75] []
    (.seq
     (.seq
      (.reg [⟨some 16, none, .mov false, [.t 8]⟩,
         ⟨some 17, none, .mov false, [.t 1]⟩,
         ⟨some 18, none, .bin .lss, [.t 16, .t 17]⟩])
      (.cond (.t 18)
      .skip
      (.exit 0)))
     (.seq
     (.block 1
      (.seq
       (.reg [⟨some 9, none, .mov true, [.c (.p (.int .i64 (-1)))]⟩])
       (.seq
       (.seq
        (.reg [⟨some 10, none, .mov true, [.c (.p (.int .i64 0))]⟩])
        (.block 2
        (.loop [6, 11, 12, 13, 14, 15, 16, 17, 18, 19, 20, 21, 22, 23, 24, 25, 26, 27, 28, 29, 30, 31, 32, 33, 34, 35, 36, 37, 38, 39, 40, 41, 42, 43, 44, 45, 46, 47, 48, 49, 50, 51, 52, 53, 54, 55, 56, 57, 58, 59, 60, 61, 62, 63, 64, 65, 66, 67, 68, 69, 70, 71, 72, 73, 74, 75] []
         (.seq
          (.seq
           (.reg [⟨some 21, none, .mov false, [.t 10]⟩,
              ⟨some 22, none, .mov false, [.t 0]⟩,
              ⟨some 23, none, .len, [.t 22]⟩,
              ⟨some 24, none, .bin .lss, [.t 21, .t 23]⟩])
           (.cond (.t 24)
           .skip
           (.exit 2)))
          (.seq
          (.block 3
           (.seq
            (.regd [⟨some 27, none, .mov false, [.t 7]⟩,
               ⟨some 28, none, .mov false, [.t 10]⟩,
               ⟨some 29, none, .iad 1, [.t 27, .t 28]⟩,
               ⟨some 30, none, .at 0 (.load 1 false false), [.t 29]⟩,
               ⟨some 31, none, .un .not, [.t 30]⟩,
               ⟨some 32, none, .mov false, [.t 31]⟩,
               ⟨some 33, (some (32, true)), .mov false, [.t 0]⟩,
               ⟨some 34, (some (32, true)), .mov false, [.t 10]⟩,
               ⟨some 35, (some (32, true)), .iad 1, [.t 33, .t 34]⟩,
               ⟨some 36, (some (32, true)), .loadp 1 false, [.t 35]⟩,
               ⟨some 37, (some (32, true)), .mov false, [.t 2]⟩,
               ⟨some 38, (some (32, true)), .bin .gtr, [.t 36, .t 37]⟩,
               ⟨some 39, none, .pick, [.t 32, .t 38, .c (.p (.bool false))]⟩,
               ⟨some 40, none, .mov false, [.t 39]⟩,
               ⟨some 41, (some (40, true)), .mov false, [.t 9]⟩,
               ⟨some 42, (some (40, true)), .bin .lss, [.t 41, .c (.p (.int .i64 0))]⟩,
               ⟨some 43, (some (40, true)), .mov false, [.t 42]⟩,
               ⟨some 44, (some (43, false)), .mov false, [.t 0]⟩,
               ⟨some 45, (some (43, false)), .mov false, [.t 10]⟩,
               ⟨some 46, (some (43, false)), .iad 1, [.t 44, .t 45]⟩,
               ⟨some 47, (some (43, false)), .loadp 1 false, [.t 46]⟩,
               ⟨some 48, (some (43, false)), .mov false, [.t 0]⟩,
               ⟨some 49, (some (43, false)), .mov false, [.t 9]⟩,
               ⟨some 50, (some (43, false)), .iad 1, [.t 48, .t 49]⟩,
               ⟨some 51, (some (43, false)), .loadp 1 false, [.t 50]⟩,
               ⟨some 52, (some (43, false)), .bin .gtr, [.t 47, .t 51]⟩,
               ⟨some 53, (some (40, true)), .pick, [.t 43, .c (.p (.bool true)), .t 52]⟩,
               ⟨some 54, none, .pick, [.t 40, .t 53, .c (.p (.bool false))]⟩])
            (.cond (.t 54)
            (.reg [⟨some 55, none, .mov false, [.t 10]⟩,
               ⟨some 9, none, .mov true, [.t 55]⟩])
            .skip)))
          (.reg [⟨some 25, none, .mov false, [.t 10]⟩,
            ⟨some 26, none, .bin .add, [.t 25, .c (.p (.int .i64 1))]⟩,
            ⟨some 10, none, .mov true, [.t 26]⟩]))))))
       (.seq
       (.seq
        (.reg [⟨some 56, none, .mov false, [.t 9]⟩,
           ⟨some 57, none, .bin .lss, [.t 56, .c (.p (.int .i64 0))]⟩])
        (.cond (.t 57)
        (.seq
         (.reg [⟨some 6, none, .mov true, [.c (.ow 1 true [])]⟩])
         .ret)
        .skip))
       (.reg [⟨some 58, none, .mov false, [.t 7]⟩,
         ⟨some 59, none, .mov false, [.t 9]⟩,
         ⟨some 60, none, .iad 1, [.t 58, .t 59]⟩,
         ⟨none, none, .store 1, [.t 60, .c (.p (.bool true))]⟩])))))
     (.reg [⟨some 19, none, .mov false, [.t 8]⟩,
       ⟨some 20, none, .bin .add, [.t 19, .c (.p (.int .i64 1))]⟩,
       ⟨some 8, none, .mov true, [.t 20]⟩]))))))
  (.seq
  (.reg [⟨some 11, none, .mov true, [.c (.ow 1 true [])]⟩])
  (.seq
  (.seq
   (.reg [⟨some 12, none, .mov true, [.c (.p (.int .i64 0))]⟩])
   (.block 4
   (.loop [1, 2, 6, 8, 9, 10, 13, 14, 15, 16, 17, 18, 19, 20, 21, 22, 23, 24, 25, 26, 27, 28, 29, 30, 31, 32, 33, 34, 35, 36, 37, 38, 39, 40, 41, 42, 43, 44, 45, 46, 47, 48, 49, 50, 51, 52, 53, 54, 55, 56, 57, 58, 59, 60, 61, 62, 63, 64, 65, 66, 67, 68, 69, 70, 71, 72, 73, 74, 75] []
    (.seq
     (.seq
      (.reg [⟨some 61, none, .mov false, [.t 12]⟩,
         ⟨some 62, none, .mov false, [.t 0]⟩,
         ⟨some 63, none, .len, [.t 62]⟩,
         ⟨some 64, none, .bin .lss, [.t 61, .t 63]⟩])
      (.cond (.t 64)
      .skip
      (.exit 4)))
     (.seq
     (.block 5
      (.seq
       (.reg [⟨some 67, none, .mov false, [.t 7]⟩,
          ⟨some 68, none, .mov false, [.t 12]⟩,
          ⟨some 69, none, .iad 1, [.t 67, .t 68]⟩,
          ⟨some 70, none, .load 1 false false, [.t 69]⟩])
       (.cond (.t 70)
       (.reg [⟨some 71, none, .mov true, [.t 11]⟩,
          ⟨some 72, none, .mov false, [.t 12]⟩,
          ⟨some 73, none, .bsl 1 1, [.t 72]⟩,
          ⟨some 74, none, .app 1 8, [.t 71, .t 73]⟩,
          ⟨some 11, none, .mov true, [.t 74]⟩])
       .skip)))
     (.reg [⟨some 65, none, .mov false, [.t 12]⟩,
       ⟨some 66, none, .bin .add, [.t 65, .c (.p (.int .i64 1))]⟩,
       ⟨some 12, none, .mov true, [.t 66]⟩]))))))
  (.seq
  (.reg [⟨some 75, none, .mov false, [.t 11]⟩,
     ⟨some 6, none, .mov true, [.t 75]⟩])
  .ret))))))⟩
-- a loop, at its head alive: [0, 1, 2, 7, 8]
-- a loop, at its head alive: [0, 1, 2, 7, 8, 9, 10]
-- a loop, at its head alive: [0, 7, 11, 12]
theorem k57 : chkF Tryz.prog 57 F57 = true := by kernel_rfl
def F58 : Fn := ⟨18, 0, [.tmp 4],
 (.seq
  (.reg [⟨some 4, none, .mov true, [.c (.p (.int .i64 0))]⟩])
  (.seq
  (.seq
   (.reg [⟨some 6, none, .mov false, [.t 1]⟩,
      ⟨some 7, none, .bin .leq, [.t 6, .c (.p (.int .i64 0))]⟩])
   (.cond (.t 7)
   (.seq
    (.reg [⟨some 4, none, .mov true, [.c (.p (.int .i64 0))]⟩])
    .ret)
   .skip))
  (.seq
  (.reg [⟨some 8, none, .mov false, [.t 0]⟩,
     ⟨some 9, none, .mov false, [.t 1]⟩,
     ⟨some 10, none, .bin .quo, [.t 8, .t 9]⟩,
     ⟨some 5, none, .mov true, [.t 10]⟩])
  (.seq
  (.seq
   (.reg [⟨some 11, none, .mov false, [.t 0]⟩,
      ⟨some 12, none, .mov false, [.t 1]⟩,
      ⟨some 13, none, .bin .rem, [.t 11, .t 12]⟩,
      ⟨some 14, none, .bin .lss, [.t 13, .c (.p (.int .i64 0))]⟩])
   (.cond (.t 14)
   (.reg [⟨some 15, none, .mov false, [.t 5]⟩,
      ⟨some 16, none, .bin .sub, [.t 15, .c (.p (.int .i64 1))]⟩,
      ⟨some 5, none, .mov true, [.t 16]⟩])
   .skip))
  (.seq
  (.reg [⟨some 17, none, .mov false, [.t 5]⟩,
     ⟨some 4, none, .mov true, [.t 17]⟩])
  .ret)))))⟩
theorem k58 : chkF Tryz.prog 58 F58 = true := by kernel_rfl
def F59 : Fn := ⟨77, 3, [.cell 10 2, .tmp 11],
 (.seq
  (.reg [⟨some 5, none, .box 0 5, [.t 0]⟩,
     ⟨some 7, none, .box 1 4, [.t 2]⟩,
     ⟨some 10, none, .alloc 2 2 [.p (.int .i64 0), .ow 4 true []], []⟩,
     ⟨some 11, none, .mov true, [.c (.p (.bool false))]⟩])
  (.seq
  (.regd [⟨some 15, none, .mov false, [.t 1]⟩,
     ⟨some 16, none, .mov false, [.t 3]⟩,
     ⟨some 17, none, .iad 1, [.t 15, .t 16]⟩,
     ⟨some 18, none, .loadp 1 false, [.t 17]⟩,
     ⟨some 19, none, .fad 2, [.t 7]⟩,
     ⟨some 20, none, .at 1 (.load 1 false false), [.t 19]⟩,
     ⟨some 21, none, .fad 0, [.t 7]⟩,
     ⟨some 22, none, .at 1 (.load 1 false false), [.t 21]⟩,
     ⟨some 23, none, .bin .sub, [.t 22, .c (.p (.int .i64 1))]⟩,
     ⟨some 24, none, .pl (.call 79), [.t 18, .t 20, .t 23]⟩,
     ⟨some 12, none, .mov true, [.t 24]⟩])
  (.seq
  (.regd [⟨some 25, none, .fad 0, [.t 7]⟩,
     ⟨some 26, none, .at 1 (.load 1 false false), [.t 25]⟩,
     ⟨some 27, none, .mov false, [.t 12]⟩,
     ⟨some 28, none, .bin .sub, [.t 26, .t 27]⟩,
     ⟨some 29, none, .fad 3, [.t 5]⟩,
     ⟨some 30, none, .at 0 (.load 1 false false), [.t 29]⟩,
     ⟨some 31, none, .bin .add, [.t 28, .t 30]⟩,
     ⟨some 32, none, .fad 1, [.t 7]⟩,
     ⟨some 33, none, .at 1 (.load 1 false false), [.t 32]⟩,
     ⟨some 34, none, .mov false, [.t 12]⟩,
     ⟨some 35, none, .bin .sub, [.t 33, .t 34]⟩,
     ⟨some 36, none, .fad 2, [.t 5]⟩,
     ⟨some 37, none, .at 0 (.load 1 false false), [.t 36]⟩,
     ⟨some 38, none, .bin .sub, [.t 35, .t 37]⟩,
     ⟨some 13, none, .mov true, [.t 31]⟩,
     ⟨some 14, none, .mov true, [.t 38]⟩])
  (.seq
  (.seq
   (.regd [⟨some 39, none, .mov false, [.t 12]⟩,
      ⟨some 40, none, .bin .lss, [.t 39, .c (.p (.int .i64 1))]⟩,
      ⟨some 41, none, .mov false, [.t 40]⟩,
      ⟨some 42, (some (41, false)), .mov false, [.t 13]⟩,
      ⟨some 43, (some (41, false)), .mov false, [.t 14]⟩,
      ⟨some 44, (some (41, false)), .bin .gtr, [.t 42, .t 43]⟩,
      ⟨some 45, none, .pick, [.t 41, .c (.p (.bool true)), .t 44]⟩,
      ⟨some 46, none, .mov false, [.t 45]⟩,
      ⟨some 47, (some (46, false)), .mov false, [.t 1]⟩,
      ⟨some 48, (some (46, false)), .mov false, [.t 4]⟩,
      ⟨some 49, (some (46, false)), .iad 1, [.t 47, .t 48]⟩,
      ⟨some 50, (some (46, false)), .loadp 1 false, [.t 49]⟩,
      ⟨some 51, (some (46, false)), .pl (.call 48), [.t 50]⟩,
      ⟨some 52, (some (46, false)), .mov false, [.t 13]⟩,
      ⟨some 53, (some (46, false)), .mov false, [.t 14]⟩,
      ⟨some 54, (some (46, false)), .fad 2, [.t 7]⟩,
      ⟨some 55, (some (46, false)), .at 1 (.load 1 false false), [.t 54]⟩,
      ⟨some 56, (some (46, false)), .build [.int .i64 0, .int .i64 0, .int .i64 0] [(0, 1), (1, 1), (2, 1)], [.t 52, .t 53, .t 55]⟩,
      ⟨some 57, (some (46, false)), .bsl 3 1, [.t 56]⟩,
      ⟨some 58, (some (46, false)), .pl (.app 3 24), [.t 51, .t 57]⟩,
      ⟨some 59, (some (46, false)), .pl (.call 47), [.t 58]⟩,
      ⟨some 60, (some (46, false)), .un .not, [.t 59]⟩,
      ⟨some 61, none, .pick, [.t 46, .c (.p (.bool true)), .t 60]⟩])
   (.cond (.t 61)
   (.seq
    (.reg [⟨some 62, none, .build [.int .i64 0, .sl 4 true []] [], []⟩,
       ⟨none, none, .store 2, [.t 10, .t 62]⟩,
       ⟨some 11, none, .mov true, [.c (.p (.bool false))]⟩])
    .ret)
   .skip))
  (.seq
  (.reg [⟨some 63, none, .mov false, [.t 3]⟩,
     ⟨some 64, none, .mov false, [.t 12]⟩,
     ⟨some 65, none, .mov false, [.t 12]⟩,
     ⟨some 66, none, .build [.int .i64 0, .int .i64 0, .int .i64 0, .int .i64 0] [(0, 1), (2, 1), (3, 1)], [.t 63, .t 64, .t 65]⟩,
     ⟨some 67, none, .mov false, [.t 4]⟩,
     ⟨some 68, none, .mov false, [.t 12]⟩,
     ⟨some 69, none, .fad 2, [.t 5]⟩,
     ⟨some 70, none, .load 1 false false, [.t 69]⟩,
     ⟨some 71, none, .bin .add, [.t 68, .t 70]⟩,
     ⟨some 72, none, .mov false, [.t 14]⟩,
     ⟨some 73, none, .mov false, [.t 13]⟩,
     ⟨some 74, none, .build [.int .i64 0, .int .i64 0, .int .i64 0, .int .i64 0] [(0, 1), (1, 1), (2, 1), (3, 1)], [.t 67, .t 71, .t 72, .t 73]⟩,
     ⟨some 75, none, .bsl 4 2, [.t 66, .t 74]⟩,
     ⟨some 76, none, .build [.int .i64 0, .sl 4 true []] [(0, 1), (1, 1)], [.c (.p (.int .i64 3)), .t 75]⟩,
     ⟨none, none, .store 2, [.t 10, .t 76]⟩,
     ⟨some 11, none, .mov true, [.c (.p (.bool true))]⟩])
  .ret)))))⟩
theorem k59 : chkF Tryz.prog 59 F59 = true := by kernel_rfl
def F60 : Fn := ⟨43, 0, [.tmp 6],
 (.seq
  (.reg [⟨some 6, none, .mov true, [.c (.p (.int .i64 0))]⟩])
  (.seq
  (.seq
   (.reg [⟨some 8, none, .mov false, [.t 0]⟩,
      ⟨some 9, none, .len, [.t 8]⟩,
      ⟨some 10, none, .bin .gtr, [.t 9, .c (.p (.int .i64 23))]⟩,
      ⟨some 11, none, .mov false, [.t 10]⟩,
      ⟨some 12, (some (11, false)), .mov false, [.t 0]⟩,
      ⟨some 13, (some (11, false)), .call 34, [.t 12]⟩,
      ⟨some 14, (some (11, false)), .un .not, [.t 13]⟩,
      ⟨some 15, none, .pick, [.t 11, .c (.p (.bool true)), .t 14]⟩,
      ⟨some 16, none, .mov false, [.t 15]⟩,
      ⟨some 17, (some (16, false)), .mov false, [.t 1]⟩,
      ⟨some 18, (some (16, false)), .bin .lss, [.t 17, .c (.p (.int .i64 1))]⟩,
      ⟨some 19, none, .pick, [.t 16, .c (.p (.bool true)), .t 18]⟩,
      ⟨some 20, none, .mov false, [.t 19]⟩,
      ⟨some 21, (some (20, false)), .mov false, [.t 1]⟩,
      ⟨some 22, (some (20, false)), .bin .gtr, [.t 21, .c (.p (.int .i64 200))]⟩,
      ⟨some 23, none, .pick, [.t 20, .c (.p (.bool true)), .t 22]⟩])
   (.cond (.t 23)
   (.seq
    (.reg [⟨some 6, none, .mov true, [.c (.p (.int .i64 0))]⟩])
    .ret)
   .skip))
  (.seq
  (.reg [⟨some 7, none, .mov true, [.c (.p (.int .i64 0))]⟩])
  (.seq
  (.block 0
   (.loop [6, 8, 9, 10, 11, 12, 13, 14, 15, 16, 17, 18, 19, 20, 21, 22, 23, 24, 25, 26, 27, 28, 29, 30, 31, 32, 33, 34, 35, 36, 37, 38, 39, 40, 41, 42] []
    (.seq
     (.seq
      (.reg [⟨some 24, none, .mov false, [.t 7]⟩,
         ⟨some 25, none, .mov false, [.t 2]⟩,
         ⟨some 26, none, .mov false, [.t 1]⟩,
         ⟨some 27, none, .mn, [.t 25, .t 26]⟩,
         ⟨some 28, none, .bin .lss, [.t 24, .t 27]⟩,
         ⟨some 29, none, .mov false, [.t 28]⟩,
         ⟨some 30, (some (29, true)), .mov false, [.t 0]⟩,
         ⟨some 31, (some (29, true)), .mov false, [.t 7]⟩,
         ⟨some 32, (some (29, true)), .bin .add, [.t 31, .c (.p (.int .i64 1))]⟩,
         ⟨some 33, (some (29, true)), .mov false, [.t 7]⟩,
         ⟨some 34, (some (29, true)), .bin .add, [.t 33, .c (.p (.int .i64 1))]⟩,
         ⟨some 35, (some (29, true)), .mov false, [.t 1]⟩,
         ⟨some 36, (some (29, true)), .build [.int .i64 0, .int .i64 0, .int .i64 0] [(0, 1), (1, 1), (2, 1)], [.t 32, .t 34, .t 35]⟩,
         ⟨some 37, (some (29, true)), .call 49, [.t 30, .t 36]⟩,
         ⟨some 38, (some (29, true)), .call 34, [.t 37]⟩,
         ⟨some 39, none, .pick, [.t 29, .t 38, .c (.p (.bool false))]⟩])
      (.cond (.t 39)
      .skip
      (.exit 0)))
     (.block 1
     (.reg [⟨some 40, none, .mov false, [.t 7]⟩,
        ⟨some 41, none, .bin .add, [.t 40, .c (.p (.int .i64 1))]⟩,
        ⟨some 7, none, .mov true, [.t 41]⟩])))))
  (.seq
  (.reg [⟨some 42, none, .mov false, [.t 7]⟩,
     ⟨some 6, none, .mov true, [.t 42]⟩])
  .ret)))))⟩
-- a loop, at its head alive: [0, 1, 2, 7]
theorem k60 : chkF Tryz.prog 60 F60 = true := by kernel_rfl
def F61 : Fn := ⟨61, 0, [.tmp 2, .tmp 3],
 (.seq
  (.reg [⟨some 2, none, .mov true, [.c (.p (.int .i64 0))]⟩,
     ⟨some 3, none, .mov true, [.c (.p (.bool false))]⟩])
  (.seq
  (.reg [⟨some 10, none, .mov false, [.t 0]⟩,
     ⟨some 11, none, .call 80, [.t 10]⟩,
     ⟨some 9, none, .mov false, [.t 11]⟩,
     ⟨some 12, none, .ext 0, [.t 9]⟩,
     ⟨some 13, none, .ext 1, [.t 9]⟩,
     ⟨some 4, none, .mov true, [.t 12]⟩,
     ⟨some 5, none, .mov true, [.t 13]⟩])
  (.seq
  (.reg [⟨some 6, none, .mov true, [.c (.p (.int .i64 0))]⟩])
  (.seq
  (.seq
   (.reg [⟨some 7, none, .mov true, [.c (.p (.int .i64 1))]⟩])
   (.block 0
   (.loop [2, 3, 8, 9, 10, 11, 12, 13, 14, 15, 16, 17, 18, 19, 20, 21, 22, 23, 24, 25, 26, 27, 28, 29, 30, 31, 32, 33, 34, 35, 36, 37, 38, 39, 40, 41, 42, 43, 44, 45, 46, 47, 48, 49, 50, 51, 52, 53, 54, 55, 56, 57, 58, 59, 60] []
    (.seq
     (.seq
      (.reg [⟨some 14, none, .mov false, [.t 7]⟩,
         ⟨some 15, none, .mov false, [.t 4]⟩,
         ⟨some 16, none, .bin .leq, [.t 14, .t 15]⟩])
      (.cond (.t 16)
      .skip
      (.exit 0)))
     (.seq
     (.block 1
      (.seq
       (.seq
        (.reg [⟨some 8, none, .mov true, [.c (.p (.int .i64 0))]⟩])
        (.block 2
        (.loop [2, 3, 9, 10, 11, 12, 13, 14, 15, 16, 17, 18, 19, 20, 21, 22, 23, 24, 25, 26, 27, 28, 29, 30, 31, 32, 33, 34, 35, 36, 37, 38, 39, 40, 41, 42, 43, 44, 45, 46, 47, 48, 49, 50, 51, 52, 53, 54, 55, 56, 57, 58, 59, 60] []
         (.seq
          (.seq
           (.reg [⟨some 19, none, .mov false, [.t 8]⟩,
              ⟨some 20, none, .mov false, [.t 0]⟩,
              ⟨some 21, none, .len, [.t 20]⟩,
              ⟨some 22, none, .bin .lss, [.t 19, .t 21]⟩])
           (.cond (.t 22)
           .skip
           (.exit 2)))
          (.seq
          (.block 3
           (.seq
            (.regd [⟨some 25, none, .mov false, [.t 7]⟩,
               ⟨some 26, none, .mov false, [.t 0]⟩,
               ⟨some 27, none, .mov false, [.t 8]⟩,
               ⟨some 28, none, .iad 3, [.t 26, .t 27]⟩,
               ⟨some 29, none, .fad 1, [.t 28]⟩,
               ⟨some 30, none, .loadp 1 false, [.t 29]⟩,
               ⟨some 31, none, .bin .geq, [.t 25, .t 30]⟩,
               ⟨some 32, none, .mov false, [.t 31]⟩,
               ⟨some 33, (some (32, true)), .mov false, [.t 7]⟩,
               ⟨some 34, (some (32, true)), .mov false, [.t 0]⟩,
               ⟨some 35, (some (32, true)), .mov false, [.t 8]⟩,
               ⟨some 36, (some (32, true)), .iad 3, [.t 34, .t 35]⟩,
               ⟨some 37, (some (32, true)), .fad 1, [.t 36]⟩,
               ⟨some 38, (some (32, true)), .loadp 1 false, [.t 37]⟩,
               ⟨some 39, (some (32, true)), .bin .sub, [.t 33, .t 38]⟩,
               ⟨some 40, (some (32, true)), .mov false, [.t 0]⟩,
               ⟨some 41, (some (32, true)), .mov false, [.t 8]⟩,
               ⟨some 42, (some (32, true)), .iad 3, [.t 40, .t 41]⟩,
               ⟨some 43, (some (32, true)), .fad 2, [.t 42]⟩,
               ⟨some 44, (some (32, true)), .loadp 1 false, [.t 43]⟩,
               ⟨some 45, (some (32, true)), .bin .rem, [.t 39, .t 44]⟩,
               ⟨some 46, (some (32, true)), .bin .eql, [.t 45, .c (.p (.int .i64 0))]⟩,
               ⟨some 47, none, .pick, [.t 32, .t 46, .c (.p (.bool false))]⟩])
            (.cond (.t 47)
            (.reg [⟨some 48, none, .mov false, [.t 6]⟩,
               ⟨some 49, none, .mov false, [.t 0]⟩,
               ⟨some 50, none, .mov false, [.t 8]⟩,
               ⟨some 51, none, .iad 3, [.t 49, .t 50]⟩,
               ⟨some 52, none, .fad 0, [.t 51]⟩,
               ⟨some 53, none, .load 1 false false, [.t 52]⟩,
               ⟨some 54, none, .bin .add, [.t 48, .t 53]⟩,
               ⟨some 6, none, .mov true, [.t 54]⟩])
            .skip)))
          (.reg [⟨some 23, none, .mov false, [.t 8]⟩,
            ⟨some 24, none, .bin .add, [.t 23, .c (.p (.int .i64 1))]⟩,
            ⟨some 8, none, .mov true, [.t 24]⟩]))))))
       (.seq
       (.reg [⟨some 55, none, .mov false, [.t 6]⟩,
          ⟨some 56, none, .mov false, [.t 7]⟩,
          ⟨some 57, none, .bin .gtr, [.t 55, .t 56]⟩])
       (.cond (.t 57)
       (.seq
        (.reg [⟨some 58, none, .mov false, [.t 7]⟩,
           ⟨some 59, none, .mov false, [.t 5]⟩,
           ⟨some 2, none, .mov true, [.t 58]⟩,
           ⟨some 3, none, .mov true, [.t 59]⟩])
        .ret)
       .skip))))
     (.reg [⟨some 17, none, .mov false, [.t 7]⟩,
       ⟨some 18, none, .bin .add, [.t 17, .c (.p (.int .i64 1))]⟩,
       ⟨some 7, none, .mov true, [.t 18]⟩]))))))
  (.seq
  (.reg [⟨some 60, none, .mov false, [.t 5]⟩,
     ⟨some 2, none, .mov true, [.c (.p (.int .i64 0))]⟩,
     ⟨some 3, none, .mov true, [.t 60]⟩])
  .ret)))))⟩
-- a loop, at its head alive: [0, 4, 5, 6, 7]
-- a loop, at its head alive: [0, 4, 5, 6, 7, 8]
theorem k61 : chkF Tryz.prog 61 F61 = true := by kernel_rfl
def F62 : Fn := ⟨35, 2, [.tmp 4],
 (.seq
  (.reg [⟨some 2, none, .box 0 5, [.t 0]⟩,
     ⟨some 3, none, .box 1 4, [.t 1]⟩,
     ⟨some 4, none, .mov true, [.c (.p (.bool false))]⟩])
  (.seq
  (.reg [⟨some 5, none, .fad 0, [.t 3]⟩,
     ⟨some 6, none, .load 1 false false, [.t 5]⟩,
     ⟨some 7, none, .bin .geq, [.t 6, .c (.p (.int .i64 0))]⟩,
     ⟨some 8, none, .mov false, [.t 7]⟩,
     ⟨some 9, (some (8, true)), .fad 0, [.t 3]⟩,
     ⟨some 10, (some (8, true)), .load 1 false false, [.t 9]⟩,
     ⟨some 11, (some (8, true)), .fad 0, [.t 2]⟩,
     ⟨some 12, (some (8, true)), .load 1 false false, [.t 11]⟩,
     ⟨some 13, (some (8, true)), .bin .lss, [.t 10, .t 12]⟩,
     ⟨some 14, none, .pick, [.t 8, .t 13, .c (.p (.bool false))]⟩,
     ⟨some 15, none, .mov false, [.t 14]⟩,
     ⟨some 16, (some (15, true)), .fad 1, [.t 3]⟩,
     ⟨some 17, (some (15, true)), .load 1 false false, [.t 16]⟩,
     ⟨some 18, (some (15, true)), .call 65, [.t 17, .c (.p (.int .i64 0)), .c (.p (.int .i64 200))]⟩,
     ⟨some 19, none, .pick, [.t 15, .t 18, .c (.p (.bool false))]⟩,
     ⟨some 20, none, .mov false, [.t 19]⟩,
     ⟨some 21, (some (20, true)), .fad 3, [.t 3]⟩,
     ⟨some 22, (some (20, true)), .load 1 false false, [.t 21]⟩,
     ⟨some 23, (some (20, true)), .bin .geq, [.t 22, .c (.p (.int .i64 1))]⟩,
     ⟨some 24, none, .pick, [.t 20, .t 23, .c (.p (.bool false))]⟩,
     ⟨some 25, none, .mov false, [.t 24]⟩,
     ⟨some 26, (some (25, true)), .fad 2, [.t 3]⟩,
     ⟨some 27, (some (25, true)), .load 1 false false, [.t 26]⟩,
     ⟨some 28, (some (25, true)), .fad 3, [.t 3]⟩,
     ⟨some 29, (some (25, true)), .load 1 false false, [.t 28]⟩,
     ⟨some 30, (some (25, true)), .fad 1, [.t 3]⟩,
     ⟨some 31, (some (25, true)), .load 1 false false, [.t 30]⟩,
     ⟨some 32, (some (25, true)), .bin .sub, [.c (.p (.int .i64 200)), .t 31]⟩,
     ⟨some 33, (some (25, true)), .call 65, [.t 27, .t 29, .t 32]⟩,
     ⟨some 34, none, .pick, [.t 25, .t 33, .c (.p (.bool false))]⟩,
     ⟨some 4, none, .mov true, [.t 34]⟩])
  .ret))⟩
theorem k62 : chkF Tryz.prog 62 F62 = true := by kernel_rfl
def F63 : Fn := ⟨26, 0, [.tmp 4],
 (.seq
  (.reg [⟨some 4, none, .mov true, [.c (.p (.bool false))]⟩])
  (.seq
  (.seq
   (.reg [⟨some 6, none, .mov false, [.t 0]⟩,
      ⟨some 7, none, .len, [.t 6]⟩,
      ⟨some 8, none, .mov false, [.t 1]⟩,
      ⟨some 9, none, .len, [.t 8]⟩,
      ⟨some 10, none, .bin .neq, [.t 7, .t 9]⟩])
   (.cond (.t 10)
   (.seq
    (.reg [⟨some 4, none, .mov true, [.c (.p (.bool false))]⟩])
    .ret)
   .skip))
  (.seq
  (.seq
   (.reg [⟨some 11, none, .mov false, [.t 0]⟩,
      ⟨some 12, none, .len, [.t 11]⟩,
      ⟨some 13, none, .mov false, [.c (.p (.int .i64 0))]⟩])
   (.block 0
   (.loop [4, 5, 6, 7, 8, 9, 10, 11, 14, 15, 16, 17, 18, 19, 20, 21, 22, 23, 24, 25] []
    (.seq
     (.reg [⟨some 14, none, .bin .lss, [.t 13, .t 12]⟩])
     (.seq
     (.cond (.t 14)
      .skip
      (.exit 0))
     (.seq
     (.block 1
      (.seq
       (.reg [⟨some 15, none, .mov false, [.t 13]⟩,
          ⟨some 5, none, .mov true, [.t 15]⟩])
       (.seq
       (.regd [⟨some 16, none, .mov false, [.t 0]⟩,
          ⟨some 17, none, .mov false, [.t 5]⟩,
          ⟨some 18, none, .iad 4, [.t 16, .t 17]⟩,
          ⟨some 19, none, .loadp 4 true, [.t 18]⟩,
          ⟨some 20, none, .mov false, [.t 1]⟩,
          ⟨some 21, none, .mov false, [.t 5]⟩,
          ⟨some 22, none, .iad 4, [.t 20, .t 21]⟩,
          ⟨some 23, none, .loadp 4 true, [.t 22]⟩,
          ⟨some 24, none, .eqs 4 true, [.t 19, .t 23]⟩])
       (.cond (.t 24)
       (.seq
        (.reg [⟨some 4, none, .mov true, [.c (.p (.bool false))]⟩])
        .ret)
       .skip))))
     (.reg [⟨some 25, none, .bin .add, [.t 13, .c (.p (.int .i64 1))]⟩,
       ⟨some 13, none, .mov false, [.t 25]⟩])))))))
  (.seq
  (.reg [⟨some 4, none, .mov true, [.c (.p (.bool true))]⟩])
  .ret))))⟩
-- a loop, at its head alive: [0, 1, 12, 13]
theorem k63 : chkF Tryz.prog 63 F63 = true := by kernel_rfl

end Go.Proofs.YtkjghcbnmipgfaaGreatDoor.Vc
