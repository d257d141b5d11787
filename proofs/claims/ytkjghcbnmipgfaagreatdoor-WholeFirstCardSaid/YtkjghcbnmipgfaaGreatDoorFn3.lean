/- Short forms of functions, and that they are those functions. No condition. -/
import Derived.Test.YtkjghcbnmipgfaaGreatDoorVcEv
import Derived.Test.YtkjghcbnmipgfaaGreatDoorProg
namespace Go.Proofs.YtkjghcbnmipgfaaGreatDoor.Vc
open Go.RowKit

def F64 : Fn := ⟨83, 4, [.tmp 0],
 (.seq
  (.reg [⟨some 0, none, .mov true, [.c (.p (.bool false))]⟩])
  (.seq
  (.reg [⟨some 6, none, .bsl 1 1, [.c (.p (.int .i64 0))]⟩,
     ⟨some 7, none, .build [.int .i64 0, .int .i64 0, .int .i64 0, .int .i64 0, .sl 1 true []] [(0, 1), (1, 1), (2, 1), (4, 1)], [.c (.p (.int .i64 2)), .c (.p (.int .i64 1)), .c (.p (.int .i64 1)), .t 6]⟩,
     ⟨some 1, none, .alloc 0 5 [.p (.int .i64 0), .p (.int .i64 0), .p (.int .i64 0), .p (.int .i64 0), .ow 1 true []], []⟩,
     ⟨none, none, .store 5, [.t 1, .t 7]⟩])
  (.seq
  (.reg [⟨some 8, none, .build [.int .i64 0, .int .i64 0, .int .i64 0] [(1, 1), (2, 1)], [.c (.p (.int .i64 1)), .c (.p (.int .i64 2))]⟩,
     ⟨some 9, none, .bsl 3 1, [.t 8]⟩,
     ⟨some 10, none, .build [.int .i64 0, .int .i64 0, .int .i64 0, .sl 3 true []] [(0, 1), (1, 1), (2, 1), (3, 1)], [.c (.p (.int .i64 3)), .c (.p (.int .i64 20)), .c (.p (.int .i64 20)), .t 9]⟩,
     ⟨some 2, none, .alloc 1 4 [.p (.int .i64 0), .p (.int .i64 0), .p (.int .i64 0), .ow 3 true []], []⟩,
     ⟨none, none, .store 4, [.t 2, .t 10]⟩])
  (.seq
  (.reg [⟨some 11, none, .build [.int .i64 0, .int .i64 0, .int .i64 0] [(1, 1), (2, 1)], [.c (.p (.int .i64 1)), .c (.p (.int .i64 4))]⟩,
     ⟨some 12, none, .bsl 3 1, [.t 11]⟩,
     ⟨some 13, none, .build [.int .i64 0, .int .i64 0, .int .i64 0, .sl 3 true []] [(0, 1), (1, 1), (2, 1), (3, 1)], [.c (.p (.int .i64 3)), .c (.p (.int .i64 20)), .c (.p (.int .i64 30)), .t 12]⟩,
     ⟨some 3, none, .alloc 2 4 [.p (.int .i64 0), .p (.int .i64 0), .p (.int .i64 0), .ow 3 true []], []⟩,
     ⟨none, none, .store 4, [.t 3, .t 13]⟩])
  (.seq
  (.reg [⟨some 14, none, .build [.int .i64 0, .int .i64 0, .int .i64 0, .int .i64 0] [(0, 1), (2, 1), (3, 1)], [.c (.p (.int .i64 1)), .c (.p (.int .i64 20)), .c (.p (.int .i64 3))]⟩,
     ⟨some 15, none, .bsl 4 1, [.t 14]⟩,
     ⟨some 16, none, .build [.int .i64 0, .sl 4 true []] [(0, 1), (1, 1)], [.c (.p (.int .i64 1)), .t 15]⟩,
     ⟨some 4, none, .alloc 3 2 [.p (.int .i64 0), .ow 4 true []], []⟩,
     ⟨none, none, .store 2, [.t 4, .t 16]⟩])
  (.seq
  (.reg [⟨some 17, none, .load 5 true false, [.t 1]⟩,
     ⟨some 18, none, .load 4 true false, [.t 2]⟩,
     ⟨some 19, none, .load 4 true false, [.t 3]⟩,
     ⟨some 20, none, .bsl 4 2, [.t 18, .t 19]⟩,
     ⟨some 21, none, .load 2 true false, [.t 4]⟩,
     ⟨some 22, none, .load 2 true false, [.t 4]⟩,
     ⟨some 23, none, .bsl 2 2, [.t 21, .t 22]⟩,
     ⟨some 24, none, .call 81, [.t 17, .t 20, .t 23]⟩,
     ⟨some 5, none, .mov true, [.t 24]⟩])
  (.seq
  (.reg [⟨some 25, none, .call 82, []⟩,
     ⟨some 26, none, .mov false, [.t 25]⟩,
     ⟨some 27, (some (26, true)), .load 5 true false, [.t 1]⟩,
     ⟨some 28, (some (26, true)), .load 4 true false, [.t 3]⟩,
     ⟨some 29, (some (26, true)), .call 83, [.t 27, .t 28, .c (.p (.int .i64 0))]⟩,
     ⟨some 30, (some (26, true)), .bin .eql, [.t 29, .c (.p (.int .i64 4))]⟩,
     ⟨some 31, none, .pick, [.t 26, .t 30, .c (.p (.bool false))]⟩,
     ⟨some 32, none, .mov false, [.t 31]⟩,
     ⟨some 33, (some (32, true)), .load 5 true false, [.t 1]⟩,
     ⟨some 34, (some (32, true)), .load 4 true false, [.t 2]⟩,
     ⟨some 35, (some (32, true)), .load 4 true false, [.t 3]⟩,
     ⟨some 36, (some (32, true)), .bsl 4 2, [.t 34, .t 35]⟩,
     ⟨some 37, (some (32, true)), .call 84, [.t 33, .t 36, .c (.p (.int .i64 0)), .c (.p (.int .i64 0))]⟩,
     ⟨some 38, (some (32, true)), .bin .eql, [.t 37, .c (.p (.int .i64 8))]⟩,
     ⟨some 39, none, .pick, [.t 32, .t 38, .c (.p (.bool false))]⟩,
     ⟨some 40, none, .mov false, [.t 39]⟩,
     ⟨some 41, (some (40, true)), .load 5 true false, [.t 1]⟩,
     ⟨some 42, (some (40, true)), .load 4 true false, [.t 2]⟩,
     ⟨some 43, (some (40, true)), .load 4 true false, [.t 3]⟩,
     ⟨some 44, (some (40, true)), .bsl 4 2, [.t 42, .t 43]⟩,
     ⟨some 45, (some (40, true)), .call 85, [.t 41, .t 44, .c (.p (.int .i64 1))]⟩,
     ⟨some 46, (some (40, true)), .bin .eql, [.t 45, .c (.p (.int .i64 8))]⟩,
     ⟨some 47, none, .pick, [.t 40, .t 46, .c (.p (.bool false))]⟩,
     ⟨some 48, none, .mov false, [.t 47]⟩,
     ⟨some 49, (some (48, true)), .mov false, [.t 5]⟩,
     ⟨some 50, (some (48, true)), .len, [.t 49]⟩,
     ⟨some 51, (some (48, true)), .bin .eql, [.t 50, .c (.p (.int .i64 2))]⟩,
     ⟨some 52, none, .pick, [.t 48, .t 51, .c (.p (.bool false))]⟩,
     ⟨some 53, none, .mov false, [.t 52]⟩,
     ⟨some 54, (some (53, true)), .mov false, [.t 5]⟩,
     ⟨some 55, (some (53, true)), .iad 1, [.t 54, .c (.p (.int .i64 0))]⟩,
     ⟨some 56, (some (53, true)), .load 1 false false, [.t 55]⟩,
     ⟨some 57, (some (53, true)), .len, [.t 56]⟩,
     ⟨some 58, (some (53, true)), .bin .eql, [.t 57, .c (.p (.int .i64 0))]⟩,
     ⟨some 59, none, .pick, [.t 53, .t 58, .c (.p (.bool false))]⟩,
     ⟨some 60, none, .mov false, [.t 59]⟩,
     ⟨some 61, (some (60, true)), .mov false, [.t 5]⟩,
     ⟨some 62, (some (60, true)), .iad 1, [.t 61, .c (.p (.int .i64 1))]⟩,
     ⟨some 63, (some (60, true)), .load 1 false false, [.t 62]⟩,
     ⟨some 64, (some (60, true)), .len, [.t 63]⟩,
     ⟨some 65, (some (60, true)), .bin .eql, [.t 64, .c (.p (.int .i64 2))]⟩,
     ⟨some 66, none, .pick, [.t 60, .t 65, .c (.p (.bool false))]⟩,
     ⟨some 67, none, .mov false, [.t 66]⟩,
     ⟨some 68, (some (67, true)), .mov false, [.t 5]⟩,
     ⟨some 69, (some (67, true)), .iad 1, [.t 68, .c (.p (.int .i64 1))]⟩,
     ⟨some 70, (some (67, true)), .load 1 false false, [.t 69]⟩,
     ⟨some 71, (some (67, true)), .iad 3, [.t 70, .c (.p (.int .i64 0))]⟩,
     ⟨some 72, (some (67, true)), .fad 0, [.t 71]⟩,
     ⟨some 73, (some (67, true)), .load 1 false false, [.t 72]⟩,
     ⟨some 74, (some (67, true)), .bin .eql, [.t 73, .c (.p (.int .i64 11))]⟩,
     ⟨some 75, none, .pick, [.t 67, .t 74, .c (.p (.bool false))]⟩,
     ⟨some 76, none, .mov false, [.t 75]⟩,
     ⟨some 77, (some (76, true)), .mov false, [.t 5]⟩,
     ⟨some 78, (some (76, true)), .iad 1, [.t 77, .c (.p (.int .i64 1))]⟩,
     ⟨some 79, (some (76, true)), .load 1 false false, [.t 78]⟩,
     ⟨some 80, (some (76, true)), .call 86, [.t 79]⟩,
     ⟨some 81, (some (76, true)), .bin .eql, [.t 80, .c (.p (.int .i64 9167))]⟩,
     ⟨some 82, none, .pick, [.t 76, .t 81, .c (.p (.bool false))]⟩,
     ⟨some 0, none, .mov true, [.t 82]⟩])
  .ret)))))))⟩
theorem k64 : chkF Tryz.prog 64 F64 = true := by kernel_rfl
def F65 : Fn := ⟨15, 0, [.tmp 6],
 (.seq
  (.reg [⟨some 6, none, .mov true, [.c (.p (.bool false))]⟩])
  (.seq
  (.reg [⟨some 7, none, .mov false, [.t 0]⟩,
     ⟨some 8, none, .mov false, [.t 1]⟩,
     ⟨some 9, none, .bin .geq, [.t 7, .t 8]⟩,
     ⟨some 10, none, .mov false, [.t 9]⟩,
     ⟨some 11, (some (10, true)), .mov false, [.t 0]⟩,
     ⟨some 12, (some (10, true)), .mov false, [.t 2]⟩,
     ⟨some 13, (some (10, true)), .bin .leq, [.t 11, .t 12]⟩,
     ⟨some 14, none, .pick, [.t 10, .t 13, .c (.p (.bool false))]⟩,
     ⟨some 6, none, .mov true, [.t 14]⟩])
  .ret))⟩
theorem k65 : chkF Tryz.prog 65 F65 = true := by kernel_rfl
def F66 : Fn := ⟨22, 0, [.tmp 2, .tmp 3],
 (.seq
  (.reg [⟨some 2, none, .mov true, [.c (.p (.int .i64 0))]⟩,
     ⟨some 3, none, .mov true, [.c (.p (.bool false))]⟩])
  (.seq
  (.seq
   (.reg [⟨some 6, none, .mov false, [.t 0]⟩,
      ⟨some 7, none, .call 87, [.t 6]⟩,
      ⟨some 8, none, .un .not, [.t 7]⟩])
   (.cond (.t 8)
   (.seq
    (.reg [⟨some 2, none, .mov true, [.c (.p (.int .i64 0))]⟩,
       ⟨some 3, none, .mov true, [.c (.p (.bool false))]⟩])
    .ret)
   .skip))
  (.seq
  (.seq
   (.reg [⟨some 9, none, .mov false, [.t 0]⟩,
      ⟨some 10, none, .len, [.t 9]⟩,
      ⟨some 11, none, .bin .eql, [.t 10, .c (.p (.int .i64 0))]⟩])
   (.cond (.t 11)
   (.seq
    (.reg [⟨some 2, none, .mov true, [.c (.p (.int .i64 0))]⟩,
       ⟨some 3, none, .mov true, [.c (.p (.bool true))]⟩])
    .ret)
   .skip))
  (.seq
  (.seq
   (.reg [⟨some 4, none, .mov true, [.c (.p (.int .i64 1))]⟩])
   (.block 0
   (.loop [2, 3, 5, 6, 7, 8, 9, 10, 11, 12, 13, 14, 15, 16, 17, 18, 19, 20, 21] []
    (.seq
     (.seq
      (.reg [⟨some 12, none, .mov false, [.t 4]⟩,
         ⟨some 13, none, .bin .leq, [.t 12, .c (.p (.int .i64 20000))]⟩])
      (.cond (.t 13)
      .skip
      (.exit 0)))
     (.block 1
     (.seq
      (.reg [⟨some 14, none, .mov false, [.t 0]⟩,
         ⟨some 15, none, .mov false, [.t 4]⟩,
         ⟨some 16, none, .call 88, [.t 14, .t 15]⟩,
         ⟨some 5, none, .mov true, [.t 16]⟩])
      (.seq
      (.seq
       (.reg [⟨some 17, none, .mov false, [.t 5]⟩,
          ⟨some 18, none, .mov false, [.t 4]⟩,
          ⟨some 19, none, .bin .eql, [.t 17, .t 18]⟩])
       (.cond (.t 19)
       (.seq
        (.reg [⟨some 20, none, .mov false, [.t 4]⟩,
           ⟨some 2, none, .mov true, [.t 20]⟩,
           ⟨some 3, none, .mov true, [.c (.p (.bool true))]⟩])
        .ret)
       .skip))
      (.reg [⟨some 21, none, .mov false, [.t 5]⟩,
        ⟨some 4, none, .mov true, [.t 21]⟩]))))))))
  (.seq
  (.reg [⟨some 2, none, .mov true, [.c (.p (.int .i64 0))]⟩,
     ⟨some 3, none, .mov true, [.c (.p (.bool false))]⟩])
  .ret)))))⟩
-- a loop, at its head alive: [0, 4]
theorem k66 : chkF Tryz.prog 66 F66 = true := by kernel_rfl
def F67 : Fn := ⟨45, 1, [.tmp 2, .tmp 3],
 (.seq
  (.reg [⟨some 2, none, .mov true, [.c (.p (.int .i64 0))]⟩,
     ⟨some 3, none, .mov true, [.c (.p (.bool false))]⟩])
  (.seq
  (.reg [⟨some 11, none, .mov false, [.t 0]⟩,
     ⟨some 12, none, .call 66, [.t 11]⟩,
     ⟨some 10, none, .mov false, [.t 12]⟩,
     ⟨some 13, none, .ext 0, [.t 10]⟩,
     ⟨some 14, none, .ext 1, [.t 10]⟩,
     ⟨some 4, none, .mov true, [.t 13]⟩,
     ⟨some 5, none, .mov true, [.t 14]⟩])
  (.seq
  (.seq
   (.reg [⟨some 15, none, .mov false, [.t 5]⟩,
      ⟨some 16, none, .un .not, [.t 15]⟩])
   (.cond (.t 16)
   (.seq
    (.reg [⟨some 2, none, .mov true, [.c (.p (.int .i64 0))]⟩,
       ⟨some 3, none, .mov true, [.c (.p (.bool false))]⟩])
    .ret)
   .skip))
  (.seq
  (.reg [⟨some 17, none, .mov false, [.t 4]⟩,
     ⟨some 18, none, .bin .add, [.t 17, .c (.p (.int .i64 1))]⟩,
     ⟨some 6, none, .mov true, [.t 18]⟩])
  (.seq
  (.seq
   (.reg [⟨some 19, none, .mov false, [.t 0]⟩,
      ⟨some 20, none, .len, [.t 19]⟩,
      ⟨some 21, none, .mov false, [.c (.p (.int .i64 0))]⟩])
   (.block 0
   (.loop [2, 3, 5, 8, 9, 10, 11, 12, 13, 14, 15, 16, 17, 18, 22, 23, 24, 25, 26, 27, 28, 29, 30, 31, 32, 33, 34, 35, 36, 37, 38, 39, 40, 41, 42, 43, 44] [0]
    (.seq
     (.reg [⟨some 22, none, .bin .lss, [.t 21, .t 20]⟩])
     (.seq
     (.cond (.t 22)
      .skip
      (.exit 0))
     (.seq
     (.block 1
      (.seq
       (.reg [⟨some 23, none, .iad 3, [.t 19, .t 21]⟩,
          ⟨some 24, none, .load 3 true false, [.t 23]⟩,
          ⟨some 8, none, .alloc 0 3 [.p (.int .i64 0), .p (.int .i64 0), .p (.int .i64 0)], []⟩,
          ⟨none, none, .store 3, [.t 8, .t 24]⟩])
       (.seq
       (.reg [⟨some 25, none, .fad 1, [.t 8]⟩,
          ⟨some 26, none, .load 1 false false, [.t 25]⟩,
          ⟨some 9, none, .mov true, [.t 26]⟩])
       (.block 2
       (.loop [2, 3, 5, 10, 11, 12, 13, 14, 15, 16, 17, 18, 22, 23, 24, 25, 26, 27, 28, 29, 30, 31, 32, 33, 34, 35, 36, 37, 38, 39, 40, 41, 42, 43, 44] []
        (.seq
         (.seq
          (.reg [⟨some 27, none, .mov false, [.t 9]⟩,
             ⟨some 28, none, .mov false, [.t 6]⟩,
             ⟨some 29, none, .bin .lss, [.t 27, .t 28]⟩])
          (.cond (.t 29)
          .skip
          (.exit 2)))
         (.seq
         (.block 3
          (.seq
           (.reg [⟨some 34, none, .mov false, [.t 0]⟩,
              ⟨some 35, none, .mov false, [.t 9]⟩,
              ⟨some 36, none, .call 89, [.t 34, .t 35]⟩,
              ⟨some 37, none, .mov false, [.t 9]⟩,
              ⟨some 38, none, .bin .gtr, [.t 36, .t 37]⟩])
           (.cond (.t 38)
           (.reg [⟨some 39, none, .mov false, [.t 9]⟩,
              ⟨some 6, none, .mov true, [.t 39]⟩])
           .skip)))
         (.reg [⟨some 30, none, .mov false, [.t 9]⟩,
           ⟨some 31, none, .fad 2, [.t 8]⟩,
           ⟨some 32, none, .load 1 false false, [.t 31]⟩,
           ⟨some 33, none, .bin .add, [.t 30, .t 32]⟩,
           ⟨some 9, none, .mov true, [.t 33]⟩]))))))))
     (.reg [⟨some 40, none, .bin .add, [.t 21, .c (.p (.int .i64 1))]⟩,
       ⟨some 21, none, .mov false, [.t 40]⟩])))))))
  (.seq
  (.seq
   (.reg [⟨some 41, none, .mov false, [.t 6]⟩,
      ⟨some 42, none, .mov false, [.t 4]⟩,
      ⟨some 43, none, .bin .gtr, [.t 41, .t 42]⟩])
   (.cond (.t 43)
   (.seq
    (.reg [⟨some 2, none, .mov true, [.c (.p (.int .i64 0))]⟩,
       ⟨some 3, none, .mov true, [.c (.p (.bool false))]⟩])
    .ret)
   .skip))
  (.seq
  (.reg [⟨some 44, none, .mov false, [.t 6]⟩,
     ⟨some 2, none, .mov true, [.t 44]⟩,
     ⟨some 3, none, .mov true, [.c (.p (.bool true))]⟩])
  .ret)))))))⟩
-- a loop, at its head alive: [0, 4, 6, 19, 20, 21]
-- a loop, at its head alive: [0, 4, 6, 8, 9, 19, 20, 21]
theorem k67 : chkF Tryz.prog 67 F67 = true := by kernel_rfl
def F68 : Fn := ⟨15, 0, [.tmp 6],
 (.seq
  (.reg [⟨some 6, none, .mov true, [.c (.p (.bool false))]⟩])
  (.seq
  (.reg [⟨some 7, none, .mov false, [.t 0]⟩,
     ⟨some 8, none, .mov false, [.t 1]⟩,
     ⟨some 9, none, .bin .geq, [.t 7, .t 8]⟩,
     ⟨some 10, none, .mov false, [.t 9]⟩,
     ⟨some 11, (some (10, true)), .mov false, [.t 0]⟩,
     ⟨some 12, (some (10, true)), .mov false, [.t 2]⟩,
     ⟨some 13, (some (10, true)), .bin .leq, [.t 11, .t 12]⟩,
     ⟨some 14, none, .pick, [.t 10, .t 13, .c (.p (.bool false))]⟩,
     ⟨some 6, none, .mov true, [.t 14]⟩])
  .ret))⟩
theorem k68 : chkF Tryz.prog 68 F68 = true := by kernel_rfl
def F69 : Fn := ⟨12, 0, [.tmp 3],
 (.seq
  (.reg [⟨some 3, none, .mov true, [.c (.p (.bool false))]⟩])
  (.seq
  (.reg [⟨some 4, none, .mov false, [.t 0]⟩,
     ⟨some 5, none, .bin .lss, [.t 4, .c (.p (.int .i64 0))]⟩,
     ⟨some 6, none, .mov false, [.t 5]⟩,
     ⟨some 7, (some (6, false)), .mov false, [.t 0]⟩,
     ⟨some 8, (some (6, false)), .fad 1, [.t 1]⟩,
     ⟨some 9, (some (6, false)), .load 1 false false, [.t 8]⟩,
     ⟨some 10, (some (6, false)), .bin .geq, [.t 7, .t 9]⟩,
     ⟨some 11, none, .pick, [.t 6, .c (.p (.bool true)), .t 10]⟩,
     ⟨some 3, none, .mov true, [.t 11]⟩])
  .ret))⟩
theorem k69 : chkF Tryz.prog 69 F69 = true := by kernel_rfl
def F70 : Fn := ⟨9, 0, [.tmp 4],
 (.seq
  (.reg [⟨some 4, none, .mov true, [.c (.p (.bool false))]⟩])
  (.seq
  (.reg [⟨some 5, none, .mov false, [.t 0]⟩,
     ⟨some 6, none, .mov false, [.t 1]⟩,
     ⟨some 7, none, .call 90, [.t 5, .t 6]⟩,
     ⟨some 8, none, .bin .geq, [.t 7, .c (.p (.int .i64 0))]⟩,
     ⟨some 4, none, .mov true, [.t 8]⟩])
  .ret))⟩
theorem k70 : chkF Tryz.prog 70 F70 = true := by kernel_rfl
def F71 : Fn := ⟨47, 2, [.tmp 4],
 (.seq
  (.reg [⟨some 2, none, .box 0 5, [.t 0]⟩,
     ⟨some 3, none, .box 1 4, [.t 1]⟩,
     ⟨some 4, none, .mov true, [.c (.p (.bool false))]⟩])
  (.seq
  (.reg [⟨some 6, none, .fad 0, [.t 3]⟩,
     ⟨some 7, none, .load 1 false false, [.t 6]⟩,
     ⟨some 8, none, .bin .geq, [.t 7, .c (.p (.int .i64 0))]⟩,
     ⟨some 9, none, .mov false, [.t 8]⟩,
     ⟨some 10, (some (9, true)), .fad 0, [.t 3]⟩,
     ⟨some 11, (some (9, true)), .load 1 false false, [.t 10]⟩,
     ⟨some 12, (some (9, true)), .fad 0, [.t 2]⟩,
     ⟨some 13, (some (9, true)), .load 1 false false, [.t 12]⟩,
     ⟨some 14, (some (9, true)), .bin .lss, [.t 11, .t 13]⟩,
     ⟨some 15, none, .pick, [.t 9, .t 14, .c (.p (.bool false))]⟩,
     ⟨some 16, none, .mov false, [.t 15]⟩,
     ⟨some 17, (some (16, true)), .fad 1, [.t 3]⟩,
     ⟨some 18, (some (16, true)), .load 1 false false, [.t 17]⟩,
     ⟨some 19, (some (16, true)), .call 68, [.t 18, .c (.p (.int .i64 0)), .c (.p (.int .i64 200))]⟩,
     ⟨some 20, none, .pick, [.t 16, .t 19, .c (.p (.bool false))]⟩,
     ⟨some 5, none, .mov true, [.t 20]⟩])
  (.seq
  (.reg [⟨some 21, none, .mov false, [.t 5]⟩,
     ⟨some 22, none, .mov false, [.t 21]⟩,
     ⟨some 23, (some (22, true)), .fad 3, [.t 3]⟩,
     ⟨some 24, (some (22, true)), .load 1 false false, [.t 23]⟩,
     ⟨some 25, (some (22, true)), .bin .geq, [.t 24, .c (.p (.int .i64 1))]⟩,
     ⟨some 26, none, .pick, [.t 22, .t 25, .c (.p (.bool false))]⟩,
     ⟨some 27, none, .mov false, [.t 26]⟩,
     ⟨some 28, (some (27, true)), .fad 3, [.t 3]⟩,
     ⟨some 29, (some (27, true)), .load 1 false false, [.t 28]⟩,
     ⟨some 30, (some (27, true)), .fad 2, [.t 3]⟩,
     ⟨some 31, (some (27, true)), .load 1 false false, [.t 30]⟩,
     ⟨some 32, (some (27, true)), .bin .leq, [.t 29, .t 31]⟩,
     ⟨some 33, none, .pick, [.t 27, .t 32, .c (.p (.bool false))]⟩,
     ⟨some 34, none, .mov false, [.t 33]⟩,
     ⟨some 35, (some (34, true)), .fad 2, [.t 3]⟩,
     ⟨some 36, (some (34, true)), .load 1 false false, [.t 35]⟩,
     ⟨some 37, (some (34, true)), .bin .leq, [.t 36, .c (.p (.int .i64 200))]⟩,
     ⟨some 38, none, .pick, [.t 34, .t 37, .c (.p (.bool false))]⟩,
     ⟨some 39, none, .mov false, [.t 38]⟩,
     ⟨some 40, (some (39, true)), .fad 1, [.t 3]⟩,
     ⟨some 41, (some (39, true)), .load 1 false false, [.t 40]⟩,
     ⟨some 42, (some (39, true)), .fad 2, [.t 3]⟩,
     ⟨some 43, (some (39, true)), .load 1 false false, [.t 42]⟩,
     ⟨some 44, (some (39, true)), .bin .add, [.t 41, .t 43]⟩,
     ⟨some 45, (some (39, true)), .bin .leq, [.t 44, .c (.p (.int .i64 200))]⟩,
     ⟨some 46, none, .pick, [.t 39, .t 45, .c (.p (.bool false))]⟩,
     ⟨some 4, none, .mov true, [.t 46]⟩])
  .ret)))⟩
theorem k71 : chkF Tryz.prog 71 F71 = true := by kernel_rfl
def F72 : Fn := ⟨40, 0, [.tmp 8],
 (.seq
  (.reg [⟨some 8, none, .mov true, [.c (.p (.int .i64 0))]⟩])
  (.seq
  (.seq
   (.reg [⟨some 12, none, .mov false, [.t 0]⟩,
      ⟨some 13, none, .mov false, [.t 1]⟩,
      ⟨some 14, none, .mov false, [.t 2]⟩,
      ⟨some 15, none, .call 91, [.t 12, .t 13, .t 14]⟩,
      ⟨some 16, none, .un .not, [.t 15]⟩])
   (.cond (.t 16)
   (.seq
    (.reg [⟨some 8, none, .mov true, [.c (.p (.int .i64 0))]⟩])
    .ret)
   .skip))
  (.seq
  (.reg [⟨some 17, none, .mov false, [.t 3]⟩,
     ⟨some 18, none, .mov false, [.t 1]⟩,
     ⟨some 19, none, .mn, [.t 17, .t 18]⟩,
     ⟨some 9, none, .mov true, [.c (.p (.int .i64 0))]⟩,
     ⟨some 10, none, .mov true, [.t 19]⟩])
  (.seq
  (.block 0
   (.loop [3, 8, 11, 12, 13, 14, 15, 16, 17, 18, 19, 20, 21, 22, 23, 24, 25, 26, 27, 28, 29, 30, 31, 32, 33, 34, 35, 36, 37, 38, 39] []
    (.seq
     (.seq
      (.reg [⟨some 20, none, .mov false, [.t 9]⟩,
         ⟨some 21, none, .mov false, [.t 10]⟩,
         ⟨some 22, none, .bin .lss, [.t 20, .t 21]⟩])
      (.cond (.t 22)
      .skip
      (.exit 0)))
     (.block 1
     (.seq
      (.reg [⟨some 23, none, .mov false, [.t 9]⟩,
         ⟨some 24, none, .mov false, [.t 10]⟩,
         ⟨some 25, none, .mov false, [.t 9]⟩,
         ⟨some 26, none, .bin .sub, [.t 24, .t 25]⟩,
         ⟨some 27, none, .bin .add, [.t 26, .c (.p (.int .i64 1))]⟩,
         ⟨some 28, none, .bin .quo, [.t 27, .c (.p (.int .i64 2))]⟩,
         ⟨some 29, none, .bin .add, [.t 23, .t 28]⟩,
         ⟨some 11, none, .mov true, [.t 29]⟩])
      (.seq
      (.reg [⟨some 30, none, .mov false, [.t 0]⟩,
         ⟨some 31, none, .mov false, [.t 11]⟩,
         ⟨some 32, none, .mov false, [.t 1]⟩,
         ⟨some 33, none, .mov false, [.t 2]⟩,
         ⟨some 34, none, .build [.int .i64 0, .int .i64 0, .int .i64 0] [(0, 1), (1, 1), (2, 1)], [.t 31, .t 32, .t 33]⟩,
         ⟨some 35, none, .call 92, [.t 30, .t 34]⟩])
      (.cond (.t 35)
      (.reg [⟨some 36, none, .mov false, [.t 11]⟩,
         ⟨some 9, none, .mov true, [.t 36]⟩])
      (.reg [⟨some 37, none, .mov false, [.t 11]⟩,
         ⟨some 38, none, .bin .sub, [.t 37, .c (.p (.int .i64 1))]⟩,
         ⟨some 10, none, .mov true, [.t 38]⟩]))))))))
  (.seq
  (.reg [⟨some 39, none, .mov false, [.t 9]⟩,
     ⟨some 8, none, .mov true, [.t 39]⟩])
  .ret)))))⟩
-- a loop, at its head alive: [0, 1, 2, 9, 10]
theorem k72 : chkF Tryz.prog 72 F72 = true := by kernel_rfl
def F73 : Fn := ⟨9, 0, [],
 (.reg [⟨some 4, none, .mov false, [.t 0]⟩,
    ⟨some 5, none, .mov false, [.t 0]⟩,
    ⟨some 6, none, .len, [.t 5]⟩,
    ⟨some 7, none, .mov false, [.t 1]⟩,
    ⟨some 8, none, .callm 93 0, [.t 4, .t 6, .t 7]⟩])⟩
theorem k73 : chkF Tryz.prog 73 F73 = true := by kernel_rfl
def F74 : Fn := ⟨10, 2, [.tmp 4],
 (.seq
  (.reg [⟨some 2, none, .box 0 2, [.t 0]⟩,
     ⟨some 3, none, .box 1 2, [.t 1]⟩,
     ⟨some 4, none, .mov true, [.c (.p (.int .i64 0))]⟩])
  (.seq
  (.reg [⟨some 5, none, .fad 1, [.t 3]⟩,
     ⟨some 6, none, .load 1 false false, [.t 5]⟩,
     ⟨some 7, none, .fad 1, [.t 2]⟩,
     ⟨some 8, none, .load 1 false false, [.t 7]⟩,
     ⟨some 9, none, .call 75, [.t 6, .t 8]⟩,
     ⟨some 4, none, .mov true, [.t 9]⟩])
  .ret))⟩
theorem k74 : chkF Tryz.prog 74 F74 = true := by kernel_rfl
def F75 : Fn := ⟨20, 0, [.tmp 4],
 (.seq
  (.reg [⟨some 4, none, .mov true, [.c (.p (.int .i64 0))]⟩])
  (.seq
  (.reg [⟨some 7, none, .mov false, [.t 0]⟩,
     ⟨some 8, none, .call 94, [.t 7]⟩,
     ⟨some 5, none, .mov true, [.t 8]⟩])
  (.seq
  (.reg [⟨some 9, none, .mov false, [.t 1]⟩,
     ⟨some 10, none, .call 94, [.t 9]⟩,
     ⟨some 6, none, .mov true, [.t 10]⟩])
  (.seq
  (.seq
   (.reg [⟨some 11, none, .mov false, [.t 5]⟩])
   (.cond (.t 11)
   (.seq
    (.seq
     (.reg [⟨some 12, none, .mov false, [.t 6]⟩])
     (.cond (.t 12)
     (.seq
      (.reg [⟨some 4, none, .mov true, [.c (.p (.int .i64 0))]⟩])
      .ret)
     .skip))
    (.seq
    (.reg [⟨some 4, none, .mov true, [.c (.p (.int .i64 (-1)))]⟩])
    .ret))
   .skip))
  (.seq
  (.seq
   (.reg [⟨some 13, none, .mov false, [.t 6]⟩])
   (.cond (.t 13)
   (.seq
    (.reg [⟨some 4, none, .mov true, [.c (.p (.int .i64 1))]⟩])
    .ret)
   .skip))
  (.seq
  (.seq
   (.reg [⟨some 14, none, .mov false, [.t 0]⟩,
      ⟨some 15, none, .mov false, [.t 1]⟩,
      ⟨some 16, none, .bin .lss, [.t 14, .t 15]⟩])
   (.cond (.t 16)
   (.seq
    (.reg [⟨some 4, none, .mov true, [.c (.p (.int .i64 (-1)))]⟩])
    .ret)
   .skip))
  (.seq
  (.seq
   (.reg [⟨some 17, none, .mov false, [.t 0]⟩,
      ⟨some 18, none, .mov false, [.t 1]⟩,
      ⟨some 19, none, .bin .gtr, [.t 17, .t 18]⟩])
   (.cond (.t 19)
   (.seq
    (.reg [⟨some 4, none, .mov true, [.c (.p (.int .i64 1))]⟩])
    .ret)
   .skip))
  (.seq
  (.reg [⟨some 4, none, .mov true, [.c (.p (.int .i64 0))]⟩])
  .ret))))))))⟩
theorem k75 : chkF Tryz.prog 75 F75 = true := by kernel_rfl
def F76 : Fn := ⟨14, 0, [],
 (.seq
  (.reg [⟨some 5, none, .mov false, [.t 0]⟩,
     ⟨some 6, none, .len, [.t 5]⟩,
     ⟨some 4, none, .mov true, [.t 6]⟩])
  (.reg [⟨some 7, none, .mov false, [.t 0]⟩,
    ⟨some 8, none, .mov false, [.t 4]⟩,
    ⟨some 9, none, .mov false, [.t 4]⟩,
    ⟨some 10, none, .conv .u64, [.t 9]⟩,
    ⟨some 11, none, .call 96, [.t 10]⟩,
    ⟨some 12, none, .mov false, [.t 1]⟩,
    ⟨some 13, none, .callm 95 0, [.t 7, .c (.p (.int .i64 0)), .t 8, .t 11, .t 12]⟩]))⟩
theorem k76 : chkF Tryz.prog 76 F76 = true := by kernel_rfl
def F77 : Fn := ⟨10, 2, [.tmp 4],
 (.seq
  (.reg [⟨some 2, none, .box 0 2, [.t 0]⟩,
     ⟨some 3, none, .box 1 2, [.t 1]⟩,
     ⟨some 4, none, .mov true, [.c (.p (.int .i64 0))]⟩])
  (.seq
  (.reg [⟨some 5, none, .fad 0, [.t 2]⟩,
     ⟨some 6, none, .load 1 false false, [.t 5]⟩,
     ⟨some 7, none, .fad 0, [.t 3]⟩,
     ⟨some 8, none, .load 1 false false, [.t 7]⟩,
     ⟨some 9, none, .call 78, [.t 6, .t 8]⟩,
     ⟨some 4, none, .mov true, [.t 9]⟩])
  .ret))⟩
theorem k77 : chkF Tryz.prog 77 F77 = true := by kernel_rfl
def F78 : Fn := ⟨20, 0, [.tmp 4],
 (.seq
  (.reg [⟨some 4, none, .mov true, [.c (.p (.int .i64 0))]⟩])
  (.seq
  (.reg [⟨some 7, none, .mov false, [.t 0]⟩,
     ⟨some 8, none, .call 97, [.t 7]⟩,
     ⟨some 5, none, .mov true, [.t 8]⟩])
  (.seq
  (.reg [⟨some 9, none, .mov false, [.t 1]⟩,
     ⟨some 10, none, .call 97, [.t 9]⟩,
     ⟨some 6, none, .mov true, [.t 10]⟩])
  (.seq
  (.seq
   (.reg [⟨some 11, none, .mov false, [.t 5]⟩])
   (.cond (.t 11)
   (.seq
    (.seq
     (.reg [⟨some 12, none, .mov false, [.t 6]⟩])
     (.cond (.t 12)
     (.seq
      (.reg [⟨some 4, none, .mov true, [.c (.p (.int .i64 0))]⟩])
      .ret)
     .skip))
    (.seq
    (.reg [⟨some 4, none, .mov true, [.c (.p (.int .i64 (-1)))]⟩])
    .ret))
   .skip))
  (.seq
  (.seq
   (.reg [⟨some 13, none, .mov false, [.t 6]⟩])
   (.cond (.t 13)
   (.seq
    (.reg [⟨some 4, none, .mov true, [.c (.p (.int .i64 1))]⟩])
    .ret)
   .skip))
  (.seq
  (.seq
   (.reg [⟨some 14, none, .mov false, [.t 0]⟩,
      ⟨some 15, none, .mov false, [.t 1]⟩,
      ⟨some 16, none, .bin .lss, [.t 14, .t 15]⟩])
   (.cond (.t 16)
   (.seq
    (.reg [⟨some 4, none, .mov true, [.c (.p (.int .i64 (-1)))]⟩])
    .ret)
   .skip))
  (.seq
  (.seq
   (.reg [⟨some 17, none, .mov false, [.t 0]⟩,
      ⟨some 18, none, .mov false, [.t 1]⟩,
      ⟨some 19, none, .bin .gtr, [.t 17, .t 18]⟩])
   (.cond (.t 19)
   (.seq
    (.reg [⟨some 4, none, .mov true, [.c (.p (.int .i64 1))]⟩])
    .ret)
   .skip))
  (.seq
  (.reg [⟨some 4, none, .mov true, [.c (.p (.int .i64 0))]⟩])
  .ret))))))))⟩
theorem k78 : chkF Tryz.prog 78 F78 = true := by kernel_rfl
def F79 : Fn := ⟨31, 0, [.tmp 6],
 (.seq
  (.reg [⟨some 6, none, .mov true, [.c (.p (.int .i64 0))]⟩])
  (.seq
  (.seq
   (.reg [⟨some 8, none, .mov false, [.t 0]⟩,
      ⟨some 9, none, .mov false, [.t 1]⟩,
      ⟨some 10, none, .mov false, [.t 1]⟩,
      ⟨some 11, none, .call 91, [.t 8, .t 9, .t 10]⟩,
      ⟨some 12, none, .un .not, [.t 11]⟩])
   (.cond (.t 12)
   (.seq
    (.reg [⟨some 6, none, .mov true, [.c (.p (.int .i64 0))]⟩])
    .ret)
   .skip))
  (.seq
  (.reg [⟨some 7, none, .mov true, [.c (.p (.int .i64 0))]⟩])
  (.seq
  (.block 0
   (.loop [6, 8, 9, 10, 11, 12, 13, 14, 15, 16, 17, 18, 19, 20, 21, 22, 23, 24, 25, 26, 27, 28, 29, 30] []
    (.seq
     (.seq
      (.reg [⟨some 13, none, .mov false, [.t 7]⟩,
         ⟨some 14, none, .mov false, [.t 2]⟩,
         ⟨some 15, none, .mov false, [.t 1]⟩,
         ⟨some 16, none, .mn, [.t 14, .t 15]⟩,
         ⟨some 17, none, .bin .lss, [.t 13, .t 16]⟩,
         ⟨some 18, none, .mov false, [.t 17]⟩,
         ⟨some 19, (some (18, true)), .mov false, [.t 0]⟩,
         ⟨some 20, (some (18, true)), .mov false, [.t 7]⟩,
         ⟨some 21, (some (18, true)), .bin .add, [.t 20, .c (.p (.int .i64 1))]⟩,
         ⟨some 22, (some (18, true)), .mov false, [.t 7]⟩,
         ⟨some 23, (some (18, true)), .bin .add, [.t 22, .c (.p (.int .i64 1))]⟩,
         ⟨some 24, (some (18, true)), .mov false, [.t 1]⟩,
         ⟨some 25, (some (18, true)), .build [.int .i64 0, .int .i64 0, .int .i64 0] [(0, 1), (1, 1), (2, 1)], [.t 21, .t 23, .t 24]⟩,
         ⟨some 26, (some (18, true)), .call 92, [.t 19, .t 25]⟩,
         ⟨some 27, none, .pick, [.t 18, .t 26, .c (.p (.bool false))]⟩])
      (.cond (.t 27)
      .skip
      (.exit 0)))
     (.block 1
     (.reg [⟨some 28, none, .mov false, [.t 7]⟩,
        ⟨some 29, none, .bin .add, [.t 28, .c (.p (.int .i64 1))]⟩,
        ⟨some 7, none, .mov true, [.t 29]⟩])))))
  (.seq
  (.reg [⟨some 30, none, .mov false, [.t 7]⟩,
     ⟨some 6, none, .mov true, [.t 30]⟩])
  .ret)))))⟩
-- a loop, at its head alive: [0, 1, 2, 7]
theorem k79 : chkF Tryz.prog 79 F79 = true := by kernel_rfl
def F80 : Fn := ⟨47, 0, [.tmp 2, .tmp 3],
 (.seq
  (.reg [⟨some 2, none, .mov true, [.c (.p (.int .i64 0))]⟩,
     ⟨some 3, none, .mov true, [.c (.p (.bool false))]⟩])
  (.seq
  (.seq
   (.reg [⟨some 7, none, .mov false, [.t 0]⟩,
      ⟨some 8, none, .call 98, [.t 7]⟩,
      ⟨some 9, none, .un .not, [.t 8]⟩,
      ⟨some 10, none, .mov false, [.t 9]⟩,
      ⟨some 11, (some (10, false)), .mov false, [.t 0]⟩,
      ⟨some 12, (some (10, false)), .len, [.t 11]⟩,
      ⟨some 13, (some (10, false)), .bin .eql, [.t 12, .c (.p (.int .i64 0))]⟩,
      ⟨some 14, none, .pick, [.t 10, .c (.p (.bool true)), .t 13]⟩])
   (.cond (.t 14)
   (.seq
    (.reg [⟨some 15, none, .mov false, [.t 0]⟩,
       ⟨some 16, none, .call 98, [.t 15]⟩,
       ⟨some 2, none, .mov true, [.c (.p (.int .i64 0))]⟩,
       ⟨some 3, none, .mov true, [.t 16]⟩])
    .ret)
   .skip))
  (.seq
  (.reg [⟨some 4, none, .mov true, [.c (.p (.int .i64 1))]⟩])
  (.seq
  (.block 0
   (.loop [2, 3, 5, 6, 7, 8, 9, 10, 11, 12, 13, 14, 15, 16, 17, 18, 19, 20, 21, 22, 23, 24, 25, 26, 27, 28, 29, 30, 31, 32, 33, 34, 35, 36, 37, 38, 39, 40, 41, 42, 43, 44, 45, 46] []
    (.seq
     (.seq
      (.reg [⟨some 17, none, .mov false, [.t 4]⟩,
         ⟨some 18, none, .bin .leq, [.t 17, .c (.p (.int .i64 20000))]⟩])
      (.cond (.t 18)
      .skip
      (.exit 0)))
     (.block 1
     (.seq
      (.reg [⟨some 5, none, .mov true, [.c (.p (.int .i64 0))]⟩])
      (.seq
      (.seq
       (.reg [⟨some 6, none, .mov true, [.c (.p (.int .i64 0))]⟩])
       (.block 2
       (.loop [2, 3, 7, 8, 9, 10, 11, 12, 13, 14, 15, 16, 17, 18, 19, 20, 21, 22, 23, 24, 25, 26, 27, 28, 29, 30, 31, 32, 33, 34, 35, 36, 37, 38, 39, 40, 41, 42, 43, 44, 45, 46] []
        (.seq
         (.seq
          (.reg [⟨some 19, none, .mov false, [.t 6]⟩,
             ⟨some 20, none, .mov false, [.t 0]⟩,
             ⟨some 21, none, .len, [.t 20]⟩,
             ⟨some 22, none, .bin .lss, [.t 19, .t 21]⟩])
          (.cond (.t 22)
          .skip
          (.exit 2)))
         (.seq
         (.block 3
          (.regd [⟨some 25, none, .mov false, [.t 5]⟩,
             ⟨some 26, none, .mov false, [.t 0]⟩,
             ⟨some 27, none, .mov false, [.t 6]⟩,
             ⟨some 28, none, .iad 3, [.t 26, .t 27]⟩,
             ⟨some 29, none, .fad 0, [.t 28]⟩,
             ⟨some 30, none, .loadp 1 false, [.t 29]⟩,
             ⟨some 31, none, .mov false, [.t 4]⟩,
             ⟨some 32, none, .bin .sub, [.t 31, .c (.p (.int .i64 1))]⟩,
             ⟨some 33, none, .mov false, [.t 0]⟩,
             ⟨some 34, none, .mov false, [.t 6]⟩,
             ⟨some 35, none, .iad 3, [.t 33, .t 34]⟩,
             ⟨some 36, none, .fad 2, [.t 35]⟩,
             ⟨some 37, none, .loadp 1 false, [.t 36]⟩,
             ⟨some 38, none, .bin .quo, [.t 32, .t 37]⟩,
             ⟨some 39, none, .bin .add, [.t 38, .c (.p (.int .i64 1))]⟩,
             ⟨some 40, none, .bin .mul, [.t 30, .t 39]⟩,
             ⟨some 41, none, .bin .add, [.t 25, .t 40]⟩,
             ⟨some 5, none, .mov true, [.t 41]⟩]))
         (.reg [⟨some 23, none, .mov false, [.t 6]⟩,
           ⟨some 24, none, .bin .add, [.t 23, .c (.p (.int .i64 1))]⟩,
           ⟨some 6, none, .mov true, [.t 24]⟩]))))))
      (.seq
      (.seq
       (.reg [⟨some 42, none, .mov false, [.t 5]⟩,
          ⟨some 43, none, .mov false, [.t 4]⟩,
          ⟨some 44, none, .bin .eql, [.t 42, .t 43]⟩])
       (.cond (.t 44)
       (.seq
        (.reg [⟨some 45, none, .mov false, [.t 4]⟩,
           ⟨some 2, none, .mov true, [.t 45]⟩,
           ⟨some 3, none, .mov true, [.c (.p (.bool true))]⟩])
        .ret)
       .skip))
      (.reg [⟨some 46, none, .mov false, [.t 5]⟩,
        ⟨some 4, none, .mov true, [.t 46]⟩]))))))))
  (.seq
  (.reg [⟨some 2, none, .mov true, [.c (.p (.int .i64 0))]⟩,
     ⟨some 3, none, .mov true, [.c (.p (.bool false))]⟩])
  .ret)))))⟩
-- a loop, at its head alive: [0, 4]
-- a loop, at its head alive: [0, 4, 5, 6]
theorem k80 : chkF Tryz.prog 80 F80 = true := by kernel_rfl
def F81 : Fn := ⟨60, 3, [.tmp 6],
 (.seq
  (.reg [⟨some 3, none, .box 0 5, [.t 0]⟩,
     ⟨some 6, none, .mov true, [.c (.ow 1 true [])]⟩])
  (.seq
  (.seq
   (.reg [⟨some 13, none, .load 5 true false, [.t 3]⟩,
      ⟨some 14, none, .mov false, [.t 1]⟩,
      ⟨some 15, none, .call 99, [.t 13, .t 14]⟩,
      ⟨some 16, none, .un .not, [.t 15]⟩,
      ⟨some 17, none, .mov false, [.t 16]⟩,
      ⟨some 18, (some (17, false)), .mov false, [.t 2]⟩,
      ⟨some 19, (some (17, false)), .len, [.t 18]⟩,
      ⟨some 20, (some (17, false)), .mov false, [.t 1]⟩,
      ⟨some 21, (some (17, false)), .len, [.t 20]⟩,
      ⟨some 22, (some (17, false)), .bin .neq, [.t 19, .t 21]⟩,
      ⟨some 23, none, .pick, [.t 17, .c (.p (.bool true)), .t 22]⟩])
   (.cond (.t 23)
   (.seq
    (.reg [⟨some 6, none, .mov true, [.c (.ow 1 true [])]⟩])
    .ret)
   .skip))
  (.seq
  (.reg [⟨some 24, none, .fad 0, [.t 3]⟩,
     ⟨some 25, none, .load 1 false false, [.t 24]⟩,
     ⟨some 26, none, .mksl 1 1 24 false [.ow 3 true []], [.t 25, .t 25]⟩,
     ⟨some 7, none, .mov true, [.t 26]⟩])
  (.seq
  (.seq
   (.reg [⟨some 27, none, .mov false, [.t 2]⟩,
      ⟨some 28, none, .len, [.t 27]⟩,
      ⟨some 29, none, .mov false, [.c (.p (.int .i64 0))]⟩])
   (.block 0
   (.loop [0, 2, 6, 8, 9, 10, 11, 12, 13, 14, 15, 16, 17, 18, 19, 20, 21, 22, 23, 24, 25, 26, 30, 31, 32, 33, 34, 35, 36, 37, 38, 39, 40, 41, 42, 43, 44, 45, 46, 47, 48, 49, 50, 51, 52, 53, 54, 55, 56, 57, 58, 59] [2]
    (.seq
     (.reg [⟨some 30, none, .bin .lss, [.t 29, .t 28]⟩])
     (.seq
     (.cond (.t 30)
      .skip
      (.exit 0))
     (.seq
     (.block 1
      (.seq
       (.reg [⟨some 31, none, .mov false, [.t 29]⟩,
          ⟨some 32, none, .iad 2, [.t 27, .t 29]⟩,
          ⟨some 33, none, .load 2 true false, [.t 32]⟩,
          ⟨some 9, none, .alloc 2 2 [.p (.int .i64 0), .ow 4 true []], []⟩,
          ⟨some 8, none, .mov true, [.t 31]⟩,
          ⟨none, none, .store 2, [.t 9, .t 33]⟩])
       (.seq
       (.reg [⟨some 34, none, .load 5 true false, [.t 3]⟩,
          ⟨some 35, none, .mov false, [.t 1]⟩,
          ⟨some 36, none, .mov false, [.t 8]⟩,
          ⟨some 37, none, .load 2 true false, [.t 9]⟩,
          ⟨some 38, none, .call 100, [.t 34, .t 35, .t 36, .t 37]⟩,
          ⟨some 10, none, .mov true, [.t 38]⟩])
       (.seq
       (.seq
        (.reg [⟨some 39, none, .mov false, [.t 10]⟩,
           ⟨some 40, none, .eqnil false, [.t 39, .c (.ow 1 true [])]⟩])
        (.cond (.t 40)
        (.seq
         (.reg [⟨some 6, none, .mov true, [.c (.ow 1 true [])]⟩])
         (.pre [] [1] [] .ret))
        .skip))
       (.seq
       (.reg [⟨some 41, none, .mov false, [.t 10]⟩,
          ⟨some 42, none, .len, [.t 41]⟩,
          ⟨some 43, none, .mov false, [.c (.p (.int .i64 0))]⟩])
       (.block 2
       (.loop [0, 2, 6, 8, 9, 10, 11, 12, 13, 14, 15, 16, 17, 18, 19, 20, 21, 22, 23, 24, 25, 26, 30, 31, 32, 33, 34, 35, 36, 37, 38, 39, 40, 44, 45, 46, 47, 48, 49, 50, 51, 52, 53, 54, 55, 56, 57, 58, 59] []
        (.seq
         (.reg [⟨some 44, none, .bin .lss, [.t 43, .t 42]⟩])
         (.seq
         (.cond (.t 44)
          .skip
          (.exit 2))
         (.seq
         (.block 3
          (.seq
           (.reg [⟨some 45, none, .mov false, [.t 43]⟩,
              ⟨some 46, none, .iad 1, [.t 41, .t 43]⟩,
              ⟨some 47, none, .load 1 false false, [.t 46]⟩,
              ⟨some 11, none, .mov true, [.t 45]⟩,
              ⟨some 12, none, .mov true, [.t 47]⟩])
           (.reg [⟨some 48, none, .mov false, [.t 7]⟩,
             ⟨some 49, none, .mov false, [.t 11]⟩,
             ⟨some 50, none, .mov false, [.t 7]⟩,
             ⟨some 51, none, .mov false, [.t 11]⟩,
             ⟨some 52, none, .iad 1, [.t 50, .t 51]⟩,
             ⟨some 53, none, .load 1 false true, [.t 52]⟩,
             ⟨some 54, none, .mov false, [.t 12]⟩,
             ⟨some 55, none, .app 3 24, [.t 53, .t 54]⟩,
             ⟨some 56, none, .iad 1, [.t 48, .t 49]⟩,
             ⟨none, none, .store 1, [.t 56, .t 55]⟩])))
         (.reg [⟨some 57, none, .bin .add, [.t 43, .c (.p (.int .i64 1))]⟩,
           ⟨some 43, none, .mov false, [.t 57]⟩])))))))))))
     (.reg [⟨some 58, none, .bin .add, [.t 29, .c (.p (.int .i64 1))]⟩,
       ⟨some 29, none, .mov false, [.t 58]⟩])))))))
  (.seq
  (.reg [⟨some 59, none, .mov false, [.t 7]⟩,
     ⟨some 6, none, .mov true, [.t 59]⟩])
  (.pre [] [1] [] .ret))))))⟩
-- a loop, at its head alive: [1, 3, 7, 27, 28, 29]
-- a loop, at its head alive: [1, 3, 7, 27, 28, 29, 41, 42, 43]
theorem k81 : chkF Tryz.prog 81 F81 = true := by kernel_rfl
def F82 : Fn := ⟨2, 0, [.tmp 0],
 (.seq
  (.reg [⟨some 0, none, .mov true, [.c (.p (.bool false))]⟩])
  (.seq
  (.reg [⟨some 1, none, .call 101, []⟩,
     ⟨some 0, none, .mov true, [.t 1]⟩])
  .ret))⟩
theorem k82 : chkF Tryz.prog 82 F82 = true := by kernel_rfl
def F83 : Fn := ⟨40, 3, [.tmp 6],
 (.seq
  (.reg [⟨some 3, none, .box 0 5, [.t 0]⟩,
     ⟨some 4, none, .box 1 4, [.t 1]⟩,
     ⟨some 6, none, .mov true, [.c (.p (.int .i64 0))]⟩])
  (.seq
  (.seq
   (.reg [⟨some 10, none, .load 5 true false, [.t 3]⟩,
      ⟨some 11, none, .call 50, [.t 10]⟩,
      ⟨some 12, none, .un .not, [.t 11]⟩,
      ⟨some 13, none, .mov false, [.t 12]⟩,
      ⟨some 14, (some (13, false)), .load 5 true false, [.t 3]⟩,
      ⟨some 15, (some (13, false)), .load 4 true false, [.t 4]⟩,
      ⟨some 16, (some (13, false)), .call 51, [.t 14, .t 15]⟩,
      ⟨some 17, (some (13, false)), .un .not, [.t 16]⟩,
      ⟨some 18, none, .pick, [.t 13, .c (.p (.bool true)), .t 17]⟩])
   (.cond (.t 18)
   (.seq
    (.reg [⟨some 6, none, .mov true, [.c (.p (.int .i64 0))]⟩])
    .ret)
   .skip))
  (.seq
  (.reg [⟨some 7, none, .mov true, [.c (.p (.int .i64 0))]⟩])
  (.seq
  (.seq
   (.reg [⟨some 19, none, .fad 3, [.t 4]⟩,
      ⟨some 20, none, .load 1 false false, [.t 19]⟩,
      ⟨some 21, none, .len, [.t 20]⟩,
      ⟨some 22, none, .mov false, [.c (.p (.int .i64 0))]⟩])
   (.block 0
   (.loop [0, 1, 4, 6, 9, 10, 11, 12, 13, 14, 15, 16, 17, 18, 19, 23, 24, 25, 26, 27, 28, 29, 30, 31, 32, 33, 34, 35, 36, 37, 38, 39] [2]
    (.seq
     (.reg [⟨some 23, none, .bin .lss, [.t 22, .t 21]⟩])
     (.seq
     (.cond (.t 23)
      .skip
      (.exit 0))
     (.seq
     (.block 1
      (.seq
       (.reg [⟨some 24, none, .iad 3, [.t 20, .t 22]⟩,
          ⟨some 25, none, .load 3 true false, [.t 24]⟩,
          ⟨some 9, none, .alloc 2 3 [.p (.int .i64 0), .p (.int .i64 0), .p (.int .i64 0)], []⟩,
          ⟨none, none, .store 3, [.t 9, .t 25]⟩])
       (.seq
       (.reg [⟨some 26, none, .fad 4, [.t 3]⟩,
          ⟨some 27, none, .load 1 false false, [.t 26]⟩,
          ⟨some 28, none, .fad 0, [.t 9]⟩,
          ⟨some 29, none, .load 1 false false, [.t 28]⟩,
          ⟨some 30, none, .iad 1, [.t 27, .t 29]⟩,
          ⟨some 31, none, .load 1 false false, [.t 30]⟩,
          ⟨some 32, none, .mov false, [.t 2]⟩,
          ⟨some 33, none, .bin .eql, [.t 31, .t 32]⟩])
       (.cond (.t 33)
       (.reg [⟨some 34, none, .mov false, [.t 7]⟩,
          ⟨some 35, none, .fad 2, [.t 9]⟩,
          ⟨some 36, none, .load 1 false false, [.t 35]⟩,
          ⟨some 37, none, .mx, [.t 34, .t 36]⟩,
          ⟨some 7, none, .mov true, [.t 37]⟩])
       .skip))))
     (.reg [⟨some 38, none, .bin .add, [.t 22, .c (.p (.int .i64 1))]⟩,
       ⟨some 22, none, .mov false, [.t 38]⟩])))))))
  (.seq
  (.reg [⟨some 39, none, .mov false, [.t 7]⟩,
     ⟨some 6, none, .mov true, [.t 39]⟩])
  .ret)))))⟩
-- a loop, at its head alive: [2, 3, 7, 20, 21, 22]
theorem k83 : chkF Tryz.prog 83 F83 = true := by kernel_rfl
def F84 : Fn := ⟨69, 3, [.tmp 8],
 (.seq
  (.reg [⟨some 4, none, .box 0 5, [.t 0]⟩,
     ⟨some 8, none, .mov true, [.c (.p (.int .i64 0))]⟩])
  (.seq
  (.seq
   (.reg [⟨some 13, none, .load 5 true false, [.t 4]⟩,
      ⟨some 14, none, .mov false, [.t 1]⟩,
      ⟨some 15, none, .mov false, [.t 2]⟩,
      ⟨some 16, none, .call 102, [.t 13, .t 14, .t 15]⟩,
      ⟨some 17, none, .un .not, [.t 16]⟩,
      ⟨some 18, none, .mov false, [.t 17]⟩,
      ⟨some 19, (some (18, false)), .mov false, [.t 3]⟩,
      ⟨some 20, (some (18, false)), .bin .lss, [.t 19, .c (.p (.int .i64 0))]⟩,
      ⟨some 21, none, .pick, [.t 18, .c (.p (.bool true)), .t 20]⟩,
      ⟨some 22, none, .mov false, [.t 21]⟩,
      ⟨some 23, (some (22, false)), .mov false, [.t 3]⟩,
      ⟨some 24, (some (22, false)), .mov false, [.t 1]⟩,
      ⟨some 25, (some (22, false)), .mov false, [.t 2]⟩,
      ⟨some 26, (some (22, false)), .iad 4, [.t 24, .t 25]⟩,
      ⟨some 27, (some (22, false)), .fad 3, [.t 26]⟩,
      ⟨some 28, (some (22, false)), .load 1 false false, [.t 27]⟩,
      ⟨some 29, (some (22, false)), .len, [.t 28]⟩,
      ⟨some 30, (some (22, false)), .bin .geq, [.t 23, .t 29]⟩,
      ⟨some 31, none, .pick, [.t 22, .c (.p (.bool true)), .t 30]⟩])
   (.cond (.t 31)
   (.seq
    (.reg [⟨some 8, none, .mov true, [.c (.p (.int .i64 0))]⟩])
    .ret)
   .skip))
  (.seq
  (.reg [⟨some 32, none, .mov false, [.t 1]⟩,
     ⟨some 33, none, .mov false, [.t 2]⟩,
     ⟨some 34, none, .iad 4, [.t 32, .t 33]⟩,
     ⟨some 35, none, .fad 3, [.t 34]⟩,
     ⟨some 36, none, .load 1 false false, [.t 35]⟩,
     ⟨some 37, none, .mov false, [.t 3]⟩,
     ⟨some 38, none, .iad 3, [.t 36, .t 37]⟩,
     ⟨some 39, none, .load 3 true false, [.t 38]⟩,
     ⟨some 9, none, .alloc 1 3 [.p (.int .i64 0), .p (.int .i64 0), .p (.int .i64 0)], []⟩,
     ⟨none, none, .store 3, [.t 9, .t 39]⟩])
  (.seq
  (.reg [⟨some 40, none, .fad 2, [.t 4]⟩,
     ⟨some 41, none, .load 1 false false, [.t 40]⟩,
     ⟨some 42, none, .bin .mul, [.c (.p (.int .i64 2)), .t 41]⟩,
     ⟨some 43, none, .fad 2, [.t 9]⟩,
     ⟨some 44, none, .load 1 false false, [.t 43]⟩,
     ⟨some 45, none, .bin .add, [.t 42, .t 44]⟩,
     ⟨some 10, none, .mov true, [.t 45]⟩])
  (.seq
  (.seq
   (.reg [⟨some 46, none, .mov false, [.t 1]⟩,
      ⟨some 47, none, .len, [.t 46]⟩,
      ⟨some 48, none, .mov false, [.c (.p (.int .i64 0))]⟩])
   (.block 0
   (.loop [0, 1, 3, 8, 11, 12, 13, 14, 15, 16, 17, 18, 19, 20, 21, 22, 23, 24, 25, 26, 27, 28, 29, 30, 31, 32, 33, 34, 35, 36, 37, 38, 39, 40, 41, 42, 43, 44, 45, 49, 50, 51, 52, 53, 54, 55, 56, 57, 58, 59, 60, 61, 62, 63, 64, 65, 66, 67, 68] [2]
    (.seq
     (.reg [⟨some 49, none, .bin .lss, [.t 48, .t 47]⟩])
     (.seq
     (.cond (.t 49)
      .skip
      (.exit 0))
     (.seq
     (.block 1
      (.seq
       (.reg [⟨some 50, none, .mov false, [.t 48]⟩,
          ⟨some 51, none, .iad 4, [.t 46, .t 48]⟩,
          ⟨some 52, none, .load 4 true false, [.t 51]⟩,
          ⟨some 12, none, .alloc 2 4 [.p (.int .i64 0), .p (.int .i64 0), .p (.int .i64 0), .ow 3 true []], []⟩,
          ⟨some 11, none, .mov true, [.t 50]⟩,
          ⟨none, none, .store 4, [.t 12, .t 52]⟩])
       (.seq
       (.reg [⟨some 53, none, .mov false, [.t 11]⟩,
          ⟨some 54, none, .mov false, [.t 2]⟩,
          ⟨some 55, none, .bin .neq, [.t 53, .t 54]⟩])
       (.cond (.t 55)
       (.regd [⟨some 56, none, .mov false, [.t 10]⟩,
          ⟨some 57, none, .at 0 (.load 5 true false), [.t 4]⟩,
          ⟨some 58, none, .at 2 (.load 4 true false), [.t 12]⟩,
          ⟨some 59, none, .fad 4, [.t 4]⟩,
          ⟨some 60, none, .at 0 (.load 1 false false), [.t 59]⟩,
          ⟨some 61, none, .fad 0, [.t 9]⟩,
          ⟨some 62, none, .at 1 (.load 1 false false), [.t 61]⟩,
          ⟨some 63, none, .iad 1, [.t 60, .t 62]⟩,
          ⟨some 64, none, .loadp 1 false, [.t 63]⟩,
          ⟨some 65, none, .pl (.call 83), [.t 57, .t 58, .t 64]⟩,
          ⟨some 66, none, .bin .add, [.t 56, .t 65]⟩,
          ⟨some 10, none, .mov true, [.t 66]⟩])
       .skip))))
     (.reg [⟨some 67, none, .bin .add, [.t 48, .c (.p (.int .i64 1))]⟩,
       ⟨some 48, none, .mov false, [.t 67]⟩])))))))
  (.seq
  (.reg [⟨some 68, none, .mov false, [.t 10]⟩,
     ⟨some 8, none, .mov true, [.t 68]⟩])
  .ret))))))⟩
-- a loop, at its head alive: [2, 4, 9, 10, 46, 47, 48]
theorem k84 : chkF Tryz.prog 84 F84 = true := by kernel_rfl
def F85 : Fn := ⟨32, 1, [.tmp 6],
 (.seq
  (.reg [⟨some 3, none, .box 0 5, [.t 0]⟩,
     ⟨some 6, none, .mov true, [.c (.p (.int .i64 0))]⟩])
  (.seq
  (.seq
   (.reg [⟨some 9, none, .load 5 true false, [.t 3]⟩,
      ⟨some 10, none, .mov false, [.t 1]⟩,
      ⟨some 11, none, .mov false, [.t 2]⟩,
      ⟨some 12, none, .call 102, [.t 9, .t 10, .t 11]⟩,
      ⟨some 13, none, .un .not, [.t 12]⟩])
   (.cond (.t 13)
   (.seq
    (.reg [⟨some 6, none, .mov true, [.c (.p (.int .i64 0))]⟩])
    .ret)
   .skip))
  (.seq
  (.reg [⟨some 7, none, .mov true, [.c (.p (.int .i64 0))]⟩])
  (.seq
  (.seq
   (.reg [⟨some 14, none, .mov false, [.t 1]⟩,
      ⟨some 15, none, .mov false, [.t 2]⟩,
      ⟨some 16, none, .iad 4, [.t 14, .t 15]⟩,
      ⟨some 17, none, .fad 3, [.t 16]⟩,
      ⟨some 18, none, .load 1 false false, [.t 17]⟩,
      ⟨some 19, none, .len, [.t 18]⟩,
      ⟨some 20, none, .mov false, [.c (.p (.int .i64 0))]⟩])
   (.block 0
   (.loop [0, 6, 8, 9, 10, 11, 12, 13, 14, 15, 16, 17, 18, 21, 22, 23, 24, 25, 26, 27, 28, 29, 30, 31] []
    (.seq
     (.reg [⟨some 21, none, .bin .lss, [.t 20, .t 19]⟩])
     (.seq
     (.cond (.t 21)
      .skip
      (.exit 0))
     (.seq
     (.block 1
      (.seq
       (.reg [⟨some 22, none, .mov false, [.t 20]⟩,
          ⟨some 8, none, .mov true, [.t 22]⟩])
       (.reg [⟨some 23, none, .mov false, [.t 7]⟩,
         ⟨some 24, none, .load 5 true false, [.t 3]⟩,
         ⟨some 25, none, .mov false, [.t 1]⟩,
         ⟨some 26, none, .mov false, [.t 2]⟩,
         ⟨some 27, none, .mov false, [.t 8]⟩,
         ⟨some 28, none, .call 84, [.t 24, .t 25, .t 26, .t 27]⟩,
         ⟨some 29, none, .bin .add, [.t 23, .t 28]⟩,
         ⟨some 7, none, .mov true, [.t 29]⟩])))
     (.reg [⟨some 30, none, .bin .add, [.t 20, .c (.p (.int .i64 1))]⟩,
       ⟨some 20, none, .mov false, [.t 30]⟩])))))))
  (.seq
  (.reg [⟨some 31, none, .mov false, [.t 7]⟩,
     ⟨some 6, none, .mov true, [.t 31]⟩])
  .ret)))))⟩
-- a loop, at its head alive: [1, 2, 3, 7, 19, 20]
theorem k85 : chkF Tryz.prog 85 F85 = true := by kernel_rfl
def F86 : Fn := ⟨22, 1, [.tmp 2],
 (.seq
  (.reg [⟨some 2, none, .mov true, [.c (.p (.int .i64 0))]⟩])
  (.seq
  (.reg [⟨some 3, none, .mov true, [.c (.p (.int .i64 0))]⟩])
  (.seq
  (.seq
   (.reg [⟨some 6, none, .mov false, [.t 0]⟩,
      ⟨some 7, none, .len, [.t 6]⟩,
      ⟨some 8, none, .mov false, [.c (.p (.int .i64 0))]⟩])
   (.block 0
   (.loop [0, 2, 5, 9, 10, 11, 12, 13, 14, 15, 16, 17, 18, 19, 20, 21] [0]
    (.seq
     (.reg [⟨some 9, none, .bin .lss, [.t 8, .t 7]⟩])
     (.seq
     (.cond (.t 9)
      .skip
      (.exit 0))
     (.seq
     (.block 1
      (.seq
       (.reg [⟨some 10, none, .iad 3, [.t 6, .t 8]⟩,
          ⟨some 11, none, .load 3 true false, [.t 10]⟩,
          ⟨some 5, none, .alloc 0 3 [.p (.int .i64 0), .p (.int .i64 0), .p (.int .i64 0)], []⟩,
          ⟨none, none, .store 3, [.t 5, .t 11]⟩])
       (.reg [⟨some 12, none, .mov false, [.t 3]⟩,
         ⟨some 13, none, .fad 0, [.t 5]⟩,
         ⟨some 14, none, .load 1 false false, [.t 13]⟩,
         ⟨some 15, none, .bin .mul, [.t 14, .c (.p (.int .i64 10000))]⟩,
         ⟨some 16, none, .fad 2, [.t 5]⟩,
         ⟨some 17, none, .load 1 false false, [.t 16]⟩,
         ⟨some 18, none, .call 103, [.t 15, .t 17]⟩,
         ⟨some 19, none, .bin .add, [.t 12, .t 18]⟩,
         ⟨some 3, none, .mov true, [.t 19]⟩])))
     (.reg [⟨some 20, none, .bin .add, [.t 8, .c (.p (.int .i64 1))]⟩,
       ⟨some 8, none, .mov false, [.t 20]⟩])))))))
  (.seq
  (.reg [⟨some 21, none, .mov false, [.t 3]⟩,
     ⟨some 2, none, .mov true, [.t 21]⟩])
  .ret))))⟩
-- a loop, at its head alive: [3, 6, 7, 8]
theorem k86 : chkF Tryz.prog 86 F86 = true := by kernel_rfl
def F87 : Fn := ⟨11, 0, [.tmp 2],
 (.seq
  (.reg [⟨some 2, none, .mov true, [.c (.p (.bool false))]⟩])
  (.seq
  (.reg [⟨some 3, none, .mov false, [.t 0]⟩,
     ⟨some 4, none, .len, [.t 3]⟩,
     ⟨some 5, none, .bin .leq, [.t 4, .c (.p (.int .i64 24))]⟩,
     ⟨some 6, none, .mov false, [.t 5]⟩,
     ⟨some 7, (some (6, true)), .mov false, [.t 0]⟩,
     ⟨some 8, (some (6, true)), .call 104, [.t 7, .c (.p (.fn 105 []))]⟩,
     ⟨some 9, (some (6, true)), .un .not, [.t 8]⟩,
     ⟨some 10, none, .pick, [.t 6, .t 9, .c (.p (.bool false))]⟩,
     ⟨some 2, none, .mov true, [.t 10]⟩])
  .ret))⟩
theorem k87 : chkF Tryz.prog 87 F87 = true := by kernel_rfl
def F88 : Fn := ⟨36, 1, [.tmp 4],
 (.seq
  (.reg [⟨some 4, none, .mov true, [.c (.p (.int .i64 0))]⟩])
  (.seq
  (.seq
   (.reg [⟨some 8, none, .mov false, [.t 0]⟩,
      ⟨some 9, none, .call 87, [.t 8]⟩,
      ⟨some 10, none, .un .not, [.t 9]⟩,
      ⟨some 11, none, .mov false, [.t 10]⟩,
      ⟨some 12, (some (11, false)), .mov false, [.t 1]⟩,
      ⟨some 13, (some (11, false)), .bin .lss, [.t 12, .c (.p (.int .i64 0))]⟩,
      ⟨some 14, none, .pick, [.t 11, .c (.p (.bool true)), .t 13]⟩,
      ⟨some 15, none, .mov false, [.t 14]⟩,
      ⟨some 16, (some (15, false)), .mov false, [.t 1]⟩,
      ⟨some 17, (some (15, false)), .bin .gtr, [.t 16, .c (.p (.int .i64 20000))]⟩,
      ⟨some 18, none, .pick, [.t 15, .c (.p (.bool true)), .t 17]⟩])
   (.cond (.t 18)
   (.seq
    (.reg [⟨some 4, none, .mov true, [.c (.p (.int .i64 0))]⟩])
    .ret)
   .skip))
  (.seq
  (.reg [⟨some 5, none, .mov true, [.c (.p (.int .i64 0))]⟩])
  (.seq
  (.seq
   (.reg [⟨some 19, none, .mov false, [.t 0]⟩,
      ⟨some 20, none, .len, [.t 19]⟩,
      ⟨some 21, none, .mov false, [.c (.p (.int .i64 0))]⟩])
   (.block 0
   (.loop [0, 4, 7, 8, 9, 10, 11, 12, 13, 14, 15, 16, 17, 18, 22, 23, 24, 25, 26, 27, 28, 29, 30, 31, 32, 33, 34, 35] [0]
    (.seq
     (.reg [⟨some 22, none, .bin .lss, [.t 21, .t 20]⟩])
     (.seq
     (.cond (.t 22)
      .skip
      (.exit 0))
     (.seq
     (.block 1
      (.seq
       (.reg [⟨some 23, none, .iad 3, [.t 19, .t 21]⟩,
          ⟨some 24, none, .load 3 true false, [.t 23]⟩,
          ⟨some 7, none, .alloc 0 3 [.p (.int .i64 0), .p (.int .i64 0), .p (.int .i64 0)], []⟩,
          ⟨none, none, .store 3, [.t 7, .t 24]⟩])
       (.regd [⟨some 25, none, .mov false, [.t 5]⟩,
         ⟨some 26, none, .fad 0, [.t 7]⟩,
         ⟨some 27, none, .at 0 (.load 1 false false), [.t 26]⟩,
         ⟨some 28, none, .mov false, [.t 1]⟩,
         ⟨some 29, none, .fad 2, [.t 7]⟩,
         ⟨some 30, none, .at 0 (.load 1 false false), [.t 29]⟩,
         ⟨some 31, none, .pl (.call 103), [.t 28, .t 30]⟩,
         ⟨some 32, none, .bin .mul, [.t 27, .t 31]⟩,
         ⟨some 33, none, .bin .add, [.t 25, .t 32]⟩,
         ⟨some 5, none, .mov true, [.t 33]⟩])))
     (.reg [⟨some 34, none, .bin .add, [.t 21, .c (.p (.int .i64 1))]⟩,
       ⟨some 21, none, .mov false, [.t 34]⟩])))))))
  (.seq
  (.reg [⟨some 35, none, .mov false, [.t 5]⟩,
     ⟨some 4, none, .mov true, [.t 35]⟩])
  .ret)))))⟩
-- a loop, at its head alive: [1, 5, 19, 20, 21]
theorem k88 : chkF Tryz.prog 88 F88 = true := by kernel_rfl
def F89 : Fn := ⟨38, 1, [.tmp 4],
 (.seq
  (.reg [⟨some 4, none, .mov true, [.c (.p (.int .i64 0))]⟩])
  (.seq
  (.reg [⟨some 9, none, .mov false, [.t 0]⟩,
     ⟨some 10, none, .call 104, [.t 9, .c (.p (.fn 107 []))]⟩,
     ⟨some 5, none, .mov true, [.t 10]⟩])
  (.seq
  (.seq
   (.reg [⟨some 11, none, .mov false, [.t 5]⟩,
      ⟨some 12, none, .mov false, [.t 11]⟩,
      ⟨some 13, (some (12, false)), .mov false, [.t 0]⟩,
      ⟨some 14, (some (12, false)), .len, [.t 13]⟩,
      ⟨some 15, (some (12, false)), .bin .gtr, [.t 14, .c (.p (.int .i64 24))]⟩,
      ⟨some 16, none, .pick, [.t 12, .c (.p (.bool true)), .t 15]⟩,
      ⟨some 17, none, .mov false, [.t 16]⟩,
      ⟨some 18, (some (17, false)), .mov false, [.t 1]⟩,
      ⟨some 19, (some (17, false)), .bin .lss, [.t 18, .c (.p (.int .i64 0))]⟩,
      ⟨some 20, none, .pick, [.t 17, .c (.p (.bool true)), .t 19]⟩,
      ⟨some 21, none, .mov false, [.t 20]⟩,
      ⟨some 22, (some (21, false)), .mov false, [.t 1]⟩,
      ⟨some 23, (some (21, false)), .bin .gtr, [.t 22, .c (.p (.int .i64 20000))]⟩,
      ⟨some 24, none, .pick, [.t 21, .c (.p (.bool true)), .t 23]⟩])
   (.cond (.t 24)
   (.seq
    (.reg [⟨some 4, none, .mov true, [.c (.p (.int .i64 0))]⟩])
    .ret)
   .skip))
  (.seq
  (.reg [⟨some 6, none, .mov true, [.c (.p (.int .i64 0))]⟩])
  (.seq
  (.seq
   (.reg [⟨some 25, none, .mov false, [.t 0]⟩,
      ⟨some 26, none, .len, [.t 25]⟩,
      ⟨some 27, none, .mov false, [.c (.p (.int .i64 0))]⟩])
   (.block 0
   (.loop [0, 4, 5, 8, 9, 10, 11, 12, 13, 14, 15, 16, 17, 18, 19, 20, 21, 22, 23, 24, 28, 29, 30, 31, 32, 33, 34, 35, 36, 37] [0]
    (.seq
     (.reg [⟨some 28, none, .bin .lss, [.t 27, .t 26]⟩])
     (.seq
     (.cond (.t 28)
      .skip
      (.exit 0))
     (.seq
     (.block 1
      (.seq
       (.reg [⟨some 29, none, .iad 3, [.t 25, .t 27]⟩,
          ⟨some 30, none, .load 3 true false, [.t 29]⟩,
          ⟨some 8, none, .alloc 0 3 [.p (.int .i64 0), .p (.int .i64 0), .p (.int .i64 0)], []⟩,
          ⟨none, none, .store 3, [.t 8, .t 30]⟩])
       (.reg [⟨some 31, none, .mov false, [.t 6]⟩,
         ⟨some 32, none, .load 3 true false, [.t 8]⟩,
         ⟨some 33, none, .mov false, [.t 1]⟩,
         ⟨some 34, none, .call 108, [.t 32, .t 33]⟩,
         ⟨some 35, none, .bin .add, [.t 31, .t 34]⟩,
         ⟨some 6, none, .mov true, [.t 35]⟩])))
     (.reg [⟨some 36, none, .bin .add, [.t 27, .c (.p (.int .i64 1))]⟩,
       ⟨some 27, none, .mov false, [.t 36]⟩])))))))
  (.seq
  (.reg [⟨some 37, none, .mov false, [.t 6]⟩,
     ⟨some 4, none, .mov true, [.t 37]⟩])
  .ret))))))⟩
-- a loop, at its head alive: [1, 6, 25, 26, 27]
theorem k89 : chkF Tryz.prog 89 F89 = true := by kernel_rfl
def F90 : Fn := ⟨19, 0, [.tmp 4],
 (.seq
  (.reg [⟨some 4, none, .mov true, [.c (.p (.int .i64 0))]⟩])
  (.seq
  (.seq
   (.reg [⟨some 6, none, .mov false, [.t 0]⟩,
      ⟨some 7, none, .len, [.t 6]⟩,
      ⟨some 8, none, .mov false, [.c (.p (.int .i64 0))]⟩])
   (.block 0
   (.loop [4, 5, 6, 9, 10, 11, 12, 13, 14, 15, 16, 17, 18] []
    (.seq
     (.reg [⟨some 9, none, .bin .lss, [.t 8, .t 7]⟩])
     (.seq
     (.cond (.t 9)
      .skip
      (.exit 0))
     (.seq
     (.block 1
      (.seq
       (.reg [⟨some 10, none, .mov false, [.t 8]⟩,
          ⟨some 5, none, .mov true, [.t 10]⟩])
       (.seq
       (.reg [⟨some 11, none, .mov false, [.t 1]⟩,
          ⟨some 12, none, .mov false, [.t 0]⟩,
          ⟨some 13, none, .mov false, [.t 5]⟩,
          ⟨some 14, none, .iad 1, [.t 12, .t 13]⟩,
          ⟨some 15, none, .load 1 false false, [.t 14]⟩,
          ⟨some 16, none, .callv, [.t 11, .t 15]⟩])
       (.cond (.t 16)
       (.seq
        (.reg [⟨some 17, none, .mov false, [.t 5]⟩,
           ⟨some 4, none, .mov true, [.t 17]⟩])
        .ret)
       .skip))))
     (.reg [⟨some 18, none, .bin .add, [.t 8, .c (.p (.int .i64 1))]⟩,
       ⟨some 8, none, .mov false, [.t 18]⟩])))))))
  (.seq
  (.reg [⟨some 4, none, .mov true, [.c (.p (.int .i64 (-1)))]⟩])
  .ret)))⟩
-- a loop, at its head alive: [0, 1, 7, 8]
theorem k90 : chkF Tryz.prog 90 F90 = true := by kernel_rfl
def F91 : Fn := ⟨27, 0, [.tmp 6],
 (.seq
  (.reg [⟨some 6, none, .mov true, [.c (.p (.bool false))]⟩])
  (.seq
  (.reg [⟨some 7, none, .mov false, [.t 0]⟩,
     ⟨some 8, none, .len, [.t 7]⟩,
     ⟨some 9, none, .bin .leq, [.t 8, .c (.p (.int .i64 23))]⟩,
     ⟨some 10, none, .mov false, [.t 9]⟩,
     ⟨some 11, (some (10, true)), .mov false, [.t 1]⟩,
     ⟨some 12, (some (10, true)), .bin .geq, [.t 11, .c (.p (.int .i64 1))]⟩,
     ⟨some 13, none, .pick, [.t 10, .t 12, .c (.p (.bool false))]⟩,
     ⟨some 14, none, .mov false, [.t 13]⟩,
     ⟨some 15, (some (14, true)), .mov false, [.t 1]⟩,
     ⟨some 16, (some (14, true)), .mov false, [.t 2]⟩,
     ⟨some 17, (some (14, true)), .bin .leq, [.t 15, .t 16]⟩,
     ⟨some 18, none, .pick, [.t 14, .t 17, .c (.p (.bool false))]⟩,
     ⟨some 19, none, .mov false, [.t 18]⟩,
     ⟨some 20, (some (19, true)), .mov false, [.t 2]⟩,
     ⟨some 21, (some (19, true)), .bin .leq, [.t 20, .c (.p (.int .i64 200))]⟩,
     ⟨some 22, none, .pick, [.t 19, .t 21, .c (.p (.bool false))]⟩,
     ⟨some 23, none, .mov false, [.t 22]⟩,
     ⟨some 24, (some (23, true)), .mov false, [.t 0]⟩,
     ⟨some 25, (some (23, true)), .call 47, [.t 24]⟩,
     ⟨some 26, none, .pick, [.t 23, .t 25, .c (.p (.bool false))]⟩,
     ⟨some 6, none, .mov true, [.t 26]⟩])
  .ret))⟩
theorem k91 : chkF Tryz.prog 91 F91 = true := by kernel_rfl
def F92 : Fn := ⟨11, 1, [.tmp 4],
 (.seq
  (.reg [⟨some 3, none, .box 0 3, [.t 1]⟩,
     ⟨some 4, none, .mov true, [.c (.p (.bool false))]⟩])
  (.seq
  (.regd [⟨some 5, none, .mov false, [.t 0]⟩,
     ⟨some 6, none, .pl (.call 48), [.t 5]⟩,
     ⟨some 7, none, .at 0 (.load 3 true false), [.t 3]⟩,
     ⟨some 8, none, .bsl 3 1, [.t 7]⟩,
     ⟨some 9, none, .pl (.app 3 24), [.t 6, .t 8]⟩,
     ⟨some 10, none, .pl (.call 47), [.t 9]⟩,
     ⟨some 4, none, .mov true, [.t 10]⟩])
  .ret))⟩
theorem k92 : chkF Tryz.prog 92 F92 = true := by kernel_rfl
def F93 : Fn := ⟨63, 0, [],
 (.seq
  (.reg [⟨some 6, none, .mov true, [.c (.p (.int .i64 20))]⟩])
  (.seq
  (.reg [⟨some 10, none, .mov false, [.t 6]⟩,
     ⟨some 7, none, .mov true, [.c (.p (.int .i64 0))]⟩,
     ⟨some 8, none, .mov true, [.t 10]⟩])
  (.seq
  (.block 0
   (.loop [9, 10, 11, 12, 13, 14, 15, 16, 17, 18, 19, 20, 21, 22, 23, 24, 25, 26, 27, 28, 29, 30, 31, 32, 33, 34, 35, 36, 37, 38, 39, 40, 41, 42, 43, 44, 45, 46, 47, 48, 49, 50, 51, 52, 53, 54, 55, 56, 57, 58, 59, 60, 61, 62] []
    (.seq
     (.seq
      (.reg [⟨some 11, none, .mov false, [.t 8]⟩,
         ⟨some 12, none, .mov false, [.t 1]⟩,
         ⟨some 13, none, .bin .leq, [.t 11, .t 12]⟩])
      (.cond (.t 13)
      .skip
      (.exit 0)))
     (.block 1
     (.seq
      (.reg [⟨some 14, none, .mov false, [.t 0]⟩,
         ⟨some 15, none, .mov false, [.t 7]⟩,
         ⟨some 16, none, .mov false, [.t 8]⟩,
         ⟨some 17, none, .mov false, [.t 2]⟩,
         ⟨some 18, none, .callm 109 0, [.t 14, .t 15, .t 16, .t 17]⟩])
      (.seq
      (.reg [⟨some 19, none, .mov false, [.t 8]⟩,
         ⟨some 7, none, .mov true, [.t 19]⟩])
      (.reg [⟨some 20, none, .mov false, [.t 8]⟩,
        ⟨some 21, none, .mov false, [.t 6]⟩,
        ⟨some 22, none, .bin .add, [.t 20, .t 21]⟩,
        ⟨some 8, none, .mov true, [.t 22]⟩])))))))
  (.seq
  (.reg [⟨some 23, none, .mov false, [.t 0]⟩,
     ⟨some 24, none, .mov false, [.t 7]⟩,
     ⟨some 25, none, .mov false, [.t 1]⟩,
     ⟨some 26, none, .mov false, [.t 2]⟩,
     ⟨some 27, none, .callm 109 0, [.t 23, .t 24, .t 25, .t 26]⟩])
  (.block 2
  (.loop [7, 8, 9, 10, 11, 12, 13, 14, 15, 16, 17, 18, 19, 20, 21, 22, 23, 24, 25, 26, 27, 28, 29, 30, 31, 32, 33, 34, 35, 36, 37, 38, 39, 40, 41, 42, 43, 44, 45, 46, 47, 48, 49, 50, 51, 52, 53, 54, 55, 56, 57, 58, 59, 60, 61, 62] []
   (.seq
    (.seq
     (.reg [⟨some 28, none, .mov false, [.t 6]⟩,
        ⟨some 29, none, .mov false, [.t 1]⟩,
        ⟨some 30, none, .bin .lss, [.t 28, .t 29]⟩])
     (.cond (.t 30)
     .skip
     (.exit 2)))
    (.block 3
    (.seq
     (.reg [⟨some 31, none, .mov false, [.t 6]⟩,
        ⟨some 32, none, .bin .mul, [.c (.p (.int .i64 2)), .t 31]⟩,
        ⟨some 7, none, .mov true, [.c (.p (.int .i64 0))]⟩,
        ⟨some 8, none, .mov true, [.t 32]⟩])
     (.seq
     (.block 4
      (.loop [9, 10, 11, 12, 13, 14, 15, 16, 17, 18, 19, 20, 21, 22, 23, 24, 25, 26, 27, 28, 29, 30, 31, 32, 33, 34, 35, 36, 37, 38, 39, 40, 41, 42, 43, 44, 45, 46, 47, 48, 49, 50, 51, 52, 53, 54, 55, 56, 57, 58, 59, 60, 61, 62] []
       (.seq
        (.seq
         (.reg [⟨some 33, none, .mov false, [.t 8]⟩,
            ⟨some 34, none, .mov false, [.t 1]⟩,
            ⟨some 35, none, .bin .leq, [.t 33, .t 34]⟩])
         (.cond (.t 35)
         .skip
         (.exit 4)))
        (.block 5
        (.seq
         (.reg [⟨some 36, none, .mov false, [.t 0]⟩,
            ⟨some 37, none, .mov false, [.t 7]⟩,
            ⟨some 38, none, .mov false, [.t 7]⟩,
            ⟨some 39, none, .mov false, [.t 6]⟩,
            ⟨some 40, none, .bin .add, [.t 38, .t 39]⟩,
            ⟨some 41, none, .mov false, [.t 8]⟩,
            ⟨some 42, none, .mov false, [.t 2]⟩,
            ⟨some 43, none, .call 110, [.t 36, .t 37, .t 40, .t 41, .t 42]⟩])
         (.seq
         (.reg [⟨some 44, none, .mov false, [.t 8]⟩,
            ⟨some 7, none, .mov true, [.t 44]⟩])
         (.reg [⟨some 45, none, .mov false, [.t 8]⟩,
           ⟨some 46, none, .mov false, [.t 6]⟩,
           ⟨some 47, none, .bin .mul, [.c (.p (.int .i64 2)), .t 46]⟩,
           ⟨some 48, none, .bin .add, [.t 45, .t 47]⟩,
           ⟨some 8, none, .mov true, [.t 48]⟩])))))))
     (.seq
     (.seq
      (.reg [⟨some 49, none, .mov false, [.t 7]⟩,
         ⟨some 50, none, .mov false, [.t 6]⟩,
         ⟨some 51, none, .bin .add, [.t 49, .t 50]⟩,
         ⟨some 9, none, .mov true, [.t 51]⟩])
      (.seq
      (.reg [⟨some 52, none, .mov false, [.t 9]⟩,
         ⟨some 53, none, .mov false, [.t 1]⟩,
         ⟨some 54, none, .bin .lss, [.t 52, .t 53]⟩])
      (.cond (.t 54)
      (.reg [⟨some 55, none, .mov false, [.t 0]⟩,
         ⟨some 56, none, .mov false, [.t 7]⟩,
         ⟨some 57, none, .mov false, [.t 9]⟩,
         ⟨some 58, none, .mov false, [.t 1]⟩,
         ⟨some 59, none, .mov false, [.t 2]⟩,
         ⟨some 60, none, .call 110, [.t 55, .t 56, .t 57, .t 58, .t 59]⟩])
      .skip)))
     (.reg [⟨some 61, none, .mov false, [.t 6]⟩,
       ⟨some 62, none, .bin .mul, [.t 61, .c (.p (.int .i64 2))]⟩,
       ⟨some 6, none, .mov true, [.t 62]⟩]))))))))))))⟩
-- a loop, at its head alive: [0, 1, 2, 6, 7, 8]
-- a loop, at its head alive: [0, 1, 2, 6]
-- a loop, at its head alive: [0, 1, 2, 6, 7, 8]
theorem k93 : chkF Tryz.prog 93 F93 = true := by kernel_rfl
def F94 : Fn := ⟨6, 0, [.tmp 2],
 (.seq
  (.reg [⟨some 2, none, .mov true, [.c (.p (.bool false))]⟩])
  (.seq
  (.reg [⟨some 3, none, .mov false, [.t 0]⟩,
     ⟨some 4, none, .mov false, [.t 0]⟩,
     ⟨some 5, none, .bin .neq, [.t 3, .t 4]⟩,
     ⟨some 2, none, .mov true, [.t 5]⟩])
  .ret))⟩
theorem k94 : chkF Tryz.prog 94 F94 = true := by kernel_rfl
def F95 : Fn := ⟨148, 0, [],
 (.seq
  (.reg [⟨some 10, none, .mov true, [.c (.p (.bool true))]⟩])
  (.seq
  (.reg [⟨some 11, none, .mov true, [.c (.p (.bool true))]⟩])
  (.block 0
  (.loop [12, 13, 14, 15, 16, 17, 18, 19, 20, 21, 22, 23, 24, 25, 26, 27, 28, 29, 30, 31, 32, 33, 34, 35, 36, 37, 38, 39, 40, 41, 42, 43, 44, 45, 46, 47, 48, 49, 50, 51, 52, 53, 54, 55, 56, 57, 58, 59, 60, 61, 62, 63, 64, 65, 66, 67, 68, 69, 70, 71, 72, 73, 74, 75, 76, 77, 78, 79, 80, 81, 82, 83, 84, 85, 86, 87, 88, 89, 90, 91, 92, 93, 94, 95, 96, 97, 98, 99, 100, 101, 102, 103, 104, 105, 106, 107, 108, 109, 110, 111, 112, 113, 114, 115, 116, 117, 118, 119, 120, 121, 122, 123, 124, 125, 126, 127, 128, 129, 130, 131, 132, 133, 134, 135, 136, 137, 138, 139, 140, 141, 142, 143, 144, 145, 146, 147] []
   (.block 1
    (.seq
     (.reg [⟨some 21, none, .mov false, [.t 2]⟩,
        ⟨some 22, none, .mov false, [.t 1]⟩,
        ⟨some 23, none, .bin .sub, [.t 21, .t 22]⟩,
        ⟨some 12, none, .mov true, [.t 23]⟩])
     (.seq
     (.seq
      (.reg [⟨some 24, none, .mov false, [.t 12]⟩,
         ⟨some 25, none, .bin .leq, [.t 24, .c (.p (.int .i64 12))]⟩])
      (.cond (.t 25)
      (.seq
       (.reg [⟨some 26, none, .mov false, [.t 0]⟩,
          ⟨some 27, none, .mov false, [.t 1]⟩,
          ⟨some 28, none, .mov false, [.t 2]⟩,
          ⟨some 29, none, .mov false, [.t 4]⟩,
          ⟨some 30, none, .callm 109 0, [.t 26, .t 27, .t 28, .t 29]⟩])
       .ret)
      .skip))
     (.seq
     (.seq
      (.reg [⟨some 31, none, .mov false, [.t 3]⟩,
         ⟨some 32, none, .bin .eql, [.t 31, .c (.p (.int .i64 0))]⟩])
      (.cond (.t 32)
      (.seq
       (.reg [⟨some 33, none, .mov false, [.t 0]⟩,
          ⟨some 34, none, .mov false, [.t 1]⟩,
          ⟨some 35, none, .mov false, [.t 2]⟩,
          ⟨some 36, none, .mov false, [.t 4]⟩,
          ⟨some 37, none, .call 111, [.t 33, .t 34, .t 35, .t 36]⟩])
       .ret)
      .skip))
     (.seq
     (.seq
      (.reg [⟨some 38, none, .mov false, [.t 10]⟩,
         ⟨some 39, none, .un .not, [.t 38]⟩])
      (.cond (.t 39)
      (.seq
       (.reg [⟨some 40, none, .mov false, [.t 0]⟩,
          ⟨some 41, none, .mov false, [.t 1]⟩,
          ⟨some 42, none, .mov false, [.t 2]⟩,
          ⟨some 43, none, .mov false, [.t 4]⟩,
          ⟨some 44, none, .call 112, [.t 40, .t 41, .t 42, .t 43]⟩])
       (.reg [⟨some 45, none, .mov false, [.t 3]⟩,
         ⟨some 46, none, .bin .sub, [.t 45, .c (.p (.int .i64 1))]⟩,
         ⟨some 3, none, .mov true, [.t 46]⟩]))
      .skip))
     (.seq
     (.reg [⟨some 48, none, .mov false, [.t 0]⟩,
        ⟨some 49, none, .mov false, [.t 1]⟩,
        ⟨some 50, none, .mov false, [.t 2]⟩,
        ⟨some 51, none, .mov false, [.t 4]⟩,
        ⟨some 52, none, .call 113, [.t 48, .t 49, .t 50, .t 51]⟩,
        ⟨some 47, none, .mov false, [.t 52]⟩,
        ⟨some 53, none, .ext 0, [.t 47]⟩,
        ⟨some 54, none, .ext 1, [.t 47]⟩,
        ⟨some 13, none, .mov true, [.t 53]⟩,
        ⟨some 14, none, .mov true, [.t 54]⟩])
     (.seq
     (.seq
      (.reg [⟨some 55, none, .mov false, [.t 14]⟩,
         ⟨some 56, none, .bin .eql, [.t 55, .c (.p (.int .i64 2))]⟩])
      (.cond (.t 56)
      (.seq
       (.reg [⟨some 57, none, .mov false, [.t 0]⟩,
          ⟨some 58, none, .mov false, [.t 1]⟩,
          ⟨some 59, none, .mov false, [.t 2]⟩,
          ⟨some 60, none, .mov false, [.t 4]⟩,
          ⟨some 61, none, .call 114, [.t 57, .t 58, .t 59, .t 60]⟩])
       (.seq
       (.reg [⟨some 62, none, .mov false, [.t 2]⟩,
          ⟨some 63, none, .bin .sub, [.t 62, .c (.p (.int .i64 1))]⟩,
          ⟨some 64, none, .mov false, [.t 13]⟩,
          ⟨some 65, none, .mov false, [.t 1]⟩,
          ⟨some 66, none, .bin .sub, [.t 64, .t 65]⟩,
          ⟨some 67, none, .bin .sub, [.t 63, .t 66]⟩,
          ⟨some 13, none, .mov true, [.t 67]⟩])
       (.reg [⟨some 14, none, .mov true, [.c (.p (.int .i64 1))]⟩])))
      .skip))
     (.seq
     (.seq
      (.reg [⟨some 68, none, .mov false, [.t 10]⟩,
         ⟨some 69, none, .mov false, [.t 68]⟩,
         ⟨some 70, (some (69, true)), .mov false, [.t 11]⟩,
         ⟨some 71, none, .pick, [.t 69, .t 70, .c (.p (.bool false))]⟩,
         ⟨some 72, none, .mov false, [.t 71]⟩,
         ⟨some 73, (some (72, true)), .mov false, [.t 14]⟩,
         ⟨some 74, (some (72, true)), .bin .eql, [.t 73, .c (.p (.int .i64 1))]⟩,
         ⟨some 75, none, .pick, [.t 72, .t 74, .c (.p (.bool false))]⟩])
      (.cond (.t 75)
      (.seq
       (.reg [⟨some 76, none, .mov false, [.t 0]⟩,
          ⟨some 77, none, .mov false, [.t 1]⟩,
          ⟨some 78, none, .mov false, [.t 2]⟩,
          ⟨some 79, none, .mov false, [.t 4]⟩,
          ⟨some 80, none, .call 115, [.t 76, .t 77, .t 78, .t 79]⟩])
       (.cond (.t 80)
       .ret
       .skip))
      .skip))
     (.seq
     (.seq
      (.regd [⟨some 81, none, .mov false, [.t 1]⟩,
         ⟨some 82, none, .bin .gtr, [.t 81, .c (.p (.int .i64 0))]⟩,
         ⟨some 83, none, .mov false, [.t 82]⟩,
         ⟨some 84, (some (83, true)), .mov false, [.t 4]⟩,
         ⟨some 85, (some (83, true)), .mov false, [.t 0]⟩,
         ⟨some 86, (some (83, true)), .mov false, [.t 1]⟩,
         ⟨some 87, (some (83, true)), .bin .sub, [.t 86, .c (.p (.int .i64 1))]⟩,
         ⟨some 88, (some (83, true)), .iad 2, [.t 85, .t 87]⟩,
         ⟨some 89, (some (83, true)), .at 0 (.load 2 true false), [.t 88]⟩,
         ⟨some 90, (some (83, true)), .mov false, [.t 0]⟩,
         ⟨some 91, (some (83, true)), .mov false, [.t 13]⟩,
         ⟨some 92, (some (83, true)), .iad 2, [.t 90, .t 91]⟩,
         ⟨some 93, (some (83, true)), .at 0 (.load 2 true false), [.t 92]⟩,
         ⟨some 94, (some (83, true)), .pl .callv, [.t 84, .t 89, .t 93]⟩,
         ⟨some 95, (some (83, true)), .bin .lss, [.t 94, .c (.p (.int .i64 0))]⟩,
         ⟨some 96, (some (83, true)), .un .not, [.t 95]⟩,
         ⟨some 97, none, .pick, [.t 83, .t 96, .c (.p (.bool false))]⟩])
      (.cond (.t 97)
      (.seq
       (.reg [⟨some 98, none, .mov false, [.t 0]⟩,
          ⟨some 99, none, .mov false, [.t 1]⟩,
          ⟨some 100, none, .mov false, [.t 2]⟩,
          ⟨some 101, none, .mov false, [.t 13]⟩,
          ⟨some 102, none, .mov false, [.t 4]⟩,
          ⟨some 103, none, .call 116, [.t 98, .t 99, .t 100, .t 101, .t 102]⟩,
          ⟨some 15, none, .mov true, [.t 103]⟩])
       (.seq
       (.reg [⟨some 104, none, .mov false, [.t 15]⟩,
          ⟨some 1, none, .mov true, [.t 104]⟩])
       (.exit 1)))
      .skip))
     (.seq
     (.reg [⟨some 106, none, .mov false, [.t 0]⟩,
        ⟨some 107, none, .mov false, [.t 1]⟩,
        ⟨some 108, none, .mov false, [.t 2]⟩,
        ⟨some 109, none, .mov false, [.t 13]⟩,
        ⟨some 110, none, .mov false, [.t 4]⟩,
        ⟨some 111, none, .call 117, [.t 106, .t 107, .t 108, .t 109, .t 110]⟩,
        ⟨some 105, none, .mov false, [.t 111]⟩,
        ⟨some 112, none, .ext 0, [.t 105]⟩,
        ⟨some 113, none, .ext 1, [.t 105]⟩,
        ⟨some 16, none, .mov true, [.t 112]⟩,
        ⟨some 17, none, .mov true, [.t 113]⟩])
     (.seq
     (.reg [⟨some 114, none, .mov false, [.t 17]⟩,
        ⟨some 11, none, .mov true, [.t 114]⟩])
     (.seq
     (.reg [⟨some 115, none, .mov false, [.t 16]⟩,
        ⟨some 116, none, .mov false, [.t 1]⟩,
        ⟨some 117, none, .bin .sub, [.t 115, .t 116]⟩,
        ⟨some 118, none, .mov false, [.t 2]⟩,
        ⟨some 119, none, .mov false, [.t 16]⟩,
        ⟨some 120, none, .bin .sub, [.t 118, .t 119]⟩,
        ⟨some 18, none, .mov true, [.t 117]⟩,
        ⟨some 19, none, .mov true, [.t 120]⟩])
     (.seq
     (.reg [⟨some 121, none, .mov false, [.t 12]⟩,
        ⟨some 122, none, .bin .quo, [.t 121, .c (.p (.int .i64 8))]⟩,
        ⟨some 20, none, .mov true, [.t 122]⟩])
     (.seq
     (.reg [⟨some 123, none, .mov false, [.t 18]⟩,
        ⟨some 124, none, .mov false, [.t 19]⟩,
        ⟨some 125, none, .bin .lss, [.t 123, .t 124]⟩])
     (.cond (.t 125)
     (.seq
      (.reg [⟨some 126, none, .mov false, [.t 18]⟩,
         ⟨some 127, none, .mov false, [.t 20]⟩,
         ⟨some 128, none, .bin .geq, [.t 126, .t 127]⟩,
         ⟨some 10, none, .mov true, [.t 128]⟩])
      (.seq
      (.reg [⟨some 129, none, .mov false, [.t 0]⟩,
         ⟨some 130, none, .mov false, [.t 1]⟩,
         ⟨some 131, none, .mov false, [.t 16]⟩,
         ⟨some 132, none, .mov false, [.t 3]⟩,
         ⟨some 133, none, .mov false, [.t 4]⟩,
         ⟨some 134, none, .callm 95 0, [.t 129, .t 130, .t 131, .t 132, .t 133]⟩])
      (.reg [⟨some 135, none, .mov false, [.t 16]⟩,
        ⟨some 136, none, .bin .add, [.t 135, .c (.p (.int .i64 1))]⟩,
        ⟨some 1, none, .mov true, [.t 136]⟩])))
     (.seq
      (.reg [⟨some 137, none, .mov false, [.t 19]⟩,
         ⟨some 138, none, .mov false, [.t 20]⟩,
         ⟨some 139, none, .bin .geq, [.t 137, .t 138]⟩,
         ⟨some 10, none, .mov true, [.t 139]⟩])
      (.seq
      (.reg [⟨some 140, none, .mov false, [.t 0]⟩,
         ⟨some 141, none, .mov false, [.t 16]⟩,
         ⟨some 142, none, .bin .add, [.t 141, .c (.p (.int .i64 1))]⟩,
         ⟨some 143, none, .mov false, [.t 2]⟩,
         ⟨some 144, none, .mov false, [.t 3]⟩,
         ⟨some 145, none, .mov false, [.t 4]⟩,
         ⟨some 146, none, .callm 95 0, [.t 140, .t 142, .t 143, .t 144, .t 145]⟩])
      (.reg [⟨some 147, none, .mov false, [.t 16]⟩,
        ⟨some 2, none, .mov true, [.t 147]⟩]))))))))))))))))))))))⟩
-- a loop, at its head alive: [0, 1, 2, 3, 4, 10, 11]
theorem k95 : chkF Tryz.prog 95 F95 = true := by kernel_rfl
def F96 : Fn := ⟨8, 0, [.tmp 2],
 (.seq
  (.reg [⟨some 2, none, .mov true, [.c (.p (.int .i64 0))]⟩])
  (.seq
  (.cond (.c (.p (.bool false)))
   (.seq
    (.reg [⟨some 3, none, .mov false, [.t 0]⟩,
       ⟨some 4, none, .conv .u32, [.t 3]⟩,
       ⟨some 5, none, .call 118, [.t 4]⟩,
       ⟨some 2, none, .mov true, [.t 5]⟩])
    .ret)
   .skip)
  (.seq
  (.reg [⟨some 6, none, .mov false, [.t 0]⟩,
     ⟨some 7, none, .call 119, [.t 6]⟩,
     ⟨some 2, none, .mov true, [.t 7]⟩])
  .ret)))⟩
theorem k96 : chkF Tryz.prog 96 F96 = true := by kernel_rfl
def F97 : Fn := ⟨6, 0, [.tmp 2],
 (.seq
  (.reg [⟨some 2, none, .mov true, [.c (.p (.bool false))]⟩])
  (.seq
  (.reg [⟨some 3, none, .mov false, [.t 0]⟩,
     ⟨some 4, none, .mov false, [.t 0]⟩,
     ⟨some 5, none, .bin .neq, [.t 3, .t 4]⟩,
     ⟨some 2, none, .mov true, [.t 5]⟩])
  .ret))⟩
theorem k97 : chkF Tryz.prog 97 F97 = true := by kernel_rfl
def F98 : Fn := ⟨19, 0, [.tmp 2],
 (.seq
  (.reg [⟨some 2, none, .mov true, [.c (.p (.bool false))]⟩])
  (.seq
  (.seq
   (.reg [⟨some 3, none, .mov true, [.c (.p (.int .i64 0))]⟩])
   (.block 0
   (.loop [2, 4, 5, 6, 7, 8, 9, 10, 11, 12, 13, 14, 15, 16, 17, 18] []
    (.seq
     (.seq
      (.reg [⟨some 4, none, .mov false, [.t 3]⟩,
         ⟨some 5, none, .mov false, [.t 0]⟩,
         ⟨some 6, none, .len, [.t 5]⟩,
         ⟨some 7, none, .bin .lss, [.t 4, .t 6]⟩])
      (.cond (.t 7)
      .skip
      (.exit 0)))
     (.seq
     (.block 1
      (.seq
       (.reg [⟨some 10, none, .mov false, [.t 0]⟩,
          ⟨some 11, none, .mov false, [.t 3]⟩,
          ⟨some 12, none, .iad 3, [.t 10, .t 11]⟩,
          ⟨some 13, none, .load 3 true false, [.t 12]⟩,
          ⟨some 14, none, .call 120, [.t 13]⟩,
          ⟨some 15, none, .un .not, [.t 14]⟩])
       (.cond (.t 15)
       (.seq
        (.reg [⟨some 2, none, .mov true, [.c (.p (.bool false))]⟩])
        .ret)
       .skip)))
     (.reg [⟨some 8, none, .mov false, [.t 3]⟩,
       ⟨some 9, none, .bin .add, [.t 8, .c (.p (.int .i64 1))]⟩,
       ⟨some 3, none, .mov true, [.t 9]⟩]))))))
  (.seq
  (.reg [⟨some 16, none, .mov false, [.t 0]⟩,
     ⟨some 17, none, .len, [.t 16]⟩,
     ⟨some 18, none, .bin .leq, [.t 17, .c (.p (.int .i64 24))]⟩,
     ⟨some 2, none, .mov true, [.t 18]⟩])
  .ret)))⟩
-- a loop, at its head alive: [0, 3]
theorem k98 : chkF Tryz.prog 98 F98 = true := by kernel_rfl
def F99 : Fn := ⟨20, 1, [.tmp 4],
 (.seq
  (.reg [⟨some 2, none, .box 0 5, [.t 0]⟩,
     ⟨some 4, none, .mov true, [.c (.p (.bool false))]⟩])
  (.seq
  (.pre [] [0] [] (.reg [⟨some 6, none, .mkfn 121, [.t 2]⟩,
     ⟨some 5, none, .mov true, [.t 6]⟩]))
  (.seq
  (.reg [⟨some 7, none, .load 5 true false, [.t 2]⟩,
     ⟨some 8, none, .call 50, [.t 7]⟩,
     ⟨some 9, none, .mov false, [.t 8]⟩,
     ⟨some 10, (some (9, true)), .mov false, [.t 1]⟩,
     ⟨some 11, (some (9, true)), .len, [.t 10]⟩,
     ⟨some 12, (some (9, true)), .bin .leq, [.t 11, .c (.p (.int .i64 12))]⟩,
     ⟨some 13, none, .pick, [.t 9, .t 12, .c (.p (.bool false))]⟩,
     ⟨some 14, none, .mov false, [.t 13]⟩,
     ⟨some 15, (some (14, true)), .mov false, [.t 1]⟩,
     ⟨some 16, (some (14, true)), .mov false, [.t 5]⟩,
     ⟨some 17, (some (14, true)), .call 122, [.t 15, .t 16]⟩,
     ⟨some 18, (some (14, true)), .un .not, [.t 17]⟩,
     ⟨some 19, none, .pick, [.t 14, .t 18, .c (.p (.bool false))]⟩,
     ⟨some 4, none, .mov true, [.t 19]⟩])
  .ret)))⟩
theorem k99 : chkF Tryz.prog 99 F99 = true := by kernel_rfl
def F100 : Fn := ⟨84, 6, [.tmp 8],
 (.seq
  (.reg [⟨some 4, none, .box 0 5, [.t 0]⟩,
     ⟨some 7, none, .box 1 2, [.t 3]⟩,
     ⟨some 8, none, .mov true, [.c (.ow 1 true [])]⟩])
  (.seq
  (.seq
   (.reg [⟨some 14, none, .load 5 true false, [.t 4]⟩,
      ⟨some 15, none, .mov false, [.t 1]⟩,
      ⟨some 16, none, .call 99, [.t 14, .t 15]⟩,
      ⟨some 17, none, .un .not, [.t 16]⟩,
      ⟨some 18, none, .mov false, [.t 17]⟩,
      ⟨some 19, (some (18, false)), .mov false, [.t 2]⟩,
      ⟨some 20, (some (18, false)), .bin .lss, [.t 19, .c (.p (.int .i64 0))]⟩,
      ⟨some 21, none, .pick, [.t 18, .c (.p (.bool true)), .t 20]⟩,
      ⟨some 22, none, .mov false, [.t 21]⟩,
      ⟨some 23, (some (22, false)), .mov false, [.t 2]⟩,
      ⟨some 24, (some (22, false)), .mov false, [.t 1]⟩,
      ⟨some 25, (some (22, false)), .len, [.t 24]⟩,
      ⟨some 26, (some (22, false)), .bin .geq, [.t 23, .t 25]⟩,
      ⟨some 27, none, .pick, [.t 22, .c (.p (.bool true)), .t 26]⟩,
      ⟨some 28, none, .mov false, [.t 27]⟩,
      ⟨some 29, (some (28, false)), .load 5 true false, [.t 4]⟩,
      ⟨some 30, (some (28, false)), .load 2 true false, [.t 7]⟩,
      ⟨some 31, (some (28, false)), .call 123, [.t 29, .t 30]⟩,
      ⟨some 32, (some (28, false)), .un .not, [.t 31]⟩,
      ⟨some 33, none, .pick, [.t 28, .c (.p (.bool true)), .t 32]⟩])
   (.cond (.t 33)
   (.seq
    (.reg [⟨some 8, none, .mov true, [.c (.ow 1 true [])]⟩])
    .ret)
   .skip))
  (.seq
  (.reg [⟨some 34, none, .fad 0, [.t 4]⟩,
     ⟨some 35, none, .load 1 false false, [.t 34]⟩,
     ⟨some 36, none, .mksl 2 1 24 false [.ow 3 true []], [.t 35, .t 35]⟩,
     ⟨some 9, none, .mov true, [.t 36]⟩])
  (.seq
  (.reg [⟨some 37, none, .mov false, [.t 1]⟩,
     ⟨some 38, none, .mov false, [.t 2]⟩,
     ⟨some 39, none, .iad 4, [.t 37, .t 38]⟩,
     ⟨some 40, none, .load 4 true false, [.t 39]⟩,
     ⟨some 10, none, .alloc 3 4 [.p (.int .i64 0), .p (.int .i64 0), .p (.int .i64 0), .ow 3 true []], []⟩,
     ⟨none, none, .store 4, [.t 10, .t 40]⟩])
  (.seq
  (.seq
   (.reg [⟨some 41, none, .fad 1, [.t 7]⟩,
      ⟨some 42, none, .load 1 false false, [.t 41]⟩,
      ⟨some 43, none, .len, [.t 42]⟩,
      ⟨some 44, none, .mov false, [.c (.p (.int .i64 0))]⟩])
   (.block 0
   (.loop [0, 3, 8, 12, 13, 14, 15, 16, 17, 18, 19, 20, 21, 22, 23, 24, 25, 26, 27, 28, 29, 30, 31, 32, 33, 34, 35, 36, 37, 38, 39, 40, 41, 45, 46, 47, 48, 49, 50, 51, 52, 53, 54, 55, 56, 57, 58, 59, 60, 61, 62, 63, 64, 65, 66, 67, 68, 69, 70, 71, 72, 73, 74, 75, 76, 77, 78, 79, 80, 81, 82, 83] [4, 5]
    (.seq
     (.reg [⟨some 45, none, .bin .lss, [.t 44, .t 43]⟩])
     (.seq
     (.cond (.t 45)
      .skip
      (.exit 0))
     (.seq
     (.block 1
      (.seq
       (.reg [⟨some 46, none, .iad 4, [.t 42, .t 44]⟩,
          ⟨some 47, none, .load 4 true false, [.t 46]⟩,
          ⟨some 12, none, .alloc 4 4 [.p (.int .i64 0), .p (.int .i64 0), .p (.int .i64 0), .p (.int .i64 0)], []⟩,
          ⟨none, none, .store 4, [.t 12, .t 47]⟩])
       (.seq
       (.reg [⟨some 48, none, .fad 3, [.t 12]⟩,
          ⟨some 49, none, .load 1 false false, [.t 48]⟩,
          ⟨some 50, none, .fad 2, [.t 12]⟩,
          ⟨some 51, none, .load 1 false false, [.t 50]⟩,
          ⟨some 52, none, .fad 2, [.t 10]⟩,
          ⟨some 53, none, .load 1 false false, [.t 52]⟩,
          ⟨some 54, none, .build [.int .i64 0, .int .i64 0, .int .i64 0] [(0, 1), (1, 1), (2, 1)], [.t 49, .t 51, .t 53]⟩,
          ⟨some 13, none, .alloc 5 3 [.p (.int .i64 0), .p (.int .i64 0), .p (.int .i64 0)], []⟩,
          ⟨none, none, .store 3, [.t 13, .t 54]⟩])
       (.seq
       (.seq
        (.reg [⟨some 55, none, .fad 0, [.t 7]⟩,
           ⟨some 56, none, .load 1 false false, [.t 55]⟩,
           ⟨some 57, none, .bin .eql, [.t 56, .c (.p (.int .i64 1))]⟩])
        (.cond (.t 57)
        (.regd [⟨some 58, none, .fad 0, [.t 10]⟩,
           ⟨some 59, none, .at 3 (.load 1 false false), [.t 58]⟩,
           ⟨some 60, none, .at 0 (.load 5 true false), [.t 4]⟩,
           ⟨some 61, none, .mov false, [.t 1]⟩,
           ⟨some 62, none, .mov false, [.t 2]⟩,
           ⟨some 63, none, .pl (.call 85), [.t 60, .t 61, .t 62]⟩,
           ⟨some 64, none, .bin .add, [.t 59, .t 63]⟩,
           ⟨some 65, none, .fad 1, [.t 10]⟩,
           ⟨some 66, none, .at 3 (.load 1 false false), [.t 65]⟩,
           ⟨some 67, none, .fad 2, [.t 10]⟩,
           ⟨some 68, none, .at 3 (.load 1 false false), [.t 67]⟩,
           ⟨some 69, none, .build [.int .i64 0, .int .i64 0, .int .i64 0] [(0, 1), (1, 1), (2, 1)], [.t 64, .t 66, .t 68]⟩,
           ⟨none, none, .at 5 (.store 3), [.t 13, .t 69]⟩])
        .skip))
       (.regd [⟨some 70, none, .mov false, [.t 9]⟩,
         ⟨some 71, none, .fad 0, [.t 12]⟩,
         ⟨some 72, none, .at 4 (.load 1 false false), [.t 71]⟩,
         ⟨some 73, none, .mov false, [.t 9]⟩,
         ⟨some 74, none, .fad 0, [.t 12]⟩,
         ⟨some 75, none, .at 4 (.load 1 false false), [.t 74]⟩,
         ⟨some 76, none, .iad 1, [.t 73, .t 75]⟩,
         ⟨some 77, none, .at 2 (.load 1 false true), [.t 76]⟩,
         ⟨some 78, none, .at 5 (.load 3 true false), [.t 13]⟩,
         ⟨some 79, none, .bsl 3 1, [.t 78]⟩,
         ⟨some 80, none, .pl (.app 3 24), [.t 77, .t 79]⟩,
         ⟨some 81, none, .iad 1, [.t 70, .t 72]⟩,
         ⟨none, none, .at 2 (.store 1), [.t 81, .t 80]⟩])))))
     (.reg [⟨some 82, none, .bin .add, [.t 44, .c (.p (.int .i64 1))]⟩,
       ⟨some 44, none, .mov false, [.t 82]⟩])))))))
  (.seq
  (.reg [⟨some 83, none, .mov false, [.t 9]⟩,
     ⟨some 8, none, .mov true, [.t 83]⟩])
  (.pre [] [2] [] .ret)))))))⟩
-- a loop, at its head alive: [1, 2, 4, 7, 9, 10, 42, 43, 44]
theorem k100 : chkF Tryz.prog 100 F100 = true := by kernel_rfl
def F101 : Fn := ⟨68, 0, [.tmp 0],
 (.seq
  (.reg [⟨some 0, none, .mov true, [.c (.p (.bool false))]⟩])
  (.seq
  (.reg [⟨some 8, none, .build [.int .i64 0, .int .i64 0, .int .i64 0] [(0, 1), (1, 1), (2, 1)], [.c (.p (.int .i64 2)), .c (.p (.int .i64 4)), .c (.p (.int .i64 6))]⟩,
     ⟨some 9, none, .build [.int .i64 0, .int .i64 0, .int .i64 0] [(0, 1), (1, 1), (2, 1)], [.c (.p (.int .i64 3)), .c (.p (.int .i64 8)), .c (.p (.int .i64 9))]⟩,
     ⟨some 10, none, .bsl 3 2, [.t 8, .t 9]⟩,
     ⟨some 1, none, .mov true, [.t 10]⟩])
  (.seq
  (.reg [⟨some 12, none, .mov false, [.t 1]⟩,
     ⟨some 13, none, .call 66, [.t 12]⟩,
     ⟨some 11, none, .mov false, [.t 13]⟩,
     ⟨some 14, none, .ext 0, [.t 11]⟩,
     ⟨some 15, none, .ext 1, [.t 11]⟩,
     ⟨some 2, none, .mov true, [.t 14]⟩,
     ⟨some 3, none, .mov true, [.t 15]⟩])
  (.seq
  (.reg [⟨some 17, none, .call 66, [.c (.ow 3 true [])]⟩,
     ⟨some 16, none, .mov false, [.t 17]⟩,
     ⟨some 18, none, .ext 0, [.t 16]⟩,
     ⟨some 19, none, .ext 1, [.t 16]⟩,
     ⟨some 4, none, .mov true, [.t 18]⟩,
     ⟨some 5, none, .mov true, [.t 19]⟩])
  (.seq
  (.reg [⟨some 21, none, .build [.int .i64 0, .int .i64 0, .int .i64 0] [(0, 1), (1, 1), (2, 1)], [.c (.p (.int .i64 5)), .c (.p (.int .i64 5)), .c (.p (.int .i64 4))]⟩,
     ⟨some 22, none, .bsl 3 1, [.t 21]⟩,
     ⟨some 23, none, .call 66, [.t 22]⟩,
     ⟨some 20, none, .mov false, [.t 23]⟩,
     ⟨some 24, none, .ext 0, [.t 20]⟩,
     ⟨some 25, none, .ext 1, [.t 20]⟩,
     ⟨some 6, none, .mov true, [.t 24]⟩,
     ⟨some 7, none, .mov true, [.t 25]⟩])
  (.seq
  (.reg [⟨some 26, none, .call 124, []⟩,
     ⟨some 27, none, .mov false, [.t 26]⟩,
     ⟨some 28, (some (27, true)), .mov false, [.t 1]⟩,
     ⟨some 29, (some (27, true)), .call 88, [.t 28, .c (.p (.int .i64 7))]⟩,
     ⟨some 30, (some (27, true)), .bin .eql, [.t 29, .c (.p (.int .i64 7))]⟩,
     ⟨some 31, none, .pick, [.t 27, .t 30, .c (.p (.bool false))]⟩,
     ⟨some 32, none, .mov false, [.t 31]⟩,
     ⟨some 33, (some (32, true)), .mov false, [.t 3]⟩,
     ⟨some 34, none, .pick, [.t 32, .t 33, .c (.p (.bool false))]⟩,
     ⟨some 35, none, .mov false, [.t 34]⟩,
     ⟨some 36, (some (35, true)), .mov false, [.t 2]⟩,
     ⟨some 37, (some (35, true)), .bin .eql, [.t 36, .c (.p (.int .i64 5))]⟩,
     ⟨some 38, none, .pick, [.t 35, .t 37, .c (.p (.bool false))]⟩,
     ⟨some 39, none, .mov false, [.t 38]⟩,
     ⟨some 40, (some (39, true)), .mov false, [.t 4]⟩,
     ⟨some 41, (some (39, true)), .bin .eql, [.t 40, .c (.p (.int .i64 0))]⟩,
     ⟨some 42, none, .pick, [.t 39, .t 41, .c (.p (.bool false))]⟩,
     ⟨some 43, none, .mov false, [.t 42]⟩,
     ⟨some 44, (some (43, true)), .mov false, [.t 5]⟩,
     ⟨some 45, none, .pick, [.t 43, .t 44, .c (.p (.bool false))]⟩,
     ⟨some 46, none, .mov false, [.t 45]⟩,
     ⟨some 47, (some (46, true)), .mov false, [.t 7]⟩,
     ⟨some 48, (some (46, true)), .un .not, [.t 47]⟩,
     ⟨some 49, none, .pick, [.t 46, .t 48, .c (.p (.bool false))]⟩,
     ⟨some 50, none, .mov false, [.t 49]⟩,
     ⟨some 51, (some (50, true)), .mov false, [.t 1]⟩,
     ⟨some 52, (some (50, true)), .call 89, [.t 51, .c (.p (.int .i64 8))]⟩,
     ⟨some 53, (some (50, true)), .bin .eql, [.t 52, .c (.p (.int .i64 5))]⟩,
     ⟨some 54, none, .pick, [.t 50, .t 53, .c (.p (.bool false))]⟩,
     ⟨some 55, none, .mov false, [.t 54]⟩,
     ⟨some 56, (some (55, true)), .mov false, [.t 1]⟩,
     ⟨some 57, (some (55, true)), .call 47, [.t 56]⟩,
     ⟨some 58, none, .pick, [.t 55, .t 57, .c (.p (.bool false))]⟩,
     ⟨some 59, none, .mov false, [.t 58]⟩,
     ⟨some 60, (some (59, true)), .mov false, [.t 1]⟩,
     ⟨some 61, (some (59, true)), .call 72, [.t 60, .c (.p (.int .i64 5)), .c (.p (.int .i64 10)), .c (.p (.int .i64 9))]⟩,
     ⟨some 62, (some (59, true)), .bin .eql, [.t 61, .c (.p (.int .i64 2))]⟩,
     ⟨some 63, none, .pick, [.t 59, .t 62, .c (.p (.bool false))]⟩,
     ⟨some 64, none, .mov false, [.t 63]⟩,
     ⟨some 65, (some (64, true)), .call 79, [.c (.ow 3 true []), .c (.p (.int .i64 10)), .c (.p (.int .i64 4))]⟩,
     ⟨some 66, (some (64, true)), .bin .eql, [.t 65, .c (.p (.int .i64 4))]⟩,
     ⟨some 67, none, .pick, [.t 64, .t 66, .c (.p (.bool false))]⟩,
     ⟨some 0, none, .mov true, [.t 67]⟩])
  .ret))))))⟩
theorem k101 : chkF Tryz.prog 101 F101 = true := by kernel_rfl
def F102 : Fn := ⟨32, 1, [.tmp 6],
 (.seq
  (.reg [⟨some 3, none, .box 0 5, [.t 0]⟩,
     ⟨some 6, none, .mov true, [.c (.p (.bool false))]⟩])
  (.seq
  (.pre [] [0] [] (.reg [⟨some 8, none, .mkfn 125, [.t 3]⟩,
     ⟨some 7, none, .mov true, [.t 8]⟩]))
  (.seq
  (.reg [⟨some 9, none, .load 5 true false, [.t 3]⟩,
     ⟨some 10, none, .call 50, [.t 9]⟩,
     ⟨some 11, none, .mov false, [.t 10]⟩,
     ⟨some 12, (some (11, true)), .mov false, [.t 1]⟩,
     ⟨some 13, (some (11, true)), .len, [.t 12]⟩,
     ⟨some 14, (some (11, true)), .bin .leq, [.t 13, .c (.p (.int .i64 12))]⟩,
     ⟨some 15, none, .pick, [.t 11, .t 14, .c (.p (.bool false))]⟩,
     ⟨some 16, none, .mov false, [.t 15]⟩,
     ⟨some 17, (some (16, true)), .mov false, [.t 1]⟩,
     ⟨some 18, (some (16, true)), .mov false, [.t 7]⟩,
     ⟨some 19, (some (16, true)), .call 122, [.t 17, .t 18]⟩,
     ⟨some 20, (some (16, true)), .un .not, [.t 19]⟩,
     ⟨some 21, none, .pick, [.t 16, .t 20, .c (.p (.bool false))]⟩,
     ⟨some 22, none, .mov false, [.t 21]⟩,
     ⟨some 23, (some (22, true)), .mov false, [.t 2]⟩,
     ⟨some 24, (some (22, true)), .bin .geq, [.t 23, .c (.p (.int .i64 0))]⟩,
     ⟨some 25, none, .pick, [.t 22, .t 24, .c (.p (.bool false))]⟩,
     ⟨some 26, none, .mov false, [.t 25]⟩,
     ⟨some 27, (some (26, true)), .mov false, [.t 2]⟩,
     ⟨some 28, (some (26, true)), .mov false, [.t 1]⟩,
     ⟨some 29, (some (26, true)), .len, [.t 28]⟩,
     ⟨some 30, (some (26, true)), .bin .lss, [.t 27, .t 29]⟩,
     ⟨some 31, none, .pick, [.t 26, .t 30, .c (.p (.bool false))]⟩,
     ⟨some 6, none, .mov true, [.t 31]⟩])
  .ret)))⟩
theorem k102 : chkF Tryz.prog 102 F102 = true := by kernel_rfl
def F103 : Fn := ⟨18, 0, [.tmp 4],
 (.seq
  (.reg [⟨some 4, none, .mov true, [.c (.p (.int .i64 0))]⟩])
  (.seq
  (.seq
   (.reg [⟨some 6, none, .mov false, [.t 1]⟩,
      ⟨some 7, none, .bin .leq, [.t 6, .c (.p (.int .i64 0))]⟩])
   (.cond (.t 7)
   (.seq
    (.reg [⟨some 4, none, .mov true, [.c (.p (.int .i64 0))]⟩])
    .ret)
   .skip))
  (.seq
  (.reg [⟨some 8, none, .mov false, [.t 0]⟩,
     ⟨some 9, none, .mov false, [.t 1]⟩,
     ⟨some 10, none, .bin .quo, [.t 8, .t 9]⟩,
     ⟨some 5, none, .mov true, [.t 10]⟩])
  (.seq
  (.seq
   (.reg [⟨some 11, none, .mov false, [.t 0]⟩,
      ⟨some 12, none, .mov false, [.t 1]⟩,
      ⟨some 13, none, .bin .rem, [.t 11, .t 12]⟩,
      ⟨some 14, none, .bin .gtr, [.t 13, .c (.p (.int .i64 0))]⟩])
   (.cond (.t 14)
   (.reg [⟨some 15, none, .mov false, [.t 5]⟩,
      ⟨some 16, none, .bin .add, [.t 15, .c (.p (.int .i64 1))]⟩,
      ⟨some 5, none, .mov true, [.t 16]⟩])
   .skip))
  (.seq
  (.reg [⟨some 17, none, .mov false, [.t 5]⟩,
     ⟨some 4, none, .mov true, [.t 17]⟩])
  .ret)))))⟩
theorem k103 : chkF Tryz.prog 103 F103 = true := by kernel_rfl
def F104 : Fn := ⟨9, 0, [.tmp 4],
 (.seq
  (.reg [⟨some 4, none, .mov true, [.c (.p (.bool false))]⟩])
  (.seq
  (.reg [⟨some 5, none, .mov false, [.t 0]⟩,
     ⟨some 6, none, .mov false, [.t 1]⟩,
     ⟨some 7, none, .call 126, [.t 5, .t 6]⟩,
     ⟨some 8, none, .bin .geq, [.t 7, .c (.p (.int .i64 0))]⟩,
     ⟨some 4, none, .mov true, [.t 8]⟩])
  .ret))⟩
theorem k104 : chkF Tryz.prog 104 F104 = true := by kernel_rfl
def F105 : Fn := ⟨6, 1, [.tmp 2],
 (.seq
  (.reg [⟨some 1, none, .box 0 3, [.t 0]⟩,
     ⟨some 2, none, .mov true, [.c (.p (.bool false))]⟩])
  (.seq
  (.reg [⟨some 3, none, .load 3 true false, [.t 1]⟩,
     ⟨some 4, none, .call 106, [.t 3]⟩,
     ⟨some 5, none, .un .not, [.t 4]⟩,
     ⟨some 2, none, .mov true, [.t 5]⟩])
  .ret))⟩
theorem k105 : chkF Tryz.prog 105 F105 = true := by kernel_rfl
def F106 : Fn := ⟨23, 1, [.tmp 2],
 (.seq
  (.reg [⟨some 1, none, .box 0 3, [.t 0]⟩,
     ⟨some 2, none, .mov true, [.c (.p (.bool false))]⟩])
  (.seq
  (.reg [⟨some 3, none, .fad 0, [.t 1]⟩,
     ⟨some 4, none, .load 1 false false, [.t 3]⟩,
     ⟨some 5, none, .call 68, [.t 4, .c (.p (.int .i64 1)), .c (.p (.int .i64 20000))]⟩,
     ⟨some 6, none, .mov false, [.t 5]⟩,
     ⟨some 7, (some (6, true)), .fad 1, [.t 1]⟩,
     ⟨some 8, (some (6, true)), .load 1 false false, [.t 7]⟩,
     ⟨some 9, (some (6, true)), .bin .geq, [.t 8, .c (.p (.int .i64 1))]⟩,
     ⟨some 10, none, .pick, [.t 6, .t 9, .c (.p (.bool false))]⟩,
     ⟨some 11, none, .mov false, [.t 10]⟩,
     ⟨some 12, (some (11, true)), .fad 1, [.t 1]⟩,
     ⟨some 13, (some (11, true)), .load 1 false false, [.t 12]⟩,
     ⟨some 14, (some (11, true)), .fad 2, [.t 1]⟩,
     ⟨some 15, (some (11, true)), .load 1 false false, [.t 14]⟩,
     ⟨some 16, (some (11, true)), .bin .leq, [.t 13, .t 15]⟩,
     ⟨some 17, none, .pick, [.t 11, .t 16, .c (.p (.bool false))]⟩,
     ⟨some 18, none, .mov false, [.t 17]⟩,
     ⟨some 19, (some (18, true)), .fad 2, [.t 1]⟩,
     ⟨some 20, (some (18, true)), .load 1 false false, [.t 19]⟩,
     ⟨some 21, (some (18, true)), .bin .leq, [.t 20, .c (.p (.int .i64 200))]⟩,
     ⟨some 22, none, .pick, [.t 18, .t 21, .c (.p (.bool false))]⟩,
     ⟨some 2, none, .mov true, [.t 22]⟩])
  .ret))⟩
theorem k106 : chkF Tryz.prog 106 F106 = true := by kernel_rfl
def F107 : Fn := ⟨6, 1, [.tmp 2],
 (.seq
  (.reg [⟨some 1, none, .box 0 3, [.t 0]⟩,
     ⟨some 2, none, .mov true, [.c (.p (.bool false))]⟩])
  (.seq
  (.reg [⟨some 3, none, .load 3 true false, [.t 1]⟩,
     ⟨some 4, none, .call 106, [.t 3]⟩,
     ⟨some 5, none, .un .not, [.t 4]⟩,
     ⟨some 2, none, .mov true, [.t 5]⟩])
  .ret))⟩
theorem k107 : chkF Tryz.prog 107 F107 = true := by kernel_rfl
def F108 : Fn := ⟨20, 1, [.tmp 4],
 (.seq
  (.reg [⟨some 2, none, .box 0 3, [.t 0]⟩,
     ⟨some 4, none, .mov true, [.c (.p (.int .i64 0))]⟩])
  (.seq
  (.seq
   (.reg [⟨some 5, none, .fad 1, [.t 2]⟩,
      ⟨some 6, none, .load 1 false false, [.t 5]⟩,
      ⟨some 7, none, .mov false, [.t 1]⟩,
      ⟨some 8, none, .bin .gtr, [.t 6, .t 7]⟩])
   (.cond (.t 8)
   (.seq
    (.reg [⟨some 4, none, .mov true, [.c (.p (.int .i64 0))]⟩])
    .ret)
   .skip))
  (.seq
  (.regd [⟨some 9, none, .fad 0, [.t 2]⟩,
     ⟨some 10, none, .at 0 (.load 1 false false), [.t 9]⟩,
     ⟨some 11, none, .mov false, [.t 1]⟩,
     ⟨some 12, none, .fad 1, [.t 2]⟩,
     ⟨some 13, none, .at 0 (.load 1 false false), [.t 12]⟩,
     ⟨some 14, none, .bin .sub, [.t 11, .t 13]⟩,
     ⟨some 15, none, .fad 2, [.t 2]⟩,
     ⟨some 16, none, .at 0 (.load 1 false false), [.t 15]⟩,
     ⟨some 17, none, .pl (.call 58), [.t 14, .t 16]⟩,
     ⟨some 18, none, .bin .add, [.t 17, .c (.p (.int .i64 1))]⟩,
     ⟨some 19, none, .bin .mul, [.t 10, .t 18]⟩,
     ⟨some 4, none, .mov true, [.t 19]⟩])
  .ret)))⟩
theorem k108 : chkF Tryz.prog 108 F108 = true := by kernel_rfl
def F109 : Fn := ⟨53, 0, [],
 (.seq
  (.reg [⟨some 10, none, .mov false, [.t 1]⟩,
     ⟨some 11, none, .bin .add, [.t 10, .c (.p (.int .i64 1))]⟩,
     ⟨some 8, none, .mov true, [.t 11]⟩])
  (.block 0
  (.loop [9, 10, 11, 12, 13, 14, 15, 16, 17, 18, 19, 20, 21, 22, 23, 24, 25, 26, 27, 28, 29, 30, 31, 32, 33, 34, 35, 36, 37, 38, 39, 40, 41, 42, 43, 44, 45, 46, 47, 48, 49, 50, 51, 52] []
   (.seq
    (.seq
     (.reg [⟨some 12, none, .mov false, [.t 8]⟩,
        ⟨some 13, none, .mov false, [.t 2]⟩,
        ⟨some 14, none, .bin .lss, [.t 12, .t 13]⟩])
     (.cond (.t 14)
     .skip
     (.exit 0)))
    (.seq
    (.block 1
     (.seq
      (.reg [⟨some 17, none, .mov false, [.t 8]⟩,
         ⟨some 9, none, .mov true, [.t 17]⟩])
      (.block 2
      (.loop [10, 11, 12, 13, 14, 15, 16, 17, 18, 19, 20, 21, 22, 23, 24, 25, 26, 27, 28, 29, 30, 31, 32, 33, 34, 35, 36, 37, 38, 39, 40, 41, 42, 43, 44, 45, 46, 47, 48, 49, 50, 51, 52] []
       (.seq
        (.seq
         (.regd [⟨some 18, none, .mov false, [.t 9]⟩,
            ⟨some 19, none, .mov false, [.t 1]⟩,
            ⟨some 20, none, .bin .gtr, [.t 18, .t 19]⟩,
            ⟨some 21, none, .mov false, [.t 20]⟩,
            ⟨some 22, (some (21, true)), .mov false, [.t 3]⟩,
            ⟨some 23, (some (21, true)), .mov false, [.t 0]⟩,
            ⟨some 24, (some (21, true)), .mov false, [.t 9]⟩,
            ⟨some 25, (some (21, true)), .iad 2, [.t 23, .t 24]⟩,
            ⟨some 26, (some (21, true)), .at 0 (.load 2 true false), [.t 25]⟩,
            ⟨some 27, (some (21, true)), .mov false, [.t 0]⟩,
            ⟨some 28, (some (21, true)), .mov false, [.t 9]⟩,
            ⟨some 29, (some (21, true)), .bin .sub, [.t 28, .c (.p (.int .i64 1))]⟩,
            ⟨some 30, (some (21, true)), .iad 2, [.t 27, .t 29]⟩,
            ⟨some 31, (some (21, true)), .at 0 (.load 2 true false), [.t 30]⟩,
            ⟨some 32, (some (21, true)), .pl .callv, [.t 22, .t 26, .t 31]⟩,
            ⟨some 33, (some (21, true)), .bin .lss, [.t 32, .c (.p (.int .i64 0))]⟩,
            ⟨some 34, none, .pick, [.t 21, .t 33, .c (.p (.bool false))]⟩])
         (.cond (.t 34)
         .skip
         (.exit 2)))
        (.seq
        (.block 3
         (.regd [⟨some 37, none, .mov false, [.t 0]⟩,
            ⟨some 38, none, .mov false, [.t 9]⟩,
            ⟨some 39, none, .mov false, [.t 0]⟩,
            ⟨some 40, none, .mov false, [.t 9]⟩,
            ⟨some 41, none, .bin .sub, [.t 40, .c (.p (.int .i64 1))]⟩,
            ⟨some 42, none, .mov false, [.t 0]⟩,
            ⟨some 43, none, .mov false, [.t 9]⟩,
            ⟨some 44, none, .bin .sub, [.t 43, .c (.p (.int .i64 1))]⟩,
            ⟨some 45, none, .iad 2, [.t 42, .t 44]⟩,
            ⟨some 46, none, .at 0 (.load 2 true false), [.t 45]⟩,
            ⟨some 47, none, .mov false, [.t 0]⟩,
            ⟨some 48, none, .mov false, [.t 9]⟩,
            ⟨some 49, none, .iad 2, [.t 47, .t 48]⟩,
            ⟨some 50, none, .at 0 (.load 2 true false), [.t 49]⟩,
            ⟨some 51, none, .iad 2, [.t 37, .t 38]⟩,
            ⟨none, none, .at 0 (.store 2), [.t 51, .t 46]⟩,
            ⟨some 52, none, .iad 2, [.t 39, .t 41]⟩,
            ⟨none, none, .at 0 (.store 2), [.t 52, .t 50]⟩]))
        (.reg [⟨some 35, none, .mov false, [.t 9]⟩,
          ⟨some 36, none, .bin .sub, [.t 35, .c (.p (.int .i64 1))]⟩,
          ⟨some 9, none, .mov true, [.t 36]⟩])))))))
    (.reg [⟨some 15, none, .mov false, [.t 8]⟩,
      ⟨some 16, none, .bin .add, [.t 15, .c (.p (.int .i64 1))]⟩,
      ⟨some 8, none, .mov true, [.t 16]⟩]))))))⟩
-- a loop, at its head alive: [0, 1, 2, 3, 8]
-- a loop, at its head alive: [0, 1, 2, 3, 8, 9]
theorem k109 : chkF Tryz.prog 109 F109 = true := by kernel_rfl
def F120 : Fn := ⟨23, 1, [.tmp 2],
 (.seq
  (.reg [⟨some 1, none, .box 0 3, [.t 0]⟩,
     ⟨some 2, none, .mov true, [.c (.p (.bool false))]⟩])
  (.seq
  (.reg [⟨some 3, none, .fad 0, [.t 1]⟩,
     ⟨some 4, none, .load 1 false false, [.t 3]⟩,
     ⟨some 5, none, .call 65, [.t 4, .c (.p (.int .i64 1)), .c (.p (.int .i64 20000))]⟩,
     ⟨some 6, none, .mov false, [.t 5]⟩,
     ⟨some 7, (some (6, true)), .fad 1, [.t 1]⟩,
     ⟨some 8, (some (6, true)), .load 1 false false, [.t 7]⟩,
     ⟨some 9, (some (6, true)), .bin .geq, [.t 8, .c (.p (.int .i64 1))]⟩,
     ⟨some 10, none, .pick, [.t 6, .t 9, .c (.p (.bool false))]⟩,
     ⟨some 11, none, .mov false, [.t 10]⟩,
     ⟨some 12, (some (11, true)), .fad 1, [.t 1]⟩,
     ⟨some 13, (some (11, true)), .load 1 false false, [.t 12]⟩,
     ⟨some 14, (some (11, true)), .fad 2, [.t 1]⟩,
     ⟨some 15, (some (11, true)), .load 1 false false, [.t 14]⟩,
     ⟨some 16, (some (11, true)), .bin .leq, [.t 13, .t 15]⟩,
     ⟨some 17, none, .pick, [.t 11, .t 16, .c (.p (.bool false))]⟩,
     ⟨some 18, none, .mov false, [.t 17]⟩,
     ⟨some 19, (some (18, true)), .fad 2, [.t 1]⟩,
     ⟨some 20, (some (18, true)), .load 1 false false, [.t 19]⟩,
     ⟨some 21, (some (18, true)), .bin .leq, [.t 20, .c (.p (.int .i64 200))]⟩,
     ⟨some 22, none, .pick, [.t 18, .t 21, .c (.p (.bool false))]⟩,
     ⟨some 2, none, .mov true, [.t 22]⟩])
  .ret))⟩
theorem k120 : chkF Tryz.prog 120 F120 = true := by kernel_rfl
def F121 : Fn := ⟨8, 1, [.tmp 3],
 (.seq
  (.reg [⟨some 2, none, .box 0 4, [.t 0]⟩,
     ⟨some 3, none, .mov true, [.c (.p (.bool false))]⟩])
  (.seq
  (.reg [⟨some 4, none, .load 5 true false, [.t 1]⟩,
     ⟨some 5, none, .load 4 true false, [.t 2]⟩,
     ⟨some 6, none, .call 51, [.t 4, .t 5]⟩,
     ⟨some 7, none, .un .not, [.t 6]⟩,
     ⟨some 3, none, .mov true, [.t 7]⟩])
  .ret))⟩
theorem k121 : chkF Tryz.prog 121 F121 = true := by kernel_rfl
def F122 : Fn := ⟨9, 0, [.tmp 4],
 (.seq
  (.reg [⟨some 4, none, .mov true, [.c (.p (.bool false))]⟩])
  (.seq
  (.reg [⟨some 5, none, .mov false, [.t 0]⟩,
     ⟨some 6, none, .mov false, [.t 1]⟩,
     ⟨some 7, none, .call 133, [.t 5, .t 6]⟩,
     ⟨some 8, none, .bin .geq, [.t 7, .c (.p (.int .i64 0))]⟩,
     ⟨some 4, none, .mov true, [.t 8]⟩])
  .ret))⟩
theorem k122 : chkF Tryz.prog 122 F122 = true := by kernel_rfl
def F123 : Fn := ⟨10, 2, [.tmp 4],
 (.seq
  (.reg [⟨some 2, none, .box 0 5, [.t 0]⟩,
     ⟨some 3, none, .box 1 2, [.t 1]⟩,
     ⟨some 4, none, .mov true, [.c (.p (.bool false))]⟩])
  (.seq
  (.pre [] [0] [] (.reg [⟨some 5, none, .fad 1, [.t 3]⟩,
     ⟨some 6, none, .load 1 false false, [.t 5]⟩,
     ⟨some 7, none, .mkfn 135, [.t 2]⟩,
     ⟨some 8, none, .call 134, [.t 6, .t 7]⟩,
     ⟨some 9, none, .un .not, [.t 8]⟩,
     ⟨some 4, none, .mov true, [.t 9]⟩]))
  .ret))⟩
theorem k123 : chkF Tryz.prog 123 F123 = true := by kernel_rfl
def F124 : Fn := ⟨2, 0, [.tmp 0],
 (.seq
  (.reg [⟨some 0, none, .mov true, [.c (.p (.bool false))]⟩])
  (.seq
  (.reg [⟨some 1, none, .call 136, []⟩,
     ⟨some 0, none, .mov true, [.t 1]⟩])
  .ret))⟩
theorem k124 : chkF Tryz.prog 124 F124 = true := by kernel_rfl
def F125 : Fn := ⟨8, 1, [.tmp 3],
 (.seq
  (.reg [⟨some 2, none, .box 0 4, [.t 0]⟩,
     ⟨some 3, none, .mov true, [.c (.p (.bool false))]⟩])
  (.seq
  (.reg [⟨some 4, none, .load 5 true false, [.t 1]⟩,
     ⟨some 5, none, .load 4 true false, [.t 2]⟩,
     ⟨some 6, none, .call 51, [.t 4, .t 5]⟩,
     ⟨some 7, none, .un .not, [.t 6]⟩,
     ⟨some 3, none, .mov true, [.t 7]⟩])
  .ret))⟩
theorem k125 : chkF Tryz.prog 125 F125 = true := by kernel_rfl
def F126 : Fn := ⟨19, 0, [.tmp 4],
 (.seq
  (.reg [⟨some 4, none, .mov true, [.c (.p (.int .i64 0))]⟩])
  (.seq
  (.seq
   (.reg [⟨some 6, none, .mov false, [.t 0]⟩,
      ⟨some 7, none, .len, [.t 6]⟩,
      ⟨some 8, none, .mov false, [.c (.p (.int .i64 0))]⟩])
   (.block 0
   (.loop [4, 5, 6, 9, 10, 11, 12, 13, 14, 15, 16, 17, 18] []
    (.seq
     (.reg [⟨some 9, none, .bin .lss, [.t 8, .t 7]⟩])
     (.seq
     (.cond (.t 9)
      .skip
      (.exit 0))
     (.seq
     (.block 1
      (.seq
       (.reg [⟨some 10, none, .mov false, [.t 8]⟩,
          ⟨some 5, none, .mov true, [.t 10]⟩])
       (.seq
       (.reg [⟨some 11, none, .mov false, [.t 1]⟩,
          ⟨some 12, none, .mov false, [.t 0]⟩,
          ⟨some 13, none, .mov false, [.t 5]⟩,
          ⟨some 14, none, .iad 3, [.t 12, .t 13]⟩,
          ⟨some 15, none, .load 3 true false, [.t 14]⟩,
          ⟨some 16, none, .callv, [.t 11, .t 15]⟩])
       (.cond (.t 16)
       (.seq
        (.reg [⟨some 17, none, .mov false, [.t 5]⟩,
           ⟨some 4, none, .mov true, [.t 17]⟩])
        .ret)
       .skip))))
     (.reg [⟨some 18, none, .bin .add, [.t 8, .c (.p (.int .i64 1))]⟩,
       ⟨some 8, none, .mov false, [.t 18]⟩])))))))
  (.seq
  (.reg [⟨some 4, none, .mov true, [.c (.p (.int .i64 (-1)))]⟩])
  .ret)))⟩
-- a loop, at its head alive: [0, 1, 7, 8]
theorem k126 : chkF Tryz.prog 126 F126 = true := by kernel_rfl
def F133 : Fn := ⟨19, 0, [.tmp 4],
 (.seq
  (.reg [⟨some 4, none, .mov true, [.c (.p (.int .i64 0))]⟩])
  (.seq
  (.seq
   (.reg [⟨some 6, none, .mov false, [.t 0]⟩,
      ⟨some 7, none, .len, [.t 6]⟩,
      ⟨some 8, none, .mov false, [.c (.p (.int .i64 0))]⟩])
   (.block 0
   (.loop [4, 5, 6, 9, 10, 11, 12, 13, 14, 15, 16, 17, 18] []
    (.seq
     (.reg [⟨some 9, none, .bin .lss, [.t 8, .t 7]⟩])
     (.seq
     (.cond (.t 9)
      .skip
      (.exit 0))
     (.seq
     (.block 1
      (.seq
       (.reg [⟨some 10, none, .mov false, [.t 8]⟩,
          ⟨some 5, none, .mov true, [.t 10]⟩])
       (.seq
       (.reg [⟨some 11, none, .mov false, [.t 1]⟩,
          ⟨some 12, none, .mov false, [.t 0]⟩,
          ⟨some 13, none, .mov false, [.t 5]⟩,
          ⟨some 14, none, .iad 4, [.t 12, .t 13]⟩,
          ⟨some 15, none, .load 4 true false, [.t 14]⟩,
          ⟨some 16, none, .callv, [.t 11, .t 15]⟩])
       (.cond (.t 16)
       (.seq
        (.reg [⟨some 17, none, .mov false, [.t 5]⟩,
           ⟨some 4, none, .mov true, [.t 17]⟩])
        .ret)
       .skip))))
     (.reg [⟨some 18, none, .bin .add, [.t 8, .c (.p (.int .i64 1))]⟩,
       ⟨some 8, none, .mov false, [.t 18]⟩])))))))
  (.seq
  (.reg [⟨some 4, none, .mov true, [.c (.p (.int .i64 (-1)))]⟩])
  .ret)))⟩
-- a loop, at its head alive: [0, 1, 7, 8]
theorem k133 : chkF Tryz.prog 133 F133 = true := by kernel_rfl
def F134 : Fn := ⟨9, 0, [.tmp 4],
 (.seq
  (.reg [⟨some 4, none, .mov true, [.c (.p (.bool false))]⟩])
  (.seq
  (.reg [⟨some 5, none, .mov false, [.t 0]⟩,
     ⟨some 6, none, .mov false, [.t 1]⟩,
     ⟨some 7, none, .call 139, [.t 5, .t 6]⟩,
     ⟨some 8, none, .bin .geq, [.t 7, .c (.p (.int .i64 0))]⟩,
     ⟨some 4, none, .mov true, [.t 8]⟩])
  .ret))⟩
theorem k134 : chkF Tryz.prog 134 F134 = true := by kernel_rfl
def F135 : Fn := ⟨14, 1, [.tmp 3],
 (.seq
  (.reg [⟨some 2, none, .box 0 4, [.t 0]⟩,
     ⟨some 3, none, .mov true, [.c (.p (.bool false))]⟩])
  (.seq
  (.reg [⟨some 4, none, .fad 0, [.t 2]⟩,
     ⟨some 5, none, .load 1 false false, [.t 4]⟩,
     ⟨some 6, none, .bin .lss, [.t 5, .c (.p (.int .i64 0))]⟩,
     ⟨some 7, none, .mov false, [.t 6]⟩,
     ⟨some 8, (some (7, false)), .fad 0, [.t 2]⟩,
     ⟨some 9, (some (7, false)), .load 1 false false, [.t 8]⟩,
     ⟨some 10, (some (7, false)), .fad 0, [.t 1]⟩,
     ⟨some 11, (some (7, false)), .load 1 false false, [.t 10]⟩,
     ⟨some 12, (some (7, false)), .bin .geq, [.t 9, .t 11]⟩,
     ⟨some 13, none, .pick, [.t 7, .c (.p (.bool true)), .t 12]⟩,
     ⟨some 3, none, .mov true, [.t 13]⟩])
  .ret))⟩
theorem k135 : chkF Tryz.prog 135 F135 = true := by kernel_rfl
def F136 : Fn := ⟨104, 5, [.tmp 0],
 (.seq
  (.reg [⟨some 0, none, .mov true, [.c (.p (.bool false))]⟩])
  (.seq
  (.reg [⟨some 11, none, .bsl 1 1, [.c (.p (.int .i64 0))]⟩,
     ⟨some 12, none, .build [.int .i64 0, .int .i64 0, .int .i64 0, .int .i64 0, .sl 1 true []] [(0, 1), (1, 1), (2, 1), (4, 1)], [.c (.p (.int .i64 2)), .c (.p (.int .i64 1)), .c (.p (.int .i64 1)), .t 11]⟩,
     ⟨some 1, none, .alloc 0 5 [.p (.int .i64 0), .p (.int .i64 0), .p (.int .i64 0), .p (.int .i64 0), .ow 1 true []], []⟩,
     ⟨none, none, .store 5, [.t 1, .t 12]⟩])
  (.seq
  (.reg [⟨some 13, none, .build [.int .i64 0, .int .i64 0, .int .i64 0] [(1, 1), (2, 1)], [.c (.p (.int .i64 1)), .c (.p (.int .i64 2))]⟩,
     ⟨some 14, none, .bsl 3 1, [.t 13]⟩,
     ⟨some 15, none, .build [.int .i64 0, .int .i64 0, .int .i64 0, .sl 3 true []] [(0, 1), (1, 1), (2, 1), (3, 1)], [.c (.p (.int .i64 3)), .c (.p (.int .i64 8)), .c (.p (.int .i64 10)), .t 14]⟩,
     ⟨some 2, none, .alloc 1 4 [.p (.int .i64 0), .p (.int .i64 0), .p (.int .i64 0), .ow 3 true []], []⟩,
     ⟨none, none, .store 4, [.t 2, .t 15]⟩])
  (.seq
  (.regd [⟨some 16, none, .at 0 (.load 5 true false), [.t 1]⟩,
     ⟨some 17, none, .pl (.call 140), [.t 16]⟩,
     ⟨some 18, none, .at 1 (.load 4 true false), [.t 2]⟩,
     ⟨some 19, none, .pl (.call 141), [.t 18]⟩,
     ⟨some 3, none, .mov true, [.t 17]⟩,
     ⟨some 4, none, .mov true, [.t 19]⟩])
  (.seq
  (.reg [⟨some 21, none, .mov false, [.t 3]⟩,
     ⟨some 22, none, .call 142, [.t 21]⟩,
     ⟨some 20, none, .mov false, [.t 22]⟩,
     ⟨some 23, none, .ext 0, [.t 20]⟩,
     ⟨some 24, none, .ext 1, [.t 20]⟩,
     ⟨some 5, none, .alloc 2 5 [.p (.int .i64 0), .p (.int .i64 0), .p (.int .i64 0), .p (.int .i64 0), .ow 1 true []], []⟩,
     ⟨none, none, .store 5, [.t 5, .t 23]⟩,
     ⟨some 6, none, .mov true, [.t 24]⟩])
  (.seq
  (.reg [⟨some 26, none, .load 5 true false, [.t 1]⟩,
     ⟨some 27, none, .mov false, [.t 4]⟩,
     ⟨some 28, none, .call 143, [.t 26, .t 27]⟩,
     ⟨some 25, none, .mov false, [.t 28]⟩,
     ⟨some 29, none, .ext 0, [.t 25]⟩,
     ⟨some 30, none, .ext 1, [.t 25]⟩,
     ⟨some 7, none, .alloc 3 4 [.p (.int .i64 0), .p (.int .i64 0), .p (.int .i64 0), .ow 3 true []], []⟩,
     ⟨none, none, .store 4, [.t 7, .t 29]⟩,
     ⟨some 8, none, .mov true, [.t 30]⟩])
  (.seq
  (.reg [⟨some 32, none, .build [.int .i64 0, .int .i64 0, .int .i64 0, .int .i64 0, .sl 1 true []] [(0, 1)], [.c (.p (.int .i64 1))]⟩,
     ⟨some 33, none, .mov false, [.t 4]⟩,
     ⟨some 34, none, .call 143, [.t 32, .t 33]⟩,
     ⟨some 31, none, .mov false, [.t 34]⟩,
     ⟨some 35, none, .ext 0, [.t 31]⟩,
     ⟨some 36, none, .ext 1, [.t 31]⟩,
     ⟨some 9, none, .alloc 4 4 [.p (.int .i64 0), .p (.int .i64 0), .p (.int .i64 0), .ow 3 true []], []⟩,
     ⟨none, none, .store 4, [.t 9, .t 35]⟩,
     ⟨some 10, none, .mov true, [.t 36]⟩])
  (.seq
  (.reg [⟨some 37, none, .call 144, []⟩,
     ⟨some 38, none, .mov false, [.t 37]⟩,
     ⟨some 39, (some (38, true)), .load 5 true false, [.t 1]⟩,
     ⟨some 40, (some (38, true)), .call 50, [.t 39]⟩,
     ⟨some 41, none, .pick, [.t 38, .t 40, .c (.p (.bool false))]⟩,
     ⟨some 42, none, .mov false, [.t 41]⟩,
     ⟨some 43, (some (42, true)), .load 5 true false, [.t 1]⟩,
     ⟨some 44, (some (42, true)), .load 4 true false, [.t 2]⟩,
     ⟨some 45, (some (42, true)), .call 51, [.t 43, .t 44]⟩,
     ⟨some 46, none, .pick, [.t 42, .t 45, .c (.p (.bool false))]⟩,
     ⟨some 47, none, .mov false, [.t 46]⟩,
     ⟨some 48, (some (47, true)), .build [.int .i64 0, .int .i64 0, .int .i64 0, .int .i64 0, .sl 1 true []] [], []⟩,
     ⟨some 49, (some (47, true)), .call 50, [.t 48]⟩,
     ⟨some 50, (some (47, true)), .un .not, [.t 49]⟩,
     ⟨some 51, none, .pick, [.t 47, .t 50, .c (.p (.bool false))]⟩,
     ⟨some 52, none, .mov false, [.t 51]⟩,
     ⟨some 53, (some (52, true)), .mov false, [.t 3]⟩,
     ⟨some 54, (some (52, true)), .bin .eql, [.t 53, .c (.p (.str ⟨#[99, 111, 114, 101, 115, 32, 50, 32, 115, 121, 110, 99, 115, 32, 49, 32, 108, 97, 103, 32, 49, 32, 109, 111, 118, 101, 32, 48, 32, 114, 101, 115, 32, 48]⟩))]⟩,
     ⟨some 55, none, .pick, [.t 52, .t 54, .c (.p (.bool false))]⟩,
     ⟨some 56, none, .mov false, [.t 55]⟩,
     ⟨some 57, (some (56, true)), .mov false, [.t 4]⟩,
     ⟨some 58, (some (56, true)), .bin .eql, [.t 57, .c (.p (.str ⟨#[51, 47, 56, 47, 49, 48, 32, 48, 64, 49, 43, 50]⟩))]⟩,
     ⟨some 59, none, .pick, [.t 56, .t 58, .c (.p (.bool false))]⟩,
     ⟨some 60, none, .mov false, [.t 59]⟩,
     ⟨some 61, (some (60, true)), .mov false, [.t 6]⟩,
     ⟨some 62, (some (60, true)), .bin .eql, [.t 61, .c (.p (.int .i64 0))]⟩,
     ⟨some 63, none, .pick, [.t 60, .t 62, .c (.p (.bool false))]⟩,
     ⟨some 64, none, .mov false, [.t 63]⟩,
     ⟨some 65, (some (64, true)), .fad 0, [.t 5]⟩,
     ⟨some 66, (some (64, true)), .load 1 false false, [.t 65]⟩,
     ⟨some 67, (some (64, true)), .bin .eql, [.t 66, .c (.p (.int .i64 2))]⟩,
     ⟨some 68, none, .pick, [.t 64, .t 67, .c (.p (.bool false))]⟩,
     ⟨some 69, none, .mov false, [.t 68]⟩,
     ⟨some 70, (some (69, true)), .fad 4, [.t 5]⟩,
     ⟨some 71, (some (69, true)), .load 1 false false, [.t 70]⟩,
     ⟨some 72, (some (69, true)), .len, [.t 71]⟩,
     ⟨some 73, (some (69, true)), .bin .eql, [.t 72, .c (.p (.int .i64 1))]⟩,
     ⟨some 74, none, .pick, [.t 69, .t 73, .c (.p (.bool false))]⟩,
     ⟨some 75, none, .mov false, [.t 74]⟩,
     ⟨some 76, (some (75, true)), .mov false, [.t 8]⟩,
     ⟨some 77, (some (75, true)), .bin .eql, [.t 76, .c (.p (.int .i64 0))]⟩,
     ⟨some 78, none, .pick, [.t 75, .t 77, .c (.p (.bool false))]⟩,
     ⟨some 79, none, .mov false, [.t 78]⟩,
     ⟨some 80, (some (79, true)), .load 4 true false, [.t 7]⟩,
     ⟨some 81, (some (79, true)), .load 4 true false, [.t 2]⟩,
     ⟨some 82, (some (79, true)), .call 145, [.t 80, .t 81]⟩,
     ⟨some 83, none, .pick, [.t 79, .t 82, .c (.p (.bool false))]⟩,
     ⟨some 84, none, .mov false, [.t 83]⟩,
     ⟨some 85, (some (84, true)), .mov false, [.t 10]⟩,
     ⟨some 86, (some (84, true)), .bin .eql, [.t 85, .c (.p (.int .i64 1))]⟩,
     ⟨some 87, none, .pick, [.t 84, .t 86, .c (.p (.bool false))]⟩,
     ⟨some 88, none, .mov false, [.t 87]⟩,
     ⟨some 89, (some (88, true)), .build [.int .i64 0, .int .i64 0, .int .i64 0] [(0, 1), (1, 1), (2, 1)], [.c (.p (.int .i64 1)), .c (.p (.int .i64 1)), .c (.p (.int .i64 1))]⟩,
     ⟨some 90, (some (88, true)), .call 106, [.t 89]⟩,
     ⟨some 91, none, .pick, [.t 88, .t 90, .c (.p (.bool false))]⟩,
     ⟨some 92, none, .mov false, [.t 91]⟩,
     ⟨some 93, (some (92, true)), .load 5 true false, [.t 1]⟩,
     ⟨some 94, (some (92, true)), .build [.int .i64 0, .int .i64 0, .int .i64 0, .int .i64 0] [(0, 1), (2, 1), (3, 1)], [.c (.p (.int .i64 1)), .c (.p (.int .i64 3)), .c (.p (.int .i64 3))]⟩,
     ⟨some 95, (some (92, true)), .call 71, [.t 93, .t 94]⟩,
     ⟨some 96, none, .pick, [.t 92, .t 95, .c (.p (.bool false))]⟩,
     ⟨some 97, none, .mov false, [.t 96]⟩,
     ⟨some 98, (some (97, true)), .load 5 true false, [.t 1]⟩,
     ⟨some 99, (some (97, true)), .load 4 true false, [.t 2]⟩,
     ⟨some 100, (some (97, true)), .call 146, [.t 98, .t 99]⟩,
     ⟨some 101, (some (97, true)), .len, [.t 100]⟩,
     ⟨some 102, (some (97, true)), .bin .eql, [.t 101, .c (.p (.int .i64 1))]⟩,
     ⟨some 103, none, .pick, [.t 97, .t 102, .c (.p (.bool false))]⟩,
     ⟨some 0, none, .mov true, [.t 103]⟩])
  .ret))))))))⟩
theorem k136 : chkF Tryz.prog 136 F136 = true := by kernel_rfl
def F139 : Fn := ⟨19, 0, [.tmp 4],
 (.seq
  (.reg [⟨some 4, none, .mov true, [.c (.p (.int .i64 0))]⟩])
  (.seq
  (.seq
   (.reg [⟨some 6, none, .mov false, [.t 0]⟩,
      ⟨some 7, none, .len, [.t 6]⟩,
      ⟨some 8, none, .mov false, [.c (.p (.int .i64 0))]⟩])
   (.block 0
   (.loop [4, 5, 6, 9, 10, 11, 12, 13, 14, 15, 16, 17, 18] []
    (.seq
     (.reg [⟨some 9, none, .bin .lss, [.t 8, .t 7]⟩])
     (.seq
     (.cond (.t 9)
      .skip
      (.exit 0))
     (.seq
     (.block 1
      (.seq
       (.reg [⟨some 10, none, .mov false, [.t 8]⟩,
          ⟨some 5, none, .mov true, [.t 10]⟩])
       (.seq
       (.reg [⟨some 11, none, .mov false, [.t 1]⟩,
          ⟨some 12, none, .mov false, [.t 0]⟩,
          ⟨some 13, none, .mov false, [.t 5]⟩,
          ⟨some 14, none, .iad 4, [.t 12, .t 13]⟩,
          ⟨some 15, none, .load 4 true false, [.t 14]⟩,
          ⟨some 16, none, .callv, [.t 11, .t 15]⟩])
       (.cond (.t 16)
       (.seq
        (.reg [⟨some 17, none, .mov false, [.t 5]⟩,
           ⟨some 4, none, .mov true, [.t 17]⟩])
        .ret)
       .skip))))
     (.reg [⟨some 18, none, .bin .add, [.t 8, .c (.p (.int .i64 1))]⟩,
       ⟨some 8, none, .mov false, [.t 18]⟩])))))))
  (.seq
  (.reg [⟨some 4, none, .mov true, [.c (.p (.int .i64 (-1)))]⟩])
  .ret)))⟩
-- a loop, at its head alive: [0, 1, 7, 8]
theorem k139 : chkF Tryz.prog 139 F139 = true := by kernel_rfl
def F140 : Fn := ⟨44, 1, [.tmp 2],
 (.seq
  (.reg [⟨some 1, none, .box 0 5, [.t 0]⟩,
     ⟨some 2, none, .mov true, [.c (.p (.str ⟨#[]⟩))]⟩])
  (.seq
  (.seq
   (.reg [⟨some 6, none, .load 5 true false, [.t 1]⟩,
      ⟨some 7, none, .call 50, [.t 6]⟩,
      ⟨some 8, none, .un .not, [.t 7]⟩])
   (.cond (.t 8)
   (.seq
    (.reg [⟨some 2, none, .mov true, [.c (.p (.str ⟨#[]⟩))]⟩])
    .ret)
   .skip))
  (.seq
  (.regd [⟨some 9, none, .fad 0, [.t 1]⟩,
     ⟨some 10, none, .at 0 (.load 1 false false), [.t 9]⟩,
     ⟨some 11, none, .pl (.call 147), [.t 10]⟩,
     ⟨some 12, none, .fad 1, [.t 1]⟩,
     ⟨some 13, none, .at 0 (.load 1 false false), [.t 12]⟩,
     ⟨some 14, none, .pl (.call 147), [.t 13]⟩,
     ⟨some 15, none, .fad 2, [.t 1]⟩,
     ⟨some 16, none, .at 0 (.load 1 false false), [.t 15]⟩,
     ⟨some 17, none, .pl (.call 147), [.t 16]⟩,
     ⟨some 18, none, .fad 3, [.t 1]⟩,
     ⟨some 19, none, .at 0 (.load 1 false false), [.t 18]⟩,
     ⟨some 20, none, .pl (.call 147), [.t 19]⟩,
     ⟨some 21, none, .bsl 1 8, [.c (.p (.str ⟨#[99, 111, 114, 101, 115]⟩)), .t 11, .c (.p (.str ⟨#[115, 121, 110, 99, 115]⟩)), .t 14, .c (.p (.str ⟨#[108, 97, 103]⟩)), .t 17, .c (.p (.str ⟨#[109, 111, 118, 101]⟩)), .t 20]⟩,
     ⟨some 3, none, .mov true, [.t 21]⟩])
  (.seq
  (.seq
   (.reg [⟨some 22, none, .fad 4, [.t 1]⟩,
      ⟨some 23, none, .load 1 false false, [.t 22]⟩,
      ⟨some 24, none, .len, [.t 23]⟩,
      ⟨some 25, none, .bin .gtr, [.t 24, .c (.p (.int .i64 0))]⟩])
   (.cond (.t 25)
   (.reg [⟨some 26, none, .mov true, [.t 3]⟩,
      ⟨some 27, none, .bsl 1 1, [.c (.p (.str ⟨#[114, 101, 115]⟩))]⟩,
      ⟨some 28, none, .app 1 16, [.t 26, .t 27]⟩,
      ⟨some 3, none, .mov true, [.t 28]⟩])
   .skip))
  (.seq
  (.seq
   (.reg [⟨some 29, none, .fad 4, [.t 1]⟩,
      ⟨some 30, none, .load 1 false false, [.t 29]⟩,
      ⟨some 31, none, .len, [.t 30]⟩,
      ⟨some 32, none, .mov false, [.c (.p (.int .i64 0))]⟩])
   (.block 0
   (.loop [0, 1, 2, 5, 6, 7, 8, 9, 10, 11, 12, 13, 14, 15, 16, 17, 18, 19, 20, 21, 22, 23, 24, 25, 26, 27, 28, 29, 33, 34, 35, 36, 37, 38, 39, 40, 41, 42, 43] []
    (.seq
     (.reg [⟨some 33, none, .bin .lss, [.t 32, .t 31]⟩])
     (.seq
     (.cond (.t 33)
      .skip
      (.exit 0))
     (.seq
     (.block 1
      (.seq
       (.reg [⟨some 34, none, .iad 1, [.t 30, .t 32]⟩,
          ⟨some 35, none, .load 1 false false, [.t 34]⟩,
          ⟨some 5, none, .mov true, [.t 35]⟩])
       (.reg [⟨some 36, none, .mov true, [.t 3]⟩,
         ⟨some 37, none, .mov false, [.t 5]⟩,
         ⟨some 38, none, .call 147, [.t 37]⟩,
         ⟨some 39, none, .bsl 1 1, [.t 38]⟩,
         ⟨some 40, none, .app 1 16, [.t 36, .t 39]⟩,
         ⟨some 3, none, .mov true, [.t 40]⟩])))
     (.reg [⟨some 41, none, .bin .add, [.t 32, .c (.p (.int .i64 1))]⟩,
       ⟨some 32, none, .mov false, [.t 41]⟩])))))))
  (.seq
  (.reg [⟨some 42, none, .mov false, [.t 3]⟩,
     ⟨some 43, none, .call 148, [.t 42, .c (.p (.str ⟨#[32]⟩))]⟩,
     ⟨some 2, none, .mov true, [.t 43]⟩])
  .ret))))))⟩
-- a loop, at its head alive: [3, 30, 31, 32]
theorem k140 : chkF Tryz.prog 140 F140 = true := by kernel_rfl
def F141 : Fn := ⟨48, 2, [.tmp 2],
 (.seq
  (.reg [⟨some 1, none, .box 0 4, [.t 0]⟩,
     ⟨some 2, none, .mov true, [.c (.p (.str ⟨#[]⟩))]⟩])
  (.seq
  (.seq
   (.regd [⟨some 6, none, .pl (.call 149), []⟩,
      ⟨some 7, none, .at 0 (.load 4 true false), [.t 1]⟩,
      ⟨some 8, none, .pl (.call 51), [.t 6, .t 7]⟩,
      ⟨some 9, none, .un .not, [.t 8]⟩])
   (.cond (.t 9)
   (.seq
    (.reg [⟨some 2, none, .mov true, [.c (.p (.str ⟨#[]⟩))]⟩])
    .ret)
   .skip))
  (.seq
  (.regd [⟨some 10, none, .fad 0, [.t 1]⟩,
     ⟨some 11, none, .at 0 (.load 1 false false), [.t 10]⟩,
     ⟨some 12, none, .pl (.call 147), [.t 11]⟩,
     ⟨some 13, none, .bin .add, [.t 12, .c (.p (.str ⟨#[47]⟩))]⟩,
     ⟨some 14, none, .fad 1, [.t 1]⟩,
     ⟨some 15, none, .at 0 (.load 1 false false), [.t 14]⟩,
     ⟨some 16, none, .pl (.call 147), [.t 15]⟩,
     ⟨some 17, none, .bin .add, [.t 13, .t 16]⟩,
     ⟨some 18, none, .bin .add, [.t 17, .c (.p (.str ⟨#[47]⟩))]⟩,
     ⟨some 19, none, .fad 2, [.t 1]⟩,
     ⟨some 20, none, .at 0 (.load 1 false false), [.t 19]⟩,
     ⟨some 21, none, .pl (.call 147), [.t 20]⟩,
     ⟨some 22, none, .bin .add, [.t 18, .t 21]⟩,
     ⟨some 3, none, .mov true, [.t 22]⟩])
  (.seq
  (.seq
   (.reg [⟨some 23, none, .fad 3, [.t 1]⟩,
      ⟨some 24, none, .load 1 false false, [.t 23]⟩,
      ⟨some 25, none, .len, [.t 24]⟩,
      ⟨some 26, none, .mov false, [.c (.p (.int .i64 0))]⟩])
   (.block 0
   (.loop [0, 1, 2, 5, 6, 7, 8, 9, 10, 11, 12, 13, 14, 15, 16, 17, 18, 19, 20, 21, 22, 23, 27, 28, 29, 30, 31, 32, 33, 34, 35, 36, 37, 38, 39, 40, 41, 42, 43, 44, 45, 46, 47] [1]
    (.seq
     (.reg [⟨some 27, none, .bin .lss, [.t 26, .t 25]⟩])
     (.seq
     (.cond (.t 27)
      .skip
      (.exit 0))
     (.seq
     (.block 1
      (.seq
       (.reg [⟨some 28, none, .iad 3, [.t 24, .t 26]⟩,
          ⟨some 29, none, .load 3 true false, [.t 28]⟩,
          ⟨some 5, none, .alloc 1 3 [.p (.int .i64 0), .p (.int .i64 0), .p (.int .i64 0)], []⟩,
          ⟨none, none, .store 3, [.t 5, .t 29]⟩])
       (.regd [⟨some 30, none, .mov false, [.t 3]⟩,
         ⟨some 31, none, .fad 0, [.t 5]⟩,
         ⟨some 32, none, .at 1 (.load 1 false false), [.t 31]⟩,
         ⟨some 33, none, .pl (.call 147), [.t 32]⟩,
         ⟨some 34, none, .bin .add, [.c (.p (.str ⟨#[32]⟩)), .t 33]⟩,
         ⟨some 35, none, .bin .add, [.t 34, .c (.p (.str ⟨#[64]⟩))]⟩,
         ⟨some 36, none, .fad 1, [.t 5]⟩,
         ⟨some 37, none, .at 1 (.load 1 false false), [.t 36]⟩,
         ⟨some 38, none, .pl (.call 147), [.t 37]⟩,
         ⟨some 39, none, .bin .add, [.t 35, .t 38]⟩,
         ⟨some 40, none, .bin .add, [.t 39, .c (.p (.str ⟨#[43]⟩))]⟩,
         ⟨some 41, none, .fad 2, [.t 5]⟩,
         ⟨some 42, none, .at 1 (.load 1 false false), [.t 41]⟩,
         ⟨some 43, none, .pl (.call 147), [.t 42]⟩,
         ⟨some 44, none, .bin .add, [.t 40, .t 43]⟩,
         ⟨some 45, none, .bin .add, [.t 30, .t 44]⟩,
         ⟨some 3, none, .mov true, [.t 45]⟩])))
     (.reg [⟨some 46, none, .bin .add, [.t 26, .c (.p (.int .i64 1))]⟩,
       ⟨some 26, none, .mov false, [.t 46]⟩])))))))
  (.seq
  (.reg [⟨some 47, none, .mov false, [.t 3]⟩,
     ⟨some 2, none, .mov true, [.t 47]⟩])
  .ret)))))⟩
-- a loop, at its head alive: [3, 24, 25, 26]
theorem k141 : chkF Tryz.prog 141 F141 = true := by kernel_rfl
def F142 : Fn := ⟨55, 2, [.cell 2 5, .tmp 3],
 (.seq
  (.reg [⟨some 2, none, .alloc 0 5 [.p (.int .i64 0), .p (.int .i64 0), .p (.int .i64 0), .p (.int .i64 0), .ow 1 true []], []⟩,
     ⟨some 3, none, .mov true, [.c (.p (.int .i64 0))]⟩])
  (.seq
  (.reg [⟨some 8, none, .mov false, [.t 0]⟩,
     ⟨some 9, none, .call 150, [.t 8, .c (.p (.str ⟨#[32]⟩))]⟩,
     ⟨some 4, none, .mov true, [.t 9]⟩])
  (.seq
  (.seq
   (.reg [⟨some 10, none, .mov false, [.t 4]⟩,
      ⟨some 11, none, .len, [.t 10]⟩,
      ⟨some 12, none, .bin .lss, [.t 11, .c (.p (.int .i64 8))]⟩])
   (.cond (.t 12)
   (.seq
    (.reg [⟨some 13, none, .build [.int .i64 0, .int .i64 0, .int .i64 0, .int .i64 0, .sl 1 true []] [], []⟩,
       ⟨none, none, .store 5, [.t 2, .t 13]⟩,
       ⟨some 3, none, .mov true, [.c (.p (.int .i64 1))]⟩])
    .ret)
   .skip))
  (.seq
  (.pre [5, 41, 47] [] [1] (.rega [⟨some 14, none, .mov false, [.t 4]⟩,
     ⟨some 15, none, .iad 1, [.t 14, .c (.p (.int .i64 1))]⟩,
     ⟨some 16, none, .loadp 1 false, [.t 15]⟩,
     ⟨some 17, none, .pl (.call 151), [.t 16]⟩,
     ⟨some 18, none, .mov false, [.t 4]⟩,
     ⟨some 19, none, .iad 1, [.t 18, .c (.p (.int .i64 3))]⟩,
     ⟨some 20, none, .loadp 1 false, [.t 19]⟩,
     ⟨some 21, none, .pl (.call 151), [.t 20]⟩,
     ⟨some 22, none, .mov false, [.t 4]⟩,
     ⟨some 23, none, .iad 1, [.t 22, .c (.p (.int .i64 5))]⟩,
     ⟨some 24, none, .loadp 1 false, [.t 23]⟩,
     ⟨some 25, none, .pl (.call 151), [.t 24]⟩,
     ⟨some 26, none, .mov false, [.t 4]⟩,
     ⟨some 27, none, .iad 1, [.t 26, .c (.p (.int .i64 7))]⟩,
     ⟨some 28, none, .loadp 1 false, [.t 27]⟩,
     ⟨some 29, none, .pl (.call 151), [.t 28]⟩,
     ⟨some 30, none, .build [.int .i64 0, .int .i64 0, .int .i64 0, .int .i64 0, .sl 1 true []] [(0, 1), (1, 1), (2, 1), (3, 1)], [.t 17, .t 21, .t 25, .t 29]⟩,
     ⟨some 5, none, .alloc 1 5 [.p (.int .i64 0), .p (.int .i64 0), .p (.int .i64 0), .p (.int .i64 0), .ow 1 true []], []⟩,
     ⟨none, none, .at 1 (.store 5), [.t 5, .t 30]⟩]))
  (.seq
  (.seq
   (.reg [⟨some 31, none, .mov false, [.t 4]⟩,
      ⟨some 32, none, .mov false, [.t 4]⟩,
      ⟨some 33, none, .len, [.t 32]⟩,
      ⟨some 34, none, .mn, [.c (.p (.int .i64 9)), .t 33]⟩,
      ⟨some 35, none, .slc 1 true false, [.t 31, .t 34]⟩,
      ⟨some 36, none, .len, [.t 35]⟩,
      ⟨some 37, none, .mov false, [.c (.p (.int .i64 0))]⟩])
   (.block 0
   (.loop [3, 4, 7, 8, 9, 10, 11, 12, 13, 14, 15, 16, 17, 18, 19, 20, 21, 22, 23, 24, 25, 26, 27, 28, 29, 30, 31, 32, 33, 34, 38, 39, 40, 41, 42, 43, 44, 45, 46, 47, 48, 49, 50, 51, 52, 53, 54] []
    (.seq
     (.reg [⟨some 38, none, .bin .lss, [.t 37, .t 36]⟩])
     (.seq
     (.cond (.t 38)
      .skip
      (.exit 0))
     (.seq
     (.block 1
      (.seq
       (.reg [⟨some 39, none, .iad 1, [.t 35, .t 37]⟩,
          ⟨some 40, none, .load 1 false false, [.t 39]⟩,
          ⟨some 7, none, .mov true, [.t 40]⟩])
       (.regd [⟨some 41, none, .fad 4, [.t 5]⟩,
         ⟨some 42, none, .at 1 (.load 1 false true), [.t 41]⟩,
         ⟨some 43, none, .mov false, [.t 7]⟩,
         ⟨some 44, none, .pl (.call 151), [.t 43]⟩,
         ⟨some 45, none, .bsl 1 1, [.t 44]⟩,
         ⟨some 46, none, .pl (.app 1 8), [.t 42, .t 45]⟩,
         ⟨some 47, none, .fad 4, [.t 5]⟩,
         ⟨none, none, .at 1 (.store 1), [.t 47, .t 46]⟩])))
     (.reg [⟨some 48, none, .bin .add, [.t 37, .c (.p (.int .i64 1))]⟩,
       ⟨some 37, none, .mov false, [.t 48]⟩])))))))
  (.seq
  (.seq
   (.reg [⟨some 49, none, .load 5 true false, [.t 5]⟩,
      ⟨some 50, none, .call 140, [.t 49]⟩,
      ⟨some 51, none, .mov false, [.t 0]⟩,
      ⟨some 52, none, .bin .neq, [.t 50, .t 51]⟩])
   (.cond (.t 52)
   (.seq
    (.reg [⟨some 53, none, .build [.int .i64 0, .int .i64 0, .int .i64 0, .int .i64 0, .sl 1 true []] [], []⟩,
       ⟨none, none, .store 5, [.t 2, .t 53]⟩,
       ⟨some 3, none, .mov true, [.c (.p (.int .i64 1))]⟩])
    .ret)
   .skip))
  (.seq
  (.reg [⟨some 54, none, .load 5 true false, [.t 5]⟩,
     ⟨none, none, .store 5, [.t 2, .t 54]⟩,
     ⟨some 3, none, .mov true, [.c (.p (.int .i64 0))]⟩])
  .ret)))))))⟩
-- a loop, at its head alive: [0, 2, 5, 35, 36, 37]
theorem k142 : chkF Tryz.prog 142 F142 = true := by kernel_rfl

end Go.Proofs.YtkjghcbnmipgfaaGreatDoor.Vc
