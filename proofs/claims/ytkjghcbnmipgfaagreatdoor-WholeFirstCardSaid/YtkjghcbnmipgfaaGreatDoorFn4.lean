/- Short forms of functions, and that they are those functions. No condition. -/
import Derived.Test.YtkjghcbnmipgfaaGreatDoorVcEv
import Derived.Test.YtkjghcbnmipgfaaGreatDoorProg
namespace Go.Proofs.YtkjghcbnmipgfaaGreatDoor.Vc
open Go.RowKit

def F143 : Fn := ⟨89, 3, [.cell 4 4, .tmp 5],
 (.seq
  (.reg [⟨some 2, none, .box 0 5, [.t 0]⟩,
     ⟨some 4, none, .alloc 1 4 [.p (.int .i64 0), .p (.int .i64 0), .p (.int .i64 0), .ow 3 true []], []⟩,
     ⟨some 5, none, .mov true, [.c (.p (.int .i64 0))]⟩])
  (.seq
  (.reg [⟨some 17, none, .mov false, [.t 1]⟩,
     ⟨some 18, none, .call 150, [.t 17, .c (.p (.str ⟨#[32]⟩))]⟩,
     ⟨some 6, none, .mov true, [.t 18]⟩])
  (.seq
  (.reg [⟨some 19, none, .mov false, [.t 6]⟩,
     ⟨some 20, none, .iad 1, [.t 19, .c (.p (.int .i64 0))]⟩,
     ⟨some 21, none, .load 1 false false, [.t 20]⟩,
     ⟨some 22, none, .call 150, [.t 21, .c (.p (.str ⟨#[47]⟩))]⟩,
     ⟨some 7, none, .mov true, [.t 22]⟩])
  (.seq
  (.seq
   (.reg [⟨some 23, none, .mov false, [.t 7]⟩,
      ⟨some 24, none, .len, [.t 23]⟩,
      ⟨some 25, none, .bin .neq, [.t 24, .c (.p (.int .i64 3))]⟩])
   (.cond (.t 25)
   (.seq
    (.reg [⟨some 26, none, .build [.int .i64 0, .int .i64 0, .int .i64 0, .sl 3 true []] [], []⟩,
       ⟨none, none, .store 4, [.t 4, .t 26]⟩,
       ⟨some 5, none, .mov true, [.c (.p (.int .i64 1))]⟩])
    .ret)
   .skip))
  (.seq
  (.pre [8, 59, 70] [] [2] (.rega [⟨some 27, none, .mov false, [.t 7]⟩,
     ⟨some 28, none, .iad 1, [.t 27, .c (.p (.int .i64 0))]⟩,
     ⟨some 29, none, .loadp 1 false, [.t 28]⟩,
     ⟨some 30, none, .pl (.call 151), [.t 29]⟩,
     ⟨some 31, none, .mov false, [.t 7]⟩,
     ⟨some 32, none, .iad 1, [.t 31, .c (.p (.int .i64 1))]⟩,
     ⟨some 33, none, .loadp 1 false, [.t 32]⟩,
     ⟨some 34, none, .pl (.call 151), [.t 33]⟩,
     ⟨some 35, none, .mov false, [.t 7]⟩,
     ⟨some 36, none, .iad 1, [.t 35, .c (.p (.int .i64 2))]⟩,
     ⟨some 37, none, .loadp 1 false, [.t 36]⟩,
     ⟨some 38, none, .pl (.call 151), [.t 37]⟩,
     ⟨some 39, none, .build [.int .i64 0, .int .i64 0, .int .i64 0, .sl 3 true []] [(0, 1), (1, 1), (2, 1)], [.t 30, .t 34, .t 38]⟩,
     ⟨some 8, none, .alloc 2 4 [.p (.int .i64 0), .p (.int .i64 0), .p (.int .i64 0), .ow 3 true []], []⟩,
     ⟨none, none, .at 2 (.store 4), [.t 8, .t 39]⟩]))
  (.seq
  (.seq
   (.reg [⟨some 40, none, .mov false, [.t 6]⟩,
      ⟨some 41, none, .slc 1 true false, [.t 40, .c (.p (.int .i64 1))]⟩,
      ⟨some 42, none, .len, [.t 41]⟩,
      ⟨some 43, none, .mov false, [.c (.p (.int .i64 0))]⟩])
   (.block 0
   (.loop [0, 5, 6, 7, 10, 11, 12, 13, 14, 15, 16, 17, 18, 19, 20, 21, 22, 23, 24, 25, 26, 27, 28, 29, 30, 31, 32, 33, 34, 35, 36, 37, 38, 39, 40, 44, 45, 46, 47, 48, 49, 50, 51, 52, 53, 54, 55, 56, 57, 58, 59, 60, 61, 62, 63, 64, 65, 66, 67, 68, 69, 70, 71, 72, 73, 74, 75, 76, 77, 78, 79, 80, 81, 82, 83, 84, 85, 86, 87, 88] []
    (.seq
     (.reg [⟨some 44, none, .bin .lss, [.t 43, .t 42]⟩])
     (.seq
     (.cond (.t 44)
      .skip
      (.exit 0))
     (.seq
     (.block 1
      (.seq
       (.reg [⟨some 45, none, .iad 1, [.t 41, .t 43]⟩,
          ⟨some 46, none, .load 1 false false, [.t 45]⟩,
          ⟨some 10, none, .mov true, [.t 46]⟩])
       (.seq
       (.reg [⟨some 48, none, .mov false, [.t 10]⟩,
          ⟨some 49, none, .call 152, [.t 48, .c (.p (.str ⟨#[64]⟩))]⟩,
          ⟨some 47, none, .mov false, [.t 49]⟩,
          ⟨some 50, none, .ext 0, [.t 47]⟩,
          ⟨some 51, none, .ext 1, [.t 47]⟩,
          ⟨some 52, none, .ext 2, [.t 47]⟩,
          ⟨some 11, none, .mov true, [.t 50]⟩,
          ⟨some 12, none, .mov true, [.t 51]⟩,
          ⟨some 13, none, .mov true, [.t 52]⟩])
       (.seq
       (.reg [⟨some 54, none, .mov false, [.t 12]⟩,
          ⟨some 55, none, .call 152, [.t 54, .c (.p (.str ⟨#[43]⟩))]⟩,
          ⟨some 53, none, .mov false, [.t 55]⟩,
          ⟨some 56, none, .ext 0, [.t 53]⟩,
          ⟨some 57, none, .ext 1, [.t 53]⟩,
          ⟨some 58, none, .ext 2, [.t 53]⟩,
          ⟨some 14, none, .mov true, [.t 56]⟩,
          ⟨some 15, none, .mov true, [.t 57]⟩,
          ⟨some 16, none, .mov true, [.t 58]⟩])
       (.regd [⟨some 59, none, .fad 3, [.t 8]⟩,
         ⟨some 60, none, .at 2 (.load 1 false true), [.t 59]⟩,
         ⟨some 61, none, .mov false, [.t 11]⟩,
         ⟨some 62, none, .pl (.call 151), [.t 61]⟩,
         ⟨some 63, none, .mov false, [.t 14]⟩,
         ⟨some 64, none, .pl (.call 151), [.t 63]⟩,
         ⟨some 65, none, .mov false, [.t 15]⟩,
         ⟨some 66, none, .pl (.call 151), [.t 65]⟩,
         ⟨some 67, none, .build [.int .i64 0, .int .i64 0, .int .i64 0] [(0, 1), (1, 1), (2, 1)], [.t 62, .t 64, .t 66]⟩,
         ⟨some 68, none, .bsl 3 1, [.t 67]⟩,
         ⟨some 69, none, .pl (.app 3 24), [.t 60, .t 68]⟩,
         ⟨some 70, none, .fad 3, [.t 8]⟩,
         ⟨none, none, .at 2 (.store 1), [.t 70, .t 69]⟩])))))
     (.reg [⟨some 71, none, .bin .add, [.t 43, .c (.p (.int .i64 1))]⟩,
       ⟨some 43, none, .mov false, [.t 71]⟩])))))))
  (.seq
  (.seq
   (.reg [⟨some 72, none, .load 5 true false, [.t 2]⟩,
      ⟨some 73, none, .call 50, [.t 72]⟩,
      ⟨some 74, none, .un .not, [.t 73]⟩,
      ⟨some 75, none, .mov false, [.t 74]⟩,
      ⟨some 76, (some (75, false)), .load 5 true false, [.t 2]⟩,
      ⟨some 77, (some (75, false)), .load 4 true false, [.t 8]⟩,
      ⟨some 78, (some (75, false)), .call 51, [.t 76, .t 77]⟩,
      ⟨some 79, (some (75, false)), .un .not, [.t 78]⟩,
      ⟨some 80, none, .pick, [.t 75, .c (.p (.bool true)), .t 79]⟩,
      ⟨some 81, none, .mov false, [.t 80]⟩,
      ⟨some 82, (some (81, false)), .load 4 true false, [.t 8]⟩,
      ⟨some 83, (some (81, false)), .call 141, [.t 82]⟩,
      ⟨some 84, (some (81, false)), .mov false, [.t 1]⟩,
      ⟨some 85, (some (81, false)), .bin .neq, [.t 83, .t 84]⟩,
      ⟨some 86, none, .pick, [.t 81, .c (.p (.bool true)), .t 85]⟩])
   (.cond (.t 86)
   (.seq
    (.reg [⟨some 87, none, .build [.int .i64 0, .int .i64 0, .int .i64 0, .sl 3 true []] [], []⟩,
       ⟨none, none, .store 4, [.t 4, .t 87]⟩,
       ⟨some 5, none, .mov true, [.c (.p (.int .i64 1))]⟩])
    .ret)
   .skip))
  (.seq
  (.reg [⟨some 88, none, .load 4 true false, [.t 8]⟩,
     ⟨none, none, .store 4, [.t 4, .t 88]⟩,
     ⟨some 5, none, .mov true, [.c (.p (.int .i64 0))]⟩])
  .ret))))))))⟩
-- a loop, at its head alive: [1, 2, 4, 8, 41, 42, 43]
theorem k143 : chkF Tryz.prog 143 F143 = true := by kernel_rfl
def F144 : Fn := ⟨2, 0, [.tmp 0],
 (.seq
  (.reg [⟨some 0, none, .mov true, [.c (.p (.bool false))]⟩])
  (.seq
  (.reg [⟨some 1, none, .call 153, []⟩,
     ⟨some 0, none, .mov true, [.t 1]⟩])
  .ret))⟩
theorem k144 : chkF Tryz.prog 144 F144 = true := by kernel_rfl
def F145 : Fn := ⟨31, 2, [.tmp 4],
 (.seq
  (.reg [⟨some 2, none, .box 0 4, [.t 0]⟩,
     ⟨some 3, none, .box 1 4, [.t 1]⟩,
     ⟨some 4, none, .mov true, [.c (.p (.bool false))]⟩])
  (.seq
  (.reg [⟨some 5, none, .fad 0, [.t 2]⟩,
     ⟨some 6, none, .load 1 false false, [.t 5]⟩,
     ⟨some 7, none, .fad 0, [.t 3]⟩,
     ⟨some 8, none, .load 1 false false, [.t 7]⟩,
     ⟨some 9, none, .bin .eql, [.t 6, .t 8]⟩,
     ⟨some 10, none, .mov false, [.t 9]⟩,
     ⟨some 11, (some (10, true)), .fad 1, [.t 2]⟩,
     ⟨some 12, (some (10, true)), .load 1 false false, [.t 11]⟩,
     ⟨some 13, (some (10, true)), .fad 1, [.t 3]⟩,
     ⟨some 14, (some (10, true)), .load 1 false false, [.t 13]⟩,
     ⟨some 15, (some (10, true)), .bin .eql, [.t 12, .t 14]⟩,
     ⟨some 16, none, .pick, [.t 10, .t 15, .c (.p (.bool false))]⟩,
     ⟨some 17, none, .mov false, [.t 16]⟩,
     ⟨some 18, (some (17, true)), .fad 2, [.t 2]⟩,
     ⟨some 19, (some (17, true)), .load 1 false false, [.t 18]⟩,
     ⟨some 20, (some (17, true)), .fad 2, [.t 3]⟩,
     ⟨some 21, (some (17, true)), .load 1 false false, [.t 20]⟩,
     ⟨some 22, (some (17, true)), .bin .eql, [.t 19, .t 21]⟩,
     ⟨some 23, none, .pick, [.t 17, .t 22, .c (.p (.bool false))]⟩,
     ⟨some 24, none, .mov false, [.t 23]⟩,
     ⟨some 25, (some (24, true)), .fad 3, [.t 2]⟩,
     ⟨some 26, (some (24, true)), .load 1 false false, [.t 25]⟩,
     ⟨some 27, (some (24, true)), .fad 3, [.t 3]⟩,
     ⟨some 28, (some (24, true)), .load 1 false false, [.t 27]⟩,
     ⟨some 29, (some (24, true)), .call 154, [.t 26, .t 28]⟩,
     ⟨some 30, none, .pick, [.t 24, .t 29, .c (.p (.bool false))]⟩,
     ⟨some 4, none, .mov true, [.t 30]⟩])
  .ret))⟩
theorem k145 : chkF Tryz.prog 145 F145 = true := by kernel_rfl
def F146 : Fn := ⟨38, 4, [.tmp 4],
 (.seq
  (.reg [⟨some 2, none, .box 0 5, [.t 0]⟩,
     ⟨some 3, none, .box 1 4, [.t 1]⟩,
     ⟨some 4, none, .mov true, [.c (.ow 1 true [])]⟩])
  (.seq
  (.seq
   (.reg [⟨some 8, none, .load 5 true false, [.t 2]⟩,
      ⟨some 9, none, .call 50, [.t 8]⟩,
      ⟨some 10, none, .un .not, [.t 9]⟩,
      ⟨some 11, none, .mov false, [.t 10]⟩,
      ⟨some 12, (some (11, false)), .load 5 true false, [.t 2]⟩,
      ⟨some 13, (some (11, false)), .load 4 true false, [.t 3]⟩,
      ⟨some 14, (some (11, false)), .call 51, [.t 12, .t 13]⟩,
      ⟨some 15, (some (11, false)), .un .not, [.t 14]⟩,
      ⟨some 16, none, .pick, [.t 11, .c (.p (.bool true)), .t 15]⟩])
   (.cond (.t 16)
   (.seq
    (.reg [⟨some 4, none, .mov true, [.c (.ow 1 true [])]⟩])
    .ret)
   .skip))
  (.seq
  (.reg [⟨some 5, none, .mov true, [.c (.ow 1 true [])]⟩])
  (.seq
  (.seq
   (.reg [⟨some 17, none, .fad 3, [.t 3]⟩,
      ⟨some 18, none, .load 1 false false, [.t 17]⟩,
      ⟨some 19, none, .len, [.t 18]⟩,
      ⟨some 20, none, .mov false, [.c (.p (.int .i64 0))]⟩])
   (.block 0
   (.loop [0, 1, 3, 4, 7, 8, 9, 10, 11, 12, 13, 14, 15, 16, 17, 21, 22, 23, 24, 25, 26, 27, 28, 29, 30, 31, 32, 33, 34, 35, 36, 37] [2]
    (.seq
     (.reg [⟨some 21, none, .bin .lss, [.t 20, .t 19]⟩])
     (.seq
     (.cond (.t 21)
      .skip
      (.exit 0))
     (.seq
     (.block 1
      (.seq
       (.reg [⟨some 22, none, .iad 3, [.t 18, .t 20]⟩,
          ⟨some 23, none, .load 3 true false, [.t 22]⟩,
          ⟨some 7, none, .alloc 2 3 [.p (.int .i64 0), .p (.int .i64 0), .p (.int .i64 0)], []⟩,
          ⟨none, none, .store 3, [.t 7, .t 23]⟩])
       (.reg [⟨some 24, none, .mov true, [.t 5]⟩,
         ⟨some 25, none, .fad 4, [.t 2]⟩,
         ⟨some 26, none, .load 1 false false, [.t 25]⟩,
         ⟨some 27, none, .fad 0, [.t 7]⟩,
         ⟨some 28, none, .load 1 false false, [.t 27]⟩,
         ⟨some 29, none, .iad 1, [.t 26, .t 28]⟩,
         ⟨some 30, none, .load 1 false false, [.t 29]⟩,
         ⟨some 31, none, .bsl 1 1, [.t 30]⟩,
         ⟨some 32, none, .app 1 8, [.t 24, .t 31]⟩,
         ⟨some 5, none, .mov true, [.t 32]⟩])))
     (.reg [⟨some 33, none, .bin .add, [.t 20, .c (.p (.int .i64 1))]⟩,
       ⟨some 20, none, .mov false, [.t 33]⟩])))))))
  (.seq
  (.pre [0, 1, 2, 3, 4, 7, 8, 9, 10, 11, 12, 13, 14, 15, 16, 17, 18, 19, 20, 21, 22, 23, 24, 25, 26, 27, 28, 29, 30, 31, 32, 33, 34, 35, 36, 37] [] [0, 1, 2] (.own 5 3 false (.reg [⟨some 34, none, .mov false, [.t 5]⟩,
     ⟨some 35, none, .callm 155 3, [.t 34]⟩])))
  (.seq
  (.pre [] [3] [] (.reg [⟨some 36, none, .mov false, [.t 5]⟩,
     ⟨some 37, none, .call 156, [.t 36]⟩,
     ⟨some 4, none, .mov true, [.t 37]⟩]))
  (.pre [] [3] [] .ret)))))))⟩
-- a loop, at its head alive: [2, 5, 18, 19, 20]
theorem k146 : chkF Tryz.prog 146 F146 = true := by kernel_rfl
def F147 : Fn := ⟨5, 0, [.tmp 2],
 (.seq
  (.reg [⟨some 2, none, .mov true, [.c (.p (.str ⟨#[]⟩))]⟩])
  (.seq
  (.reg [⟨some 3, none, .mov false, [.t 0]⟩,
     ⟨some 4, none, .call 157, [.t 3, .c (.p (.int .i64 10))]⟩,
     ⟨some 2, none, .mov true, [.t 4]⟩])
  .ret))⟩
theorem k147 : chkF Tryz.prog 147 F147 = true := by kernel_rfl
def F149 : Fn := ⟨3, 1, [.cell 0 5],
 (.seq
  (.reg [⟨some 0, none, .alloc 0 5 [.p (.int .i64 0), .p (.int .i64 0), .p (.int .i64 0), .p (.int .i64 0), .ow 1 true []], []⟩])
  (.seq
  (.reg [⟨some 1, none, .mkz 1 8 (.int .i64 0), [.c (.p (.int .i64 6)), .c (.p (.int .i64 6))]⟩,
     ⟨some 2, none, .build [.int .i64 0, .int .i64 0, .int .i64 0, .int .i64 0, .sl 1 true []] [(0, 1), (1, 1), (4, 1)], [.c (.p (.int .i64 1)), .c (.p (.int .i64 1)), .t 1]⟩,
     ⟨none, none, .store 5, [.t 0, .t 2]⟩])
  .ret))⟩
theorem k149 : chkF Tryz.prog 149 F149 = true := by kernel_rfl
def F150 : Fn := ⟨8, 0, [.tmp 4],
 (.seq
  (.reg [⟨some 4, none, .mov true, [.c (.ow 1 true [])]⟩])
  (.seq
  (.reg [⟨some 5, none, .mov false, [.t 0]⟩,
     ⟨some 6, none, .mov false, [.t 1]⟩,
     ⟨some 7, none, .call 161, [.t 5, .t 6, .c (.p (.int .i64 0)), .c (.p (.int .i64 (-1)))]⟩,
     ⟨some 4, none, .mov true, [.t 7]⟩])
  .ret))⟩
theorem k150 : chkF Tryz.prog 150 F150 = true := by kernel_rfl
def F151 : Fn := ⟨13, 0, [.tmp 2],
 (.seq
  (.reg [⟨some 2, none, .mov true, [.c (.p (.int .i64 0))]⟩])
  (.seq
  (.reg [⟨some 6, none, .mov false, [.t 0]⟩,
     ⟨some 7, none, .call 162, [.t 6, .c (.p (.int .i64 10)), .c (.p (.int .i64 32))]⟩,
     ⟨some 5, none, .mov false, [.t 7]⟩,
     ⟨some 8, none, .ext 0, [.t 5]⟩,
     ⟨some 9, none, .ext 1, [.t 5]⟩,
     ⟨some 3, none, .mov true, [.t 8]⟩,
     ⟨some 4, none, .mov true, [.t 9]⟩])
  (.seq
  (.seq
   (.reg [⟨some 10, none, .mov false, [.t 4]⟩,
      ⟨some 11, none, .eqat true, [.t 10, .c (.p (.atom .nilIface))]⟩])
   (.cond (.t 11)
   (.seq
    (.reg [⟨some 2, none, .mov true, [.c (.p (.int .i64 (-1)))]⟩])
    .ret)
   .skip))
  (.seq
  (.reg [⟨some 12, none, .mov false, [.t 3]⟩,
     ⟨some 2, none, .mov true, [.t 12]⟩])
  .ret))))⟩
theorem k151 : chkF Tryz.prog 151 F151 = true := by kernel_rfl
def F152 : Fn := ⟨13, 0, [.tmp 4, .tmp 5, .tmp 6],
 (.seq
  (.reg [⟨some 4, none, .mov true, [.c (.p (.str ⟨#[]⟩))]⟩,
     ⟨some 5, none, .mov true, [.c (.p (.str ⟨#[]⟩))]⟩,
     ⟨some 6, none, .mov true, [.c (.p (.bool false))]⟩])
  (.seq
  (.reg [⟨some 7, none, .mov false, [.t 0]⟩,
     ⟨some 8, none, .mov false, [.t 1]⟩,
     ⟨some 9, none, .call 163, [.t 7, .t 8]⟩,
     ⟨some 10, none, .ext 0, [.t 9]⟩,
     ⟨some 11, none, .ext 1, [.t 9]⟩,
     ⟨some 12, none, .ext 2, [.t 9]⟩,
     ⟨some 4, none, .mov true, [.t 10]⟩,
     ⟨some 5, none, .mov true, [.t 11]⟩,
     ⟨some 6, none, .mov true, [.t 12]⟩])
  .ret))⟩
theorem k152 : chkF Tryz.prog 152 F152 = true := by kernel_rfl
def F153 : Fn := ⟨55, 0, [.tmp 0],
 (.seq
  (.reg [⟨some 0, none, .mov true, [.c (.p (.bool false))]⟩])
  (.seq
  (.reg [⟨some 8, none, .call 164, [.c (.p (.int .i64 4611686018427387904)), .c (.p (.int .i64 4611686018427387904))]⟩,
     ⟨some 7, none, .mov false, [.t 8]⟩,
     ⟨some 9, none, .ext 0, [.t 7]⟩,
     ⟨some 10, none, .ext 1, [.t 7]⟩,
     ⟨some 1, none, .mov true, [.t 9]⟩,
     ⟨some 2, none, .mov true, [.t 10]⟩])
  (.seq
  (.reg [⟨some 12, none, .call 165, [.c (.p (.int .i64 (-3))), .c (.p (.int .i64 5))]⟩,
     ⟨some 11, none, .mov false, [.t 12]⟩,
     ⟨some 13, none, .ext 0, [.t 11]⟩,
     ⟨some 14, none, .ext 1, [.t 11]⟩,
     ⟨some 3, none, .mov true, [.t 13]⟩,
     ⟨some 4, none, .mov true, [.t 14]⟩])
  (.seq
  (.reg [⟨some 16, none, .bsl 1 3, [.c (.p (.int .i64 4611686018427387904)), .c (.p (.int .i64 4611686018427387904)), .c (.p (.int .i64 (-4611686018427387904)))]⟩,
     ⟨some 17, none, .call 166, [.t 16]⟩,
     ⟨some 15, none, .mov false, [.t 17]⟩,
     ⟨some 18, none, .ext 0, [.t 15]⟩,
     ⟨some 19, none, .ext 1, [.t 15]⟩,
     ⟨some 5, none, .mov true, [.t 18]⟩,
     ⟨some 6, none, .mov true, [.t 19]⟩])
  (.seq
  (.reg [⟨some 20, none, .mov false, [.t 1]⟩,
     ⟨some 21, none, .bin .eql, [.t 20, .c (.p (.int .i64 0))]⟩,
     ⟨some 22, none, .mov false, [.t 21]⟩,
     ⟨some 23, (some (22, true)), .mov false, [.t 2]⟩,
     ⟨some 24, (some (22, true)), .un .not, [.t 23]⟩,
     ⟨some 25, none, .pick, [.t 22, .t 24, .c (.p (.bool false))]⟩,
     ⟨some 26, none, .mov false, [.t 25]⟩,
     ⟨some 27, (some (26, true)), .mov false, [.t 3]⟩,
     ⟨some 28, (some (26, true)), .bin .eql, [.t 27, .c (.p (.int .i64 (-15)))]⟩,
     ⟨some 29, none, .pick, [.t 26, .t 28, .c (.p (.bool false))]⟩,
     ⟨some 30, none, .mov false, [.t 29]⟩,
     ⟨some 31, (some (30, true)), .mov false, [.t 4]⟩,
     ⟨some 32, none, .pick, [.t 30, .t 31, .c (.p (.bool false))]⟩,
     ⟨some 33, none, .mov false, [.t 32]⟩,
     ⟨some 34, (some (33, true)), .mov false, [.t 5]⟩,
     ⟨some 35, (some (33, true)), .bin .eql, [.t 34, .c (.p (.int .i64 4611686018427387904))]⟩,
     ⟨some 36, none, .pick, [.t 33, .t 35, .c (.p (.bool false))]⟩,
     ⟨some 37, none, .mov false, [.t 36]⟩,
     ⟨some 38, (some (37, true)), .mov false, [.t 6]⟩,
     ⟨some 39, none, .pick, [.t 37, .t 38, .c (.p (.bool false))]⟩,
     ⟨some 40, none, .mov false, [.t 39]⟩,
     ⟨some 41, (some (40, true)), .call 103, [.c (.p (.int .i64 7)), .c (.p (.int .i64 2))]⟩,
     ⟨some 42, (some (40, true)), .bin .eql, [.t 41, .c (.p (.int .i64 4))]⟩,
     ⟨some 43, none, .pick, [.t 40, .t 42, .c (.p (.bool false))]⟩,
     ⟨some 44, none, .mov false, [.t 43]⟩,
     ⟨some 45, (some (44, true)), .call 58, [.c (.p (.int .i64 (-7))), .c (.p (.int .i64 2))]⟩,
     ⟨some 46, (some (44, true)), .bin .eql, [.t 45, .c (.p (.int .i64 (-4)))]⟩,
     ⟨some 47, none, .pick, [.t 44, .t 46, .c (.p (.bool false))]⟩,
     ⟨some 48, none, .mov false, [.t 47]⟩,
     ⟨some 49, (some (48, true)), .call 167, [.c (.p (.int .i64 1)), .c (.p (.int .i64 3)), .c (.p (.int .i64 2)), .c (.p (.int .i64 5))]⟩,
     ⟨some 50, none, .pick, [.t 48, .t 49, .c (.p (.bool false))]⟩,
     ⟨some 51, none, .mov false, [.t 50]⟩,
     ⟨some 52, (some (51, true)), .call 167, [.c (.p (.int .i64 1)), .c (.p (.int .i64 0)), .c (.p (.int .i64 2)), .c (.p (.int .i64 5))]⟩,
     ⟨some 53, (some (51, true)), .un .not, [.t 52]⟩,
     ⟨some 54, none, .pick, [.t 51, .t 53, .c (.p (.bool false))]⟩,
     ⟨some 0, none, .mov true, [.t 54]⟩])
  .ret)))))⟩
theorem k153 : chkF Tryz.prog 153 F153 = true := by kernel_rfl
def F154 : Fn := ⟨26, 0, [.tmp 4],
 (.seq
  (.reg [⟨some 4, none, .mov true, [.c (.p (.bool false))]⟩])
  (.seq
  (.seq
   (.reg [⟨some 6, none, .mov false, [.t 0]⟩,
      ⟨some 7, none, .len, [.t 6]⟩,
      ⟨some 8, none, .mov false, [.t 1]⟩,
      ⟨some 9, none, .len, [.t 8]⟩,
      ⟨some 10, none, .bin .neq, [.t 7, .t 9]⟩])
   (.cond (.t 10)
   (.seq
    (.reg [⟨some 4, none, .mov true, [.c (.p (.bool false))]⟩])
    .ret)
   .skip))
  (.seq
  (.seq
   (.reg [⟨some 11, none, .mov false, [.t 0]⟩,
      ⟨some 12, none, .len, [.t 11]⟩,
      ⟨some 13, none, .mov false, [.c (.p (.int .i64 0))]⟩])
   (.block 0
   (.loop [4, 5, 6, 7, 8, 9, 10, 11, 14, 15, 16, 17, 18, 19, 20, 21, 22, 23, 24, 25] []
    (.seq
     (.reg [⟨some 14, none, .bin .lss, [.t 13, .t 12]⟩])
     (.seq
     (.cond (.t 14)
      .skip
      (.exit 0))
     (.seq
     (.block 1
      (.seq
       (.reg [⟨some 15, none, .mov false, [.t 13]⟩,
          ⟨some 5, none, .mov true, [.t 15]⟩])
       (.seq
       (.regd [⟨some 16, none, .mov false, [.t 0]⟩,
          ⟨some 17, none, .mov false, [.t 5]⟩,
          ⟨some 18, none, .iad 3, [.t 16, .t 17]⟩,
          ⟨some 19, none, .loadp 3 true, [.t 18]⟩,
          ⟨some 20, none, .mov false, [.t 1]⟩,
          ⟨some 21, none, .mov false, [.t 5]⟩,
          ⟨some 22, none, .iad 3, [.t 20, .t 21]⟩,
          ⟨some 23, none, .loadp 3 true, [.t 22]⟩,
          ⟨some 24, none, .eqs 3 true, [.t 19, .t 23]⟩])
       (.cond (.t 24)
       (.seq
        (.reg [⟨some 4, none, .mov true, [.c (.p (.bool false))]⟩])
        .ret)
       .skip))))
     (.reg [⟨some 25, none, .bin .add, [.t 13, .c (.p (.int .i64 1))]⟩,
       ⟨some 13, none, .mov false, [.t 25]⟩])))))))
  (.seq
  (.reg [⟨some 4, none, .mov true, [.c (.p (.bool true))]⟩])
  .ret))))⟩
-- a loop, at its head alive: [0, 1, 12, 13]
theorem k154 : chkF Tryz.prog 154 F154 = true := by kernel_rfl
def F155 : Fn := ⟨11, 0, [],
 (.seq
  (.reg [⟨some 3, none, .mov false, [.t 0]⟩,
     ⟨some 4, none, .len, [.t 3]⟩,
     ⟨some 2, none, .mov true, [.t 4]⟩])
  (.reg [⟨some 5, none, .mov false, [.t 0]⟩,
    ⟨some 6, none, .mov false, [.t 2]⟩,
    ⟨some 7, none, .mov false, [.t 2]⟩,
    ⟨some 8, none, .conv .u64, [.t 7]⟩,
    ⟨some 9, none, .call 96, [.t 8]⟩,
    ⟨some 10, none, .callm 168 0, [.t 5, .c (.p (.int .i64 0)), .t 6, .t 9]⟩]))⟩
theorem k155 : chkF Tryz.prog 155 F155 = true := by kernel_rfl
def F156 : Fn := ⟨61, 0, [.tmp 2],
 (.seq
  (.reg [⟨some 2, none, .mov true, [.c (.ow 1 true [])]⟩])
  (.seq
  (.seq
   (.reg [⟨some 6, none, .mov false, [.t 0]⟩,
      ⟨some 7, none, .len, [.t 6]⟩,
      ⟨some 8, none, .bin .lss, [.t 7, .c (.p (.int .i64 2))]⟩])
   (.cond (.t 8)
   (.seq
    (.reg [⟨some 9, none, .mov false, [.t 0]⟩,
       ⟨some 2, none, .mov true, [.t 9]⟩])
    .ret)
   .skip))
  (.seq
  (.seq
   (.reg [⟨some 3, none, .mov true, [.c (.p (.int .i64 1))]⟩])
   (.block 0
   (.loop [2, 4, 5, 6, 7, 8, 9, 10, 11, 12, 13, 14, 15, 16, 17, 18, 19, 20, 21, 22, 23, 24, 25, 26, 27, 28, 29, 30, 31, 32, 33, 34, 35, 36, 37, 38, 39, 40, 41, 42, 43, 44, 45, 46, 47, 48, 49, 50, 51, 52, 53, 54, 55, 56, 57, 58, 59, 60] []
    (.seq
     (.seq
      (.reg [⟨some 10, none, .mov false, [.t 3]⟩,
         ⟨some 11, none, .mov false, [.t 0]⟩,
         ⟨some 12, none, .len, [.t 11]⟩,
         ⟨some 13, none, .bin .lss, [.t 10, .t 12]⟩])
      (.cond (.t 13)
      .skip
      (.exit 0)))
     (.seq
     (.block 1
      (.seq
       (.regd [⟨some 16, none, .mov false, [.t 0]⟩,
          ⟨some 17, none, .mov false, [.t 3]⟩,
          ⟨some 18, none, .iad 1, [.t 16, .t 17]⟩,
          ⟨some 19, none, .loadp 1 false, [.t 18]⟩,
          ⟨some 20, none, .mov false, [.t 0]⟩,
          ⟨some 21, none, .mov false, [.t 3]⟩,
          ⟨some 22, none, .bin .sub, [.t 21, .c (.p (.int .i64 1))]⟩,
          ⟨some 23, none, .iad 1, [.t 20, .t 22]⟩,
          ⟨some 24, none, .loadp 1 false, [.t 23]⟩,
          ⟨some 25, none, .bin .eql, [.t 19, .t 24]⟩])
       (.cond (.t 25)
       (.seq
        (.reg [⟨some 26, none, .mov false, [.t 0]⟩,
           ⟨some 27, none, .mov false, [.t 3]⟩,
           ⟨some 28, none, .slc 1 true false, [.t 26, .t 27]⟩,
           ⟨some 4, none, .mov true, [.t 28]⟩])
        (.seq
        (.seq
         (.reg [⟨some 5, none, .mov true, [.c (.p (.int .i64 1))]⟩])
         (.block 2
         (.loop [2, 6, 7, 8, 9, 10, 11, 12, 13, 14, 15, 16, 17, 18, 19, 20, 21, 22, 23, 24, 25, 26, 27, 28, 29, 30, 31, 32, 33, 34, 35, 36, 37, 38, 39, 40, 41, 42, 43, 44, 45, 46, 47, 48, 49, 50, 51, 52, 53, 54, 55, 56, 57, 58, 59, 60] []
          (.seq
           (.seq
            (.reg [⟨some 29, none, .mov false, [.t 5]⟩,
               ⟨some 30, none, .mov false, [.t 4]⟩,
               ⟨some 31, none, .len, [.t 30]⟩,
               ⟨some 32, none, .bin .lss, [.t 29, .t 31]⟩])
            (.cond (.t 32)
            .skip
            (.exit 2)))
           (.seq
           (.block 3
            (.seq
             (.regd [⟨some 35, none, .mov false, [.t 4]⟩,
                ⟨some 36, none, .mov false, [.t 5]⟩,
                ⟨some 37, none, .iad 1, [.t 35, .t 36]⟩,
                ⟨some 38, none, .loadp 1 false, [.t 37]⟩,
                ⟨some 39, none, .mov false, [.t 4]⟩,
                ⟨some 40, none, .mov false, [.t 5]⟩,
                ⟨some 41, none, .bin .sub, [.t 40, .c (.p (.int .i64 1))]⟩,
                ⟨some 42, none, .iad 1, [.t 39, .t 41]⟩,
                ⟨some 43, none, .loadp 1 false, [.t 42]⟩,
                ⟨some 44, none, .bin .neq, [.t 38, .t 43]⟩])
             (.cond (.t 44)
             (.seq
              (.reg [⟨some 45, none, .mov false, [.t 0]⟩,
                 ⟨some 46, none, .mov false, [.t 3]⟩,
                 ⟨some 47, none, .mov false, [.t 4]⟩,
                 ⟨some 48, none, .mov false, [.t 5]⟩,
                 ⟨some 49, none, .iad 1, [.t 47, .t 48]⟩,
                 ⟨some 50, none, .load 1 false false, [.t 49]⟩,
                 ⟨some 51, none, .iad 1, [.t 45, .t 46]⟩,
                 ⟨none, none, .store 1, [.t 51, .t 50]⟩])
              (.reg [⟨some 52, none, .mov false, [.t 3]⟩,
                ⟨some 53, none, .bin .add, [.t 52, .c (.p (.int .i64 1))]⟩,
                ⟨some 3, none, .mov true, [.t 53]⟩]))
             .skip)))
           (.reg [⟨some 33, none, .mov false, [.t 5]⟩,
             ⟨some 34, none, .bin .add, [.t 33, .c (.p (.int .i64 1))]⟩,
             ⟨some 5, none, .mov true, [.t 34]⟩]))))))
        (.seq
        (.reg [⟨some 54, none, .mov false, [.t 0]⟩,
           ⟨some 55, none, .mov false, [.t 3]⟩,
           ⟨some 56, none, .slc 1 true false, [.t 54, .t 55]⟩,
           ⟨none, none, .stk, []⟩])
        (.seq
        (.reg [⟨some 57, none, .mov false, [.t 0]⟩,
           ⟨some 58, none, .mov false, [.t 3]⟩,
           ⟨some 59, none, .slc 1 false true, [.t 57, .t 58]⟩,
           ⟨some 2, none, .mov true, [.t 59]⟩])
        .ret))))
       .skip)))
     (.reg [⟨some 14, none, .mov false, [.t 3]⟩,
       ⟨some 15, none, .bin .add, [.t 14, .c (.p (.int .i64 1))]⟩,
       ⟨some 3, none, .mov true, [.t 15]⟩]))))))
  (.seq
  (.reg [⟨some 60, none, .mov false, [.t 0]⟩,
     ⟨some 2, none, .mov true, [.t 60]⟩])
  .ret))))⟩
-- a loop, at its head alive: [0, 3]
-- a loop, at its head alive: [0, 3, 4, 5]
theorem k156 : chkF Tryz.prog 156 F156 = true := by kernel_rfl
def F157 : Fn := ⟨8, 0, [.tmp 4],
 (.seq
  (.reg [⟨some 4, none, .mov true, [.c (.p (.str ⟨#[]⟩))]⟩])
  (.seq
  (.reg [⟨some 5, none, .mov false, [.t 0]⟩,
     ⟨some 6, none, .mov false, [.t 1]⟩,
     ⟨some 7, none, .call 169, [.t 5, .t 6]⟩,
     ⟨some 4, none, .mov true, [.t 7]⟩])
  .ret))⟩
theorem k157 : chkF Tryz.prog 157 F157 = true := by kernel_rfl
def F161 : Fn := ⟨66, 1, [.tmp 8],
 (.seq
  (.reg [⟨some 8, none, .mov true, [.c (.ow 1 true [])]⟩])
  (.seq
  (.seq
   (.reg [⟨some 12, none, .mov false, [.t 3]⟩,
      ⟨some 13, none, .bin .eql, [.t 12, .c (.p (.int .i64 0))]⟩])
   (.cond (.t 13)
   (.seq
    (.reg [⟨some 8, none, .mov true, [.c (.ow 1 true [])]⟩])
    .ret)
   .skip))
  (.seq
  (.seq
   (.reg [⟨some 14, none, .mov false, [.t 1]⟩,
      ⟨some 15, none, .bin .eql, [.t 14, .c (.p (.str ⟨#[]⟩))]⟩])
   (.cond (.t 15)
   (.seq
    (.reg [⟨some 16, none, .mov false, [.t 0]⟩,
       ⟨some 17, none, .mov false, [.t 3]⟩,
       ⟨some 18, none, .call 172, [.t 16, .t 17]⟩,
       ⟨some 8, none, .mov true, [.t 18]⟩])
    .ret)
   .skip))
  (.seq
  (.seq
   (.reg [⟨some 19, none, .mov false, [.t 3]⟩,
      ⟨some 20, none, .bin .lss, [.t 19, .c (.p (.int .i64 0))]⟩])
   (.cond (.t 20)
   (.reg [⟨some 21, none, .mov false, [.t 0]⟩,
      ⟨some 22, none, .mov false, [.t 1]⟩,
      ⟨some 23, none, .call 173, [.t 21, .t 22]⟩,
      ⟨some 24, none, .bin .add, [.t 23, .c (.p (.int .i64 1))]⟩,
      ⟨some 3, none, .mov true, [.t 24]⟩])
   .skip))
  (.seq
  (.reg [⟨some 25, none, .mov false, [.t 3]⟩,
     ⟨some 26, none, .mov false, [.t 0]⟩,
     ⟨some 27, none, .slen, [.t 26]⟩,
     ⟨some 28, none, .bin .add, [.t 27, .c (.p (.int .i64 1))]⟩,
     ⟨some 29, none, .mn, [.t 25, .t 28]⟩,
     ⟨some 3, none, .mov true, [.t 29]⟩])
  (.seq
  (.reg [⟨some 30, none, .mov false, [.t 3]⟩,
     ⟨some 31, none, .mksl 0 1 16 false [.p (.str ⟨#[]⟩)], [.t 30, .t 30]⟩,
     ⟨some 9, none, .mov true, [.t 31]⟩])
  (.seq
  (.reg [⟨some 32, none, .mov false, [.t 3]⟩,
     ⟨some 33, none, .bin .sub, [.t 32, .c (.p (.int .i64 1))]⟩,
     ⟨some 3, none, .mov true, [.t 33]⟩])
  (.seq
  (.reg [⟨some 10, none, .mov true, [.c (.p (.int .i64 0))]⟩])
  (.seq
  (.block 0
   (.loop [8, 11, 12, 13, 14, 15, 16, 17, 18, 19, 20, 21, 22, 23, 24, 25, 26, 27, 28, 29, 30, 31, 32, 33, 34, 35, 36, 37, 38, 39, 40, 41, 42, 43, 44, 45, 46, 47, 48, 49, 50, 51, 52, 53, 54, 55, 56, 57, 58, 59, 60, 61, 62, 63, 64, 65] []
    (.seq
     (.seq
      (.reg [⟨some 34, none, .mov false, [.t 10]⟩,
         ⟨some 35, none, .mov false, [.t 3]⟩,
         ⟨some 36, none, .bin .lss, [.t 34, .t 35]⟩])
      (.cond (.t 36)
      .skip
      (.exit 0)))
     (.block 1
     (.seq
      (.reg [⟨some 37, none, .mov false, [.t 0]⟩,
         ⟨some 38, none, .mov false, [.t 1]⟩,
         ⟨some 39, none, .call 174, [.t 37, .t 38]⟩,
         ⟨some 11, none, .mov true, [.t 39]⟩])
      (.seq
      (.seq
       (.reg [⟨some 40, none, .mov false, [.t 11]⟩,
          ⟨some 41, none, .bin .lss, [.t 40, .c (.p (.int .i64 0))]⟩])
       (.cond (.t 41)
       (.exit 0)
       .skip))
      (.seq
      (.reg [⟨some 42, none, .mov false, [.t 9]⟩,
         ⟨some 43, none, .mov false, [.t 10]⟩,
         ⟨some 44, none, .mov false, [.t 0]⟩,
         ⟨some 45, none, .mov false, [.t 11]⟩,
         ⟨some 46, none, .mov false, [.t 2]⟩,
         ⟨some 47, none, .bin .add, [.t 45, .t 46]⟩,
         ⟨some 48, none, .ssl false true, [.t 44, .t 47]⟩,
         ⟨some 49, none, .iad 1, [.t 42, .t 43]⟩,
         ⟨none, none, .store 1, [.t 49, .t 48]⟩])
      (.seq
      (.reg [⟨some 50, none, .mov false, [.t 0]⟩,
         ⟨some 51, none, .mov false, [.t 11]⟩,
         ⟨some 52, none, .mov false, [.t 1]⟩,
         ⟨some 53, none, .slen, [.t 52]⟩,
         ⟨some 54, none, .bin .add, [.t 51, .t 53]⟩,
         ⟨some 55, none, .ssl true false, [.t 50, .t 54]⟩,
         ⟨some 0, none, .mov true, [.t 55]⟩])
      (.reg [⟨some 56, none, .mov false, [.t 10]⟩,
        ⟨some 57, none, .bin .add, [.t 56, .c (.p (.int .i64 1))]⟩,
        ⟨some 10, none, .mov true, [.t 57]⟩])))))))))
  (.seq
  (.reg [⟨some 58, none, .mov false, [.t 9]⟩,
     ⟨some 59, none, .mov false, [.t 10]⟩,
     ⟨some 60, none, .mov false, [.t 0]⟩,
     ⟨some 61, none, .iad 1, [.t 58, .t 59]⟩,
     ⟨none, none, .store 1, [.t 61, .t 60]⟩])
  (.seq
  (.reg [⟨some 62, none, .mov false, [.t 9]⟩,
     ⟨some 63, none, .mov false, [.t 10]⟩,
     ⟨some 64, none, .bin .add, [.t 63, .c (.p (.int .i64 1))]⟩,
     ⟨some 65, none, .slb 0 1, [.t 62, .t 64]⟩,
     ⟨some 8, none, .mov true, [.t 65]⟩])
  (.pre [] [0] [] .ret))))))))))))⟩
-- a loop, at its head alive: [0, 1, 2, 3, 9, 10]
theorem k161 : chkF Tryz.prog 161 F161 = true := by kernel_rfl
def F162 : Fn := ⟨25, 0, [.tmp 6, .tmp 7],
 (.seq
  (.reg [⟨some 6, none, .mov true, [.c (.p (.int .i64 0))]⟩,
     ⟨some 7, none, .mov true, [.c (.p (.atom .nilIface))]⟩])
  (.seq
  (.reg [⟨some 10, none, .mov false, [.t 0]⟩,
     ⟨some 11, none, .mov false, [.t 1]⟩,
     ⟨some 12, none, .mov false, [.t 2]⟩,
     ⟨some 13, none, .call 175, [.t 10, .t 11, .t 12]⟩,
     ⟨some 9, none, .mov false, [.t 13]⟩,
     ⟨some 14, none, .ext 0, [.t 9]⟩,
     ⟨some 15, none, .ext 1, [.t 9]⟩,
     ⟨some 8, none, .mov true, [.t 14]⟩,
     ⟨some 7, none, .mov true, [.t 15]⟩])
  (.seq
  (.seq
   (.reg [⟨some 16, none, .mov false, [.t 7]⟩,
      ⟨some 17, none, .eqat true, [.t 16, .c (.p (.atom .nilIface))]⟩])
   (.cond (.t 17)
   (.seq
    (.reg [⟨some 18, none, .mov false, [.t 8]⟩,
       ⟨some 19, none, .mov false, [.t 0]⟩,
       ⟨some 20, none, .mov false, [.t 1]⟩,
       ⟨some 21, none, .mov false, [.t 2]⟩,
       ⟨some 22, none, .mov false, [.t 7]⟩,
       ⟨some 23, none, .call 176, [.c (.p (.str ⟨#[80, 97, 114, 115, 101, 73, 110, 116]⟩)), .t 19, .t 20, .t 21, .t 22]⟩,
       ⟨some 6, none, .mov true, [.t 18]⟩,
       ⟨some 7, none, .mov true, [.t 23]⟩])
    .ret)
   .skip))
  (.seq
  (.reg [⟨some 24, none, .mov false, [.t 8]⟩,
     ⟨some 6, none, .mov true, [.t 24]⟩,
     ⟨some 7, none, .mov true, [.c (.p (.atom .nilIface))]⟩])
  .ret))))⟩
theorem k162 : chkF Tryz.prog 162 F162 = true := by kernel_rfl
def F163 : Fn := ⟨23, 0, [.tmp 4, .tmp 5, .tmp 6],
 (.seq
  (.reg [⟨some 4, none, .mov true, [.c (.p (.str ⟨#[]⟩))]⟩,
     ⟨some 5, none, .mov true, [.c (.p (.str ⟨#[]⟩))]⟩,
     ⟨some 6, none, .mov true, [.c (.p (.bool false))]⟩])
  (.seq
  (.seq
   (.reg [⟨some 8, none, .mov false, [.t 0]⟩,
      ⟨some 9, none, .mov false, [.t 1]⟩,
      ⟨some 10, none, .call 177, [.t 8, .t 9]⟩,
      ⟨some 7, none, .mov true, [.t 10]⟩])
   (.seq
   (.reg [⟨some 11, none, .mov false, [.t 7]⟩,
      ⟨some 12, none, .bin .geq, [.t 11, .c (.p (.int .i64 0))]⟩])
   (.cond (.t 12)
   (.seq
    (.regd [⟨some 13, none, .mov false, [.t 0]⟩,
       ⟨some 14, none, .mov false, [.t 7]⟩,
       ⟨some 15, none, .ssl false true, [.t 13, .t 14]⟩,
       ⟨some 16, none, .mov false, [.t 0]⟩,
       ⟨some 17, none, .mov false, [.t 7]⟩,
       ⟨some 18, none, .mov false, [.t 1]⟩,
       ⟨some 19, none, .slen, [.t 18]⟩,
       ⟨some 20, none, .bin .add, [.t 17, .t 19]⟩,
       ⟨some 21, none, .ssl true false, [.t 16, .t 20]⟩,
       ⟨some 4, none, .mov true, [.t 15]⟩,
       ⟨some 5, none, .mov true, [.t 21]⟩,
       ⟨some 6, none, .mov true, [.c (.p (.bool true))]⟩])
    .ret)
   .skip)))
  (.seq
  (.reg [⟨some 22, none, .mov false, [.t 0]⟩,
     ⟨some 4, none, .mov true, [.t 22]⟩,
     ⟨some 5, none, .mov true, [.c (.p (.str ⟨#[]⟩))]⟩,
     ⟨some 6, none, .mov true, [.c (.p (.bool false))]⟩])
  .ret)))⟩
theorem k163 : chkF Tryz.prog 163 F163 = true := by kernel_rfl
def F164 : Fn := ⟨14, 0, [.tmp 4, .tmp 5],
 (.seq
  (.reg [⟨some 4, none, .mov true, [.c (.p (.int .i64 0))]⟩,
     ⟨some 5, none, .mov true, [.c (.p (.bool false))]⟩])
  (.seq
  (.reg [⟨some 6, none, .mov false, [.t 0]⟩,
     ⟨some 7, none, .call 178, [.t 6]⟩,
     ⟨some 8, none, .mov false, [.t 1]⟩,
     ⟨some 9, none, .call 178, [.t 8]⟩,
     ⟨some 10, none, .call 179, [.t 7, .t 9]⟩,
     ⟨some 11, none, .call 180, [.t 10]⟩,
     ⟨some 12, none, .ext 0, [.t 11]⟩,
     ⟨some 13, none, .ext 1, [.t 11]⟩,
     ⟨some 4, none, .mov true, [.t 12]⟩,
     ⟨some 5, none, .mov true, [.t 13]⟩])
  .ret))⟩
theorem k164 : chkF Tryz.prog 164 F164 = true := by kernel_rfl
def F165 : Fn := ⟨12, 0, [.tmp 4, .tmp 5],
 (.seq
  (.reg [⟨some 4, none, .mov true, [.c (.p (.int .i64 0))]⟩,
     ⟨some 5, none, .mov true, [.c (.p (.bool false))]⟩])
  (.seq
  (.reg [⟨some 6, none, .mov false, [.t 0]⟩,
     ⟨some 7, none, .mov false, [.t 1]⟩,
     ⟨some 8, none, .call 181, [.t 6, .t 7]⟩,
     ⟨some 9, none, .call 180, [.t 8]⟩,
     ⟨some 10, none, .ext 0, [.t 9]⟩,
     ⟨some 11, none, .ext 1, [.t 9]⟩,
     ⟨some 4, none, .mov true, [.t 10]⟩,
     ⟨some 5, none, .mov true, [.t 11]⟩])
  .ret))⟩
theorem k165 : chkF Tryz.prog 165 F165 = true := by kernel_rfl
def F166 : Fn := ⟨22, 1, [.tmp 2, .tmp 3],
 (.seq
  (.reg [⟨some 2, none, .mov true, [.c (.p (.int .i64 0))]⟩,
     ⟨some 3, none, .mov true, [.c (.p (.bool false))]⟩])
  (.seq
  (.reg [⟨some 4, none, .alloc 0 2 [.p (.int .i64 0), .p (.int .u64 0)], []⟩])
  (.seq
  (.seq
   (.reg [⟨some 7, none, .mov false, [.t 0]⟩,
      ⟨some 8, none, .len, [.t 7]⟩,
      ⟨some 9, none, .mov false, [.c (.p (.int .i64 0))]⟩])
   (.block 0
   (.loop [0, 2, 3, 6, 10, 11, 12, 13, 14, 15, 16, 17, 18, 19, 20, 21] []
    (.seq
     (.reg [⟨some 10, none, .bin .lss, [.t 9, .t 8]⟩])
     (.seq
     (.cond (.t 10)
      .skip
      (.exit 0))
     (.seq
     (.block 1
      (.seq
       (.reg [⟨some 11, none, .iad 1, [.t 7, .t 9]⟩,
          ⟨some 12, none, .load 1 false false, [.t 11]⟩,
          ⟨some 6, none, .mov true, [.t 12]⟩])
       (.regd [⟨some 13, none, .at 0 (.load 2 true false), [.t 4]⟩,
         ⟨some 14, none, .mov false, [.t 6]⟩,
         ⟨some 15, none, .pl (.call 178), [.t 14]⟩,
         ⟨some 16, none, .pl (.call 179), [.t 13, .t 15]⟩,
         ⟨none, none, .at 0 (.store 2), [.t 4, .t 16]⟩])))
     (.reg [⟨some 17, none, .bin .add, [.t 9, .c (.p (.int .i64 1))]⟩,
       ⟨some 9, none, .mov false, [.t 17]⟩])))))))
  (.seq
  (.reg [⟨some 18, none, .load 2 true false, [.t 4]⟩,
     ⟨some 19, none, .call 180, [.t 18]⟩,
     ⟨some 20, none, .ext 0, [.t 19]⟩,
     ⟨some 21, none, .ext 1, [.t 19]⟩,
     ⟨some 2, none, .mov true, [.t 20]⟩,
     ⟨some 3, none, .mov true, [.t 21]⟩])
  .ret))))⟩
-- a loop, at its head alive: [4, 7, 8, 9]
theorem k166 : chkF Tryz.prog 166 F166 = true := by kernel_rfl
def F167 : Fn := ⟨24, 0, [.tmp 8],
 (.seq
  (.reg [⟨some 8, none, .mov true, [.c (.p (.bool false))]⟩])
  (.seq
  (.reg [⟨some 9, none, .mov false, [.t 1]⟩,
     ⟨some 10, none, .bin .gtr, [.t 9, .c (.p (.int .i64 0))]⟩,
     ⟨some 11, none, .mov false, [.t 10]⟩,
     ⟨some 12, (some (11, true)), .mov false, [.t 3]⟩,
     ⟨some 13, (some (11, true)), .bin .gtr, [.t 12, .c (.p (.int .i64 0))]⟩,
     ⟨some 14, none, .pick, [.t 11, .t 13, .c (.p (.bool false))]⟩,
     ⟨some 15, none, .mov false, [.t 14]⟩,
     ⟨some 16, (some (15, true)), .mov false, [.t 0]⟩,
     ⟨some 17, (some (15, true)), .mov false, [.t 3]⟩,
     ⟨some 18, (some (15, true)), .call 181, [.t 16, .t 17]⟩,
     ⟨some 19, (some (15, true)), .mov false, [.t 2]⟩,
     ⟨some 20, (some (15, true)), .mov false, [.t 1]⟩,
     ⟨some 21, (some (15, true)), .call 181, [.t 19, .t 20]⟩,
     ⟨some 22, (some (15, true)), .call 182, [.t 18, .t 21]⟩,
     ⟨some 23, none, .pick, [.t 15, .t 22, .c (.p (.bool false))]⟩,
     ⟨some 8, none, .mov true, [.t 23]⟩])
  .ret))⟩
theorem k167 : chkF Tryz.prog 167 F167 = true := by kernel_rfl
def F168 : Fn := ⟨134, 0, [],
 (.seq
  (.reg [⟨some 8, none, .mov true, [.c (.p (.bool true))]⟩])
  (.seq
  (.reg [⟨some 9, none, .mov true, [.c (.p (.bool true))]⟩])
  (.block 0
  (.loop [10, 11, 12, 13, 14, 15, 16, 17, 18, 19, 20, 21, 22, 23, 24, 25, 26, 27, 28, 29, 30, 31, 32, 33, 34, 35, 36, 37, 38, 39, 40, 41, 42, 43, 44, 45, 46, 47, 48, 49, 50, 51, 52, 53, 54, 55, 56, 57, 58, 59, 60, 61, 62, 63, 64, 65, 66, 67, 68, 69, 70, 71, 72, 73, 74, 75, 76, 77, 78, 79, 80, 81, 82, 83, 84, 85, 86, 87, 88, 89, 90, 91, 92, 93, 94, 95, 96, 97, 98, 99, 100, 101, 102, 103, 104, 105, 106, 107, 108, 109, 110, 111, 112, 113, 114, 115, 116, 117, 118, 119, 120, 121, 122, 123, 124, 125, 126, 127, 128, 129, 130, 131, 132, 133] []
   (.block 1
    (.seq
     (.reg [⟨some 19, none, .mov false, [.t 2]⟩,
        ⟨some 20, none, .mov false, [.t 1]⟩,
        ⟨some 21, none, .bin .sub, [.t 19, .t 20]⟩,
        ⟨some 10, none, .mov true, [.t 21]⟩])
     (.seq
     (.seq
      (.reg [⟨some 22, none, .mov false, [.t 10]⟩,
         ⟨some 23, none, .bin .leq, [.t 22, .c (.p (.int .i64 12))]⟩])
      (.cond (.t 23)
      (.seq
       (.reg [⟨some 24, none, .mov false, [.t 0]⟩,
          ⟨some 25, none, .mov false, [.t 1]⟩,
          ⟨some 26, none, .mov false, [.t 2]⟩,
          ⟨some 27, none, .callm 183 0, [.t 24, .t 25, .t 26]⟩])
       .ret)
      .skip))
     (.seq
     (.seq
      (.reg [⟨some 28, none, .mov false, [.t 3]⟩,
         ⟨some 29, none, .bin .eql, [.t 28, .c (.p (.int .i64 0))]⟩])
      (.cond (.t 29)
      (.seq
       (.reg [⟨some 30, none, .mov false, [.t 0]⟩,
          ⟨some 31, none, .mov false, [.t 1]⟩,
          ⟨some 32, none, .mov false, [.t 2]⟩,
          ⟨some 33, none, .call 184, [.t 30, .t 31, .t 32]⟩])
       .ret)
      .skip))
     (.seq
     (.seq
      (.reg [⟨some 34, none, .mov false, [.t 8]⟩,
         ⟨some 35, none, .un .not, [.t 34]⟩])
      (.cond (.t 35)
      (.seq
       (.reg [⟨some 36, none, .mov false, [.t 0]⟩,
          ⟨some 37, none, .mov false, [.t 1]⟩,
          ⟨some 38, none, .mov false, [.t 2]⟩,
          ⟨some 39, none, .call 185, [.t 36, .t 37, .t 38]⟩])
       (.reg [⟨some 40, none, .mov false, [.t 3]⟩,
         ⟨some 41, none, .bin .sub, [.t 40, .c (.p (.int .i64 1))]⟩,
         ⟨some 3, none, .mov true, [.t 41]⟩]))
      .skip))
     (.seq
     (.reg [⟨some 43, none, .mov false, [.t 0]⟩,
        ⟨some 44, none, .mov false, [.t 1]⟩,
        ⟨some 45, none, .mov false, [.t 2]⟩,
        ⟨some 46, none, .call 186, [.t 43, .t 44, .t 45]⟩,
        ⟨some 42, none, .mov false, [.t 46]⟩,
        ⟨some 47, none, .ext 0, [.t 42]⟩,
        ⟨some 48, none, .ext 1, [.t 42]⟩,
        ⟨some 11, none, .mov true, [.t 47]⟩,
        ⟨some 12, none, .mov true, [.t 48]⟩])
     (.seq
     (.seq
      (.reg [⟨some 49, none, .mov false, [.t 12]⟩,
         ⟨some 50, none, .bin .eql, [.t 49, .c (.p (.int .i64 2))]⟩])
      (.cond (.t 50)
      (.seq
       (.reg [⟨some 51, none, .mov false, [.t 0]⟩,
          ⟨some 52, none, .mov false, [.t 1]⟩,
          ⟨some 53, none, .mov false, [.t 2]⟩,
          ⟨some 54, none, .call 187, [.t 51, .t 52, .t 53]⟩])
       (.seq
       (.reg [⟨some 55, none, .mov false, [.t 2]⟩,
          ⟨some 56, none, .bin .sub, [.t 55, .c (.p (.int .i64 1))]⟩,
          ⟨some 57, none, .mov false, [.t 11]⟩,
          ⟨some 58, none, .mov false, [.t 1]⟩,
          ⟨some 59, none, .bin .sub, [.t 57, .t 58]⟩,
          ⟨some 60, none, .bin .sub, [.t 56, .t 59]⟩,
          ⟨some 11, none, .mov true, [.t 60]⟩])
       (.reg [⟨some 12, none, .mov true, [.c (.p (.int .i64 1))]⟩])))
      .skip))
     (.seq
     (.seq
      (.reg [⟨some 61, none, .mov false, [.t 8]⟩,
         ⟨some 62, none, .mov false, [.t 61]⟩,
         ⟨some 63, (some (62, true)), .mov false, [.t 9]⟩,
         ⟨some 64, none, .pick, [.t 62, .t 63, .c (.p (.bool false))]⟩,
         ⟨some 65, none, .mov false, [.t 64]⟩,
         ⟨some 66, (some (65, true)), .mov false, [.t 12]⟩,
         ⟨some 67, (some (65, true)), .bin .eql, [.t 66, .c (.p (.int .i64 1))]⟩,
         ⟨some 68, none, .pick, [.t 65, .t 67, .c (.p (.bool false))]⟩])
      (.cond (.t 68)
      (.seq
       (.reg [⟨some 69, none, .mov false, [.t 0]⟩,
          ⟨some 70, none, .mov false, [.t 1]⟩,
          ⟨some 71, none, .mov false, [.t 2]⟩,
          ⟨some 72, none, .call 188, [.t 69, .t 70, .t 71]⟩])
       (.cond (.t 72)
       .ret
       .skip))
      .skip))
     (.seq
     (.seq
      (.regd [⟨some 73, none, .mov false, [.t 1]⟩,
         ⟨some 74, none, .bin .gtr, [.t 73, .c (.p (.int .i64 0))]⟩,
         ⟨some 75, none, .mov false, [.t 74]⟩,
         ⟨some 76, (some (75, true)), .mov false, [.t 0]⟩,
         ⟨some 77, (some (75, true)), .mov false, [.t 1]⟩,
         ⟨some 78, (some (75, true)), .bin .sub, [.t 77, .c (.p (.int .i64 1))]⟩,
         ⟨some 79, (some (75, true)), .iad 1, [.t 76, .t 78]⟩,
         ⟨some 80, (some (75, true)), .at 0 (.load 1 false false), [.t 79]⟩,
         ⟨some 81, (some (75, true)), .mov false, [.t 0]⟩,
         ⟨some 82, (some (75, true)), .mov false, [.t 11]⟩,
         ⟨some 83, (some (75, true)), .iad 1, [.t 81, .t 82]⟩,
         ⟨some 84, (some (75, true)), .at 0 (.load 1 false false), [.t 83]⟩,
         ⟨some 85, (some (75, true)), .pl (.call 189), [.t 80, .t 84]⟩,
         ⟨some 86, (some (75, true)), .un .not, [.t 85]⟩,
         ⟨some 87, none, .pick, [.t 75, .t 86, .c (.p (.bool false))]⟩])
      (.cond (.t 87)
      (.seq
       (.reg [⟨some 88, none, .mov false, [.t 0]⟩,
          ⟨some 89, none, .mov false, [.t 1]⟩,
          ⟨some 90, none, .mov false, [.t 2]⟩,
          ⟨some 91, none, .mov false, [.t 11]⟩,
          ⟨some 92, none, .call 190, [.t 88, .t 89, .t 90, .t 91]⟩,
          ⟨some 13, none, .mov true, [.t 92]⟩])
       (.seq
       (.reg [⟨some 93, none, .mov false, [.t 13]⟩,
          ⟨some 1, none, .mov true, [.t 93]⟩])
       (.exit 1)))
      .skip))
     (.seq
     (.reg [⟨some 95, none, .mov false, [.t 0]⟩,
        ⟨some 96, none, .mov false, [.t 1]⟩,
        ⟨some 97, none, .mov false, [.t 2]⟩,
        ⟨some 98, none, .mov false, [.t 11]⟩,
        ⟨some 99, none, .call 191, [.t 95, .t 96, .t 97, .t 98]⟩,
        ⟨some 94, none, .mov false, [.t 99]⟩,
        ⟨some 100, none, .ext 0, [.t 94]⟩,
        ⟨some 101, none, .ext 1, [.t 94]⟩,
        ⟨some 14, none, .mov true, [.t 100]⟩,
        ⟨some 15, none, .mov true, [.t 101]⟩])
     (.seq
     (.reg [⟨some 102, none, .mov false, [.t 15]⟩,
        ⟨some 9, none, .mov true, [.t 102]⟩])
     (.seq
     (.reg [⟨some 103, none, .mov false, [.t 14]⟩,
        ⟨some 104, none, .mov false, [.t 1]⟩,
        ⟨some 105, none, .bin .sub, [.t 103, .t 104]⟩,
        ⟨some 106, none, .mov false, [.t 2]⟩,
        ⟨some 107, none, .mov false, [.t 14]⟩,
        ⟨some 108, none, .bin .sub, [.t 106, .t 107]⟩,
        ⟨some 16, none, .mov true, [.t 105]⟩,
        ⟨some 17, none, .mov true, [.t 108]⟩])
     (.seq
     (.reg [⟨some 109, none, .mov false, [.t 10]⟩,
        ⟨some 110, none, .bin .quo, [.t 109, .c (.p (.int .i64 8))]⟩,
        ⟨some 18, none, .mov true, [.t 110]⟩])
     (.seq
     (.reg [⟨some 111, none, .mov false, [.t 16]⟩,
        ⟨some 112, none, .mov false, [.t 17]⟩,
        ⟨some 113, none, .bin .lss, [.t 111, .t 112]⟩])
     (.cond (.t 113)
     (.seq
      (.reg [⟨some 114, none, .mov false, [.t 16]⟩,
         ⟨some 115, none, .mov false, [.t 18]⟩,
         ⟨some 116, none, .bin .geq, [.t 114, .t 115]⟩,
         ⟨some 8, none, .mov true, [.t 116]⟩])
      (.seq
      (.reg [⟨some 117, none, .mov false, [.t 0]⟩,
         ⟨some 118, none, .mov false, [.t 1]⟩,
         ⟨some 119, none, .mov false, [.t 14]⟩,
         ⟨some 120, none, .mov false, [.t 3]⟩,
         ⟨some 121, none, .callm 168 0, [.t 117, .t 118, .t 119, .t 120]⟩])
      (.reg [⟨some 122, none, .mov false, [.t 14]⟩,
        ⟨some 123, none, .bin .add, [.t 122, .c (.p (.int .i64 1))]⟩,
        ⟨some 1, none, .mov true, [.t 123]⟩])))
     (.seq
      (.reg [⟨some 124, none, .mov false, [.t 17]⟩,
         ⟨some 125, none, .mov false, [.t 18]⟩,
         ⟨some 126, none, .bin .geq, [.t 124, .t 125]⟩,
         ⟨some 8, none, .mov true, [.t 126]⟩])
      (.seq
      (.reg [⟨some 127, none, .mov false, [.t 0]⟩,
         ⟨some 128, none, .mov false, [.t 14]⟩,
         ⟨some 129, none, .bin .add, [.t 128, .c (.p (.int .i64 1))]⟩,
         ⟨some 130, none, .mov false, [.t 2]⟩,
         ⟨some 131, none, .mov false, [.t 3]⟩,
         ⟨some 132, none, .callm 168 0, [.t 127, .t 129, .t 130, .t 131]⟩])
      (.reg [⟨some 133, none, .mov false, [.t 14]⟩,
        ⟨some 2, none, .mov true, [.t 133]⟩]))))))))))))))))))))))⟩
-- a loop, at its head alive: [0, 1, 2, 3, 8, 9]
theorem k168 : chkF Tryz.prog 168 F168 = true := by kernel_rfl
def F169 : Fn := ⟨54, 1, [.tmp 4],
 (.seq
  (.reg [⟨some 4, none, .mov true, [.c (.p (.str ⟨#[]⟩))]⟩])
  (.seq
  (.seq
   (.reg [⟨some 10, none, .mov false, [.t 1]⟩,
      ⟨some 11, none, .bin .eql, [.t 10, .c (.p (.int .i64 10))]⟩])
   (.cond (.t 11)
   (.seq
    (.seq
     (.reg [⟨some 12, none, .mov false, [.t 0]⟩,
        ⟨some 13, none, .bin .leq, [.c (.p (.int .i64 0)), .t 12]⟩,
        ⟨some 14, none, .mov false, [.t 13]⟩,
        ⟨some 15, (some (14, true)), .mov false, [.t 0]⟩,
        ⟨some 16, (some (14, true)), .bin .lss, [.t 15, .c (.p (.int .i64 100))]⟩,
        ⟨some 17, none, .pick, [.t 14, .t 16, .c (.p (.bool false))]⟩])
     (.cond (.t 17)
     (.seq
      (.reg [⟨some 18, none, .mov false, [.t 0]⟩,
         ⟨some 19, none, .call 192, [.t 18]⟩,
         ⟨some 4, none, .mov true, [.t 19]⟩])
      .ret)
     .skip))
    (.seq
    (.reg [⟨some 5, none, .alloc 0 24 [.p (.int .u8 0), .p (.int .u8 0), .p (.int .u8 0), .p (.int .u8 0), .p (.int .u8 0), .p (.int .u8 0), .p (.int .u8 0), .p (.int .u8 0), .p (.int .u8 0), .p (.int .u8 0), .p (.int .u8 0), .p (.int .u8 0), .p (.int .u8 0), .p (.int .u8 0), .p (.int .u8 0), .p (.int .u8 0), .p (.int .u8 0), .p (.int .u8 0), .p (.int .u8 0), .p (.int .u8 0), .p (.int .u8 0), .p (.int .u8 0), .p (.int .u8 0), .p (.int .u8 0)], []⟩])
    (.seq
    (.reg [⟨some 20, none, .mov false, [.t 0]⟩,
       ⟨some 21, none, .conv .u64, [.t 20]⟩,
       ⟨some 6, none, .mov true, [.t 21]⟩])
    (.seq
    (.seq
     (.reg [⟨some 22, none, .mov false, [.t 0]⟩,
        ⟨some 23, none, .bin .lss, [.t 22, .c (.p (.int .i64 0))]⟩])
     (.cond (.t 23)
     (.reg [⟨some 24, none, .mov false, [.t 6]⟩,
        ⟨some 25, none, .un .neg, [.t 24]⟩,
        ⟨some 6, none, .mov true, [.t 25]⟩])
     .skip))
    (.seq
    (.reg [⟨some 26, none, .mov false, [.t 6]⟩,
       ⟨some 27, none, .call 193, [.t 26]⟩,
       ⟨some 7, none, .mov true, [.t 27]⟩])
    (.seq
    (.reg [⟨some 28, none, .mov false, [.t 7]⟩,
       ⟨some 29, none, .bin .add, [.c (.p (.int .i64 1)), .t 28]⟩,
       ⟨some 30, none, .stk, []⟩,
       ⟨some 31, none, .mov false, [.t 6]⟩,
       ⟨some 32, none, .call 194, [.t 30, .t 31]⟩])
    (.seq
    (.seq
     (.reg [⟨some 33, none, .mov false, [.t 0]⟩,
        ⟨some 34, none, .bin .lss, [.t 33, .c (.p (.int .i64 0))]⟩])
     (.cond (.t 34)
     (.seq
      (.reg [⟨some 35, none, .stk, []⟩,
         ⟨none, none, .store 1, [.t 35, .c (.p (.int .u8 45))]⟩])
      (.seq
      (.reg [⟨some 36, none, .mov false, [.t 7]⟩,
         ⟨some 37, none, .bin .add, [.c (.p (.int .i64 1)), .t 36]⟩,
         ⟨some 38, none, .stk, []⟩,
         ⟨some 39, none, .stk, []⟩,
         ⟨some 4, none, .mov true, [.t 39]⟩])
      .ret))
     .skip))
    (.seq
    (.reg [⟨some 40, none, .mov false, [.t 7]⟩,
       ⟨some 41, none, .bin .add, [.c (.p (.int .i64 1)), .t 40]⟩,
       ⟨some 42, none, .stk, []⟩,
       ⟨some 43, none, .stk, []⟩,
       ⟨some 4, none, .mov true, [.t 43]⟩])
    .ret))))))))
   .skip))
  (.seq
  (.reg [⟨some 45, none, .mov false, [.t 0]⟩,
     ⟨some 46, none, .conv .u64, [.t 45]⟩,
     ⟨some 47, none, .mov false, [.t 1]⟩,
     ⟨some 48, none, .mov false, [.t 0]⟩,
     ⟨some 49, none, .bin .lss, [.t 48, .c (.p (.int .i64 0))]⟩,
     ⟨some 50, none, .call 195, [.c (.ow 1 true []), .t 46, .t 47, .t 49, .c (.p (.bool false))]⟩,
     ⟨some 44, none, .mov false, [.t 50]⟩,
     ⟨some 51, none, .ext 0, [.t 44]⟩,
     ⟨some 52, none, .ext 1, [.t 44]⟩,
     ⟨some 8, none, .mov true, [.t 51]⟩,
     ⟨some 9, none, .mov true, [.t 52]⟩])
  (.seq
  (.reg [⟨some 53, none, .mov false, [.t 9]⟩,
     ⟨some 4, none, .mov true, [.t 53]⟩])
  .ret))))⟩
theorem k169 : chkF Tryz.prog 169 F169 = true := by kernel_rfl
def F173 : Fn := ⟨34, 0, [.tmp 4],
 (.seq
  (.reg [⟨some 4, none, .mov true, [.c (.p (.int .i64 0))]⟩])
  (.seq
  (.seq
   (.reg [⟨some 7, none, .mov false, [.t 1]⟩,
      ⟨some 8, none, .slen, [.t 7]⟩,
      ⟨some 9, none, .bin .eql, [.t 8, .c (.p (.int .i64 0))]⟩])
   (.cond (.t 9)
   (.seq
    (.reg [⟨some 10, none, .mov false, [.t 0]⟩,
       ⟨some 11, none, .call 198, [.t 10]⟩,
       ⟨some 12, none, .bin .add, [.t 11, .c (.p (.int .i64 1))]⟩,
       ⟨some 4, none, .mov true, [.t 12]⟩])
    .ret)
   .skip))
  (.seq
  (.seq
   (.reg [⟨some 13, none, .mov false, [.t 1]⟩,
      ⟨some 14, none, .slen, [.t 13]⟩,
      ⟨some 15, none, .bin .eql, [.t 14, .c (.p (.int .i64 1))]⟩])
   (.cond (.t 15)
   (.seq
    (.reg [⟨some 16, none, .mov false, [.t 0]⟩,
       ⟨some 17, none, .mov false, [.t 1]⟩,
       ⟨some 18, none, .sidx, [.t 17, .c (.p (.int .i64 0))]⟩,
       ⟨some 19, none, .call 200, [.t 16, .t 18]⟩,
       ⟨some 4, none, .mov true, [.t 19]⟩])
    .ret)
   .skip))
  (.seq
  (.reg [⟨some 5, none, .mov true, [.c (.p (.int .i64 0))]⟩])
  (.block 0
  (.loop [4, 6, 7, 8, 9, 10, 11, 12, 13, 14, 15, 16, 17, 18, 19, 20, 21, 22, 23, 24, 25, 26, 27, 28, 29, 30, 31, 32, 33] []
   (.block 1
    (.seq
     (.reg [⟨some 20, none, .mov false, [.t 0]⟩,
        ⟨some 21, none, .mov false, [.t 1]⟩,
        ⟨some 22, none, .call 174, [.t 20, .t 21]⟩,
        ⟨some 6, none, .mov true, [.t 22]⟩])
     (.seq
     (.seq
      (.reg [⟨some 23, none, .mov false, [.t 6]⟩,
         ⟨some 24, none, .bin .eql, [.t 23, .c (.p (.int .i64 (-1)))]⟩])
      (.cond (.t 24)
      (.seq
       (.reg [⟨some 25, none, .mov false, [.t 5]⟩,
          ⟨some 4, none, .mov true, [.t 25]⟩])
       .ret)
      .skip))
     (.seq
     (.reg [⟨some 26, none, .mov false, [.t 5]⟩,
        ⟨some 27, none, .bin .add, [.t 26, .c (.p (.int .i64 1))]⟩,
        ⟨some 5, none, .mov true, [.t 27]⟩])
     (.reg [⟨some 28, none, .mov false, [.t 0]⟩,
       ⟨some 29, none, .mov false, [.t 6]⟩,
       ⟨some 30, none, .mov false, [.t 1]⟩,
       ⟨some 31, none, .slen, [.t 30]⟩,
       ⟨some 32, none, .bin .add, [.t 29, .t 31]⟩,
       ⟨some 33, none, .ssl true false, [.t 28, .t 32]⟩,
       ⟨some 0, none, .mov true, [.t 33]⟩])))))))))))⟩
-- a loop, at its head alive: [0, 1, 5]
theorem k173 : chkF Tryz.prog 173 F173 = true := by kernel_rfl
def F174 : Fn := ⟨8, 0, [.tmp 4],
 (.seq
  (.reg [⟨some 4, none, .mov true, [.c (.p (.int .i64 0))]⟩])
  (.seq
  (.reg [⟨some 5, none, .mov false, [.t 0]⟩,
     ⟨some 6, none, .mov false, [.t 1]⟩,
     ⟨some 7, none, .call 177, [.t 5, .t 6]⟩,
     ⟨some 4, none, .mov true, [.t 7]⟩])
  .ret))⟩
theorem k174 : chkF Tryz.prog 174 F174 = true := by kernel_rfl
def F175 : Fn := ⟨73, 0, [.tmp 6, .tmp 7],
 (.seq
  (.reg [⟨some 6, none, .mov true, [.c (.p (.int .i64 0))]⟩,
     ⟨some 7, none, .mov true, [.c (.p (.atom .nilIface))]⟩])
  (.seq
  (.seq
   (.reg [⟨some 12, none, .mov false, [.t 0]⟩,
      ⟨some 13, none, .bin .eql, [.t 12, .c (.p (.str ⟨#[]⟩))]⟩])
   (.cond (.t 13)
   (.seq
    (.reg [⟨some 14, none, .stk, []⟩,
       ⟨some 6, none, .mov true, [.c (.p (.int .i64 0))]⟩,
       ⟨some 7, none, .mov true, [.t 14]⟩])
    .ret)
   .skip))
  (.seq
  (.reg [⟨some 8, none, .mov true, [.c (.p (.bool false))]⟩])
  (.seq
  (.seq
   (.reg [⟨some 15, none, .mov false, [.t 0]⟩,
      ⟨some 16, none, .sidx, [.t 15, .c (.p (.int .i64 0))]⟩])
   (.block 0
   (.seq
    (.reg [⟨some 18, none, .bin .eql, [.t 16, .c (.p (.int .u8 43))]⟩,
       ⟨some 17, none, .mov true, [.t 18]⟩])
    (.cond (.t 17)
    (.reg [⟨some 19, none, .mov false, [.t 0]⟩,
       ⟨some 20, none, .ssl true false, [.t 19, .c (.p (.int .i64 1))]⟩,
       ⟨some 0, none, .mov true, [.t 20]⟩])
    (.seq
     (.reg [⟨some 22, none, .bin .eql, [.t 16, .c (.p (.int .u8 45))]⟩,
        ⟨some 21, none, .mov true, [.t 22]⟩])
     (.cond (.t 21)
     (.seq
      (.reg [⟨some 23, none, .mov false, [.t 0]⟩,
         ⟨some 24, none, .ssl true false, [.t 23, .c (.p (.int .i64 1))]⟩,
         ⟨some 0, none, .mov true, [.t 24]⟩])
      (.reg [⟨some 8, none, .mov true, [.c (.p (.bool true))]⟩]))
     .skip))))))
  (.seq
  (.reg [⟨some 9, none, .mov true, [.c (.p (.int .u64 0))]⟩])
  (.seq
  (.reg [⟨some 26, none, .mov false, [.t 0]⟩,
     ⟨some 27, none, .mov false, [.t 1]⟩,
     ⟨some 28, none, .mov false, [.t 2]⟩,
     ⟨some 29, none, .call 201, [.t 26, .t 27, .t 28]⟩,
     ⟨some 25, none, .mov false, [.t 29]⟩,
     ⟨some 30, none, .ext 0, [.t 25]⟩,
     ⟨some 31, none, .ext 1, [.t 25]⟩,
     ⟨some 9, none, .mov true, [.t 30]⟩,
     ⟨some 7, none, .mov true, [.t 31]⟩])
  (.seq
  (.seq
   (.reg [⟨some 32, none, .mov false, [.t 7]⟩,
      ⟨some 33, none, .eqat true, [.t 32, .c (.p (.atom .nilIface))]⟩,
      ⟨some 34, none, .mov false, [.t 33]⟩,
      ⟨some 35, (some (34, true)), .mov false, [.t 7]⟩,
      ⟨some 36, (some (34, true)), .stk, []⟩,
      ⟨some 37, (some (34, true)), .stk, []⟩,
      ⟨some 38, none, .pick, [.t 34, .t 37, .c (.p (.bool false))]⟩])
   (.cond (.t 38)
   (.seq
    (.reg [⟨some 39, none, .mov false, [.t 7]⟩,
       ⟨some 6, none, .mov true, [.c (.p (.int .i64 0))]⟩,
       ⟨some 7, none, .mov true, [.t 39]⟩])
    .ret)
   .skip))
  (.seq
  (.seq
   (.reg [⟨some 40, none, .mov false, [.t 2]⟩,
      ⟨some 41, none, .bin .eql, [.t 40, .c (.p (.int .i64 0))]⟩])
   (.cond (.t 41)
   (.reg [⟨some 2, none, .mov true, [.c (.p (.int .i64 64))]⟩])
   .skip))
  (.seq
  (.reg [⟨some 42, none, .mov false, [.t 2]⟩,
     ⟨some 43, none, .bin .sub, [.t 42, .c (.p (.int .i64 1))]⟩,
     ⟨some 44, none, .conv .u64, [.t 43]⟩,
     ⟨some 45, none, .bin .shl, [.c (.p (.int .u64 1)), .t 44]⟩,
     ⟨some 10, none, .mov true, [.t 45]⟩])
  (.seq
  (.seq
   (.reg [⟨some 46, none, .mov false, [.t 8]⟩,
      ⟨some 47, none, .un .not, [.t 46]⟩,
      ⟨some 48, none, .mov false, [.t 47]⟩,
      ⟨some 49, (some (48, true)), .mov false, [.t 9]⟩,
      ⟨some 50, (some (48, true)), .mov false, [.t 10]⟩,
      ⟨some 51, (some (48, true)), .bin .geq, [.t 49, .t 50]⟩,
      ⟨some 52, none, .pick, [.t 48, .t 51, .c (.p (.bool false))]⟩])
   (.cond (.t 52)
   (.seq
    (.reg [⟨some 53, none, .mov false, [.t 10]⟩,
       ⟨some 54, none, .bin .sub, [.t 53, .c (.p (.int .u64 1))]⟩,
       ⟨some 55, none, .conv .i64, [.t 54]⟩,
       ⟨some 56, none, .stk, []⟩,
       ⟨some 6, none, .mov true, [.t 55]⟩,
       ⟨some 7, none, .mov true, [.t 56]⟩])
    .ret)
   .skip))
  (.seq
  (.seq
   (.reg [⟨some 57, none, .mov false, [.t 8]⟩,
      ⟨some 58, none, .mov false, [.t 57]⟩,
      ⟨some 59, (some (58, true)), .mov false, [.t 9]⟩,
      ⟨some 60, (some (58, true)), .mov false, [.t 10]⟩,
      ⟨some 61, (some (58, true)), .bin .gtr, [.t 59, .t 60]⟩,
      ⟨some 62, none, .pick, [.t 58, .t 61, .c (.p (.bool false))]⟩])
   (.cond (.t 62)
   (.seq
    (.reg [⟨some 63, none, .mov false, [.t 10]⟩,
       ⟨some 64, none, .conv .i64, [.t 63]⟩,
       ⟨some 65, none, .un .neg, [.t 64]⟩,
       ⟨some 66, none, .stk, []⟩,
       ⟨some 6, none, .mov true, [.t 65]⟩,
       ⟨some 7, none, .mov true, [.t 66]⟩])
    .ret)
   .skip))
  (.seq
  (.reg [⟨some 67, none, .mov false, [.t 9]⟩,
     ⟨some 68, none, .conv .i64, [.t 67]⟩,
     ⟨some 11, none, .mov true, [.t 68]⟩])
  (.seq
  (.seq
   (.reg [⟨some 69, none, .mov false, [.t 8]⟩])
   (.cond (.t 69)
   (.reg [⟨some 70, none, .mov false, [.t 11]⟩,
      ⟨some 71, none, .un .neg, [.t 70]⟩,
      ⟨some 11, none, .mov true, [.t 71]⟩])
   .skip))
  (.seq
  (.reg [⟨some 72, none, .mov false, [.t 11]⟩,
     ⟨some 6, none, .mov true, [.t 72]⟩,
     ⟨some 7, none, .mov true, [.c (.p (.atom .nilIface))]⟩])
  .ret))))))))))))))⟩
theorem k175 : chkF Tryz.prog 175 F175 = true := by kernel_rfl
def F177 : Fn := ⟨143, 0, [.tmp 4],
 (.seq
  (.reg [⟨some 4, none, .mov true, [.c (.p (.int .i64 0))]⟩])
  (.seq
  (.reg [⟨some 14, none, .mov false, [.t 1]⟩,
     ⟨some 15, none, .slen, [.t 14]⟩,
     ⟨some 5, none, .mov true, [.t 15]⟩])
  (.seq
  (.block 0
   (.seq
    (.reg [⟨some 17, none, .mov false, [.t 5]⟩,
       ⟨some 18, none, .bin .eql, [.t 17, .c (.p (.int .i64 0))]⟩,
       ⟨some 19, none, .mov false, [.t 18]⟩,
       ⟨some 20, (some (19, false)), .mov false, [.t 1]⟩,
       ⟨some 21, (some (19, false)), .mov false, [.t 0]⟩,
       ⟨some 22, (some (19, false)), .bin .eql, [.t 20, .t 21]⟩,
       ⟨some 23, none, .pick, [.t 19, .c (.p (.bool true)), .t 22]⟩,
       ⟨some 16, none, .mov true, [.t 23]⟩])
    (.cond (.t 16)
    (.seq
     (.reg [⟨some 4, none, .mov true, [.c (.p (.int .i64 0))]⟩])
     .ret)
    (.seq
     (.reg [⟨some 25, none, .mov false, [.t 5]⟩,
        ⟨some 26, none, .bin .eql, [.t 25, .c (.p (.int .i64 1))]⟩,
        ⟨some 24, none, .mov true, [.t 26]⟩])
     (.cond (.t 24)
     (.seq
      (.reg [⟨some 27, none, .mov false, [.t 0]⟩,
         ⟨some 28, none, .mov false, [.t 1]⟩,
         ⟨some 29, none, .sidx, [.t 28, .c (.p (.int .i64 0))]⟩,
         ⟨some 30, none, .call 206, [.t 27, .t 29]⟩,
         ⟨some 4, none, .mov true, [.t 30]⟩])
      .ret)
     (.seq
      (.reg [⟨some 32, none, .mov false, [.t 5]⟩,
         ⟨some 33, none, .mov false, [.t 0]⟩,
         ⟨some 34, none, .slen, [.t 33]⟩,
         ⟨some 35, none, .bin .geq, [.t 32, .t 34]⟩,
         ⟨some 31, none, .mov true, [.t 35]⟩])
      (.cond (.t 31)
      (.seq
       (.reg [⟨some 4, none, .mov true, [.c (.p (.int .i64 (-1)))]⟩])
       .ret)
      (.seq
       (.reg [⟨some 37, none, .mov false, [.t 5]⟩,
          ⟨some 38, none, .load 1 false false, [.c .top]⟩,
          ⟨some 39, none, .bin .leq, [.t 37, .t 38]⟩,
          ⟨some 40, none, .mov false, [.t 39]⟩,
          ⟨some 41, (some (40, true)), .mov false, [.t 0]⟩,
          ⟨some 42, (some (40, true)), .slen, [.t 41]⟩,
          ⟨some 43, (some (40, true)), .bin .leq, [.t 42, .c (.p (.int .i64 64))]⟩,
          ⟨some 44, none, .pick, [.t 40, .t 43, .c (.p (.bool false))]⟩,
          ⟨some 36, none, .mov true, [.t 44]⟩])
       (.cond (.t 36)
       (.seq
        (.reg [⟨some 45, none, .mov false, [.t 0]⟩,
           ⟨some 46, none, .mov false, [.t 1]⟩,
           ⟨some 47, none, .call 207, [.t 45, .t 46]⟩,
           ⟨some 4, none, .mov true, [.t 47]⟩])
        .ret)
       .skip)))))))))
  (.seq
  (.reg [⟨some 48, none, .mov false, [.t 1]⟩,
     ⟨some 49, none, .sidx, [.t 48, .c (.p (.int .i64 0))]⟩,
     ⟨some 6, none, .mov true, [.t 49]⟩])
  (.seq
  (.reg [⟨some 50, none, .mov false, [.t 1]⟩,
     ⟨some 51, none, .sidx, [.t 50, .c (.p (.int .i64 1))]⟩,
     ⟨some 7, none, .mov true, [.t 51]⟩])
  (.seq
  (.reg [⟨some 8, none, .mov true, [.c (.p (.int .i64 0))]⟩])
  (.seq
  (.reg [⟨some 52, none, .mov false, [.t 0]⟩,
     ⟨some 53, none, .slen, [.t 52]⟩,
     ⟨some 54, none, .mov false, [.t 5]⟩,
     ⟨some 55, none, .bin .sub, [.t 53, .t 54]⟩,
     ⟨some 56, none, .bin .add, [.t 55, .c (.p (.int .i64 1))]⟩,
     ⟨some 9, none, .mov true, [.t 56]⟩])
  (.seq
  (.reg [⟨some 10, none, .mov true, [.c (.p (.int .i64 0))]⟩])
  (.seq
  (.block 1
   (.loop [4, 11, 12, 13, 14, 15, 16, 17, 18, 19, 20, 21, 22, 23, 24, 25, 26, 27, 28, 29, 30, 31, 32, 33, 34, 35, 36, 37, 38, 39, 40, 41, 42, 43, 44, 45, 46, 47, 48, 49, 50, 51, 52, 53, 54, 55, 56, 57, 58, 59, 60, 61, 62, 63, 64, 65, 66, 67, 68, 69, 70, 71, 72, 73, 74, 75, 76, 77, 78, 79, 80, 81, 82, 83, 84, 85, 86, 87, 88, 89, 90, 91, 92, 93, 94, 95, 96, 97, 98, 99, 100, 101, 102, 103, 104, 105, 106, 107, 108, 109, 110, 111, 112, 113, 114, 115, 116, 117, 118, 119, 120, 121, 122, 123, 124, 125, 126, 127, 128, 129, 130, 131, 132, 133, 134, 135, 136, 137, 138, 139, 140, 141, 142] []
    (.seq
     (.seq
      (.reg [⟨some 57, none, .mov false, [.t 8]⟩,
         ⟨some 58, none, .mov false, [.t 9]⟩,
         ⟨some 59, none, .bin .lss, [.t 57, .t 58]⟩])
      (.cond (.t 59)
      .skip
      (.exit 1)))
     (.block 2
     (.seq
      (.seq
       (.reg [⟨some 60, none, .mov false, [.t 0]⟩,
          ⟨some 61, none, .mov false, [.t 8]⟩,
          ⟨some 62, none, .sidx, [.t 60, .t 61]⟩,
          ⟨some 63, none, .mov false, [.t 6]⟩,
          ⟨some 64, none, .bin .neq, [.t 62, .t 63]⟩])
       (.cond (.t 64)
       (.seq
        (.reg [⟨some 65, none, .mov false, [.t 0]⟩,
           ⟨some 66, none, .mov false, [.t 8]⟩,
           ⟨some 67, none, .bin .add, [.t 66, .c (.p (.int .i64 1))]⟩,
           ⟨some 68, none, .mov false, [.t 9]⟩,
           ⟨some 69, none, .ssl true true, [.t 65, .t 67, .t 68]⟩,
           ⟨some 70, none, .mov false, [.t 6]⟩,
           ⟨some 71, none, .call 206, [.t 69, .t 70]⟩,
           ⟨some 11, none, .mov true, [.t 71]⟩])
        (.seq
        (.seq
         (.reg [⟨some 72, none, .mov false, [.t 11]⟩,
            ⟨some 73, none, .bin .lss, [.t 72, .c (.p (.int .i64 0))]⟩])
         (.cond (.t 73)
         (.seq
          (.reg [⟨some 4, none, .mov true, [.c (.p (.int .i64 (-1)))]⟩])
          .ret)
         .skip))
        (.reg [⟨some 74, none, .mov false, [.t 8]⟩,
          ⟨some 75, none, .mov false, [.t 11]⟩,
          ⟨some 76, none, .bin .add, [.t 75, .c (.p (.int .i64 1))]⟩,
          ⟨some 77, none, .bin .add, [.t 74, .t 76]⟩,
          ⟨some 8, none, .mov true, [.t 77]⟩])))
       .skip))
      (.seq
      (.seq
       (.reg [⟨some 78, none, .mov false, [.t 0]⟩,
          ⟨some 79, none, .mov false, [.t 8]⟩,
          ⟨some 80, none, .bin .add, [.t 79, .c (.p (.int .i64 1))]⟩,
          ⟨some 81, none, .sidx, [.t 78, .t 80]⟩,
          ⟨some 82, none, .mov false, [.t 7]⟩,
          ⟨some 83, none, .bin .eql, [.t 81, .t 82]⟩,
          ⟨some 84, none, .mov false, [.t 83]⟩,
          ⟨some 85, (some (84, true)), .mov false, [.t 0]⟩,
          ⟨some 86, (some (84, true)), .mov false, [.t 8]⟩,
          ⟨some 87, (some (84, true)), .mov false, [.t 8]⟩,
          ⟨some 88, (some (84, true)), .mov false, [.t 5]⟩,
          ⟨some 89, (some (84, true)), .bin .add, [.t 87, .t 88]⟩,
          ⟨some 90, (some (84, true)), .ssl true true, [.t 85, .t 86, .t 89]⟩,
          ⟨some 91, (some (84, true)), .mov false, [.t 1]⟩,
          ⟨some 92, (some (84, true)), .bin .eql, [.t 90, .t 91]⟩,
          ⟨some 93, none, .pick, [.t 84, .t 92, .c (.p (.bool false))]⟩])
       (.cond (.t 93)
       (.seq
        (.reg [⟨some 94, none, .mov false, [.t 8]⟩,
           ⟨some 4, none, .mov true, [.t 94]⟩])
        .ret)
       .skip))
      (.seq
      (.reg [⟨some 95, none, .mov false, [.t 8]⟩,
         ⟨some 96, none, .bin .add, [.t 95, .c (.p (.int .i64 1))]⟩,
         ⟨some 8, none, .mov true, [.t 96]⟩])
      (.seq
      (.reg [⟨some 97, none, .mov false, [.t 10]⟩,
         ⟨some 98, none, .bin .add, [.t 97, .c (.p (.int .i64 1))]⟩,
         ⟨some 10, none, .mov true, [.t 98]⟩])
      (.seq
      (.reg [⟨some 99, none, .mov false, [.t 5]⟩,
         ⟨some 100, none, .load 1 false false, [.c .top]⟩,
         ⟨some 101, none, .bin .leq, [.t 99, .t 100]⟩,
         ⟨some 102, none, .mov false, [.t 101]⟩,
         ⟨some 103, (some (102, true)), .mov false, [.t 10]⟩,
         ⟨some 104, (some (102, true)), .mov false, [.t 8]⟩,
         ⟨some 105, (some (102, true)), .call 208, [.t 104]⟩,
         ⟨some 106, (some (102, true)), .bin .gtr, [.t 103, .t 105]⟩,
         ⟨some 107, none, .pick, [.t 102, .t 106, .c (.p (.bool false))]⟩])
      (.cond (.t 107)
      (.seq
       (.reg [⟨some 108, none, .mov false, [.t 0]⟩,
          ⟨some 109, none, .mov false, [.t 8]⟩,
          ⟨some 110, none, .ssl true false, [.t 108, .t 109]⟩,
          ⟨some 111, none, .mov false, [.t 1]⟩,
          ⟨some 112, none, .call 207, [.t 110, .t 111]⟩,
          ⟨some 12, none, .mov true, [.t 112]⟩])
       (.seq
       (.seq
        (.reg [⟨some 113, none, .mov false, [.t 12]⟩,
           ⟨some 114, none, .bin .geq, [.t 113, .c (.p (.int .i64 0))]⟩])
        (.cond (.t 114)
        (.seq
         (.reg [⟨some 115, none, .mov false, [.t 12]⟩,
            ⟨some 116, none, .mov false, [.t 8]⟩,
            ⟨some 117, none, .bin .add, [.t 115, .t 116]⟩,
            ⟨some 4, none, .mov true, [.t 117]⟩])
         .ret)
        .skip))
       (.seq
       (.reg [⟨some 4, none, .mov true, [.c (.p (.int .i64 (-1)))]⟩])
       .ret)))
      (.seq
       (.reg [⟨some 118, none, .mov false, [.t 5]⟩,
          ⟨some 119, none, .load 1 false false, [.c .top]⟩,
          ⟨some 120, none, .bin .gtr, [.t 118, .t 119]⟩,
          ⟨some 121, none, .mov false, [.t 120]⟩,
          ⟨some 122, (some (121, true)), .mov false, [.t 10]⟩,
          ⟨some 123, (some (121, true)), .mov false, [.t 8]⟩,
          ⟨some 124, (some (121, true)), .bin .shr, [.t 123, .c (.p (.int .u64 4))]⟩,
          ⟨some 125, (some (121, true)), .bin .add, [.c (.p (.int .i64 4)), .t 124]⟩,
          ⟨some 126, (some (121, true)), .bin .geq, [.t 122, .t 125]⟩,
          ⟨some 127, none, .pick, [.t 121, .t 126, .c (.p (.bool false))]⟩,
          ⟨some 128, none, .mov false, [.t 127]⟩,
          ⟨some 129, (some (128, true)), .mov false, [.t 8]⟩,
          ⟨some 130, (some (128, true)), .mov false, [.t 9]⟩,
          ⟨some 131, (some (128, true)), .bin .lss, [.t 129, .t 130]⟩,
          ⟨some 132, none, .pick, [.t 128, .t 131, .c (.p (.bool false))]⟩])
       (.cond (.t 132)
       (.seq
        (.reg [⟨some 133, none, .mov false, [.t 0]⟩,
           ⟨some 134, none, .mov false, [.t 8]⟩,
           ⟨some 135, none, .ssl true false, [.t 133, .t 134]⟩,
           ⟨some 136, none, .mov false, [.t 1]⟩,
           ⟨some 137, none, .call 209, [.t 135, .t 136]⟩,
           ⟨some 13, none, .mov true, [.t 137]⟩])
        (.seq
        (.seq
         (.reg [⟨some 138, none, .mov false, [.t 13]⟩,
            ⟨some 139, none, .bin .lss, [.t 138, .c (.p (.int .i64 0))]⟩])
         (.cond (.t 139)
         (.seq
          (.reg [⟨some 4, none, .mov true, [.c (.p (.int .i64 (-1)))]⟩])
          .ret)
         .skip))
        (.seq
        (.reg [⟨some 140, none, .mov false, [.t 8]⟩,
           ⟨some 141, none, .mov false, [.t 13]⟩,
           ⟨some 142, none, .bin .add, [.t 140, .t 141]⟩,
           ⟨some 4, none, .mov true, [.t 142]⟩])
        .ret)))
       .skip))))))))))))
  (.seq
  (.reg [⟨some 4, none, .mov true, [.c (.p (.int .i64 (-1)))]⟩])
  .ret))))))))))⟩
-- a loop, at its head alive: [0, 1, 5, 6, 7, 8, 9, 10]
theorem k177 : chkF Tryz.prog 177 F177 = true := by kernel_rfl
def F178 : Fn := ⟨8, 1, [.cell 2 2],
 (.seq
  (.reg [⟨some 2, none, .alloc 0 2 [.p (.int .i64 0), .p (.int .u64 0)], []⟩])
  (.seq
  (.reg [⟨some 3, none, .mov false, [.t 0]⟩,
     ⟨some 4, none, .bin .shr, [.t 3, .c (.p (.int .u64 63))]⟩,
     ⟨some 5, none, .mov false, [.t 0]⟩,
     ⟨some 6, none, .conv .u64, [.t 5]⟩,
     ⟨some 7, none, .build [.int .i64 0, .int .u64 0] [(0, 1), (1, 1)], [.t 4, .t 6]⟩,
     ⟨none, none, .store 2, [.t 2, .t 7]⟩])
  .ret))⟩
theorem k178 : chkF Tryz.prog 178 F178 = true := by kernel_rfl
def F179 : Fn := ⟨25, 3, [.cell 4 2],
 (.seq
  (.reg [⟨some 2, none, .box 0 2, [.t 0]⟩,
     ⟨some 3, none, .box 1 2, [.t 1]⟩,
     ⟨some 4, none, .alloc 2 2 [.p (.int .i64 0), .p (.int .u64 0)], []⟩])
  (.seq
  (.reg [⟨some 8, none, .fad 1, [.t 2]⟩,
     ⟨some 9, none, .load 1 false false, [.t 8]⟩,
     ⟨some 10, none, .fad 1, [.t 3]⟩,
     ⟨some 11, none, .load 1 false false, [.t 10]⟩,
     ⟨some 12, none, .call 210, [.t 9, .t 11, .c (.p (.int .u64 0))]⟩,
     ⟨some 7, none, .mov false, [.t 12]⟩,
     ⟨some 13, none, .ext 0, [.t 7]⟩,
     ⟨some 14, none, .ext 1, [.t 7]⟩,
     ⟨some 5, none, .mov true, [.t 13]⟩,
     ⟨some 6, none, .mov true, [.t 14]⟩])
  (.seq
  (.reg [⟨some 15, none, .fad 0, [.t 2]⟩,
     ⟨some 16, none, .load 1 false false, [.t 15]⟩,
     ⟨some 17, none, .fad 0, [.t 3]⟩,
     ⟨some 18, none, .load 1 false false, [.t 17]⟩,
     ⟨some 19, none, .bin .add, [.t 16, .t 18]⟩,
     ⟨some 20, none, .mov false, [.t 6]⟩,
     ⟨some 21, none, .conv .i64, [.t 20]⟩,
     ⟨some 22, none, .bin .add, [.t 19, .t 21]⟩,
     ⟨some 23, none, .mov false, [.t 5]⟩,
     ⟨some 24, none, .build [.int .i64 0, .int .u64 0] [(0, 1), (1, 1)], [.t 22, .t 23]⟩,
     ⟨none, none, .store 2, [.t 4, .t 24]⟩])
  .ret)))⟩
theorem k179 : chkF Tryz.prog 179 F179 = true := by kernel_rfl
def F180 : Fn := ⟨13, 1, [.tmp 2, .tmp 3],
 (.seq
  (.reg [⟨some 1, none, .box 0 2, [.t 0]⟩,
     ⟨some 2, none, .mov true, [.c (.p (.int .i64 0))]⟩,
     ⟨some 3, none, .mov true, [.c (.p (.bool false))]⟩])
  (.seq
  (.reg [⟨some 5, none, .fad 1, [.t 1]⟩,
     ⟨some 6, none, .load 1 false false, [.t 5]⟩,
     ⟨some 7, none, .conv .i64, [.t 6]⟩,
     ⟨some 4, none, .mov true, [.t 7]⟩])
  (.seq
  (.seq
   (.regd [⟨some 8, none, .at 0 (.load 2 true false), [.t 1]⟩,
      ⟨some 9, none, .mov false, [.t 4]⟩,
      ⟨some 10, none, .pl (.call 178), [.t 9]⟩,
      ⟨some 11, none, .eqs 2 true, [.t 8, .t 10]⟩])
   (.cond (.t 11)
   (.seq
    (.reg [⟨some 2, none, .mov true, [.c (.p (.int .i64 0))]⟩,
       ⟨some 3, none, .mov true, [.c (.p (.bool false))]⟩])
    .ret)
   .skip))
  (.seq
  (.reg [⟨some 12, none, .mov false, [.t 4]⟩,
     ⟨some 2, none, .mov true, [.t 12]⟩,
     ⟨some 3, none, .mov true, [.c (.p (.bool true))]⟩])
  .ret))))⟩
theorem k180 : chkF Tryz.prog 180 F180 = true := by kernel_rfl
def F181 : Fn := ⟨31, 1, [.cell 4 2],
 (.seq
  (.reg [⟨some 4, none, .alloc 0 2 [.p (.int .i64 0), .p (.int .u64 0)], []⟩])
  (.seq
  (.reg [⟨some 9, none, .mov false, [.t 0]⟩,
     ⟨some 10, none, .conv .u64, [.t 9]⟩,
     ⟨some 11, none, .mov false, [.t 1]⟩,
     ⟨some 12, none, .conv .u64, [.t 11]⟩,
     ⟨some 13, none, .call 211, [.t 10, .t 12]⟩,
     ⟨some 8, none, .mov false, [.t 13]⟩,
     ⟨some 14, none, .ext 0, [.t 8]⟩,
     ⟨some 15, none, .ext 1, [.t 8]⟩,
     ⟨some 5, none, .mov true, [.t 14]⟩,
     ⟨some 6, none, .mov true, [.t 15]⟩])
  (.seq
  (.reg [⟨some 16, none, .mov false, [.t 5]⟩,
     ⟨some 17, none, .conv .i64, [.t 16]⟩,
     ⟨some 7, none, .mov true, [.t 17]⟩])
  (.seq
  (.seq
   (.reg [⟨some 18, none, .mov false, [.t 0]⟩,
      ⟨some 19, none, .bin .lss, [.t 18, .c (.p (.int .i64 0))]⟩])
   (.cond (.t 19)
   (.reg [⟨some 20, none, .mov false, [.t 7]⟩,
      ⟨some 21, none, .mov false, [.t 1]⟩,
      ⟨some 22, none, .bin .sub, [.t 20, .t 21]⟩,
      ⟨some 7, none, .mov true, [.t 22]⟩])
   .skip))
  (.seq
  (.seq
   (.reg [⟨some 23, none, .mov false, [.t 1]⟩,
      ⟨some 24, none, .bin .lss, [.t 23, .c (.p (.int .i64 0))]⟩])
   (.cond (.t 24)
   (.reg [⟨some 25, none, .mov false, [.t 7]⟩,
      ⟨some 26, none, .mov false, [.t 0]⟩,
      ⟨some 27, none, .bin .sub, [.t 25, .t 26]⟩,
      ⟨some 7, none, .mov true, [.t 27]⟩])
   .skip))
  (.seq
  (.reg [⟨some 28, none, .mov false, [.t 7]⟩,
     ⟨some 29, none, .mov false, [.t 6]⟩,
     ⟨some 30, none, .build [.int .i64 0, .int .u64 0] [(0, 1), (1, 1)], [.t 28, .t 29]⟩,
     ⟨none, none, .store 2, [.t 4, .t 30]⟩])
  .ret))))))⟩
theorem k181 : chkF Tryz.prog 181 F181 = true := by kernel_rfl
def F182 : Fn := ⟨24, 2, [.tmp 4],
 (.seq
  (.reg [⟨some 2, none, .box 0 2, [.t 0]⟩,
     ⟨some 3, none, .box 1 2, [.t 1]⟩,
     ⟨some 4, none, .mov true, [.c (.p (.bool false))]⟩])
  (.seq
  (.reg [⟨some 5, none, .fad 0, [.t 2]⟩,
     ⟨some 6, none, .load 1 false false, [.t 5]⟩,
     ⟨some 7, none, .fad 0, [.t 3]⟩,
     ⟨some 8, none, .load 1 false false, [.t 7]⟩,
     ⟨some 9, none, .bin .lss, [.t 6, .t 8]⟩,
     ⟨some 10, none, .mov false, [.t 9]⟩,
     ⟨some 11, (some (10, false)), .fad 0, [.t 2]⟩,
     ⟨some 12, (some (10, false)), .load 1 false false, [.t 11]⟩,
     ⟨some 13, (some (10, false)), .fad 0, [.t 3]⟩,
     ⟨some 14, (some (10, false)), .load 1 false false, [.t 13]⟩,
     ⟨some 15, (some (10, false)), .bin .eql, [.t 12, .t 14]⟩,
     ⟨some 16, (some (10, false)), .mov false, [.t 15]⟩,
     ⟨some 17, (some (16, true)), .fad 1, [.t 2]⟩,
     ⟨some 18, (some (16, true)), .load 1 false false, [.t 17]⟩,
     ⟨some 19, (some (16, true)), .fad 1, [.t 3]⟩,
     ⟨some 20, (some (16, true)), .load 1 false false, [.t 19]⟩,
     ⟨some 21, (some (16, true)), .bin .lss, [.t 18, .t 20]⟩,
     ⟨some 22, (some (10, false)), .pick, [.t 16, .t 21, .c (.p (.bool false))]⟩,
     ⟨some 23, none, .pick, [.t 10, .c (.p (.bool true)), .t 22]⟩,
     ⟨some 4, none, .mov true, [.t 23]⟩])
  .ret))⟩
theorem k182 : chkF Tryz.prog 182 F182 = true := by kernel_rfl
def F183 : Fn := ⟨49, 0, [],
 (.seq
  (.reg [⟨some 8, none, .mov false, [.t 1]⟩,
     ⟨some 9, none, .bin .add, [.t 8, .c (.p (.int .i64 1))]⟩,
     ⟨some 6, none, .mov true, [.t 9]⟩])
  (.block 0
  (.loop [7, 8, 9, 10, 11, 12, 13, 14, 15, 16, 17, 18, 19, 20, 21, 22, 23, 24, 25, 26, 27, 28, 29, 30, 31, 32, 33, 34, 35, 36, 37, 38, 39, 40, 41, 42, 43, 44, 45, 46, 47, 48] []
   (.seq
    (.seq
     (.reg [⟨some 10, none, .mov false, [.t 6]⟩,
        ⟨some 11, none, .mov false, [.t 2]⟩,
        ⟨some 12, none, .bin .lss, [.t 10, .t 11]⟩])
     (.cond (.t 12)
     .skip
     (.exit 0)))
    (.seq
    (.block 1
     (.seq
      (.reg [⟨some 15, none, .mov false, [.t 6]⟩,
         ⟨some 7, none, .mov true, [.t 15]⟩])
      (.block 2
      (.loop [8, 9, 10, 11, 12, 13, 14, 15, 16, 17, 18, 19, 20, 21, 22, 23, 24, 25, 26, 27, 28, 29, 30, 31, 32, 33, 34, 35, 36, 37, 38, 39, 40, 41, 42, 43, 44, 45, 46, 47, 48] []
       (.seq
        (.seq
         (.regd [⟨some 16, none, .mov false, [.t 7]⟩,
            ⟨some 17, none, .mov false, [.t 1]⟩,
            ⟨some 18, none, .bin .gtr, [.t 16, .t 17]⟩,
            ⟨some 19, none, .mov false, [.t 18]⟩,
            ⟨some 20, (some (19, true)), .mov false, [.t 0]⟩,
            ⟨some 21, (some (19, true)), .mov false, [.t 7]⟩,
            ⟨some 22, (some (19, true)), .iad 1, [.t 20, .t 21]⟩,
            ⟨some 23, (some (19, true)), .at 0 (.load 1 false false), [.t 22]⟩,
            ⟨some 24, (some (19, true)), .mov false, [.t 0]⟩,
            ⟨some 25, (some (19, true)), .mov false, [.t 7]⟩,
            ⟨some 26, (some (19, true)), .bin .sub, [.t 25, .c (.p (.int .i64 1))]⟩,
            ⟨some 27, (some (19, true)), .iad 1, [.t 24, .t 26]⟩,
            ⟨some 28, (some (19, true)), .at 0 (.load 1 false false), [.t 27]⟩,
            ⟨some 29, (some (19, true)), .pl (.call 189), [.t 23, .t 28]⟩,
            ⟨some 30, none, .pick, [.t 19, .t 29, .c (.p (.bool false))]⟩])
         (.cond (.t 30)
         .skip
         (.exit 2)))
        (.seq
        (.block 3
         (.regd [⟨some 33, none, .mov false, [.t 0]⟩,
            ⟨some 34, none, .mov false, [.t 7]⟩,
            ⟨some 35, none, .mov false, [.t 0]⟩,
            ⟨some 36, none, .mov false, [.t 7]⟩,
            ⟨some 37, none, .bin .sub, [.t 36, .c (.p (.int .i64 1))]⟩,
            ⟨some 38, none, .mov false, [.t 0]⟩,
            ⟨some 39, none, .mov false, [.t 7]⟩,
            ⟨some 40, none, .bin .sub, [.t 39, .c (.p (.int .i64 1))]⟩,
            ⟨some 41, none, .iad 1, [.t 38, .t 40]⟩,
            ⟨some 42, none, .at 0 (.load 1 false false), [.t 41]⟩,
            ⟨some 43, none, .mov false, [.t 0]⟩,
            ⟨some 44, none, .mov false, [.t 7]⟩,
            ⟨some 45, none, .iad 1, [.t 43, .t 44]⟩,
            ⟨some 46, none, .at 0 (.load 1 false false), [.t 45]⟩,
            ⟨some 47, none, .iad 1, [.t 33, .t 34]⟩,
            ⟨none, none, .at 0 (.store 1), [.t 47, .t 42]⟩,
            ⟨some 48, none, .iad 1, [.t 35, .t 37]⟩,
            ⟨none, none, .at 0 (.store 1), [.t 48, .t 46]⟩]))
        (.reg [⟨some 31, none, .mov false, [.t 7]⟩,
          ⟨some 32, none, .bin .sub, [.t 31, .c (.p (.int .i64 1))]⟩,
          ⟨some 7, none, .mov true, [.t 32]⟩])))))))
    (.reg [⟨some 13, none, .mov false, [.t 6]⟩,
      ⟨some 14, none, .bin .add, [.t 13, .c (.p (.int .i64 1))]⟩,
      ⟨some 6, none, .mov true, [.t 14]⟩]))))))⟩
-- a loop, at its head alive: [0, 1, 2, 6]
-- a loop, at its head alive: [0, 1, 2, 6, 7]
theorem k183 : chkF Tryz.prog 183 F183 = true := by kernel_rfl
def F189 : Fn := ⟨17, 0, [.tmp 4],
 (.seq
  (.reg [⟨some 4, none, .mov true, [.c (.p (.bool false))]⟩])
  (.seq
  (.reg [⟨some 5, none, .mov false, [.t 0]⟩,
     ⟨some 6, none, .call 97, [.t 5]⟩,
     ⟨some 7, none, .mov false, [.t 6]⟩,
     ⟨some 8, (some (7, true)), .mov false, [.t 1]⟩,
     ⟨some 9, (some (7, true)), .call 97, [.t 8]⟩,
     ⟨some 10, (some (7, true)), .un .not, [.t 9]⟩,
     ⟨some 11, none, .pick, [.t 7, .t 10, .c (.p (.bool false))]⟩,
     ⟨some 12, none, .mov false, [.t 11]⟩,
     ⟨some 13, (some (12, false)), .mov false, [.t 0]⟩,
     ⟨some 14, (some (12, false)), .mov false, [.t 1]⟩,
     ⟨some 15, (some (12, false)), .bin .lss, [.t 13, .t 14]⟩,
     ⟨some 16, none, .pick, [.t 12, .c (.p (.bool true)), .t 15]⟩,
     ⟨some 4, none, .mov true, [.t 16]⟩])
  .ret))⟩
theorem k189 : chkF Tryz.prog 189 F189 = true := by kernel_rfl
def F192 : Fn := ⟨15, 0, [.tmp 2],
 (.seq
  (.reg [⟨some 2, none, .mov true, [.c (.p (.str ⟨#[]⟩))]⟩])
  (.seq
  (.seq
   (.reg [⟨some 3, none, .mov false, [.t 0]⟩,
      ⟨some 4, none, .bin .lss, [.t 3, .c (.p (.int .i64 10))]⟩])
   (.cond (.t 4)
   (.seq
    (.reg [⟨some 5, none, .mov false, [.t 0]⟩,
       ⟨some 6, none, .mov false, [.t 0]⟩,
       ⟨some 7, none, .bin .add, [.t 6, .c (.p (.int .i64 1))]⟩,
       ⟨some 8, none, .ssl true true, [.c (.p (.str ⟨#[48, 49, 50, 51, 52, 53, 54, 55, 56, 57, 97, 98, 99, 100, 101, 102, 103, 104, 105, 106, 107, 108, 109, 110, 111, 112, 113, 114, 115, 116, 117, 118, 119, 120, 121, 122]⟩)), .t 5, .t 7]⟩,
       ⟨some 2, none, .mov true, [.t 8]⟩])
    .ret)
   .skip))
  (.seq
  (.reg [⟨some 9, none, .mov false, [.t 0]⟩,
     ⟨some 10, none, .bin .mul, [.t 9, .c (.p (.int .i64 2))]⟩,
     ⟨some 11, none, .mov false, [.t 0]⟩,
     ⟨some 12, none, .bin .mul, [.t 11, .c (.p (.int .i64 2))]⟩,
     ⟨some 13, none, .bin .add, [.t 12, .c (.p (.int .i64 2))]⟩,
     ⟨some 14, none, .ssl true true, [.c (.p (.str ⟨#[48, 48, 48, 49, 48, 50, 48, 51, 48, 52, 48, 53, 48, 54, 48, 55, 48, 56, 48, 57, 49, 48, 49, 49, 49, 50, 49, 51, 49, 52, 49, 53, 49, 54, 49, 55, 49, 56, 49, 57, 50, 48, 50, 49, 50, 50, 50, 51, 50, 52, 50, 53, 50, 54, 50, 55, 50, 56, 50, 57, 51, 48, 51, 49, 51, 50, 51, 51, 51, 52, 51, 53, 51, 54, 51, 55, 51, 56, 51, 57, 52, 48, 52, 49, 52, 50, 52, 51, 52, 52, 52, 53, 52, 54, 52, 55, 52, 56, 52, 57, 53, 48, 53, 49, 53, 50, 53, 51, 53, 52, 53, 53, 53, 54, 53, 55, 53, 56, 53, 57, 54, 48, 54, 49, 54, 50, 54, 51, 54, 52, 54, 53, 54, 54, 54, 55, 54, 56, 54, 57, 55, 48, 55, 49, 55, 50, 55, 51, 55, 52, 55, 53, 55, 54, 55, 55, 55, 56, 55, 57, 56, 48, 56, 49, 56, 50, 56, 51, 56, 52, 56, 53, 56, 54, 56, 55, 56, 56, 56, 57, 57, 48, 57, 49, 57, 50, 57, 51, 57, 52, 57, 53, 57, 54, 57, 55, 57, 56, 57, 57]⟩)), .t 10, .t 13]⟩,
     ⟨some 2, none, .mov true, [.t 14]⟩])
  .ret)))⟩
theorem k192 : chkF Tryz.prog 192 F192 = true := by kernel_rfl
def F201 : Fn := ⟨172, 0, [.tmp 6, .tmp 7],
 (.seq
  (.reg [⟨some 6, none, .mov true, [.c (.p (.int .u64 0))]⟩,
     ⟨some 7, none, .mov true, [.c (.p (.atom .nilIface))]⟩])
  (.seq
  (.seq
   (.reg [⟨some 18, none, .mov false, [.t 0]⟩,
      ⟨some 19, none, .bin .eql, [.t 18, .c (.p (.str ⟨#[]⟩))]⟩])
   (.cond (.t 19)
   (.seq
    (.reg [⟨some 20, none, .stk, []⟩,
       ⟨some 6, none, .mov true, [.c (.p (.int .u64 0))]⟩,
       ⟨some 7, none, .mov true, [.t 20]⟩])
    .ret)
   .skip))
  (.seq
  (.reg [⟨some 21, none, .mov false, [.t 1]⟩,
     ⟨some 22, none, .bin .eql, [.t 21, .c (.p (.int .i64 0))]⟩,
     ⟨some 8, none, .mov true, [.t 22]⟩])
  (.seq
  (.reg [⟨some 23, none, .mov false, [.t 0]⟩,
     ⟨some 9, none, .mov true, [.t 23]⟩])
  (.seq
  (.block 0
   (.seq
    (.reg [⟨some 26, none, .mov false, [.t 1]⟩,
       ⟨some 27, none, .bin .leq, [.c (.p (.int .i64 2)), .t 26]⟩,
       ⟨some 28, none, .mov false, [.t 27]⟩,
       ⟨some 29, (some (28, true)), .mov false, [.t 1]⟩,
       ⟨some 30, (some (28, true)), .bin .leq, [.t 29, .c (.p (.int .i64 36))]⟩,
       ⟨some 31, none, .pick, [.t 28, .t 30, .c (.p (.bool false))]⟩,
       ⟨some 25, none, .mov true, [.t 31]⟩])
    (.cond (.t 25)
    .skip
    (.seq
     (.reg [⟨some 33, none, .mov false, [.t 1]⟩,
        ⟨some 34, none, .bin .eql, [.t 33, .c (.p (.int .i64 0))]⟩,
        ⟨some 32, none, .mov true, [.t 34]⟩])
     (.cond (.t 32)
     (.seq
      (.reg [⟨some 1, none, .mov true, [.c (.p (.int .i64 10))]⟩])
      (.seq
      (.reg [⟨some 35, none, .mov false, [.t 0]⟩,
         ⟨some 36, none, .sidx, [.t 35, .c (.p (.int .i64 0))]⟩,
         ⟨some 37, none, .bin .eql, [.t 36, .c (.p (.int .u8 48))]⟩])
      (.cond (.t 37)
      (.block 1
       (.seq
        (.reg [⟨some 41, none, .mov false, [.t 0]⟩,
           ⟨some 42, none, .slen, [.t 41]⟩,
           ⟨some 43, none, .bin .geq, [.t 42, .c (.p (.int .i64 3))]⟩,
           ⟨some 44, none, .mov false, [.t 43]⟩,
           ⟨some 45, (some (44, true)), .mov false, [.t 0]⟩,
           ⟨some 46, (some (44, true)), .sidx, [.t 45, .c (.p (.int .i64 1))]⟩,
           ⟨some 47, (some (44, true)), .call 220, [.t 46]⟩,
           ⟨some 48, (some (44, true)), .bin .eql, [.t 47, .c (.p (.int .u8 98))]⟩,
           ⟨some 49, none, .pick, [.t 44, .t 48, .c (.p (.bool false))]⟩,
           ⟨some 40, none, .mov true, [.t 49]⟩])
        (.cond (.t 40)
        (.seq
         (.reg [⟨some 1, none, .mov true, [.c (.p (.int .i64 2))]⟩])
         (.reg [⟨some 50, none, .mov false, [.t 0]⟩,
           ⟨some 51, none, .ssl true false, [.t 50, .c (.p (.int .i64 2))]⟩,
           ⟨some 0, none, .mov true, [.t 51]⟩]))
        (.seq
         (.reg [⟨some 53, none, .mov false, [.t 0]⟩,
            ⟨some 54, none, .slen, [.t 53]⟩,
            ⟨some 55, none, .bin .geq, [.t 54, .c (.p (.int .i64 3))]⟩,
            ⟨some 56, none, .mov false, [.t 55]⟩,
            ⟨some 57, (some (56, true)), .mov false, [.t 0]⟩,
            ⟨some 58, (some (56, true)), .sidx, [.t 57, .c (.p (.int .i64 1))]⟩,
            ⟨some 59, (some (56, true)), .call 220, [.t 58]⟩,
            ⟨some 60, (some (56, true)), .bin .eql, [.t 59, .c (.p (.int .u8 111))]⟩,
            ⟨some 61, none, .pick, [.t 56, .t 60, .c (.p (.bool false))]⟩,
            ⟨some 52, none, .mov true, [.t 61]⟩])
         (.cond (.t 52)
         (.seq
          (.reg [⟨some 1, none, .mov true, [.c (.p (.int .i64 8))]⟩])
          (.reg [⟨some 62, none, .mov false, [.t 0]⟩,
            ⟨some 63, none, .ssl true false, [.t 62, .c (.p (.int .i64 2))]⟩,
            ⟨some 0, none, .mov true, [.t 63]⟩]))
         (.seq
          (.reg [⟨some 65, none, .mov false, [.t 0]⟩,
             ⟨some 66, none, .slen, [.t 65]⟩,
             ⟨some 67, none, .bin .geq, [.t 66, .c (.p (.int .i64 3))]⟩,
             ⟨some 68, none, .mov false, [.t 67]⟩,
             ⟨some 69, (some (68, true)), .mov false, [.t 0]⟩,
             ⟨some 70, (some (68, true)), .sidx, [.t 69, .c (.p (.int .i64 1))]⟩,
             ⟨some 71, (some (68, true)), .call 220, [.t 70]⟩,
             ⟨some 72, (some (68, true)), .bin .eql, [.t 71, .c (.p (.int .u8 120))]⟩,
             ⟨some 73, none, .pick, [.t 68, .t 72, .c (.p (.bool false))]⟩,
             ⟨some 64, none, .mov true, [.t 73]⟩])
          (.cond (.t 64)
          (.seq
           (.reg [⟨some 1, none, .mov true, [.c (.p (.int .i64 16))]⟩])
           (.reg [⟨some 74, none, .mov false, [.t 0]⟩,
             ⟨some 75, none, .ssl true false, [.t 74, .c (.p (.int .i64 2))]⟩,
             ⟨some 0, none, .mov true, [.t 75]⟩]))
          (.seq
           (.reg [⟨some 1, none, .mov true, [.c (.p (.int .i64 8))]⟩])
           (.reg [⟨some 38, none, .mov false, [.t 0]⟩,
             ⟨some 39, none, .ssl true false, [.t 38, .c (.p (.int .i64 1))]⟩,
             ⟨some 0, none, .mov true, [.t 39]⟩])))))))))
      .skip)))
     (.seq
      (.reg [⟨some 24, none, .stk, []⟩,
         ⟨some 6, none, .mov true, [.c (.p (.int .u64 0))]⟩,
         ⟨some 7, none, .mov true, [.t 24]⟩])
      .ret))))))
  (.seq
  (.seq
   (.reg [⟨some 76, none, .mov false, [.t 2]⟩,
      ⟨some 77, none, .bin .eql, [.t 76, .c (.p (.int .i64 0))]⟩])
   (.cond (.t 77)
   (.reg [⟨some 2, none, .mov true, [.c (.p (.int .i64 64))]⟩])
   (.seq
    (.reg [⟨some 78, none, .mov false, [.t 2]⟩,
       ⟨some 79, none, .bin .lss, [.t 78, .c (.p (.int .i64 0))]⟩,
       ⟨some 80, none, .mov false, [.t 79]⟩,
       ⟨some 81, (some (80, false)), .mov false, [.t 2]⟩,
       ⟨some 82, (some (80, false)), .bin .gtr, [.t 81, .c (.p (.int .i64 64))]⟩,
       ⟨some 83, none, .pick, [.t 80, .c (.p (.bool true)), .t 82]⟩])
    (.cond (.t 83)
    (.seq
     (.reg [⟨some 84, none, .stk, []⟩,
        ⟨some 6, none, .mov true, [.c (.p (.int .u64 0))]⟩,
        ⟨some 7, none, .mov true, [.t 84]⟩])
     .ret)
    .skip))))
  (.seq
  (.reg [⟨some 10, none, .mov true, [.c (.p (.int .u64 0))]⟩])
  (.seq
  (.seq
   (.reg [⟨some 85, none, .mov false, [.t 1]⟩])
   (.block 2
   (.seq
    (.reg [⟨some 91, none, .bin .eql, [.t 85, .c (.p (.int .i64 10))]⟩,
       ⟨some 90, none, .mov true, [.t 91]⟩])
    (.cond (.t 90)
    (.reg [⟨some 10, none, .mov true, [.c (.p (.int .u64 1844674407370955162))]⟩])
    (.seq
     (.reg [⟨some 93, none, .bin .eql, [.t 85, .c (.p (.int .i64 16))]⟩,
        ⟨some 92, none, .mov true, [.t 93]⟩])
     (.cond (.t 92)
     (.reg [⟨some 10, none, .mov true, [.c (.p (.int .u64 1152921504606846976))]⟩])
     (.reg [⟨some 86, none, .mov false, [.t 1]⟩,
        ⟨some 87, none, .conv .u64, [.t 86]⟩,
        ⟨some 88, none, .bin .quo, [.c (.p (.int .u64 18446744073709551615)), .t 87]⟩,
        ⟨some 89, none, .bin .add, [.t 88, .c (.p (.int .u64 1))]⟩,
        ⟨some 10, none, .mov true, [.t 89]⟩])))))))
  (.seq
  (.reg [⟨some 94, none, .mov false, [.t 2]⟩,
     ⟨some 95, none, .conv .u64, [.t 94]⟩,
     ⟨some 96, none, .bin .shl, [.c (.p (.int .u64 1)), .t 95]⟩,
     ⟨some 97, none, .bin .sub, [.t 96, .c (.p (.int .u64 1))]⟩,
     ⟨some 11, none, .mov true, [.t 97]⟩])
  (.seq
  (.reg [⟨some 12, none, .mov true, [.c (.p (.bool false))]⟩])
  (.seq
  (.reg [⟨some 13, none, .mov true, [.c (.p (.int .u64 0))]⟩])
  (.seq
  (.seq
   (.reg [⟨some 98, none, .mov false, [.t 0]⟩,
      ⟨some 99, none, .s2b, [.t 98]⟩,
      ⟨some 100, none, .len, [.t 99]⟩,
      ⟨some 101, none, .mov false, [.c (.p (.int .i64 0))]⟩])
   (.block 3
   (.loop [0, 2, 6, 7, 15, 16, 17, 18, 19, 20, 21, 22, 23, 24, 25, 26, 27, 28, 29, 30, 31, 32, 33, 34, 35, 36, 37, 38, 39, 40, 41, 42, 43, 44, 45, 46, 47, 48, 49, 50, 51, 52, 53, 54, 55, 56, 57, 58, 59, 60, 61, 62, 63, 64, 65, 66, 67, 68, 69, 70, 71, 72, 73, 74, 75, 76, 77, 78, 79, 80, 81, 82, 83, 84, 85, 86, 87, 88, 89, 90, 91, 92, 93, 94, 95, 96, 97, 98, 102, 103, 104, 105, 106, 107, 108, 109, 110, 111, 112, 113, 114, 115, 116, 117, 118, 119, 120, 121, 122, 123, 124, 125, 126, 127, 128, 129, 130, 131, 132, 133, 134, 135, 136, 137, 138, 139, 140, 141, 142, 143, 144, 145, 146, 147, 148, 149, 150, 151, 152, 153, 154, 155, 156, 157, 158, 159, 160, 161, 162, 163, 164, 165, 166, 167, 168, 169, 170, 171] []
    (.seq
     (.reg [⟨some 102, none, .bin .lss, [.t 101, .t 100]⟩])
     (.seq
     (.cond (.t 102)
      .skip
      (.exit 3))
     (.seq
     (.block 4
      (.seq
       (.reg [⟨some 103, none, .iad 1, [.t 99, .t 101]⟩,
          ⟨some 104, none, .load 1 false false, [.t 103]⟩,
          ⟨some 15, none, .mov true, [.t 104]⟩])
       (.seq
       (.reg [⟨some 16, none, .mov true, [.c (.p (.int .u8 0))]⟩])
       (.seq
       (.block 5
        (.seq
         (.reg [⟨some 107, none, .mov false, [.t 15]⟩,
            ⟨some 108, none, .bin .eql, [.t 107, .c (.p (.int .u8 95))]⟩,
            ⟨some 109, none, .mov false, [.t 108]⟩,
            ⟨some 110, (some (109, true)), .mov false, [.t 8]⟩,
            ⟨some 111, none, .pick, [.t 109, .t 110, .c (.p (.bool false))]⟩,
            ⟨some 106, none, .mov true, [.t 111]⟩])
         (.cond (.t 106)
         (.seq
          (.reg [⟨some 12, none, .mov true, [.c (.p (.bool true))]⟩])
          (.exit 4))
         (.seq
          (.reg [⟨some 113, none, .mov false, [.t 15]⟩,
             ⟨some 114, none, .bin .leq, [.c (.p (.int .u8 48)), .t 113]⟩,
             ⟨some 115, none, .mov false, [.t 114]⟩,
             ⟨some 116, (some (115, true)), .mov false, [.t 15]⟩,
             ⟨some 117, (some (115, true)), .bin .leq, [.t 116, .c (.p (.int .u8 57))]⟩,
             ⟨some 118, none, .pick, [.t 115, .t 117, .c (.p (.bool false))]⟩,
             ⟨some 112, none, .mov true, [.t 118]⟩])
          (.cond (.t 112)
          (.reg [⟨some 119, none, .mov false, [.t 15]⟩,
             ⟨some 120, none, .bin .sub, [.t 119, .c (.p (.int .u8 48))]⟩,
             ⟨some 16, none, .mov true, [.t 120]⟩])
          (.seq
           (.reg [⟨some 122, none, .mov false, [.t 15]⟩,
              ⟨some 123, none, .call 220, [.t 122]⟩,
              ⟨some 124, none, .bin .leq, [.c (.p (.int .u8 97)), .t 123]⟩,
              ⟨some 125, none, .mov false, [.t 124]⟩,
              ⟨some 126, (some (125, true)), .mov false, [.t 15]⟩,
              ⟨some 127, (some (125, true)), .call 220, [.t 126]⟩,
              ⟨some 128, (some (125, true)), .bin .leq, [.t 127, .c (.p (.int .u8 122))]⟩,
              ⟨some 129, none, .pick, [.t 125, .t 128, .c (.p (.bool false))]⟩,
              ⟨some 121, none, .mov true, [.t 129]⟩])
           (.cond (.t 121)
           (.reg [⟨some 130, none, .mov false, [.t 15]⟩,
              ⟨some 131, none, .call 220, [.t 130]⟩,
              ⟨some 132, none, .bin .sub, [.t 131, .c (.p (.int .u8 97))]⟩,
              ⟨some 133, none, .bin .add, [.t 132, .c (.p (.int .u8 10))]⟩,
              ⟨some 16, none, .mov true, [.t 133]⟩])
           (.seq
            (.reg [⟨some 105, none, .stk, []⟩,
               ⟨some 6, none, .mov true, [.c (.p (.int .u64 0))]⟩,
               ⟨some 7, none, .mov true, [.t 105]⟩])
            .ret))))))))
       (.seq
       (.seq
        (.reg [⟨some 134, none, .mov false, [.t 16]⟩,
           ⟨some 135, none, .mov false, [.t 1]⟩,
           ⟨some 136, none, .conv .u8, [.t 135]⟩,
           ⟨some 137, none, .bin .geq, [.t 134, .t 136]⟩])
        (.cond (.t 137)
        (.seq
         (.reg [⟨some 138, none, .stk, []⟩,
            ⟨some 6, none, .mov true, [.c (.p (.int .u64 0))]⟩,
            ⟨some 7, none, .mov true, [.t 138]⟩])
         .ret)
        .skip))
       (.seq
       (.seq
        (.reg [⟨some 139, none, .mov false, [.t 13]⟩,
           ⟨some 140, none, .mov false, [.t 10]⟩,
           ⟨some 141, none, .bin .geq, [.t 139, .t 140]⟩])
        (.cond (.t 141)
        (.seq
         (.reg [⟨some 142, none, .mov false, [.t 11]⟩,
            ⟨some 143, none, .stk, []⟩,
            ⟨some 6, none, .mov true, [.t 142]⟩,
            ⟨some 7, none, .mov true, [.t 143]⟩])
         .ret)
        .skip))
       (.seq
       (.reg [⟨some 144, none, .mov false, [.t 13]⟩,
          ⟨some 145, none, .mov false, [.t 1]⟩,
          ⟨some 146, none, .conv .u64, [.t 145]⟩,
          ⟨some 147, none, .bin .mul, [.t 144, .t 146]⟩,
          ⟨some 13, none, .mov true, [.t 147]⟩])
       (.seq
       (.reg [⟨some 148, none, .mov false, [.t 13]⟩,
          ⟨some 149, none, .mov false, [.t 16]⟩,
          ⟨some 150, none, .conv .u64, [.t 149]⟩,
          ⟨some 151, none, .bin .add, [.t 148, .t 150]⟩,
          ⟨some 17, none, .mov true, [.t 151]⟩])
       (.seq
       (.seq
        (.reg [⟨some 152, none, .mov false, [.t 17]⟩,
           ⟨some 153, none, .mov false, [.t 13]⟩,
           ⟨some 154, none, .bin .lss, [.t 152, .t 153]⟩,
           ⟨some 155, none, .mov false, [.t 154]⟩,
           ⟨some 156, (some (155, false)), .mov false, [.t 17]⟩,
           ⟨some 157, (some (155, false)), .mov false, [.t 11]⟩,
           ⟨some 158, (some (155, false)), .bin .gtr, [.t 156, .t 157]⟩,
           ⟨some 159, none, .pick, [.t 155, .c (.p (.bool true)), .t 158]⟩])
        (.cond (.t 159)
        (.seq
         (.reg [⟨some 160, none, .mov false, [.t 11]⟩,
            ⟨some 161, none, .stk, []⟩,
            ⟨some 6, none, .mov true, [.t 160]⟩,
            ⟨some 7, none, .mov true, [.t 161]⟩])
         .ret)
        .skip))
       (.reg [⟨some 162, none, .mov false, [.t 17]⟩,
         ⟨some 13, none, .mov true, [.t 162]⟩]))))))))))
     (.reg [⟨some 163, none, .bin .add, [.t 101, .c (.p (.int .i64 1))]⟩,
       ⟨some 101, none, .mov false, [.t 163]⟩])))))))
  (.seq
  (.seq
   (.reg [⟨some 164, none, .mov false, [.t 12]⟩,
      ⟨some 165, none, .mov false, [.t 164]⟩,
      ⟨some 166, (some (165, true)), .mov false, [.t 9]⟩,
      ⟨some 167, (some (165, true)), .call 221, [.t 166]⟩,
      ⟨some 168, (some (165, true)), .un .not, [.t 167]⟩,
      ⟨some 169, none, .pick, [.t 165, .t 168, .c (.p (.bool false))]⟩])
   (.cond (.t 169)
   (.seq
    (.reg [⟨some 170, none, .stk, []⟩,
       ⟨some 6, none, .mov true, [.c (.p (.int .u64 0))]⟩,
       ⟨some 7, none, .mov true, [.t 170]⟩])
    .ret)
   .skip))
  (.seq
  (.reg [⟨some 171, none, .mov false, [.t 13]⟩,
     ⟨some 6, none, .mov true, [.t 171]⟩,
     ⟨some 7, none, .mov true, [.c (.p (.atom .nilIface))]⟩])
  .ret))))))))))))))⟩
-- a loop, at its head alive: [1, 8, 9, 10, 11, 12, 13, 99, 100, 101]
theorem k201 : chkF Tryz.prog 201 F201 = true := by kernel_rfl
def F206 : Fn := ⟨8, 0, [.tmp 4],
 (.seq
  (.reg [⟨some 4, none, .mov true, [.c (.p (.int .i64 0))]⟩])
  (.seq
  (.reg [⟨some 5, none, .mov false, [.t 0]⟩,
     ⟨some 6, none, .mov false, [.t 1]⟩,
     ⟨some 7, none, .call 225, [.t 5, .t 6]⟩,
     ⟨some 4, none, .mov true, [.t 7]⟩])
  .ret))⟩
theorem k206 : chkF Tryz.prog 206 F206 = true := by kernel_rfl
def F211 : Fn := ⟨51, 0, [.tmp 4, .tmp 5],
 (.seq
  (.reg [⟨some 4, none, .mov true, [.c (.p (.int .u64 0))]⟩,
     ⟨some 5, none, .mov true, [.c (.p (.int .u64 0))]⟩])
  (.seq
  (.reg [⟨some 14, none, .mov false, [.t 0]⟩,
     ⟨some 15, none, .bin .and, [.t 14, .c (.p (.int .u64 4294967295))]⟩,
     ⟨some 6, none, .mov true, [.t 15]⟩])
  (.seq
  (.reg [⟨some 16, none, .mov false, [.t 0]⟩,
     ⟨some 17, none, .bin .shr, [.t 16, .c (.p (.int .u64 32))]⟩,
     ⟨some 7, none, .mov true, [.t 17]⟩])
  (.seq
  (.reg [⟨some 18, none, .mov false, [.t 1]⟩,
     ⟨some 19, none, .bin .and, [.t 18, .c (.p (.int .u64 4294967295))]⟩,
     ⟨some 8, none, .mov true, [.t 19]⟩])
  (.seq
  (.reg [⟨some 20, none, .mov false, [.t 1]⟩,
     ⟨some 21, none, .bin .shr, [.t 20, .c (.p (.int .u64 32))]⟩,
     ⟨some 9, none, .mov true, [.t 21]⟩])
  (.seq
  (.reg [⟨some 22, none, .mov false, [.t 6]⟩,
     ⟨some 23, none, .mov false, [.t 8]⟩,
     ⟨some 24, none, .bin .mul, [.t 22, .t 23]⟩,
     ⟨some 10, none, .mov true, [.t 24]⟩])
  (.seq
  (.reg [⟨some 25, none, .mov false, [.t 7]⟩,
     ⟨some 26, none, .mov false, [.t 8]⟩,
     ⟨some 27, none, .bin .mul, [.t 25, .t 26]⟩,
     ⟨some 28, none, .mov false, [.t 10]⟩,
     ⟨some 29, none, .bin .shr, [.t 28, .c (.p (.int .u64 32))]⟩,
     ⟨some 30, none, .bin .add, [.t 27, .t 29]⟩,
     ⟨some 11, none, .mov true, [.t 30]⟩])
  (.seq
  (.reg [⟨some 31, none, .mov false, [.t 11]⟩,
     ⟨some 32, none, .bin .and, [.t 31, .c (.p (.int .u64 4294967295))]⟩,
     ⟨some 12, none, .mov true, [.t 32]⟩])
  (.seq
  (.reg [⟨some 33, none, .mov false, [.t 11]⟩,
     ⟨some 34, none, .bin .shr, [.t 33, .c (.p (.int .u64 32))]⟩,
     ⟨some 13, none, .mov true, [.t 34]⟩])
  (.seq
  (.reg [⟨some 35, none, .mov false, [.t 12]⟩,
     ⟨some 36, none, .mov false, [.t 6]⟩,
     ⟨some 37, none, .mov false, [.t 9]⟩,
     ⟨some 38, none, .bin .mul, [.t 36, .t 37]⟩,
     ⟨some 39, none, .bin .add, [.t 35, .t 38]⟩,
     ⟨some 12, none, .mov true, [.t 39]⟩])
  (.seq
  (.reg [⟨some 40, none, .mov false, [.t 7]⟩,
     ⟨some 41, none, .mov false, [.t 9]⟩,
     ⟨some 42, none, .bin .mul, [.t 40, .t 41]⟩,
     ⟨some 43, none, .mov false, [.t 13]⟩,
     ⟨some 44, none, .bin .add, [.t 42, .t 43]⟩,
     ⟨some 45, none, .mov false, [.t 12]⟩,
     ⟨some 46, none, .bin .shr, [.t 45, .c (.p (.int .u64 32))]⟩,
     ⟨some 47, none, .bin .add, [.t 44, .t 46]⟩,
     ⟨some 4, none, .mov true, [.t 47]⟩])
  (.seq
  (.reg [⟨some 48, none, .mov false, [.t 0]⟩,
     ⟨some 49, none, .mov false, [.t 1]⟩,
     ⟨some 50, none, .bin .mul, [.t 48, .t 49]⟩,
     ⟨some 5, none, .mov true, [.t 50]⟩])
  .ret))))))))))))⟩
theorem k211 : chkF Tryz.prog 211 F211 = true := by kernel_rfl
def F220 : Fn := ⟨5, 0, [.tmp 2],
 (.seq
  (.reg [⟨some 2, none, .mov true, [.c (.p (.int .u8 0))]⟩])
  (.seq
  (.reg [⟨some 3, none, .mov false, [.t 0]⟩,
     ⟨some 4, none, .bin .or, [.t 3, .c (.p (.int .u8 32))]⟩,
     ⟨some 2, none, .mov true, [.t 4]⟩])
  .ret))⟩
theorem k220 : chkF Tryz.prog 220 F220 = true := by kernel_rfl

end Go.Proofs.YtkjghcbnmipgfaaGreatDoor.Vc
