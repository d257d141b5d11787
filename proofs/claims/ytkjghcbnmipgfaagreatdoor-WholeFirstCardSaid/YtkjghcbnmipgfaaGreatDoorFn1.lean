/- Short forms of functions, and that they are those functions. No condition. -/
import Derived.Test.YtkjghcbnmipgfaaGreatDoorVcEv
import Derived.Test.YtkjghcbnmipgfaaGreatDoorProg
namespace Go.Proofs.YtkjghcbnmipgfaaGreatDoor.Vc
open Go.RowKit

def F3 : Fn := ⟨83, 5, [.tmp 10],
 (.seq
  (.reg [⟨some 5, none, .box 0 5, [.t 0]⟩,
     ⟨some 7, none, .box 1 4, [.t 2]⟩,
     ⟨some 9, none, .box 2 3, [.t 4]⟩,
     ⟨some 10, none, .mov true, [.c (.p (.bool false))]⟩])
  (.seq
  (.reg [⟨some 18, none, .call 18, []⟩,
     ⟨some 11, none, .mov true, [.t 18]⟩])
  (.seq
  (.seq
   (.reg [⟨some 19, none, .mov false, [.t 11]⟩,
      ⟨some 20, none, .un .not, [.t 19]⟩])
   (.cond (.t 20)
   (.seq
    (.reg [⟨some 10, none, .mov true, [.c (.p (.bool false))]⟩])
    .ret)
   .skip))
  (.seq
  (.reg [⟨some 21, none, .load 5 true false, [.t 5]⟩,
     ⟨some 22, none, .call 19, [.t 21]⟩,
     ⟨none, none, .store 5, [.t 5, .t 22]⟩])
  (.seq
  (.reg [⟨some 23, none, .load 5 true false, [.t 5]⟩,
     ⟨some 24, none, .mov false, [.t 1]⟩,
     ⟨some 25, none, .call 20, [.t 23, .t 24]⟩,
     ⟨some 12, none, .mov true, [.t 25]⟩])
  (.seq
  (.reg [⟨some 27, none, .load 5 true false, [.t 5]⟩,
     ⟨some 28, none, .load 4 true false, [.t 7]⟩,
     ⟨some 29, none, .call 21, [.t 27, .t 28]⟩,
     ⟨some 26, none, .mov false, [.t 29]⟩,
     ⟨some 30, none, .ext 0, [.t 26]⟩,
     ⟨some 31, none, .ext 1, [.t 26]⟩,
     ⟨none, none, .store 4, [.t 7, .t 30]⟩,
     ⟨some 13, none, .mov true, [.t 31]⟩])
  (.seq
  (.seq
   (.reg [⟨some 32, none, .mov false, [.t 13]⟩,
      ⟨some 33, none, .un .not, [.t 32]⟩,
      ⟨some 34, none, .mov false, [.t 33]⟩,
      ⟨some 35, (some (34, false)), .mov false, [.t 3]⟩,
      ⟨some 36, (some (34, false)), .bin .lss, [.t 35, .c (.p (.int .i64 0))]⟩,
      ⟨some 37, none, .pick, [.t 34, .c (.p (.bool true)), .t 36]⟩,
      ⟨some 38, none, .mov false, [.t 37]⟩,
      ⟨some 39, (some (38, false)), .mov false, [.t 3]⟩,
      ⟨some 40, (some (38, false)), .bin .gtr, [.t 39, .c (.p (.int .i64 1000))]⟩,
      ⟨some 41, none, .pick, [.t 38, .c (.p (.bool true)), .t 40]⟩])
   (.cond (.t 41)
   (.seq
    (.reg [⟨some 10, none, .mov true, [.c (.p (.bool true))]⟩])
    .ret)
   .skip))
  (.seq
  (.reg [⟨some 43, none, .mov false, [.t 12]⟩,
     ⟨some 44, none, .load 4 true false, [.t 7]⟩,
     ⟨some 45, none, .mov false, [.t 3]⟩,
     ⟨some 46, none, .call 22, [.t 43, .t 44, .t 45]⟩,
     ⟨some 42, none, .mov false, [.t 46]⟩,
     ⟨some 47, none, .ext 0, [.t 42]⟩,
     ⟨some 48, none, .ext 1, [.t 42]⟩,
     ⟨some 14, none, .alloc 3 2 [.p (.int .i64 0), .ow 4 true []], []⟩,
     ⟨none, none, .store 2, [.t 14, .t 47]⟩,
     ⟨some 15, none, .mov true, [.t 48]⟩])
  (.seq
  (.reg [⟨some 50, none, .mov false, [.t 12]⟩,
     ⟨some 51, none, .load 4 true false, [.t 7]⟩,
     ⟨some 52, none, .mov false, [.t 3]⟩,
     ⟨some 53, none, .call 23, [.t 50, .t 51, .t 52]⟩,
     ⟨some 49, none, .mov false, [.t 53]⟩,
     ⟨some 54, none, .ext 0, [.t 49]⟩,
     ⟨some 55, none, .ext 1, [.t 49]⟩,
     ⟨some 16, none, .alloc 4 2 [.p (.int .i64 0), .ow 4 true []], []⟩,
     ⟨none, none, .store 2, [.t 16, .t 54]⟩,
     ⟨some 17, none, .mov true, [.t 55]⟩])
  (.seq
  (.regd [⟨some 56, none, .mov false, [.t 15]⟩,
     ⟨some 57, none, .mov false, [.t 17]⟩,
     ⟨some 58, none, .eqb false, [.t 56, .t 57]⟩,
     ⟨some 59, none, .mov false, [.t 58]⟩,
     ⟨some 60, (some (59, true)), .at 3 (.load 2 true false), [.t 14]⟩,
     ⟨some 61, (some (59, true)), .at 4 (.load 2 true false), [.t 16]⟩,
     ⟨some 62, (some (59, true)), .pl (.call 24), [.t 60, .t 61]⟩,
     ⟨some 63, none, .pick, [.t 59, .t 62, .c (.p (.bool false))]⟩,
     ⟨some 64, none, .mov false, [.t 63]⟩,
     ⟨some 65, (some (64, true)), .mov false, [.t 12]⟩,
     ⟨some 66, (some (64, true)), .at 2 (.load 3 true false), [.t 9]⟩,
     ⟨some 67, (some (64, true)), .pl (.call 25), [.t 65, .t 66]⟩,
     ⟨some 68, (some (64, true)), .mov false, [.t 12]⟩,
     ⟨some 69, (some (64, true)), .at 2 (.load 3 true false), [.t 9]⟩,
     ⟨some 70, (some (64, true)), .pl (.call 26), [.t 68, .t 69]⟩,
     ⟨some 71, (some (64, true)), .bin .eql, [.t 67, .t 70]⟩,
     ⟨some 72, none, .pick, [.t 64, .t 71, .c (.p (.bool false))]⟩,
     ⟨some 73, none, .mov false, [.t 72]⟩,
     ⟨some 74, (some (73, true)), .mov false, [.t 15]⟩,
     ⟨some 75, (some (73, true)), .un .not, [.t 74]⟩,
     ⟨some 76, (some (73, true)), .mov false, [.t 75]⟩,
     ⟨some 77, (some (76, false)), .at 0 (.load 5 true false), [.t 5]⟩,
     ⟨some 78, (some (76, false)), .at 1 (.load 4 true false), [.t 7]⟩,
     ⟨some 79, (some (76, false)), .at 3 (.load 2 true false), [.t 14]⟩,
     ⟨some 80, (some (76, false)), .pl (.call 27), [.t 77, .t 78, .t 79]⟩,
     ⟨some 81, (some (73, true)), .pick, [.t 76, .c (.p (.bool true)), .t 80]⟩,
     ⟨some 82, none, .pick, [.t 73, .t 81, .c (.p (.bool false))]⟩,
     ⟨some 10, none, .mov true, [.t 82]⟩])
  .ret))))))))))⟩
theorem k3 : chkF Tryz.prog 3 F3 = true := by kernel_rfl
def F4 : Fn := ⟨83, 4, [.tmp 8],
 (.seq
  (.reg [⟨some 4, none, .box 0 5, [.t 0]⟩,
     ⟨some 6, none, .box 1 4, [.t 2]⟩,
     ⟨some 8, none, .mov true, [.c (.p (.bool false))]⟩])
  (.seq
  (.reg [⟨some 16, none, .call 18, []⟩,
     ⟨some 9, none, .mov true, [.t 16]⟩])
  (.seq
  (.seq
   (.reg [⟨some 17, none, .mov false, [.t 9]⟩,
      ⟨some 18, none, .un .not, [.t 17]⟩])
   (.cond (.t 18)
   (.seq
    (.reg [⟨some 8, none, .mov true, [.c (.p (.bool false))]⟩])
    .ret)
   .skip))
  (.seq
  (.reg [⟨some 19, none, .load 5 true false, [.t 4]⟩,
     ⟨some 20, none, .call 19, [.t 19]⟩,
     ⟨none, none, .store 5, [.t 4, .t 20]⟩])
  (.seq
  (.reg [⟨some 21, none, .load 5 true false, [.t 4]⟩,
     ⟨some 22, none, .mov false, [.t 1]⟩,
     ⟨some 23, none, .call 20, [.t 21, .t 22]⟩,
     ⟨some 10, none, .mov true, [.t 23]⟩])
  (.seq
  (.reg [⟨some 25, none, .load 5 true false, [.t 4]⟩,
     ⟨some 26, none, .load 4 true false, [.t 6]⟩,
     ⟨some 27, none, .call 21, [.t 25, .t 26]⟩,
     ⟨some 24, none, .mov false, [.t 27]⟩,
     ⟨some 28, none, .ext 0, [.t 24]⟩,
     ⟨some 29, none, .ext 1, [.t 24]⟩,
     ⟨none, none, .store 4, [.t 6, .t 28]⟩,
     ⟨some 11, none, .mov true, [.t 29]⟩])
  (.seq
  (.seq
   (.reg [⟨some 30, none, .mov false, [.t 11]⟩,
      ⟨some 31, none, .un .not, [.t 30]⟩])
   (.cond (.t 31)
   (.seq
    (.reg [⟨some 8, none, .mov true, [.c (.p (.bool true))]⟩])
    .ret)
   .skip))
  (.seq
  (.reg [⟨some 33, none, .load 5 true false, [.t 4]⟩,
     ⟨some 34, none, .mov false, [.t 10]⟩,
     ⟨some 35, none, .load 4 true false, [.t 6]⟩,
     ⟨some 36, none, .call 28, [.t 33, .t 34, .t 35]⟩,
     ⟨some 32, none, .mov false, [.t 36]⟩,
     ⟨some 37, none, .ext 0, [.t 32]⟩,
     ⟨some 38, none, .ext 1, [.t 32]⟩,
     ⟨some 12, none, .alloc 2 2 [.p (.int .i64 0), .ow 4 true []], []⟩,
     ⟨none, none, .store 2, [.t 12, .t 37]⟩,
     ⟨some 13, none, .mov true, [.t 38]⟩])
  (.seq
  (.reg [⟨some 40, none, .load 5 true false, [.t 4]⟩,
     ⟨some 41, none, .mov false, [.t 10]⟩,
     ⟨some 42, none, .load 4 true false, [.t 6]⟩,
     ⟨some 43, none, .call 29, [.t 40, .t 41, .t 42]⟩,
     ⟨some 39, none, .mov false, [.t 43]⟩,
     ⟨some 44, none, .ext 0, [.t 39]⟩,
     ⟨some 45, none, .ext 1, [.t 39]⟩,
     ⟨some 14, none, .alloc 3 2 [.p (.int .i64 0), .ow 4 true []], []⟩,
     ⟨none, none, .store 2, [.t 14, .t 44]⟩,
     ⟨some 15, none, .mov true, [.t 45]⟩])
  (.seq
  (.regd [⟨some 46, none, .mov false, [.t 13]⟩,
     ⟨some 47, none, .mov false, [.t 15]⟩,
     ⟨some 48, none, .eqb false, [.t 46, .t 47]⟩,
     ⟨some 49, none, .mov false, [.t 48]⟩,
     ⟨some 50, (some (49, true)), .at 2 (.load 2 true false), [.t 12]⟩,
     ⟨some 51, (some (49, true)), .at 3 (.load 2 true false), [.t 14]⟩,
     ⟨some 52, (some (49, true)), .pl (.call 24), [.t 50, .t 51]⟩,
     ⟨some 53, none, .pick, [.t 49, .t 52, .c (.p (.bool false))]⟩,
     ⟨some 54, none, .mov false, [.t 53]⟩,
     ⟨some 55, (some (54, true)), .mov false, [.t 13]⟩,
     ⟨some 56, (some (54, true)), .un .not, [.t 55]⟩,
     ⟨some 57, (some (54, true)), .mov false, [.t 56]⟩,
     ⟨some 58, (some (57, false)), .at 0 (.load 5 true false), [.t 4]⟩,
     ⟨some 59, (some (57, false)), .at 1 (.load 4 true false), [.t 6]⟩,
     ⟨some 60, (some (57, false)), .at 2 (.load 2 true false), [.t 12]⟩,
     ⟨some 61, (some (57, false)), .pl (.call 27), [.t 58, .t 59, .t 60]⟩,
     ⟨some 62, (some (54, true)), .pick, [.t 57, .c (.p (.bool true)), .t 61]⟩,
     ⟨some 63, none, .pick, [.t 54, .t 62, .c (.p (.bool false))]⟩,
     ⟨some 64, none, .mov false, [.t 63]⟩,
     ⟨some 65, (some (64, true)), .mov false, [.t 3]⟩,
     ⟨some 66, (some (64, true)), .bin .gtr, [.t 65, .c (.p (.int .i64 40))]⟩,
     ⟨some 67, (some (64, true)), .mov false, [.t 66]⟩,
     ⟨some 68, (some (67, false)), .mov false, [.t 3]⟩,
     ⟨some 69, (some (67, false)), .bin .lss, [.t 68, .c (.p (.int .i64 (-40)))]⟩,
     ⟨some 70, (some (64, true)), .pick, [.t 67, .c (.p (.bool true)), .t 69]⟩,
     ⟨some 71, (some (64, true)), .mov false, [.t 70]⟩,
     ⟨some 72, (some (71, false)), .at 0 (.load 5 true false), [.t 4]⟩,
     ⟨some 73, (some (71, false)), .at 1 (.load 4 true false), [.t 6]⟩,
     ⟨some 74, (some (71, false)), .mov false, [.t 3]⟩,
     ⟨some 75, (some (71, false)), .pl (.call 30), [.t 72, .t 73, .t 74]⟩,
     ⟨some 76, (some (71, false)), .at 0 (.load 5 true false), [.t 4]⟩,
     ⟨some 77, (some (71, false)), .at 1 (.load 4 true false), [.t 6]⟩,
     ⟨some 78, (some (71, false)), .mov false, [.t 3]⟩,
     ⟨some 79, (some (71, false)), .pl (.call 31), [.t 76, .t 77, .t 78]⟩,
     ⟨some 80, (some (71, false)), .bin .eql, [.t 75, .t 79]⟩,
     ⟨some 81, (some (64, true)), .pick, [.t 71, .c (.p (.bool true)), .t 80]⟩,
     ⟨some 82, none, .pick, [.t 64, .t 81, .c (.p (.bool false))]⟩,
     ⟨some 8, none, .mov true, [.t 82]⟩])
  .ret))))))))))⟩
theorem k4 : chkF Tryz.prog 4 F4 = true := by kernel_rfl
def F5 : Fn := ⟨62, 4, [.tmp 6],
 (.seq
  (.reg [⟨some 3, none, .box 0 5, [.t 0]⟩,
     ⟨some 5, none, .box 1 4, [.t 2]⟩,
     ⟨some 6, none, .mov true, [.c (.p (.bool false))]⟩])
  (.seq
  (.reg [⟨some 14, none, .call 18, []⟩,
     ⟨some 7, none, .mov true, [.t 14]⟩])
  (.seq
  (.seq
   (.reg [⟨some 15, none, .mov false, [.t 7]⟩,
      ⟨some 16, none, .un .not, [.t 15]⟩])
   (.cond (.t 16)
   (.seq
    (.reg [⟨some 6, none, .mov true, [.c (.p (.bool false))]⟩])
    .ret)
   .skip))
  (.seq
  (.reg [⟨some 17, none, .load 5 true false, [.t 3]⟩,
     ⟨some 18, none, .call 19, [.t 17]⟩,
     ⟨none, none, .store 5, [.t 3, .t 18]⟩])
  (.seq
  (.reg [⟨some 19, none, .load 5 true false, [.t 3]⟩,
     ⟨some 20, none, .mov false, [.t 1]⟩,
     ⟨some 21, none, .call 20, [.t 19, .t 20]⟩,
     ⟨some 8, none, .mov true, [.t 21]⟩])
  (.seq
  (.reg [⟨some 23, none, .load 5 true false, [.t 3]⟩,
     ⟨some 24, none, .load 4 true false, [.t 5]⟩,
     ⟨some 25, none, .call 21, [.t 23, .t 24]⟩,
     ⟨some 22, none, .mov false, [.t 25]⟩,
     ⟨some 26, none, .ext 0, [.t 22]⟩,
     ⟨some 27, none, .ext 1, [.t 22]⟩,
     ⟨none, none, .store 4, [.t 5, .t 26]⟩,
     ⟨some 9, none, .mov true, [.t 27]⟩])
  (.seq
  (.seq
   (.reg [⟨some 28, none, .mov false, [.t 9]⟩,
      ⟨some 29, none, .un .not, [.t 28]⟩])
   (.cond (.t 29)
   (.seq
    (.reg [⟨some 6, none, .mov true, [.c (.p (.bool true))]⟩])
    .ret)
   .skip))
  (.seq
  (.reg [⟨some 31, none, .load 5 true false, [.t 3]⟩,
     ⟨some 32, none, .mov false, [.t 8]⟩,
     ⟨some 33, none, .load 4 true false, [.t 5]⟩,
     ⟨some 34, none, .call 32, [.t 31, .t 32, .t 33]⟩,
     ⟨some 30, none, .mov false, [.t 34]⟩,
     ⟨some 35, none, .ext 0, [.t 30]⟩,
     ⟨some 36, none, .ext 1, [.t 30]⟩,
     ⟨some 10, none, .alloc 2 2 [.p (.int .i64 0), .ow 4 true []], []⟩,
     ⟨none, none, .store 2, [.t 10, .t 35]⟩,
     ⟨some 11, none, .mov true, [.t 36]⟩])
  (.seq
  (.reg [⟨some 38, none, .load 5 true false, [.t 3]⟩,
     ⟨some 39, none, .mov false, [.t 8]⟩,
     ⟨some 40, none, .load 4 true false, [.t 5]⟩,
     ⟨some 41, none, .call 33, [.t 38, .t 39, .t 40]⟩,
     ⟨some 37, none, .mov false, [.t 41]⟩,
     ⟨some 42, none, .ext 0, [.t 37]⟩,
     ⟨some 43, none, .ext 1, [.t 37]⟩,
     ⟨some 12, none, .alloc 3 2 [.p (.int .i64 0), .ow 4 true []], []⟩,
     ⟨none, none, .store 2, [.t 12, .t 42]⟩,
     ⟨some 13, none, .mov true, [.t 43]⟩])
  (.seq
  (.reg [⟨some 44, none, .mov false, [.t 11]⟩,
     ⟨some 45, none, .mov false, [.t 13]⟩,
     ⟨some 46, none, .eqb false, [.t 44, .t 45]⟩,
     ⟨some 47, none, .mov false, [.t 46]⟩,
     ⟨some 48, (some (47, true)), .load 2 true false, [.t 10]⟩,
     ⟨some 49, (some (47, true)), .load 2 true false, [.t 12]⟩,
     ⟨some 50, (some (47, true)), .call 24, [.t 48, .t 49]⟩,
     ⟨some 51, none, .pick, [.t 47, .t 50, .c (.p (.bool false))]⟩,
     ⟨some 52, none, .mov false, [.t 51]⟩,
     ⟨some 53, (some (52, true)), .mov false, [.t 11]⟩,
     ⟨some 54, (some (52, true)), .un .not, [.t 53]⟩,
     ⟨some 55, (some (52, true)), .mov false, [.t 54]⟩,
     ⟨some 56, (some (55, false)), .load 5 true false, [.t 3]⟩,
     ⟨some 57, (some (55, false)), .load 4 true false, [.t 5]⟩,
     ⟨some 58, (some (55, false)), .load 2 true false, [.t 10]⟩,
     ⟨some 59, (some (55, false)), .call 27, [.t 56, .t 57, .t 58]⟩,
     ⟨some 60, (some (52, true)), .pick, [.t 55, .c (.p (.bool true)), .t 59]⟩,
     ⟨some 61, none, .pick, [.t 52, .t 60, .c (.p (.bool false))]⟩,
     ⟨some 6, none, .mov true, [.t 61]⟩])
  .ret))))))))))⟩
theorem k5 : chkF Tryz.prog 5 F5 = true := by kernel_rfl
def F6 : Fn := ⟨124, 4, [.tmp 8],
 (.seq
  (.reg [⟨some 4, none, .box 0 5, [.t 0]⟩,
     ⟨some 6, none, .box 1 4, [.t 2]⟩,
     ⟨some 8, none, .mov true, [.c (.p (.bool false))]⟩])
  (.seq
  (.reg [⟨some 17, none, .call 18, []⟩,
     ⟨some 9, none, .mov true, [.t 17]⟩])
  (.seq
  (.seq
   (.reg [⟨some 18, none, .mov false, [.t 9]⟩,
      ⟨some 19, none, .un .not, [.t 18]⟩])
   (.cond (.t 19)
   (.seq
    (.reg [⟨some 8, none, .mov true, [.c (.p (.bool false))]⟩])
    .ret)
   .skip))
  (.seq
  (.reg [⟨some 20, none, .load 5 true false, [.t 4]⟩,
     ⟨some 21, none, .call 19, [.t 20]⟩,
     ⟨none, none, .store 5, [.t 4, .t 21]⟩])
  (.seq
  (.reg [⟨some 22, none, .load 5 true false, [.t 4]⟩,
     ⟨some 23, none, .mov false, [.t 1]⟩,
     ⟨some 24, none, .call 20, [.t 22, .t 23]⟩,
     ⟨some 10, none, .mov true, [.t 24]⟩])
  (.seq
  (.reg [⟨some 26, none, .load 5 true false, [.t 4]⟩,
     ⟨some 27, none, .load 4 true false, [.t 6]⟩,
     ⟨some 28, none, .call 21, [.t 26, .t 27]⟩,
     ⟨some 25, none, .mov false, [.t 28]⟩,
     ⟨some 29, none, .ext 0, [.t 25]⟩,
     ⟨some 30, none, .ext 1, [.t 25]⟩,
     ⟨none, none, .store 4, [.t 6, .t 29]⟩,
     ⟨some 11, none, .mov true, [.t 30]⟩])
  (.seq
  (.seq
   (.reg [⟨some 31, none, .mov false, [.t 11]⟩,
      ⟨some 32, none, .un .not, [.t 31]⟩])
   (.cond (.t 32)
   (.seq
    (.reg [⟨some 8, none, .mov true, [.c (.p (.bool true))]⟩])
    .ret)
   .skip))
  (.seq
  (.reg [⟨some 34, none, .load 5 true false, [.t 4]⟩,
     ⟨some 35, none, .mov false, [.t 10]⟩,
     ⟨some 36, none, .load 4 true false, [.t 6]⟩,
     ⟨some 37, none, .call 28, [.t 34, .t 35, .t 36]⟩,
     ⟨some 33, none, .mov false, [.t 37]⟩,
     ⟨some 38, none, .ext 0, [.t 33]⟩,
     ⟨some 39, none, .ext 1, [.t 33]⟩,
     ⟨some 12, none, .alloc 2 2 [.p (.int .i64 0), .ow 4 true []], []⟩,
     ⟨none, none, .store 2, [.t 12, .t 38]⟩,
     ⟨some 13, none, .mov true, [.t 39]⟩])
  (.seq
  (.seq
   (.reg [⟨some 40, none, .mov false, [.t 3]⟩])
   (.cond (.t 40)
   (.reg [⟨some 42, none, .load 5 true false, [.t 4]⟩,
      ⟨some 43, none, .mov false, [.t 10]⟩,
      ⟨some 44, none, .load 4 true false, [.t 6]⟩,
      ⟨some 45, none, .call 32, [.t 42, .t 43, .t 44]⟩,
      ⟨some 41, none, .mov false, [.t 45]⟩,
      ⟨some 46, none, .ext 0, [.t 41]⟩,
      ⟨some 47, none, .ext 1, [.t 41]⟩,
      ⟨none, none, .store 2, [.t 12, .t 46]⟩,
      ⟨some 13, none, .mov true, [.t 47]⟩])
   .skip))
  (.seq
  (.reg [⟨some 14, none, .mov true, [.c (.p (.int .i64 0))]⟩])
  (.seq
  (.seq
   (.reg [⟨some 15, none, .mov true, [.c (.p (.int .i64 0))]⟩])
   (.block 0
   (.loop [0, 1, 2, 3, 8, 9, 11, 16, 17, 18, 19, 20, 21, 22, 23, 24, 25, 26, 27, 28, 29, 30, 31, 32, 33, 34, 35, 36, 37, 38, 39, 40, 41, 42, 43, 44, 45, 46, 47, 48, 49, 50, 51, 52, 53, 54, 55, 56, 57, 58, 59, 60, 61, 62, 63, 64, 65, 66, 67, 68, 69, 70, 71, 72, 73, 74, 75, 76, 77, 78, 79, 80, 81, 82, 83, 84, 85, 86, 87, 88, 89, 90, 91, 92, 93, 94, 95, 96, 97, 98, 99, 100, 101, 102, 103, 104, 105, 106, 107, 108, 109, 110, 111, 112, 113, 114, 115, 116, 117, 118, 119, 120, 121, 122, 123] [3]
    (.seq
     (.seq
      (.reg [⟨some 48, none, .mov false, [.t 15]⟩,
         ⟨some 49, none, .fad 1, [.t 12]⟩,
         ⟨some 50, none, .load 1 false false, [.t 49]⟩,
         ⟨some 51, none, .len, [.t 50]⟩,
         ⟨some 52, none, .bin .lss, [.t 48, .t 51]⟩])
      (.cond (.t 52)
      .skip
      (.exit 0)))
     (.seq
     (.block 1
      (.seq
       (.reg [⟨some 55, none, .fad 1, [.t 12]⟩,
          ⟨some 56, none, .load 1 false false, [.t 55]⟩,
          ⟨some 57, none, .mov false, [.t 15]⟩,
          ⟨some 58, none, .iad 4, [.t 56, .t 57]⟩,
          ⟨some 59, none, .load 4 true false, [.t 58]⟩,
          ⟨some 16, none, .alloc 3 4 [.p (.int .i64 0), .p (.int .i64 0), .p (.int .i64 0), .p (.int .i64 0)], []⟩,
          ⟨none, none, .store 4, [.t 16, .t 59]⟩])
       (.seq
       (.seq
        (.regd [⟨some 60, none, .fad 0, [.t 16]⟩,
           ⟨some 61, none, .at 3 (.load 1 false false), [.t 60]⟩,
           ⟨some 62, none, .bin .lss, [.t 61, .c (.p (.int .i64 0))]⟩,
           ⟨some 63, none, .mov false, [.t 62]⟩,
           ⟨some 64, (some (63, false)), .fad 0, [.t 16]⟩,
           ⟨some 65, (some (63, false)), .at 3 (.load 1 false false), [.t 64]⟩,
           ⟨some 66, (some (63, false)), .fad 0, [.t 4]⟩,
           ⟨some 67, (some (63, false)), .at 0 (.load 1 false false), [.t 66]⟩,
           ⟨some 68, (some (63, false)), .bin .geq, [.t 65, .t 67]⟩,
           ⟨some 69, none, .pick, [.t 63, .c (.p (.bool true)), .t 68]⟩,
           ⟨some 70, none, .mov false, [.t 69]⟩,
           ⟨some 71, (some (70, false)), .mov false, [.t 10]⟩,
           ⟨some 72, (some (70, false)), .fad 0, [.t 16]⟩,
           ⟨some 73, (some (70, false)), .at 3 (.load 1 false false), [.t 72]⟩,
           ⟨some 74, (some (70, false)), .iad 1, [.t 71, .t 73]⟩,
           ⟨some 75, (some (70, false)), .loadp 1 false, [.t 74]⟩,
           ⟨some 76, (some (70, false)), .pl (.app 3 24), [.c (.ow 3 true []), .t 75]⟩,
           ⟨some 77, (some (70, false)), .fad 3, [.t 16]⟩,
           ⟨some 78, (some (70, false)), .at 3 (.load 1 false false), [.t 77]⟩,
           ⟨some 79, (some (70, false)), .fad 2, [.t 16]⟩,
           ⟨some 80, (some (70, false)), .at 3 (.load 1 false false), [.t 79]⟩,
           ⟨some 81, (some (70, false)), .fad 2, [.t 6]⟩,
           ⟨some 82, (some (70, false)), .at 1 (.load 1 false false), [.t 81]⟩,
           ⟨some 83, (some (70, false)), .build [.int .i64 0, .int .i64 0, .int .i64 0] [(0, 1), (1, 1), (2, 1)], [.t 78, .t 80, .t 82]⟩,
           ⟨some 84, (some (70, false)), .bsl 3 1, [.t 83]⟩,
           ⟨some 85, (some (70, false)), .pl (.app 3 24), [.t 76, .t 84]⟩,
           ⟨some 86, (some (70, false)), .pl (.call 34), [.t 85]⟩,
           ⟨some 87, (some (70, false)), .un .not, [.t 86]⟩,
           ⟨some 88, none, .pick, [.t 70, .c (.p (.bool true)), .t 87]⟩])
        (.cond (.t 88)
        (.seq
         (.reg [⟨some 8, none, .mov true, [.c (.p (.bool false))]⟩])
         .ret)
        .skip))
       (.reg [⟨some 89, none, .mov false, [.t 14]⟩,
         ⟨some 90, none, .fad 3, [.t 16]⟩,
         ⟨some 91, none, .load 1 false false, [.t 90]⟩,
         ⟨some 92, none, .bin .add, [.t 89, .t 91]⟩,
         ⟨some 14, none, .mov true, [.t 92]⟩]))))
     (.reg [⟨some 53, none, .mov false, [.t 15]⟩,
       ⟨some 54, none, .bin .add, [.t 53, .c (.p (.int .i64 1))]⟩,
       ⟨some 15, none, .mov true, [.t 54]⟩]))))))
  (.seq
  (.reg [⟨some 93, none, .mov false, [.t 13]⟩,
     ⟨some 94, none, .un .not, [.t 93]⟩,
     ⟨some 95, none, .mov false, [.t 94]⟩,
     ⟨some 96, (some (95, true)), .fad 1, [.t 12]⟩,
     ⟨some 97, (some (95, true)), .load 1 false false, [.t 96]⟩,
     ⟨some 98, (some (95, true)), .len, [.t 97]⟩,
     ⟨some 99, (some (95, true)), .bin .eql, [.t 98, .c (.p (.int .i64 0))]⟩,
     ⟨some 100, none, .pick, [.t 95, .t 99, .c (.p (.bool false))]⟩,
     ⟨some 101, none, .mov false, [.t 100]⟩,
     ⟨some 102, (some (101, false)), .mov false, [.t 13]⟩,
     ⟨some 103, (some (101, false)), .mov false, [.t 102]⟩,
     ⟨some 104, (some (103, true)), .mov false, [.t 14]⟩,
     ⟨some 105, (some (103, true)), .fad 0, [.t 6]⟩,
     ⟨some 106, (some (103, true)), .load 1 false false, [.t 105]⟩,
     ⟨some 107, (some (103, true)), .fad 1, [.t 12]⟩,
     ⟨some 108, (some (103, true)), .load 1 false false, [.t 107]⟩,
     ⟨some 109, (some (103, true)), .len, [.t 108]⟩,
     ⟨some 110, (some (103, true)), .bin .sub, [.t 109, .c (.p (.int .i64 1))]⟩,
     ⟨some 111, (some (103, true)), .fad 3, [.t 4]⟩,
     ⟨some 112, (some (103, true)), .load 1 false false, [.t 111]⟩,
     ⟨some 113, (some (103, true)), .bin .mul, [.t 110, .t 112]⟩,
     ⟨some 114, (some (103, true)), .bin .add, [.t 106, .t 113]⟩,
     ⟨some 115, (some (103, true)), .bin .eql, [.t 104, .t 114]⟩,
     ⟨some 116, (some (101, false)), .pick, [.t 103, .t 115, .c (.p (.bool false))]⟩,
     ⟨some 117, (some (101, false)), .mov false, [.t 116]⟩,
     ⟨some 118, (some (117, true)), .load 2 true false, [.t 12]⟩,
     ⟨some 119, (some (117, true)), .call 35, [.t 118]⟩,
     ⟨some 120, (some (117, true)), .mov false, [.t 14]⟩,
     ⟨some 121, (some (117, true)), .bin .eql, [.t 119, .t 120]⟩,
     ⟨some 122, (some (101, false)), .pick, [.t 117, .t 121, .c (.p (.bool false))]⟩,
     ⟨some 123, none, .pick, [.t 101, .c (.p (.bool true)), .t 122]⟩,
     ⟨some 8, none, .mov true, [.t 123]⟩])
  .ret))))))))))))⟩
-- a loop, at its head alive: [4, 6, 10, 12, 13, 14, 15]
theorem k6 : chkF Tryz.prog 6 F6 = true := by kernel_rfl
def F7 : Fn := ⟨135, 4, [.tmp 12],
 (.seq
  (.reg [⟨some 6, none, .box 0 5, [.t 0]⟩,
     ⟨some 7, none, .box 1 4, [.t 1]⟩,
     ⟨some 8, none, .box 2 2, [.t 2]⟩,
     ⟨some 9, none, .box 3 2, [.t 3]⟩,
     ⟨some 12, none, .mov true, [.c (.p (.bool false))]⟩])
  (.seq
  (.reg [⟨some 18, none, .call 18, []⟩,
     ⟨some 13, none, .mov true, [.t 18]⟩])
  (.seq
  (.seq
   (.reg [⟨some 19, none, .mov false, [.t 13]⟩,
      ⟨some 20, none, .un .not, [.t 19]⟩])
   (.cond (.t 20)
   (.seq
    (.reg [⟨some 12, none, .mov true, [.c (.p (.bool false))]⟩])
    .ret)
   .skip))
  (.seq
  (.reg [⟨some 21, none, .load 5 true false, [.t 6]⟩,
     ⟨some 22, none, .call 19, [.t 21]⟩,
     ⟨none, none, .store 5, [.t 6, .t 22]⟩])
  (.seq
  (.reg [⟨some 24, none, .load 5 true false, [.t 6]⟩,
     ⟨some 25, none, .load 4 true false, [.t 7]⟩,
     ⟨some 26, none, .call 21, [.t 24, .t 25]⟩,
     ⟨some 23, none, .mov false, [.t 26]⟩,
     ⟨some 27, none, .ext 0, [.t 23]⟩,
     ⟨some 28, none, .ext 1, [.t 23]⟩,
     ⟨none, none, .store 4, [.t 7, .t 27]⟩,
     ⟨some 14, none, .mov true, [.t 28]⟩])
  (.seq
  (.regd [⟨some 29, none, .fad 1, [.t 8]⟩,
     ⟨some 30, none, .at 2 (.load 1 false false), [.t 29]⟩,
     ⟨some 31, none, .fad 1, [.t 8]⟩,
     ⟨some 32, none, .at 2 (.load 1 false false), [.t 31]⟩,
     ⟨some 33, none, .lenD, [.t 32]⟩,
     ⟨some 34, none, .mn, [.t 33, .c (.p (.int .i64 8))]⟩,
     ⟨some 35, none, .slc 4 false true, [.t 30, .t 34]⟩,
     ⟨some 36, none, .fad 1, [.t 9]⟩,
     ⟨some 37, none, .at 3 (.load 1 false false), [.t 36]⟩,
     ⟨some 38, none, .fad 1, [.t 9]⟩,
     ⟨some 39, none, .at 3 (.load 1 false false), [.t 38]⟩,
     ⟨some 40, none, .lenD, [.t 39]⟩,
     ⟨some 41, none, .mn, [.t 40, .c (.p (.int .i64 8))]⟩,
     ⟨some 42, none, .slc 4 false true, [.t 37, .t 41]⟩,
     ⟨some 43, none, .fad 1, [.t 8]⟩,
     ⟨none, none, .at 2 (.store 1), [.t 43, .t 35]⟩,
     ⟨some 44, none, .fad 1, [.t 9]⟩,
     ⟨none, none, .at 3 (.store 1), [.t 44, .t 42]⟩])
  (.seq
  (.seq
   (.reg [⟨some 45, none, .mov false, [.t 14]⟩,
      ⟨some 46, none, .un .not, [.t 45]⟩,
      ⟨some 47, none, .mov false, [.t 46]⟩,
      ⟨some 48, (some (47, false)), .mov false, [.t 5]⟩,
      ⟨some 49, (some (47, false)), .bin .lss, [.t 48, .c (.p (.int .i64 0))]⟩,
      ⟨some 50, none, .pick, [.t 47, .c (.p (.bool true)), .t 49]⟩,
      ⟨some 51, none, .mov false, [.t 50]⟩,
      ⟨some 52, (some (51, false)), .mov false, [.t 5]⟩,
      ⟨some 53, (some (51, false)), .bin .gtr, [.t 52, .c (.p (.int .i64 1099511627776))]⟩,
      ⟨some 54, none, .pick, [.t 51, .c (.p (.bool true)), .t 53]⟩])
   (.cond (.t 54)
   (.seq
    (.reg [⟨some 12, none, .mov true, [.c (.p (.bool true))]⟩])
    .ret)
   .skip))
  (.seq
  (.seq
   (.regd [⟨some 55, none, .at 0 (.load 5 true false), [.t 6]⟩,
      ⟨some 56, none, .at 1 (.load 4 true false), [.t 7]⟩,
      ⟨some 57, none, .at 2 (.load 2 true false), [.t 8]⟩,
      ⟨some 58, none, .pl (.call 27), [.t 55, .t 56, .t 57]⟩,
      ⟨some 59, none, .at 0 (.load 5 true false), [.t 6]⟩,
      ⟨some 60, none, .at 1 (.load 4 true false), [.t 7]⟩,
      ⟨some 61, none, .at 2 (.load 2 true false), [.t 8]⟩,
      ⟨some 62, none, .pl (.call 36), [.t 59, .t 60, .t 61]⟩,
      ⟨some 63, none, .eqb true, [.t 58, .t 62]⟩,
      ⟨some 64, none, .mov false, [.t 63]⟩,
      ⟨some 65, (some (64, false)), .at 2 (.load 2 true false), [.t 8]⟩,
      ⟨some 66, (some (64, false)), .at 3 (.load 2 true false), [.t 9]⟩,
      ⟨some 67, (some (64, false)), .pl (.call 37), [.t 65, .t 66]⟩,
      ⟨some 68, (some (64, false)), .at 2 (.load 2 true false), [.t 8]⟩,
      ⟨some 69, (some (64, false)), .at 3 (.load 2 true false), [.t 9]⟩,
      ⟨some 70, (some (64, false)), .pl (.call 24), [.t 68, .t 69]⟩,
      ⟨some 71, (some (64, false)), .eqb true, [.t 67, .t 70]⟩,
      ⟨some 72, none, .pick, [.t 64, .c (.p (.bool true)), .t 71]⟩,
      ⟨some 73, none, .mov false, [.t 72]⟩,
      ⟨some 74, (some (73, false)), .at 2 (.load 2 true false), [.t 8]⟩,
      ⟨some 75, (some (73, false)), .at 2 (.load 2 true false), [.t 8]⟩,
      ⟨some 76, (some (73, false)), .pl (.call 37), [.t 74, .t 75]⟩,
      ⟨some 77, (some (73, false)), .un .not, [.t 76]⟩,
      ⟨some 78, none, .pick, [.t 73, .c (.p (.bool true)), .t 77]⟩])
   (.cond (.t 78)
   (.seq
    (.reg [⟨some 12, none, .mov true, [.c (.p (.bool false))]⟩])
    .ret)
   .skip))
  (.seq
  (.seq
   (.reg [⟨some 79, none, .load 5 true false, [.t 6]⟩,
      ⟨some 80, none, .load 4 true false, [.t 7]⟩,
      ⟨some 81, none, .load 2 true false, [.t 8]⟩,
      ⟨some 82, none, .call 36, [.t 79, .t 80, .t 81]⟩,
      ⟨some 83, none, .un .not, [.t 82]⟩])
   (.cond (.t 83)
   (.seq
    (.reg [⟨some 12, none, .mov true, [.c (.p (.bool true))]⟩])
    .ret)
   .skip))
  (.seq
  (.reg [⟨some 15, none, .mov true, [.c (.p (.int .i64 0))]⟩])
  (.seq
  (.seq
   (.reg [⟨some 16, none, .mov true, [.c (.p (.int .i64 0))]⟩])
   (.block 0
   (.loop [0, 1, 2, 3, 6, 7, 9, 12, 13, 14, 17, 18, 19, 20, 21, 22, 23, 24, 25, 26, 27, 28, 29, 30, 31, 32, 33, 34, 35, 36, 37, 38, 39, 40, 41, 42, 43, 44, 45, 46, 47, 48, 49, 50, 51, 52, 53, 54, 55, 56, 57, 58, 59, 60, 61, 62, 63, 64, 65, 66, 67, 68, 69, 70, 71, 72, 73, 74, 75, 76, 77, 78, 79, 80, 81, 82, 83, 84, 85, 86, 87, 88, 89, 90, 91, 92, 93, 94, 95, 96, 97, 98, 99, 100, 101, 102, 103, 104, 105, 106, 107, 108, 109, 110, 111, 112, 113, 114, 115, 116, 117, 118, 119, 120, 121, 122, 123, 124, 125, 126, 127, 128, 129, 130, 131, 132, 133, 134] []
    (.seq
     (.seq
      (.reg [⟨some 84, none, .mov false, [.t 16]⟩,
         ⟨some 85, none, .fad 1, [.t 8]⟩,
         ⟨some 86, none, .load 1 false false, [.t 85]⟩,
         ⟨some 87, none, .len, [.t 86]⟩,
         ⟨some 88, none, .bin .lss, [.t 84, .t 87]⟩])
      (.cond (.t 88)
      .skip
      (.exit 0)))
     (.seq
     (.block 1
      (.reg [⟨some 91, none, .mov false, [.t 15]⟩,
         ⟨some 92, none, .fad 1, [.t 8]⟩,
         ⟨some 93, none, .load 1 false false, [.t 92]⟩,
         ⟨some 94, none, .mov false, [.t 16]⟩,
         ⟨some 95, none, .iad 4, [.t 93, .t 94]⟩,
         ⟨some 96, none, .fad 3, [.t 95]⟩,
         ⟨some 97, none, .load 1 false false, [.t 96]⟩,
         ⟨some 98, none, .bin .add, [.t 91, .t 97]⟩,
         ⟨some 15, none, .mov true, [.t 98]⟩]))
     (.reg [⟨some 89, none, .mov false, [.t 16]⟩,
       ⟨some 90, none, .bin .add, [.t 89, .c (.p (.int .i64 1))]⟩,
       ⟨some 16, none, .mov true, [.t 90]⟩]))))))
  (.seq
  (.reg [⟨some 17, none, .mov true, [.c (.p (.int .i64 0))]⟩])
  (.seq
  (.seq
   (.reg [⟨some 99, none, .mov false, [.t 4]⟩,
      ⟨some 100, none, .bin .geq, [.t 99, .c (.p (.int .i64 0))]⟩,
      ⟨some 101, none, .mov false, [.t 100]⟩,
      ⟨some 102, (some (101, true)), .mov false, [.t 4]⟩,
      ⟨some 103, (some (101, true)), .fad 1, [.t 8]⟩,
      ⟨some 104, (some (101, true)), .load 1 false false, [.t 103]⟩,
      ⟨some 105, (some (101, true)), .len, [.t 104]⟩,
      ⟨some 106, (some (101, true)), .bin .lss, [.t 102, .t 105]⟩,
      ⟨some 107, none, .pick, [.t 101, .t 106, .c (.p (.bool false))]⟩])
   (.cond (.t 107)
   (.regd [⟨some 108, none, .mov false, [.t 5]⟩,
      ⟨some 109, none, .fad 1, [.t 8]⟩,
      ⟨some 110, none, .at 2 (.load 1 false false), [.t 109]⟩,
      ⟨some 111, none, .mov false, [.t 4]⟩,
      ⟨some 112, none, .iad 4, [.t 110, .t 111]⟩,
      ⟨some 113, none, .fad 1, [.t 112]⟩,
      ⟨some 114, none, .loadp 1 false, [.t 113]⟩,
      ⟨some 115, none, .bin .add, [.t 108, .t 114]⟩,
      ⟨some 116, none, .fad 1, [.t 8]⟩,
      ⟨some 117, none, .at 2 (.load 1 false false), [.t 116]⟩,
      ⟨some 118, none, .mov false, [.t 4]⟩,
      ⟨some 119, none, .iad 4, [.t 117, .t 118]⟩,
      ⟨some 120, none, .fad 2, [.t 119]⟩,
      ⟨some 121, none, .loadp 1 false, [.t 120]⟩,
      ⟨some 122, none, .bin .add, [.t 115, .t 121]⟩,
      ⟨some 17, none, .mov true, [.t 122]⟩])
   .skip))
  (.seq
  (.reg [⟨some 123, none, .load 2 true false, [.t 8]⟩,
     ⟨some 124, none, .call 35, [.t 123]⟩,
     ⟨some 125, none, .mov false, [.t 15]⟩,
     ⟨some 126, none, .bin .eql, [.t 124, .t 125]⟩,
     ⟨some 127, none, .mov false, [.t 126]⟩,
     ⟨some 128, (some (127, true)), .load 2 true false, [.t 8]⟩,
     ⟨some 129, (some (127, true)), .mov false, [.t 4]⟩,
     ⟨some 130, (some (127, true)), .mov false, [.t 5]⟩,
     ⟨some 131, (some (127, true)), .call 38, [.t 128, .t 129, .t 130]⟩,
     ⟨some 132, (some (127, true)), .mov false, [.t 17]⟩,
     ⟨some 133, (some (127, true)), .bin .eql, [.t 131, .t 132]⟩,
     ⟨some 134, none, .pick, [.t 127, .t 133, .c (.p (.bool false))]⟩,
     ⟨some 12, none, .mov true, [.t 134]⟩])
  .ret))))))))))))))⟩
-- a loop, at its head alive: [4, 5, 8, 15, 16]
theorem k7 : chkF Tryz.prog 7 F7 = true := by kernel_rfl
def F8 : Fn := ⟨157, 3, [.tmp 10],
 (.seq
  (.reg [⟨some 5, none, .box 0 5, [.t 0]⟩,
     ⟨some 7, none, .box 1 4, [.t 2]⟩,
     ⟨some 10, none, .mov true, [.c (.p (.bool false))]⟩])
  (.seq
  (.reg [⟨some 17, none, .call 18, []⟩,
     ⟨some 11, none, .mov true, [.t 17]⟩])
  (.seq
  (.seq
   (.reg [⟨some 18, none, .mov false, [.t 11]⟩,
      ⟨some 19, none, .un .not, [.t 18]⟩])
   (.cond (.t 19)
   (.seq
    (.reg [⟨some 10, none, .mov true, [.c (.p (.bool false))]⟩])
    .ret)
   .skip))
  (.seq
  (.reg [⟨some 20, none, .load 5 true false, [.t 5]⟩,
     ⟨some 21, none, .call 19, [.t 20]⟩,
     ⟨none, none, .store 5, [.t 5, .t 21]⟩])
  (.seq
  (.reg [⟨some 22, none, .load 5 true false, [.t 5]⟩,
     ⟨some 23, none, .mov false, [.t 1]⟩,
     ⟨some 24, none, .call 20, [.t 22, .t 23]⟩,
     ⟨some 12, none, .mov true, [.t 24]⟩])
  (.seq
  (.reg [⟨some 26, none, .load 5 true false, [.t 5]⟩,
     ⟨some 27, none, .load 4 true false, [.t 7]⟩,
     ⟨some 28, none, .call 21, [.t 26, .t 27]⟩,
     ⟨some 25, none, .mov false, [.t 28]⟩,
     ⟨some 29, none, .ext 0, [.t 25]⟩,
     ⟨some 30, none, .ext 1, [.t 25]⟩,
     ⟨none, none, .store 4, [.t 7, .t 29]⟩,
     ⟨some 13, none, .mov true, [.t 30]⟩])
  (.seq
  (.seq
   (.reg [⟨some 31, none, .mov false, [.t 13]⟩,
      ⟨some 32, none, .un .not, [.t 31]⟩])
   (.cond (.t 32)
   (.seq
    (.reg [⟨some 10, none, .mov true, [.c (.p (.bool true))]⟩])
    .ret)
   .skip))
  (.seq
  (.reg [⟨some 34, none, .load 5 true false, [.t 5]⟩,
     ⟨some 35, none, .mov false, [.t 12]⟩,
     ⟨some 36, none, .load 4 true false, [.t 7]⟩,
     ⟨some 37, none, .call 28, [.t 34, .t 35, .t 36]⟩,
     ⟨some 33, none, .mov false, [.t 37]⟩,
     ⟨some 38, none, .ext 0, [.t 33]⟩,
     ⟨some 39, none, .ext 1, [.t 33]⟩,
     ⟨some 14, none, .alloc 2 2 [.p (.int .i64 0), .ow 4 true []], []⟩,
     ⟨none, none, .store 2, [.t 14, .t 38]⟩,
     ⟨some 15, none, .mov true, [.t 39]⟩])
  (.seq
  (.seq
   (.reg [⟨some 40, none, .mov false, [.t 15]⟩,
      ⟨some 41, none, .un .not, [.t 40]⟩])
   (.cond (.t 41)
   (.reg [⟨some 43, none, .load 5 true false, [.t 5]⟩,
      ⟨some 44, none, .mov false, [.t 12]⟩,
      ⟨some 45, none, .load 4 true false, [.t 7]⟩,
      ⟨some 46, none, .call 32, [.t 43, .t 44, .t 45]⟩,
      ⟨some 42, none, .mov false, [.t 46]⟩,
      ⟨some 47, none, .ext 0, [.t 42]⟩,
      ⟨some 48, none, .ext 1, [.t 42]⟩,
      ⟨none, none, .store 2, [.t 14, .t 47]⟩,
      ⟨some 15, none, .mov true, [.t 48]⟩])
   .skip))
  (.seq
  (.seq
   (.reg [⟨some 49, none, .mov false, [.t 15]⟩,
      ⟨some 50, none, .un .not, [.t 49]⟩])
   (.cond (.t 50)
   (.reg [⟨some 52, none, .mov false, [.t 12]⟩,
      ⟨some 53, none, .load 4 true false, [.t 7]⟩,
      ⟨some 54, none, .call 22, [.t 52, .t 53, .c (.p (.int .i64 0))]⟩,
      ⟨some 51, none, .mov false, [.t 54]⟩,
      ⟨some 55, none, .ext 0, [.t 51]⟩,
      ⟨some 56, none, .ext 1, [.t 51]⟩,
      ⟨none, none, .store 2, [.t 14, .t 55]⟩,
      ⟨some 15, none, .mov true, [.t 56]⟩])
   .skip))
  (.seq
  (.seq
   (.reg [⟨some 57, none, .mov false, [.t 15]⟩,
      ⟨some 58, none, .un .not, [.t 57]⟩,
      ⟨some 59, none, .mov false, [.t 58]⟩,
      ⟨some 60, (some (59, false)), .fad 1, [.t 14]⟩,
      ⟨some 61, (some (59, false)), .load 1 false false, [.t 60]⟩,
      ⟨some 62, (some (59, false)), .len, [.t 61]⟩,
      ⟨some 63, (some (59, false)), .bin .eql, [.t 62, .c (.p (.int .i64 0))]⟩,
      ⟨some 64, none, .pick, [.t 59, .c (.p (.bool true)), .t 63]⟩])
   (.cond (.t 64)
   (.seq
    (.reg [⟨some 65, none, .mov false, [.t 15]⟩,
       ⟨some 66, none, .un .not, [.t 65]⟩,
       ⟨some 10, none, .mov true, [.t 66]⟩])
    .ret)
   .skip))
  (.seq
  (.reg [⟨some 67, none, .fad 1, [.t 14]⟩,
     ⟨some 68, none, .load 1 false false, [.t 67]⟩,
     ⟨some 69, none, .app 4 32, [.c (.ow 4 true []), .t 68]⟩,
     ⟨some 70, none, .fad 1, [.t 14]⟩,
     ⟨none, none, .store 1, [.t 70, .t 69]⟩])
  (.seq
  (.reg [⟨some 71, none, .fad 1, [.t 14]⟩,
     ⟨some 72, none, .load 1 false false, [.t 71]⟩,
     ⟨some 73, none, .fad 1, [.t 14]⟩,
     ⟨some 74, none, .load 1 false false, [.t 73]⟩,
     ⟨some 75, none, .len, [.t 74]⟩,
     ⟨some 76, none, .bin .sub, [.t 75, .c (.p (.int .i64 1))]⟩,
     ⟨some 77, none, .iad 4, [.t 72, .t 76]⟩,
     ⟨some 16, none, .mov true, [.t 77]⟩])
  (.seq
  (.reg [⟨some 78, none, .mov false, [.t 4]⟩,
     ⟨some 79, none, .bin .and, [.t 78, .c (.p (.int .i64 7))]⟩,
     ⟨some 4, none, .mov true, [.t 79]⟩])
  (.seq
  (.seq
   (.reg [⟨some 80, none, .mov false, [.t 3]⟩,
      ⟨some 81, none, .bin .and, [.t 80, .c (.p (.int .i64 7))]⟩])
   (.block 0
   (.seq
    (.reg [⟨some 88, none, .bin .eql, [.t 81, .c (.p (.int .i64 0))]⟩,
       ⟨some 87, none, .mov true, [.t 88]⟩])
    (.cond (.t 87)
    (.reg [⟨some 89, none, .mov false, [.t 16]⟩,
       ⟨some 90, none, .nilchk, [.t 89]⟩,
       ⟨some 91, none, .fad 3, [.t 90]⟩,
       ⟨some 92, none, .load 1 false false, [.t 91]⟩,
       ⟨some 93, none, .mov false, [.t 4]⟩,
       ⟨some 94, none, .bin .sub, [.t 93, .c (.p (.int .i64 3))]⟩,
       ⟨some 95, none, .bin .add, [.t 92, .t 94]⟩,
       ⟨some 96, none, .nilchk, [.t 89]⟩,
       ⟨some 97, none, .fad 3, [.t 96]⟩,
       ⟨none, none, .store 1, [.t 97, .t 95]⟩])
    (.seq
     (.reg [⟨some 99, none, .bin .eql, [.t 81, .c (.p (.int .i64 1))]⟩,
        ⟨some 98, none, .mov true, [.t 99]⟩])
     (.cond (.t 98)
     (.reg [⟨some 100, none, .mov false, [.t 16]⟩,
        ⟨some 101, none, .nilchk, [.t 100]⟩,
        ⟨some 102, none, .fad 2, [.t 101]⟩,
        ⟨some 103, none, .load 1 false false, [.t 102]⟩,
        ⟨some 104, none, .mov false, [.t 4]⟩,
        ⟨some 105, none, .bin .sub, [.t 104, .c (.p (.int .i64 3))]⟩,
        ⟨some 106, none, .bin .add, [.t 103, .t 105]⟩,
        ⟨some 107, none, .nilchk, [.t 100]⟩,
        ⟨some 108, none, .fad 2, [.t 107]⟩,
        ⟨none, none, .store 1, [.t 108, .t 106]⟩])
     (.seq
      (.reg [⟨some 110, none, .bin .eql, [.t 81, .c (.p (.int .i64 2))]⟩,
         ⟨some 109, none, .mov true, [.t 110]⟩])
      (.cond (.t 109)
      (.reg [⟨some 111, none, .mov false, [.t 16]⟩,
         ⟨some 112, none, .nilchk, [.t 111]⟩,
         ⟨some 113, none, .fad 1, [.t 112]⟩,
         ⟨some 114, none, .load 1 false false, [.t 113]⟩,
         ⟨some 115, none, .mov false, [.t 4]⟩,
         ⟨some 116, none, .bin .sub, [.t 115, .c (.p (.int .i64 3))]⟩,
         ⟨some 117, none, .bin .add, [.t 114, .t 116]⟩,
         ⟨some 118, none, .nilchk, [.t 111]⟩,
         ⟨some 119, none, .fad 1, [.t 118]⟩,
         ⟨none, none, .store 1, [.t 119, .t 117]⟩])
      (.seq
       (.reg [⟨some 121, none, .bin .eql, [.t 81, .c (.p (.int .i64 3))]⟩,
          ⟨some 120, none, .mov true, [.t 121]⟩])
       (.cond (.t 120)
       (.reg [⟨some 122, none, .mov false, [.t 16]⟩,
          ⟨some 123, none, .mov false, [.t 4]⟩,
          ⟨some 124, none, .nilchk, [.t 122]⟩,
          ⟨some 125, none, .fad 0, [.t 124]⟩,
          ⟨none, none, .store 1, [.t 125, .t 123]⟩])
       (.seq
        (.reg [⟨some 127, none, .bin .eql, [.t 81, .c (.p (.int .i64 4))]⟩,
           ⟨some 126, none, .mov true, [.t 127]⟩])
        (.cond (.t 126)
        (.reg [⟨some 128, none, .mov false, [.t 4]⟩,
           ⟨some 129, none, .fad 0, [.t 14]⟩,
           ⟨none, none, .store 1, [.t 129, .t 128]⟩])
        (.seq
         (.reg [⟨some 131, none, .bin .eql, [.t 81, .c (.p (.int .i64 5))]⟩,
            ⟨some 130, none, .mov true, [.t 131]⟩])
         (.cond (.t 130)
         (.regd [⟨some 132, none, .fad 1, [.t 14]⟩,
            ⟨some 133, none, .at 2 (.load 1 false true), [.t 132]⟩,
            ⟨some 134, none, .mov false, [.t 4]⟩,
            ⟨some 135, none, .mov false, [.t 16]⟩,
            ⟨some 136, none, .nilchk, [.t 135]⟩,
            ⟨some 137, none, .fad 1, [.t 136]⟩,
            ⟨some 138, none, .loadp 1 false, [.t 137]⟩,
            ⟨some 139, none, .mov false, [.t 16]⟩,
            ⟨some 140, none, .nilchk, [.t 139]⟩,
            ⟨some 141, none, .fad 2, [.t 140]⟩,
            ⟨some 142, none, .loadp 1 false, [.t 141]⟩,
            ⟨some 143, none, .bin .add, [.t 138, .t 142]⟩,
            ⟨some 144, none, .build [.int .i64 0, .int .i64 0, .int .i64 0, .int .i64 0] [(0, 1), (1, 1), (2, 1), (3, 1)], [.t 134, .t 143, .c (.p (.int .i64 1)), .c (.p (.int .i64 1))]⟩,
            ⟨some 145, none, .bsl 4 1, [.t 144]⟩,
            ⟨some 146, none, .pl (.app 4 32), [.t 133, .t 145]⟩,
            ⟨some 147, none, .fad 1, [.t 14]⟩,
            ⟨none, none, .at 2 (.store 1), [.t 147, .t 146]⟩])
         (.reg [⟨some 82, none, .fad 1, [.t 14]⟩,
            ⟨some 83, none, .load 1 false false, [.t 82]⟩,
            ⟨some 84, none, .mov false, [.t 4]⟩,
            ⟨some 85, none, .iad 4, [.t 83, .c (.p (.int .i64 0))]⟩,
            ⟨some 86, none, .fad 1, [.t 85]⟩,
            ⟨none, none, .store 1, [.t 86, .t 84]⟩])))))))))))))))
  (.seq
  (.regd [⟨some 148, none, .at 0 (.load 5 true false), [.t 5]⟩,
     ⟨some 149, none, .at 1 (.load 4 true false), [.t 7]⟩,
     ⟨some 150, none, .at 2 (.load 2 true false), [.t 14]⟩,
     ⟨some 151, none, .pl (.call 27), [.t 148, .t 149, .t 150]⟩,
     ⟨some 152, none, .at 0 (.load 5 true false), [.t 5]⟩,
     ⟨some 153, none, .at 1 (.load 4 true false), [.t 7]⟩,
     ⟨some 154, none, .at 2 (.load 2 true false), [.t 14]⟩,
     ⟨some 155, none, .pl (.call 36), [.t 152, .t 153, .t 154]⟩,
     ⟨some 156, none, .eqb false, [.t 151, .t 155]⟩,
     ⟨some 10, none, .mov true, [.t 156]⟩])
  .ret))))))))))))))))⟩
theorem k8 : chkF Tryz.prog 8 F8 = true := by kernel_rfl
def F9 : Fn := ⟨65, 2, [.tmp 6],
 (.seq
  (.reg [⟨some 3, none, .box 0 5, [.t 0]⟩,
     ⟨some 5, none, .box 1 3, [.t 2]⟩,
     ⟨some 6, none, .mov true, [.c (.p (.bool false))]⟩])
  (.seq
  (.reg [⟨some 12, none, .call 18, []⟩,
     ⟨some 7, none, .mov true, [.t 12]⟩])
  (.seq
  (.seq
   (.reg [⟨some 13, none, .mov false, [.t 7]⟩,
      ⟨some 14, none, .un .not, [.t 13]⟩])
   (.cond (.t 14)
   (.seq
    (.reg [⟨some 6, none, .mov true, [.c (.p (.bool false))]⟩])
    .ret)
   .skip))
  (.seq
  (.reg [⟨some 15, none, .load 5 true false, [.t 3]⟩,
     ⟨some 16, none, .call 19, [.t 15]⟩,
     ⟨none, none, .store 5, [.t 3, .t 16]⟩])
  (.seq
  (.reg [⟨some 17, none, .load 5 true false, [.t 3]⟩,
     ⟨some 18, none, .mov false, [.t 1]⟩,
     ⟨some 19, none, .call 20, [.t 17, .t 18]⟩,
     ⟨some 8, none, .mov true, [.t 19]⟩])
  (.seq
  (.reg [⟨some 20, none, .mov false, [.t 8]⟩,
     ⟨some 21, none, .load 3 true false, [.t 5]⟩,
     ⟨some 22, none, .call 25, [.t 20, .t 21]⟩,
     ⟨some 9, none, .mov true, [.t 22]⟩])
  (.seq
  (.seq
   (.reg [⟨some 10, none, .mov true, [.c (.p (.int .i64 0))]⟩])
   (.block 0
   (.loop [0, 1, 2, 3, 6, 7, 11, 12, 13, 14, 15, 16, 17, 18, 19, 20, 21, 22, 23, 24, 25, 26, 27, 28, 29, 30, 31, 32, 33, 34, 35, 36, 37, 38, 39, 40, 41, 42, 43, 44, 45, 46, 47, 48, 49, 50, 51, 52, 53, 54, 55, 56, 57, 58, 59, 60, 61, 62, 63, 64] []
    (.seq
     (.seq
      (.reg [⟨some 23, none, .mov false, [.t 10]⟩,
         ⟨some 24, none, .mov false, [.t 8]⟩,
         ⟨some 25, none, .len, [.t 24]⟩,
         ⟨some 26, none, .bin .lss, [.t 23, .t 25]⟩])
      (.cond (.t 26)
      .skip
      (.exit 0)))
     (.seq
     (.block 1
      (.seq
       (.regd [⟨some 29, none, .mov false, [.t 8]⟩,
          ⟨some 30, none, .mov false, [.t 10]⟩,
          ⟨some 31, none, .iad 1, [.t 29, .t 30]⟩,
          ⟨some 32, none, .loadp 1 false, [.t 31]⟩,
          ⟨some 33, none, .pl (.call 39), [.t 32]⟩,
          ⟨some 34, none, .at 1 (.load 3 true false), [.t 5]⟩,
          ⟨some 35, none, .bsl 3 1, [.t 34]⟩,
          ⟨some 36, none, .pl (.app 3 24), [.t 33, .t 35]⟩,
          ⟨some 37, none, .pl (.call 34), [.t 36]⟩,
          ⟨some 11, none, .mov true, [.t 37]⟩])
       (.seq
       (.reg [⟨some 38, none, .mov false, [.t 9]⟩,
          ⟨some 39, none, .mov false, [.t 10]⟩,
          ⟨some 40, none, .bin .eql, [.t 38, .t 39]⟩,
          ⟨some 41, none, .mov false, [.t 40]⟩,
          ⟨some 42, (some (41, true)), .mov false, [.t 11]⟩,
          ⟨some 43, (some (41, true)), .un .not, [.t 42]⟩,
          ⟨some 44, none, .pick, [.t 41, .t 43, .c (.p (.bool false))]⟩,
          ⟨some 45, none, .mov false, [.t 44]⟩,
          ⟨some 46, (some (45, false)), .mov false, [.t 9]⟩,
          ⟨some 47, (some (45, false)), .bin .lss, [.t 46, .c (.p (.int .i64 0))]⟩,
          ⟨some 48, (some (45, false)), .mov false, [.t 47]⟩,
          ⟨some 49, (some (48, false)), .mov false, [.t 10]⟩,
          ⟨some 50, (some (48, false)), .mov false, [.t 9]⟩,
          ⟨some 51, (some (48, false)), .bin .lss, [.t 49, .t 50]⟩,
          ⟨some 52, (some (45, false)), .pick, [.t 48, .c (.p (.bool true)), .t 51]⟩,
          ⟨some 53, (some (45, false)), .mov false, [.t 52]⟩,
          ⟨some 54, (some (53, true)), .mov false, [.t 11]⟩,
          ⟨some 55, (some (45, false)), .pick, [.t 53, .t 54, .c (.p (.bool false))]⟩,
          ⟨some 56, none, .pick, [.t 45, .c (.p (.bool true)), .t 55]⟩])
       (.cond (.t 56)
       (.seq
        (.reg [⟨some 6, none, .mov true, [.c (.p (.bool false))]⟩])
        .ret)
       .skip))))
     (.reg [⟨some 27, none, .mov false, [.t 10]⟩,
       ⟨some 28, none, .bin .add, [.t 27, .c (.p (.int .i64 1))]⟩,
       ⟨some 10, none, .mov true, [.t 28]⟩]))))))
  (.seq
  (.reg [⟨some 57, none, .mov false, [.t 9]⟩,
     ⟨some 58, none, .bin .geq, [.t 57, .c (.p (.int .i64 (-1)))]⟩,
     ⟨some 59, none, .mov false, [.t 58]⟩,
     ⟨some 60, (some (59, true)), .mov false, [.t 9]⟩,
     ⟨some 61, (some (59, true)), .mov false, [.t 8]⟩,
     ⟨some 62, (some (59, true)), .len, [.t 61]⟩,
     ⟨some 63, (some (59, true)), .bin .lss, [.t 60, .t 62]⟩,
     ⟨some 64, none, .pick, [.t 59, .t 63, .c (.p (.bool false))]⟩,
     ⟨some 6, none, .mov true, [.t 64]⟩])
  .ret))))))))⟩
-- a loop, at its head alive: [5, 8, 9, 10]
theorem k9 : chkF Tryz.prog 9 F9 = true := by kernel_rfl
def F10 : Fn := ⟨140, 4, [.tmp 6],
 (.seq
  (.reg [⟨some 3, none, .box 0 5, [.t 0]⟩,
     ⟨some 5, none, .box 1 4, [.t 2]⟩,
     ⟨some 6, none, .mov true, [.c (.p (.bool false))]⟩])
  (.seq
  (.reg [⟨some 15, none, .call 18, []⟩,
     ⟨some 7, none, .mov true, [.t 15]⟩])
  (.seq
  (.seq
   (.reg [⟨some 16, none, .mov false, [.t 7]⟩,
      ⟨some 17, none, .un .not, [.t 16]⟩])
   (.cond (.t 17)
   (.seq
    (.reg [⟨some 6, none, .mov true, [.c (.p (.bool false))]⟩])
    .ret)
   .skip))
  (.seq
  (.reg [⟨some 18, none, .load 5 true false, [.t 3]⟩,
     ⟨some 19, none, .call 19, [.t 18]⟩,
     ⟨none, none, .store 5, [.t 3, .t 19]⟩])
  (.seq
  (.reg [⟨some 21, none, .load 5 true false, [.t 3]⟩,
     ⟨some 22, none, .load 4 true false, [.t 5]⟩,
     ⟨some 23, none, .call 21, [.t 21, .t 22]⟩,
     ⟨some 20, none, .mov false, [.t 23]⟩,
     ⟨some 24, none, .ext 0, [.t 20]⟩,
     ⟨some 25, none, .ext 1, [.t 20]⟩,
     ⟨none, none, .store 4, [.t 5, .t 24]⟩,
     ⟨some 8, none, .mov true, [.t 25]⟩])
  (.seq
  (.seq
   (.reg [⟨some 26, none, .mov false, [.t 8]⟩,
      ⟨some 27, none, .un .not, [.t 26]⟩])
   (.cond (.t 27)
   (.seq
    (.reg [⟨some 6, none, .mov true, [.c (.p (.bool true))]⟩])
    .ret)
   .skip))
  (.seq
  (.pre [9, 39, 43, 48, 51, 64, 74, 111, 128] [] [2] (.rega [⟨some 29, none, .at 0 (.load 5 true false), [.t 3]⟩,
     ⟨some 30, none, .at 0 (.load 5 true false), [.t 3]⟩,
     ⟨some 31, none, .mov false, [.t 1]⟩,
     ⟨some 32, none, .pl (.call 20), [.t 30, .t 31]⟩,
     ⟨some 33, none, .at 1 (.load 4 true false), [.t 5]⟩,
     ⟨some 34, none, .pl (.call 28), [.t 29, .t 32, .t 33]⟩,
     ⟨some 28, none, .mov false, [.t 34]⟩,
     ⟨some 35, none, .extp 0, [.t 28]⟩,
     ⟨some 36, none, .extp 1, [.t 28]⟩,
     ⟨some 9, none, .alloc 2 2 [.p (.int .i64 0), .ow 4 true []], []⟩,
     ⟨none, none, .at 2 (.store 2), [.t 9, .t 35]⟩,
     ⟨some 10, none, .mov true, [.t 36]⟩]))
  (.seq
  (.seq
   (.reg [⟨some 37, none, .mov false, [.t 10]⟩,
      ⟨some 38, none, .un .not, [.t 37]⟩])
   (.cond (.t 38)
   (.seq
    (.reg [⟨some 39, none, .fad 0, [.t 9]⟩,
       ⟨some 40, none, .load 1 false false, [.t 39]⟩,
       ⟨some 41, none, .bin .eql, [.t 40, .c (.p (.int .i64 0))]⟩,
       ⟨some 42, none, .mov false, [.t 41]⟩,
       ⟨some 43, (some (42, true)), .fad 1, [.t 9]⟩,
       ⟨some 44, (some (42, true)), .load 1 false false, [.t 43]⟩,
       ⟨some 45, (some (42, true)), .len, [.t 44]⟩,
       ⟨some 46, (some (42, true)), .bin .eql, [.t 45, .c (.p (.int .i64 0))]⟩,
       ⟨some 47, none, .pick, [.t 42, .t 46, .c (.p (.bool false))]⟩,
       ⟨some 6, none, .mov true, [.t 47]⟩])
    .ret)
   .skip))
  (.seq
  (.reg [⟨some 48, none, .fad 1, [.t 9]⟩,
     ⟨some 49, none, .load 1 false false, [.t 48]⟩,
     ⟨some 50, none, .len, [.t 49]⟩,
     ⟨some 11, none, .mov true, [.t 50]⟩])
  (.seq
  (.seq
   (.reg [⟨some 51, none, .fad 0, [.t 9]⟩,
      ⟨some 52, none, .load 1 false false, [.t 51]⟩,
      ⟨some 53, none, .bin .neq, [.t 52, .c (.p (.int .i64 2))]⟩,
      ⟨some 54, none, .mov false, [.t 53]⟩,
      ⟨some 55, (some (54, false)), .mov false, [.t 11]⟩,
      ⟨some 56, (some (54, false)), .bin .lss, [.t 55, .c (.p (.int .i64 2))]⟩,
      ⟨some 57, none, .pick, [.t 54, .c (.p (.bool true)), .t 56]⟩,
      ⟨some 58, none, .mov false, [.t 57]⟩,
      ⟨some 59, (some (58, false)), .fad 3, [.t 5]⟩,
      ⟨some 60, (some (58, false)), .load 1 false false, [.t 59]⟩,
      ⟨some 61, (some (58, false)), .len, [.t 60]⟩,
      ⟨some 62, (some (58, false)), .bin .gtr, [.t 61, .c (.p (.int .i64 0))]⟩,
      ⟨some 63, none, .pick, [.t 58, .c (.p (.bool true)), .t 62]⟩])
   (.cond (.t 63)
   (.seq
    (.reg [⟨some 6, none, .mov true, [.c (.p (.bool false))]⟩])
    .ret)
   .skip))
  (.seq
  (.reg [⟨some 64, none, .fad 1, [.t 9]⟩,
     ⟨some 65, none, .load 1 false false, [.t 64]⟩,
     ⟨some 66, none, .iad 4, [.t 65, .c (.p (.int .i64 0))]⟩,
     ⟨some 67, none, .fad 2, [.t 66]⟩,
     ⟨some 68, none, .load 1 false false, [.t 67]⟩,
     ⟨some 12, none, .mov true, [.t 68]⟩])
  (.seq
  (.seq
   (.reg [⟨some 13, none, .mov true, [.c (.p (.int .i64 0))]⟩])
   (.block 0
   (.loop [0, 1, 2, 6, 7, 8, 10, 14, 15, 16, 17, 18, 19, 20, 21, 22, 23, 24, 25, 26, 27, 28, 29, 30, 31, 32, 33, 34, 35, 36, 37, 38, 39, 40, 41, 42, 43, 44, 45, 46, 47, 48, 49, 50, 51, 52, 53, 54, 55, 56, 57, 58, 59, 60, 61, 62, 63, 64, 65, 66, 67, 68, 69, 70, 71, 72, 73, 74, 75, 76, 77, 78, 79, 80, 81, 82, 83, 84, 85, 86, 87, 88, 89, 90, 91, 92, 93, 94, 95, 96, 97, 98, 99, 100, 101, 102, 103, 104, 105, 106, 107, 108, 109, 110, 111, 112, 113, 114, 115, 116, 117, 118, 119, 120, 121, 122, 123, 124, 125, 126, 127, 128, 129, 130, 131, 132, 133, 134, 135, 136, 137, 138, 139] [3]
    (.seq
     (.seq
      (.reg [⟨some 69, none, .mov false, [.t 13]⟩,
         ⟨some 70, none, .mov false, [.t 11]⟩,
         ⟨some 71, none, .bin .lss, [.t 69, .t 70]⟩])
      (.cond (.t 71)
      .skip
      (.exit 0)))
     (.seq
     (.block 1
      (.seq
       (.reg [⟨some 74, none, .fad 1, [.t 9]⟩,
          ⟨some 75, none, .load 1 false false, [.t 74]⟩,
          ⟨some 76, none, .mov false, [.t 13]⟩,
          ⟨some 77, none, .iad 4, [.t 75, .t 76]⟩,
          ⟨some 78, none, .load 4 true false, [.t 77]⟩,
          ⟨some 14, none, .alloc 3 4 [.p (.int .i64 0), .p (.int .i64 0), .p (.int .i64 0), .p (.int .i64 0)], []⟩,
          ⟨none, none, .store 4, [.t 14, .t 78]⟩])
       (.seq
       (.regd [⟨some 79, none, .fad 2, [.t 14]⟩,
          ⟨some 80, none, .at 3 (.load 1 false false), [.t 79]⟩,
          ⟨some 81, none, .mov false, [.t 12]⟩,
          ⟨some 82, none, .bin .neq, [.t 80, .t 81]⟩,
          ⟨some 83, none, .mov false, [.t 82]⟩,
          ⟨some 84, (some (83, false)), .fad 1, [.t 14]⟩,
          ⟨some 85, (some (83, false)), .at 3 (.load 1 false false), [.t 84]⟩,
          ⟨some 86, (some (83, false)), .mov false, [.t 13]⟩,
          ⟨some 87, (some (83, false)), .mov false, [.t 12]⟩,
          ⟨some 88, (some (83, false)), .fad 2, [.t 3]⟩,
          ⟨some 89, (some (83, false)), .at 0 (.load 1 false false), [.t 88]⟩,
          ⟨some 90, (some (83, false)), .bin .add, [.t 87, .t 89]⟩,
          ⟨some 91, (some (83, false)), .bin .mul, [.t 86, .t 90]⟩,
          ⟨some 92, (some (83, false)), .bin .neq, [.t 85, .t 91]⟩,
          ⟨some 93, none, .pick, [.t 83, .c (.p (.bool true)), .t 92]⟩,
          ⟨some 94, none, .mov false, [.t 93]⟩,
          ⟨some 95, (some (94, false)), .fad 3, [.t 14]⟩,
          ⟨some 96, (some (94, false)), .at 3 (.load 1 false false), [.t 95]⟩,
          ⟨some 97, (some (94, false)), .mov false, [.t 12]⟩,
          ⟨some 98, (some (94, false)), .bin .gtr, [.t 96, .t 97]⟩,
          ⟨some 99, none, .pick, [.t 94, .c (.p (.bool true)), .t 98]⟩,
          ⟨some 100, none, .mov false, [.t 99]⟩,
          ⟨some 101, (some (100, false)), .fad 3, [.t 14]⟩,
          ⟨some 102, (some (100, false)), .at 3 (.load 1 false false), [.t 101]⟩,
          ⟨some 103, (some (100, false)), .bin .lss, [.t 102, .c (.p (.int .i64 1))]⟩,
          ⟨some 104, none, .pick, [.t 100, .c (.p (.bool true)), .t 103]⟩,
          ⟨some 105, none, .mov false, [.t 104]⟩,
          ⟨some 106, (some (105, false)), .mov false, [.t 13]⟩,
          ⟨some 107, (some (105, false)), .bin .gtr, [.t 106, .c (.p (.int .i64 0))]⟩,
          ⟨some 108, (some (105, false)), .mov false, [.t 107]⟩,
          ⟨some 109, (some (108, true)), .fad 0, [.t 14]⟩,
          ⟨some 110, (some (108, true)), .at 3 (.load 1 false false), [.t 109]⟩,
          ⟨some 111, (some (108, true)), .fad 1, [.t 9]⟩,
          ⟨some 112, (some (108, true)), .at 2 (.load 1 false false), [.t 111]⟩,
          ⟨some 113, (some (108, true)), .mov false, [.t 13]⟩,
          ⟨some 114, (some (108, true)), .bin .sub, [.t 113, .c (.p (.int .i64 1))]⟩,
          ⟨some 115, (some (108, true)), .iad 4, [.t 112, .t 114]⟩,
          ⟨some 116, (some (108, true)), .fad 0, [.t 115]⟩,
          ⟨some 117, (some (108, true)), .loadp 1 false, [.t 116]⟩,
          ⟨some 118, (some (108, true)), .bin .leq, [.t 110, .t 117]⟩,
          ⟨some 119, (some (108, true)), .mov false, [.t 118]⟩,
          ⟨some 120, (some (119, false)), .fad 3, [.t 14]⟩,
          ⟨some 121, (some (119, false)), .at 3 (.load 1 false false), [.t 120]⟩,
          ⟨some 122, (some (119, false)), .fad 3, [.t 3]⟩,
          ⟨some 123, (some (119, false)), .at 0 (.load 1 false false), [.t 122]⟩,
          ⟨some 124, (some (119, false)), .bin .leq, [.t 121, .t 123]⟩,
          ⟨some 125, (some (108, true)), .pick, [.t 119, .c (.p (.bool true)), .t 124]⟩,
          ⟨some 126, (some (105, false)), .pick, [.t 108, .t 125, .c (.p (.bool false))]⟩,
          ⟨some 127, none, .pick, [.t 105, .c (.p (.bool true)), .t 126]⟩])
       (.cond (.t 127)
       (.seq
        (.reg [⟨some 6, none, .mov true, [.c (.p (.bool false))]⟩])
        .ret)
       .skip))))
     (.reg [⟨some 72, none, .mov false, [.t 13]⟩,
       ⟨some 73, none, .bin .add, [.t 72, .c (.p (.int .i64 1))]⟩,
       ⟨some 13, none, .mov true, [.t 73]⟩]))))))
  (.seq
  (.regd [⟨some 128, none, .fad 1, [.t 9]⟩,
     ⟨some 129, none, .at 2 (.load 1 false false), [.t 128]⟩,
     ⟨some 130, none, .mov false, [.t 11]⟩,
     ⟨some 131, none, .bin .sub, [.t 130, .c (.p (.int .i64 1))]⟩,
     ⟨some 132, none, .iad 4, [.t 129, .t 131]⟩,
     ⟨some 133, none, .fad 1, [.t 132]⟩,
     ⟨some 134, none, .loadp 1 false, [.t 133]⟩,
     ⟨some 135, none, .mov false, [.t 12]⟩,
     ⟨some 136, none, .bin .add, [.t 134, .t 135]⟩,
     ⟨some 137, none, .fad 1, [.t 5]⟩,
     ⟨some 138, none, .at 1 (.load 1 false false), [.t 137]⟩,
     ⟨some 139, none, .bin .leq, [.t 136, .t 138]⟩,
     ⟨some 6, none, .mov true, [.t 139]⟩])
  .ret)))))))))))))⟩
-- a loop, at its head alive: [3, 5, 9, 11, 12, 13]
theorem k10 : chkF Tryz.prog 10 F10 = true := by kernel_rfl
def F11 : Fn := ⟨77, 2, [.tmp 6],
 (.seq
  (.reg [⟨some 3, none, .box 0 5, [.t 0]⟩,
     ⟨some 4, none, .box 1 4, [.t 1]⟩,
     ⟨some 6, none, .mov true, [.c (.p (.bool false))]⟩])
  (.seq
  (.reg [⟨some 11, none, .call 18, []⟩,
     ⟨some 7, none, .mov true, [.t 11]⟩])
  (.seq
  (.seq
   (.reg [⟨some 12, none, .mov false, [.t 7]⟩,
      ⟨some 13, none, .un .not, [.t 12]⟩])
   (.cond (.t 13)
   (.seq
    (.reg [⟨some 6, none, .mov true, [.c (.p (.bool false))]⟩])
    .ret)
   .skip))
  (.seq
  (.reg [⟨some 14, none, .load 5 true false, [.t 3]⟩,
     ⟨some 15, none, .call 19, [.t 14]⟩,
     ⟨none, none, .store 5, [.t 3, .t 15]⟩])
  (.seq
  (.reg [⟨some 17, none, .load 5 true false, [.t 3]⟩,
     ⟨some 18, none, .load 4 true false, [.t 4]⟩,
     ⟨some 19, none, .call 21, [.t 17, .t 18]⟩,
     ⟨some 16, none, .mov false, [.t 19]⟩,
     ⟨some 20, none, .ext 0, [.t 16]⟩,
     ⟨some 21, none, .ext 1, [.t 16]⟩,
     ⟨none, none, .store 4, [.t 4, .t 20]⟩,
     ⟨some 8, none, .mov true, [.t 21]⟩])
  (.seq
  (.seq
   (.reg [⟨some 22, none, .mov false, [.t 8]⟩,
      ⟨some 23, none, .un .not, [.t 22]⟩,
      ⟨some 24, none, .mov false, [.t 23]⟩,
      ⟨some 25, (some (24, false)), .mov false, [.t 2]⟩,
      ⟨some 26, (some (24, false)), .bin .gtr, [.t 25, .c (.p (.int .i64 30))]⟩,
      ⟨some 27, none, .pick, [.t 24, .c (.p (.bool true)), .t 26]⟩,
      ⟨some 28, none, .mov false, [.t 27]⟩,
      ⟨some 29, (some (28, false)), .mov false, [.t 2]⟩,
      ⟨some 30, (some (28, false)), .bin .lss, [.t 29, .c (.p (.int .i64 (-5)))]⟩,
      ⟨some 31, none, .pick, [.t 28, .c (.p (.bool true)), .t 30]⟩])
   (.cond (.t 31)
   (.seq
    (.reg [⟨some 6, none, .mov true, [.c (.p (.bool true))]⟩])
    .ret)
   .skip))
  (.seq
  (.reg [⟨some 32, none, .load 5 true false, [.t 3]⟩,
     ⟨some 33, none, .load 4 true false, [.t 4]⟩,
     ⟨some 34, none, .mov false, [.t 2]⟩,
     ⟨some 35, none, .call 30, [.t 32, .t 33, .t 34]⟩,
     ⟨some 9, none, .mov true, [.t 35]⟩])
  (.seq
  (.seq
   (.reg [⟨some 36, none, .mov false, [.t 2]⟩,
      ⟨some 37, none, .bin .lss, [.t 36, .c (.p (.int .i64 1))]⟩,
      ⟨some 38, none, .mov false, [.t 37]⟩,
      ⟨some 39, (some (38, false)), .fad 1, [.t 4]⟩,
      ⟨some 40, (some (38, false)), .load 1 false false, [.t 39]⟩,
      ⟨some 41, (some (38, false)), .mov false, [.t 2]⟩,
      ⟨some 42, (some (38, false)), .bin .sub, [.t 41, .c (.p (.int .i64 1))]⟩,
      ⟨some 43, (some (38, false)), .fad 2, [.t 3]⟩,
      ⟨some 44, (some (38, false)), .load 1 false false, [.t 43]⟩,
      ⟨some 45, (some (38, false)), .bin .mul, [.t 42, .t 44]⟩,
      ⟨some 46, (some (38, false)), .bin .sub, [.t 40, .t 45]⟩,
      ⟨some 47, (some (38, false)), .mov false, [.t 2]⟩,
      ⟨some 48, (some (38, false)), .bin .lss, [.t 46, .t 47]⟩,
      ⟨some 49, none, .pick, [.t 38, .c (.p (.bool true)), .t 48]⟩])
   (.cond (.t 49)
   (.seq
    (.reg [⟨some 50, none, .mov false, [.t 9]⟩,
       ⟨some 51, none, .bin .eql, [.t 50, .c (.p (.int .i64 0))]⟩,
       ⟨some 6, none, .mov true, [.t 51]⟩])
    .ret)
   .skip))
  (.seq
  (.reg [⟨some 52, none, .mov false, [.t 2]⟩,
     ⟨some 53, none, .mov false, [.t 9]⟩,
     ⟨some 54, none, .bin .mul, [.t 52, .t 53]⟩,
     ⟨some 55, none, .mov false, [.t 2]⟩,
     ⟨some 56, none, .bin .sub, [.t 55, .c (.p (.int .i64 1))]⟩,
     ⟨some 57, none, .fad 2, [.t 3]⟩,
     ⟨some 58, none, .load 1 false false, [.t 57]⟩,
     ⟨some 59, none, .bin .mul, [.t 56, .t 58]⟩,
     ⟨some 60, none, .bin .add, [.t 54, .t 59]⟩,
     ⟨some 10, none, .mov true, [.t 60]⟩])
  (.seq
  (.reg [⟨some 61, none, .mov false, [.t 9]⟩,
     ⟨some 62, none, .bin .geq, [.t 61, .c (.p (.int .i64 1))]⟩,
     ⟨some 63, none, .mov false, [.t 62]⟩,
     ⟨some 64, (some (63, true)), .mov false, [.t 10]⟩,
     ⟨some 65, (some (63, true)), .fad 1, [.t 4]⟩,
     ⟨some 66, (some (63, true)), .load 1 false false, [.t 65]⟩,
     ⟨some 67, (some (63, true)), .bin .leq, [.t 64, .t 66]⟩,
     ⟨some 68, none, .pick, [.t 63, .t 67, .c (.p (.bool false))]⟩,
     ⟨some 69, none, .mov false, [.t 68]⟩,
     ⟨some 70, (some (69, true)), .mov false, [.t 10]⟩,
     ⟨some 71, (some (69, true)), .mov false, [.t 2]⟩,
     ⟨some 72, (some (69, true)), .bin .add, [.t 70, .t 71]⟩,
     ⟨some 73, (some (69, true)), .fad 1, [.t 4]⟩,
     ⟨some 74, (some (69, true)), .load 1 false false, [.t 73]⟩,
     ⟨some 75, (some (69, true)), .bin .gtr, [.t 72, .t 74]⟩,
     ⟨some 76, none, .pick, [.t 69, .t 75, .c (.p (.bool false))]⟩,
     ⟨some 6, none, .mov true, [.t 76]⟩])
  .ret))))))))))⟩
theorem k11 : chkF Tryz.prog 11 F11 = true := by kernel_rfl
def F12 : Fn := ⟨119, 5, [.tmp 6],
 (.seq
  (.reg [⟨some 3, none, .box 0 5, [.t 0]⟩,
     ⟨some 5, none, .box 1 4, [.t 2]⟩,
     ⟨some 6, none, .mov true, [.c (.p (.bool false))]⟩])
  (.seq
  (.reg [⟨some 13, none, .call 18, []⟩,
     ⟨some 7, none, .mov true, [.t 13]⟩])
  (.seq
  (.seq
   (.reg [⟨some 14, none, .mov false, [.t 7]⟩,
      ⟨some 15, none, .un .not, [.t 14]⟩])
   (.cond (.t 15)
   (.seq
    (.reg [⟨some 6, none, .mov true, [.c (.p (.bool false))]⟩])
    .ret)
   .skip))
  (.seq
  (.reg [⟨some 16, none, .load 5 true false, [.t 3]⟩,
     ⟨some 17, none, .call 19, [.t 16]⟩,
     ⟨none, none, .store 5, [.t 3, .t 17]⟩])
  (.seq
  (.reg [⟨some 19, none, .load 5 true false, [.t 3]⟩,
     ⟨some 20, none, .load 4 true false, [.t 5]⟩,
     ⟨some 21, none, .call 21, [.t 19, .t 20]⟩,
     ⟨some 18, none, .mov false, [.t 21]⟩,
     ⟨some 22, none, .ext 0, [.t 18]⟩,
     ⟨some 23, none, .ext 1, [.t 18]⟩,
     ⟨none, none, .store 4, [.t 5, .t 22]⟩,
     ⟨some 8, none, .mov true, [.t 23]⟩])
  (.seq
  (.seq
   (.reg [⟨some 24, none, .mov false, [.t 8]⟩,
      ⟨some 25, none, .un .not, [.t 24]⟩])
   (.cond (.t 25)
   (.seq
    (.reg [⟨some 6, none, .mov true, [.c (.p (.bool true))]⟩])
    .ret)
   .skip))
  (.seq
  (.pre [9, 37, 41, 46, 50, 61, 65] [] [2] (.rega [⟨some 27, none, .at 0 (.load 5 true false), [.t 3]⟩,
     ⟨some 28, none, .at 0 (.load 5 true false), [.t 3]⟩,
     ⟨some 29, none, .mov false, [.t 1]⟩,
     ⟨some 30, none, .pl (.call 20), [.t 28, .t 29]⟩,
     ⟨some 31, none, .at 1 (.load 4 true false), [.t 5]⟩,
     ⟨some 32, none, .pl (.call 32), [.t 27, .t 30, .t 31]⟩,
     ⟨some 26, none, .mov false, [.t 32]⟩,
     ⟨some 33, none, .extp 0, [.t 26]⟩,
     ⟨some 34, none, .extp 1, [.t 26]⟩,
     ⟨some 9, none, .alloc 2 2 [.p (.int .i64 0), .ow 4 true []], []⟩,
     ⟨none, none, .at 2 (.store 2), [.t 9, .t 33]⟩,
     ⟨some 10, none, .mov true, [.t 34]⟩]))
  (.seq
  (.seq
   (.reg [⟨some 35, none, .mov false, [.t 10]⟩,
      ⟨some 36, none, .un .not, [.t 35]⟩])
   (.cond (.t 36)
   (.seq
    (.reg [⟨some 37, none, .fad 0, [.t 9]⟩,
       ⟨some 38, none, .load 1 false false, [.t 37]⟩,
       ⟨some 39, none, .bin .eql, [.t 38, .c (.p (.int .i64 0))]⟩,
       ⟨some 40, none, .mov false, [.t 39]⟩,
       ⟨some 41, (some (40, true)), .fad 1, [.t 9]⟩,
       ⟨some 42, (some (40, true)), .load 1 false false, [.t 41]⟩,
       ⟨some 43, (some (40, true)), .len, [.t 42]⟩,
       ⟨some 44, (some (40, true)), .bin .eql, [.t 43, .c (.p (.int .i64 0))]⟩,
       ⟨some 45, none, .pick, [.t 40, .t 44, .c (.p (.bool false))]⟩,
       ⟨some 6, none, .mov true, [.t 45]⟩])
    .ret)
   .skip))
  (.seq
  (.seq
   (.reg [⟨some 46, none, .fad 0, [.t 9]⟩,
      ⟨some 47, none, .load 1 false false, [.t 46]⟩,
      ⟨some 48, none, .bin .neq, [.t 47, .c (.p (.int .i64 3))]⟩,
      ⟨some 49, none, .mov false, [.t 48]⟩,
      ⟨some 50, (some (49, false)), .fad 1, [.t 9]⟩,
      ⟨some 51, (some (49, false)), .load 1 false false, [.t 50]⟩,
      ⟨some 52, (some (49, false)), .len, [.t 51]⟩,
      ⟨some 53, (some (49, false)), .bin .neq, [.t 52, .c (.p (.int .i64 2))]⟩,
      ⟨some 54, none, .pick, [.t 49, .c (.p (.bool true)), .t 53]⟩,
      ⟨some 55, none, .mov false, [.t 54]⟩,
      ⟨some 56, (some (55, false)), .fad 3, [.t 5]⟩,
      ⟨some 57, (some (55, false)), .load 1 false false, [.t 56]⟩,
      ⟨some 58, (some (55, false)), .len, [.t 57]⟩,
      ⟨some 59, (some (55, false)), .bin .gtr, [.t 58, .c (.p (.int .i64 0))]⟩,
      ⟨some 60, none, .pick, [.t 55, .c (.p (.bool true)), .t 59]⟩])
   (.cond (.t 60)
   (.seq
    (.reg [⟨some 6, none, .mov true, [.c (.p (.bool false))]⟩])
    .ret)
   .skip))
  (.seq
  (.pre [11, 12, 69, 71, 75, 80, 82, 87, 89, 97, 99, 107, 109] [] [3, 4] (.rega [⟨some 61, none, .fad 1, [.t 9]⟩,
     ⟨some 62, none, .at 2 (.load 1 false false), [.t 61]⟩,
     ⟨some 63, none, .iad 4, [.t 62, .c (.p (.int .i64 0))]⟩,
     ⟨some 64, none, .loadp 4 true, [.t 63]⟩,
     ⟨some 65, none, .fad 1, [.t 9]⟩,
     ⟨some 66, none, .at 2 (.load 1 false false), [.t 65]⟩,
     ⟨some 67, none, .iad 4, [.t 66, .c (.p (.int .i64 1))]⟩,
     ⟨some 68, none, .loadp 4 true, [.t 67]⟩,
     ⟨some 11, none, .alloc 3 4 [.p (.int .i64 0), .p (.int .i64 0), .p (.int .i64 0), .p (.int .i64 0)], []⟩,
     ⟨some 12, none, .alloc 4 4 [.p (.int .i64 0), .p (.int .i64 0), .p (.int .i64 0), .p (.int .i64 0)], []⟩,
     ⟨none, none, .at 3 (.store 4), [.t 11, .t 64]⟩,
     ⟨none, none, .at 4 (.store 4), [.t 12, .t 68]⟩]))
  (.seq
  (.reg [⟨some 69, none, .fad 0, [.t 11]⟩,
     ⟨some 70, none, .load 1 false false, [.t 69]⟩,
     ⟨some 71, none, .fad 0, [.t 12]⟩,
     ⟨some 72, none, .load 1 false false, [.t 71]⟩,
     ⟨some 73, none, .bin .neq, [.t 70, .t 72]⟩,
     ⟨some 74, none, .mov false, [.t 73]⟩,
     ⟨some 75, (some (74, true)), .fad 1, [.t 11]⟩,
     ⟨some 76, (some (74, true)), .load 1 false false, [.t 75]⟩,
     ⟨some 77, (some (74, true)), .bin .eql, [.t 76, .c (.p (.int .i64 0))]⟩,
     ⟨some 78, none, .pick, [.t 74, .t 77, .c (.p (.bool false))]⟩,
     ⟨some 79, none, .mov false, [.t 78]⟩,
     ⟨some 80, (some (79, true)), .fad 2, [.t 11]⟩,
     ⟨some 81, (some (79, true)), .load 1 false false, [.t 80]⟩,
     ⟨some 82, (some (79, true)), .fad 3, [.t 11]⟩,
     ⟨some 83, (some (79, true)), .load 1 false false, [.t 82]⟩,
     ⟨some 84, (some (79, true)), .bin .eql, [.t 81, .t 83]⟩,
     ⟨some 85, none, .pick, [.t 79, .t 84, .c (.p (.bool false))]⟩,
     ⟨some 86, none, .mov false, [.t 85]⟩,
     ⟨some 87, (some (86, true)), .fad 1, [.t 12]⟩,
     ⟨some 88, (some (86, true)), .load 1 false false, [.t 87]⟩,
     ⟨some 89, (some (86, true)), .fad 3, [.t 11]⟩,
     ⟨some 90, (some (86, true)), .load 1 false false, [.t 89]⟩,
     ⟨some 91, (some (86, true)), .fad 2, [.t 3]⟩,
     ⟨some 92, (some (86, true)), .load 1 false false, [.t 91]⟩,
     ⟨some 93, (some (86, true)), .bin .add, [.t 90, .t 92]⟩,
     ⟨some 94, (some (86, true)), .bin .eql, [.t 88, .t 93]⟩,
     ⟨some 95, none, .pick, [.t 86, .t 94, .c (.p (.bool false))]⟩,
     ⟨some 96, none, .mov false, [.t 95]⟩,
     ⟨some 97, (some (96, true)), .fad 1, [.t 12]⟩,
     ⟨some 98, (some (96, true)), .load 1 false false, [.t 97]⟩,
     ⟨some 99, (some (96, true)), .fad 2, [.t 12]⟩,
     ⟨some 100, (some (96, true)), .load 1 false false, [.t 99]⟩,
     ⟨some 101, (some (96, true)), .bin .add, [.t 98, .t 100]⟩,
     ⟨some 102, (some (96, true)), .fad 1, [.t 5]⟩,
     ⟨some 103, (some (96, true)), .load 1 false false, [.t 102]⟩,
     ⟨some 104, (some (96, true)), .bin .eql, [.t 101, .t 103]⟩,
     ⟨some 105, none, .pick, [.t 96, .t 104, .c (.p (.bool false))]⟩,
     ⟨some 106, none, .mov false, [.t 105]⟩,
     ⟨some 107, (some (106, true)), .fad 3, [.t 11]⟩,
     ⟨some 108, (some (106, true)), .load 1 false false, [.t 107]⟩,
     ⟨some 109, (some (106, true)), .fad 3, [.t 12]⟩,
     ⟨some 110, (some (106, true)), .load 1 false false, [.t 109]⟩,
     ⟨some 111, (some (106, true)), .bin .add, [.t 108, .t 110]⟩,
     ⟨some 112, (some (106, true)), .fad 0, [.t 5]⟩,
     ⟨some 113, (some (106, true)), .load 1 false false, [.t 112]⟩,
     ⟨some 114, (some (106, true)), .fad 3, [.t 3]⟩,
     ⟨some 115, (some (106, true)), .load 1 false false, [.t 114]⟩,
     ⟨some 116, (some (106, true)), .bin .add, [.t 113, .t 115]⟩,
     ⟨some 117, (some (106, true)), .bin .eql, [.t 111, .t 116]⟩,
     ⟨some 118, none, .pick, [.t 106, .t 117, .c (.p (.bool false))]⟩,
     ⟨some 6, none, .mov true, [.t 118]⟩])
  .ret)))))))))))⟩
theorem k12 : chkF Tryz.prog 12 F12 = true := by kernel_rfl
def F14 : Fn := ⟨87, 3, [.tmp 8],
 (.seq
  (.reg [⟨some 4, none, .box 0 5, [.t 0]⟩,
     ⟨some 5, none, .box 1 4, [.t 1]⟩,
     ⟨some 6, none, .box 2 2, [.t 2]⟩,
     ⟨some 8, none, .mov true, [.c (.p (.bool false))]⟩])
  (.seq
  (.reg [⟨some 14, none, .call 18, []⟩,
     ⟨some 9, none, .mov true, [.t 14]⟩])
  (.seq
  (.seq
   (.reg [⟨some 15, none, .mov false, [.t 9]⟩,
      ⟨some 16, none, .un .not, [.t 15]⟩])
   (.cond (.t 16)
   (.seq
    (.reg [⟨some 8, none, .mov true, [.c (.p (.bool false))]⟩])
    .ret)
   .skip))
  (.seq
  (.reg [⟨some 17, none, .load 5 true false, [.t 4]⟩,
     ⟨some 18, none, .call 19, [.t 17]⟩,
     ⟨none, none, .store 5, [.t 4, .t 18]⟩])
  (.seq
  (.reg [⟨some 20, none, .load 5 true false, [.t 4]⟩,
     ⟨some 21, none, .load 4 true false, [.t 5]⟩,
     ⟨some 22, none, .call 21, [.t 20, .t 21]⟩,
     ⟨some 19, none, .mov false, [.t 22]⟩,
     ⟨some 23, none, .ext 0, [.t 19]⟩,
     ⟨some 24, none, .ext 1, [.t 19]⟩,
     ⟨none, none, .store 4, [.t 5, .t 23]⟩,
     ⟨some 10, none, .mov true, [.t 24]⟩])
  (.seq
  (.reg [⟨some 25, none, .fad 1, [.t 6]⟩,
     ⟨some 26, none, .load 1 false false, [.t 25]⟩,
     ⟨some 27, none, .fad 1, [.t 6]⟩,
     ⟨some 28, none, .load 1 false false, [.t 27]⟩,
     ⟨some 29, none, .len, [.t 28]⟩,
     ⟨some 30, none, .mn, [.t 29, .c (.p (.int .i64 8))]⟩,
     ⟨some 31, none, .slc 4 false true, [.t 26, .t 30]⟩,
     ⟨some 32, none, .fad 1, [.t 6]⟩,
     ⟨none, none, .store 1, [.t 32, .t 31]⟩])
  (.seq
  (.seq
   (.reg [⟨some 33, none, .mov false, [.t 10]⟩,
      ⟨some 34, none, .un .not, [.t 33]⟩,
      ⟨some 35, none, .mov false, [.t 34]⟩,
      ⟨some 36, (some (35, false)), .mov false, [.t 3]⟩,
      ⟨some 37, (some (35, false)), .bin .lss, [.t 36, .c (.p (.int .i64 0))]⟩,
      ⟨some 38, none, .pick, [.t 35, .c (.p (.bool true)), .t 37]⟩,
      ⟨some 39, none, .mov false, [.t 38]⟩,
      ⟨some 40, (some (39, false)), .mov false, [.t 3]⟩,
      ⟨some 41, (some (39, false)), .bin .gtr, [.t 40, .c (.p (.int .i64 1099511627776))]⟩,
      ⟨some 42, none, .pick, [.t 39, .c (.p (.bool true)), .t 41]⟩,
      ⟨some 43, none, .mov false, [.t 42]⟩,
      ⟨some 44, (some (43, false)), .load 5 true false, [.t 4]⟩,
      ⟨some 45, (some (43, false)), .load 4 true false, [.t 5]⟩,
      ⟨some 46, (some (43, false)), .load 2 true false, [.t 6]⟩,
      ⟨some 47, (some (43, false)), .call 27, [.t 44, .t 45, .t 46]⟩,
      ⟨some 48, (some (43, false)), .un .not, [.t 47]⟩,
      ⟨some 49, none, .pick, [.t 43, .c (.p (.bool true)), .t 48]⟩])
   (.cond (.t 49)
   (.seq
    (.reg [⟨some 8, none, .mov true, [.c (.p (.bool true))]⟩])
    .ret)
   .skip))
  (.seq
  (.reg [⟨some 50, none, .mov false, [.t 3]⟩,
     ⟨some 11, none, .mov true, [.t 50]⟩])
  (.seq
  (.seq
   (.reg [⟨some 12, none, .mov true, [.c (.p (.int .i64 0))]⟩])
   (.block 0
   (.loop [0, 1, 2, 4, 8, 9, 10, 13, 14, 15, 16, 17, 18, 19, 20, 21, 22, 23, 24, 25, 26, 27, 28, 29, 30, 31, 32, 33, 34, 35, 36, 37, 38, 39, 40, 41, 42, 43, 44, 45, 46, 47, 48, 49, 50, 51, 52, 53, 54, 55, 56, 57, 58, 59, 60, 61, 62, 63, 64, 65, 66, 67, 68, 69, 70, 71, 72, 73, 74, 75, 76, 77, 78, 79, 80, 81, 82, 83, 84, 85, 86] []
    (.seq
     (.seq
      (.reg [⟨some 51, none, .mov false, [.t 12]⟩,
         ⟨some 52, none, .fad 1, [.t 6]⟩,
         ⟨some 53, none, .load 1 false false, [.t 52]⟩,
         ⟨some 54, none, .len, [.t 53]⟩,
         ⟨some 55, none, .bin .lss, [.t 51, .t 54]⟩])
      (.cond (.t 55)
      .skip
      (.exit 0)))
     (.seq
     (.block 1
      (.seq
       (.reg [⟨some 58, none, .load 2 true false, [.t 6]⟩,
          ⟨some 59, none, .mov false, [.t 12]⟩,
          ⟨some 60, none, .mov false, [.t 3]⟩,
          ⟨some 61, none, .call 38, [.t 58, .t 59, .t 60]⟩,
          ⟨some 13, none, .mov true, [.t 61]⟩])
       (.seq
       (.seq
        (.reg [⟨some 62, none, .mov false, [.t 13]⟩,
           ⟨some 63, none, .mov false, [.t 11]⟩,
           ⟨some 64, none, .bin .leq, [.t 62, .t 63]⟩,
           ⟨some 65, none, .mov false, [.t 64]⟩,
           ⟨some 66, (some (65, false)), .mov false, [.t 13]⟩,
           ⟨some 67, (some (65, false)), .mov false, [.t 3]⟩,
           ⟨some 68, (some (65, false)), .fad 1, [.t 5]⟩,
           ⟨some 69, (some (65, false)), .load 1 false false, [.t 68]⟩,
           ⟨some 70, (some (65, false)), .bin .add, [.t 67, .t 69]⟩,
           ⟨some 71, (some (65, false)), .bin .gtr, [.t 66, .t 70]⟩,
           ⟨some 72, none, .pick, [.t 65, .c (.p (.bool true)), .t 71]⟩])
        (.cond (.t 72)
        (.seq
         (.reg [⟨some 8, none, .mov true, [.c (.p (.bool false))]⟩])
         .ret)
        .skip))
       (.reg [⟨some 73, none, .mov false, [.t 13]⟩,
         ⟨some 11, none, .mov true, [.t 73]⟩]))))
     (.reg [⟨some 56, none, .mov false, [.t 12]⟩,
       ⟨some 57, none, .bin .add, [.t 56, .c (.p (.int .i64 1))]⟩,
       ⟨some 12, none, .mov true, [.t 57]⟩]))))))
  (.seq
  (.reg [⟨some 74, none, .load 2 true false, [.t 6]⟩,
     ⟨some 75, none, .fad 1, [.t 6]⟩,
     ⟨some 76, none, .load 1 false false, [.t 75]⟩,
     ⟨some 77, none, .len, [.t 76]⟩,
     ⟨some 78, none, .mov false, [.t 3]⟩,
     ⟨some 79, none, .call 38, [.t 74, .t 77, .t 78]⟩,
     ⟨some 80, none, .bin .eql, [.t 79, .c (.p (.int .i64 0))]⟩,
     ⟨some 81, none, .mov false, [.t 80]⟩,
     ⟨some 82, (some (81, true)), .load 2 true false, [.t 6]⟩,
     ⟨some 83, (some (81, true)), .mov false, [.t 3]⟩,
     ⟨some 84, (some (81, true)), .call 38, [.t 82, .c (.p (.int .i64 (-1))), .t 83]⟩,
     ⟨some 85, (some (81, true)), .bin .eql, [.t 84, .c (.p (.int .i64 0))]⟩,
     ⟨some 86, none, .pick, [.t 81, .t 85, .c (.p (.bool false))]⟩,
     ⟨some 8, none, .mov true, [.t 86]⟩])
  .ret))))))))))⟩
-- a loop, at its head alive: [3, 5, 6, 11, 12]
theorem k14 : chkF Tryz.prog 14 F14 = true := by kernel_rfl
def F15 : Fn := ⟨90, 5, [.tmp 6],
 (.seq
  (.reg [⟨some 3, none, .box 0 5, [.t 0]⟩,
     ⟨some 5, none, .box 1 4, [.t 2]⟩,
     ⟨some 6, none, .mov true, [.c (.p (.bool false))]⟩])
  (.seq
  (.reg [⟨some 17, none, .call 18, []⟩,
     ⟨some 7, none, .mov true, [.t 17]⟩])
  (.seq
  (.seq
   (.reg [⟨some 18, none, .mov false, [.t 7]⟩,
      ⟨some 19, none, .un .not, [.t 18]⟩])
   (.cond (.t 19)
   (.seq
    (.reg [⟨some 6, none, .mov true, [.c (.p (.bool false))]⟩])
    .ret)
   .skip))
  (.seq
  (.reg [⟨some 20, none, .load 5 true false, [.t 3]⟩,
     ⟨some 21, none, .call 19, [.t 20]⟩,
     ⟨none, none, .store 5, [.t 3, .t 21]⟩])
  (.seq
  (.reg [⟨some 22, none, .load 5 true false, [.t 3]⟩,
     ⟨some 23, none, .mov false, [.t 1]⟩,
     ⟨some 24, none, .call 20, [.t 22, .t 23]⟩,
     ⟨some 8, none, .mov true, [.t 24]⟩])
  (.seq
  (.reg [⟨some 26, none, .load 5 true false, [.t 3]⟩,
     ⟨some 27, none, .load 4 true false, [.t 5]⟩,
     ⟨some 28, none, .call 21, [.t 26, .t 27]⟩,
     ⟨some 25, none, .mov false, [.t 28]⟩,
     ⟨some 29, none, .ext 0, [.t 25]⟩,
     ⟨some 30, none, .ext 1, [.t 25]⟩,
     ⟨none, none, .store 4, [.t 5, .t 29]⟩,
     ⟨some 9, none, .mov true, [.t 30]⟩])
  (.seq
  (.seq
   (.reg [⟨some 31, none, .mov false, [.t 9]⟩,
      ⟨some 32, none, .un .not, [.t 31]⟩])
   (.cond (.t 32)
   (.seq
    (.reg [⟨some 6, none, .mov true, [.c (.p (.bool true))]⟩])
    .ret)
   .skip))
  (.seq
  (.reg [⟨some 34, none, .load 5 true false, [.t 3]⟩,
     ⟨some 35, none, .mov false, [.t 8]⟩,
     ⟨some 36, none, .load 4 true false, [.t 5]⟩,
     ⟨some 37, none, .call 28, [.t 34, .t 35, .t 36]⟩,
     ⟨some 33, none, .mov false, [.t 37]⟩,
     ⟨some 38, none, .ext 0, [.t 33]⟩,
     ⟨some 39, none, .ext 1, [.t 33]⟩,
     ⟨some 10, none, .alloc 2 2 [.p (.int .i64 0), .ow 4 true []], []⟩,
     ⟨none, none, .store 2, [.t 10, .t 38]⟩,
     ⟨some 11, none, .mov true, [.t 39]⟩])
  (.seq
  (.reg [⟨some 40, none, .mov false, [.t 8]⟩,
     ⟨some 41, none, .len, [.t 40]⟩,
     ⟨some 42, none, .mksl 3 1 24 false [.ow 3 true []], [.t 41, .t 41]⟩,
     ⟨some 12, none, .mov true, [.t 42]⟩])
  (.seq
  (.seq
   (.reg [⟨some 43, none, .mov false, [.t 8]⟩,
      ⟨some 44, none, .len, [.t 43]⟩,
      ⟨some 45, none, .mov false, [.c (.p (.int .i64 0))]⟩])
   (.block 0
   (.loop [0, 1, 2, 6, 7, 9, 13, 14, 15, 16, 17, 18, 19, 20, 21, 22, 23, 24, 25, 26, 27, 28, 29, 30, 31, 32, 33, 34, 35, 36, 37, 38, 39, 40, 41, 42, 43, 46, 47, 48, 49, 50, 51, 52, 53, 54, 55, 56, 57, 58, 59, 60, 61, 62, 63, 64, 65, 66, 67, 68, 69, 70, 71, 72, 73, 74, 75, 76, 77, 78, 79, 80, 81, 82, 83, 84, 85, 86, 87, 88, 89] []
    (.seq
     (.reg [⟨some 46, none, .bin .lss, [.t 45, .t 44]⟩])
     (.seq
     (.cond (.t 46)
      .skip
      (.exit 0))
     (.seq
     (.block 1
      (.seq
       (.reg [⟨some 47, none, .mov false, [.t 45]⟩,
          ⟨some 13, none, .mov true, [.t 47]⟩])
       (.seq
       (.reg [⟨some 48, none, .mov false, [.t 8]⟩,
          ⟨some 49, none, .mov false, [.t 13]⟩,
          ⟨some 50, none, .iad 1, [.t 48, .t 49]⟩,
          ⟨some 51, none, .load 1 false false, [.t 50]⟩,
          ⟨some 52, none, .len, [.t 51]⟩,
          ⟨some 53, none, .bin .sub, [.t 52, .c (.p (.int .i64 1))]⟩,
          ⟨some 14, none, .mov true, [.t 53]⟩])
       (.block 2
       (.loop [0, 1, 2, 6, 7, 9, 15, 16, 17, 18, 19, 20, 21, 22, 23, 24, 25, 26, 27, 28, 29, 30, 31, 32, 33, 34, 35, 36, 37, 38, 39, 40, 41, 42, 43, 46, 47, 48, 49, 50, 51, 52, 53, 54, 55, 56, 57, 58, 59, 60, 61, 62, 63, 64, 65, 66, 67, 68, 69, 70, 71, 72, 73, 74, 75, 76, 77, 78, 79, 80, 81, 82, 83, 84, 85, 86, 87, 88, 89] []
        (.seq
         (.seq
          (.reg [⟨some 54, none, .mov false, [.t 14]⟩,
             ⟨some 55, none, .bin .geq, [.t 54, .c (.p (.int .i64 0))]⟩])
          (.cond (.t 55)
          .skip
          (.exit 2)))
         (.seq
         (.block 3
          (.regd [⟨some 58, none, .mov false, [.t 12]⟩,
             ⟨some 59, none, .mov false, [.t 13]⟩,
             ⟨some 60, none, .mov false, [.t 12]⟩,
             ⟨some 61, none, .mov false, [.t 13]⟩,
             ⟨some 62, none, .iad 1, [.t 60, .t 61]⟩,
             ⟨some 63, none, .at 3 (.load 1 false true), [.t 62]⟩,
             ⟨some 64, none, .mov false, [.t 8]⟩,
             ⟨some 65, none, .mov false, [.t 13]⟩,
             ⟨some 66, none, .iad 1, [.t 64, .t 65]⟩,
             ⟨some 67, none, .loadp 1 false, [.t 66]⟩,
             ⟨some 68, none, .mov false, [.t 14]⟩,
             ⟨some 69, none, .iad 3, [.t 67, .t 68]⟩,
             ⟨some 70, none, .loadp 3 true, [.t 69]⟩,
             ⟨some 71, none, .bsl 3 1, [.t 70]⟩,
             ⟨some 72, none, .pl (.app 3 24), [.t 63, .t 71]⟩,
             ⟨some 73, none, .iad 1, [.t 58, .t 59]⟩,
             ⟨none, none, .at 3 (.store 1), [.t 73, .t 72]⟩]))
         (.reg [⟨some 56, none, .mov false, [.t 14]⟩,
           ⟨some 57, none, .bin .sub, [.t 56, .c (.p (.int .i64 1))]⟩,
           ⟨some 14, none, .mov true, [.t 57]⟩]))))))))
     (.reg [⟨some 74, none, .bin .add, [.t 45, .c (.p (.int .i64 1))]⟩,
       ⟨some 45, none, .mov false, [.t 74]⟩])))))))
  (.seq
  (.pre [] [3] [] (.reg [⟨some 76, none, .load 5 true false, [.t 3]⟩,
     ⟨some 77, none, .mov false, [.t 12]⟩,
     ⟨some 78, none, .load 4 true false, [.t 5]⟩,
     ⟨some 79, none, .call 28, [.t 76, .t 77, .t 78]⟩,
     ⟨some 75, none, .mov false, [.t 79]⟩,
     ⟨some 80, none, .ext 0, [.t 75]⟩,
     ⟨some 81, none, .ext 1, [.t 75]⟩,
     ⟨some 15, none, .alloc 4 2 [.p (.int .i64 0), .ow 4 true []], []⟩,
     ⟨none, none, .store 2, [.t 15, .t 80]⟩,
     ⟨some 16, none, .mov true, [.t 81]⟩]))
  (.seq
  (.reg [⟨some 82, none, .mov false, [.t 11]⟩,
     ⟨some 83, none, .mov false, [.t 16]⟩,
     ⟨some 84, none, .eqb false, [.t 82, .t 83]⟩,
     ⟨some 85, none, .mov false, [.t 84]⟩,
     ⟨some 86, (some (85, true)), .load 2 true false, [.t 10]⟩,
     ⟨some 87, (some (85, true)), .load 2 true false, [.t 15]⟩,
     ⟨some 88, (some (85, true)), .call 37, [.t 86, .t 87]⟩,
     ⟨some 89, none, .pick, [.t 85, .t 88, .c (.p (.bool false))]⟩,
     ⟨some 6, none, .mov true, [.t 89]⟩])
  .ret))))))))))))⟩
-- a loop, at its head alive: [3, 5, 8, 10, 11, 12, 44, 45]
-- a loop, at its head alive: [3, 5, 8, 10, 11, 12, 13, 14, 44, 45]
theorem k15 : chkF Tryz.prog 15 F15 = true := by kernel_rfl
def F16 : Fn := ⟨127, 5, [.tmp 6],
 (.seq
  (.reg [⟨some 3, none, .box 0 5, [.t 0]⟩,
     ⟨some 5, none, .box 1 4, [.t 2]⟩,
     ⟨some 6, none, .mov true, [.c (.p (.bool false))]⟩])
  (.seq
  (.reg [⟨some 20, none, .call 18, []⟩,
     ⟨some 7, none, .mov true, [.t 20]⟩])
  (.seq
  (.seq
   (.reg [⟨some 21, none, .mov false, [.t 7]⟩,
      ⟨some 22, none, .un .not, [.t 21]⟩])
   (.cond (.t 22)
   (.seq
    (.reg [⟨some 6, none, .mov true, [.c (.p (.bool false))]⟩])
    .ret)
   .skip))
  (.seq
  (.reg [⟨some 23, none, .load 5 true false, [.t 3]⟩,
     ⟨some 24, none, .call 19, [.t 23]⟩,
     ⟨none, none, .store 5, [.t 3, .t 24]⟩])
  (.seq
  (.regd [⟨some 25, none, .at 0 (.load 5 true false), [.t 3]⟩,
     ⟨some 26, none, .mov false, [.t 1]⟩,
     ⟨some 27, none, .pl (.call 20), [.t 25, .t 26]⟩,
     ⟨some 28, none, .at 0 (.load 5 true false), [.t 3]⟩,
     ⟨some 29, none, .mov false, [.t 1]⟩,
     ⟨some 30, none, .pl (.call 20), [.t 28, .t 29]⟩,
     ⟨some 8, none, .mov true, [.t 27]⟩,
     ⟨some 9, none, .mov true, [.t 30]⟩])
  (.seq
  (.reg [⟨some 32, none, .load 5 true false, [.t 3]⟩,
     ⟨some 33, none, .load 4 true false, [.t 5]⟩,
     ⟨some 34, none, .call 21, [.t 32, .t 33]⟩,
     ⟨some 31, none, .mov false, [.t 34]⟩,
     ⟨some 35, none, .ext 0, [.t 31]⟩,
     ⟨some 36, none, .ext 1, [.t 31]⟩,
     ⟨none, none, .store 4, [.t 5, .t 35]⟩,
     ⟨some 10, none, .mov true, [.t 36]⟩])
  (.seq
  (.seq
   (.reg [⟨some 37, none, .mov false, [.t 10]⟩,
      ⟨some 38, none, .un .not, [.t 37]⟩])
   (.cond (.t 38)
   (.seq
    (.reg [⟨some 6, none, .mov true, [.c (.p (.bool true))]⟩])
    .ret)
   .skip))
  (.seq
  (.reg [⟨some 39, none, .mov false, [.t 8]⟩,
     ⟨some 40, none, .load 4 true false, [.t 5]⟩,
     ⟨some 41, none, .call 22, [.t 39, .t 40, .c (.p (.int .i64 1))]⟩])
  (.seq
  (.reg [⟨some 42, none, .load 5 true false, [.t 3]⟩,
     ⟨some 43, none, .mov false, [.t 8]⟩,
     ⟨some 44, none, .load 4 true false, [.t 5]⟩,
     ⟨some 45, none, .call 28, [.t 42, .t 43, .t 44]⟩])
  (.seq
  (.reg [⟨some 46, none, .load 5 true false, [.t 3]⟩,
     ⟨some 47, none, .mov false, [.t 8]⟩,
     ⟨some 48, none, .load 4 true false, [.t 5]⟩,
     ⟨some 49, none, .call 32, [.t 46, .t 47, .t 48]⟩])
  (.seq
  (.seq
   (.reg [⟨some 50, none, .mov false, [.t 8]⟩,
      ⟨some 51, none, .len, [.t 50]⟩,
      ⟨some 52, none, .mov false, [.c (.p (.int .i64 0))]⟩])
   (.block 0
   (.loop [0, 1, 2, 6, 7, 10, 11, 12, 13, 14, 15, 16, 17, 18, 19, 20, 21, 22, 23, 24, 25, 26, 27, 28, 29, 30, 31, 32, 33, 34, 35, 36, 37, 38, 39, 40, 41, 42, 43, 44, 45, 46, 47, 48, 49, 50, 53, 54, 55, 56, 57, 58, 59, 60, 61, 62, 63, 64, 65, 66, 67, 68, 69, 70, 71, 72, 73, 74, 75, 76, 77, 78, 79, 80, 81, 82, 83, 84, 85, 86, 87, 88, 89, 90, 91, 92, 93, 94, 95, 96, 97, 98, 99, 100, 101, 102, 103, 104, 105, 106, 107, 108, 109, 110, 111, 112, 113, 114, 115, 116, 117, 118, 119, 120, 121, 122, 123, 124, 125, 126] []
    (.seq
     (.reg [⟨some 53, none, .bin .lss, [.t 52, .t 51]⟩])
     (.seq
     (.cond (.t 53)
      .skip
      (.exit 0))
     (.seq
     (.block 1
      (.seq
       (.reg [⟨some 54, none, .mov false, [.t 52]⟩,
          ⟨some 11, none, .mov true, [.t 54]⟩])
       (.seq
       (.seq
        (.regd [⟨some 55, none, .mov false, [.t 8]⟩,
           ⟨some 56, none, .mov false, [.t 11]⟩,
           ⟨some 57, none, .iad 1, [.t 55, .t 56]⟩,
           ⟨some 58, none, .loadp 1 false, [.t 57]⟩,
           ⟨some 59, none, .lenD, [.t 58]⟩,
           ⟨some 60, none, .mov false, [.t 9]⟩,
           ⟨some 61, none, .mov false, [.t 11]⟩,
           ⟨some 62, none, .iad 1, [.t 60, .t 61]⟩,
           ⟨some 63, none, .loadp 1 false, [.t 62]⟩,
           ⟨some 64, none, .lenD, [.t 63]⟩,
           ⟨some 65, none, .bin .neq, [.t 59, .t 64]⟩])
        (.cond (.t 65)
        (.seq
         (.reg [⟨some 6, none, .mov true, [.c (.p (.bool false))]⟩])
         .ret)
        .skip))
       (.seq
       (.reg [⟨some 66, none, .mov false, [.t 8]⟩,
          ⟨some 67, none, .mov false, [.t 11]⟩,
          ⟨some 68, none, .iad 1, [.t 66, .t 67]⟩,
          ⟨some 69, none, .load 1 false false, [.t 68]⟩,
          ⟨some 70, none, .len, [.t 69]⟩,
          ⟨some 71, none, .mov false, [.c (.p (.int .i64 0))]⟩])
       (.block 2
       (.loop [0, 1, 2, 6, 7, 10, 12, 13, 14, 15, 16, 17, 18, 19, 20, 21, 22, 23, 24, 25, 26, 27, 28, 29, 30, 31, 32, 33, 34, 35, 36, 37, 38, 39, 40, 41, 42, 43, 44, 45, 46, 47, 48, 49, 50, 53, 54, 55, 56, 57, 58, 59, 60, 61, 62, 63, 64, 65, 66, 67, 68, 69, 72, 73, 74, 75, 76, 77, 78, 79, 80, 81, 82, 83, 84, 85, 86, 87, 88, 89, 90, 91, 92, 93, 94, 95, 96, 97, 98, 99, 100, 101, 102, 103, 104, 105, 106, 107, 108, 109, 110, 111, 112, 113, 114, 115, 116, 117, 118, 119, 120, 121, 122, 123, 124, 125, 126] []
        (.seq
         (.reg [⟨some 72, none, .bin .lss, [.t 71, .t 70]⟩])
         (.seq
         (.cond (.t 72)
          .skip
          (.exit 2))
         (.seq
         (.block 3
          (.seq
           (.reg [⟨some 73, none, .mov false, [.t 71]⟩,
              ⟨some 12, none, .mov true, [.t 73]⟩])
           (.seq
           (.regd [⟨some 74, none, .mov false, [.t 8]⟩,
              ⟨some 75, none, .mov false, [.t 11]⟩,
              ⟨some 76, none, .iad 1, [.t 74, .t 75]⟩,
              ⟨some 77, none, .loadp 1 false, [.t 76]⟩,
              ⟨some 78, none, .mov false, [.t 12]⟩,
              ⟨some 79, none, .iad 3, [.t 77, .t 78]⟩,
              ⟨some 80, none, .loadp 3 true, [.t 79]⟩,
              ⟨some 81, none, .mov false, [.t 9]⟩,
              ⟨some 82, none, .mov false, [.t 11]⟩,
              ⟨some 83, none, .iad 1, [.t 81, .t 82]⟩,
              ⟨some 84, none, .loadp 1 false, [.t 83]⟩,
              ⟨some 85, none, .mov false, [.t 12]⟩,
              ⟨some 86, none, .iad 3, [.t 84, .t 85]⟩,
              ⟨some 87, none, .loadp 3 true, [.t 86]⟩,
              ⟨some 88, none, .eqs 3 true, [.t 80, .t 87]⟩])
           (.cond (.t 88)
           (.seq
            (.reg [⟨some 6, none, .mov true, [.c (.p (.bool false))]⟩])
            .ret)
           .skip))))
         (.reg [⟨some 89, none, .bin .add, [.t 71, .c (.p (.int .i64 1))]⟩,
           ⟨some 71, none, .mov false, [.t 89]⟩]))))))))))
     (.reg [⟨some 90, none, .bin .add, [.t 52, .c (.p (.int .i64 1))]⟩,
       ⟨some 52, none, .mov false, [.t 90]⟩])))))))
  (.seq
  (.reg [⟨some 92, none, .load 5 true false, [.t 3]⟩,
     ⟨some 93, none, .mov false, [.t 8]⟩,
     ⟨some 94, none, .load 4 true false, [.t 5]⟩,
     ⟨some 95, none, .call 28, [.t 92, .t 93, .t 94]⟩,
     ⟨some 91, none, .mov false, [.t 95]⟩,
     ⟨some 96, none, .ext 0, [.t 91]⟩,
     ⟨some 97, none, .ext 1, [.t 91]⟩,
     ⟨some 13, none, .alloc 2 2 [.p (.int .i64 0), .ow 4 true []], []⟩,
     ⟨none, none, .store 2, [.t 13, .t 96]⟩,
     ⟨some 14, none, .mov true, [.t 97]⟩])
  (.seq
  (.reg [⟨some 99, none, .load 5 true false, [.t 3]⟩,
     ⟨some 100, none, .mov false, [.t 8]⟩,
     ⟨some 101, none, .load 4 true false, [.t 5]⟩,
     ⟨some 102, none, .call 28, [.t 99, .t 100, .t 101]⟩,
     ⟨some 98, none, .mov false, [.t 102]⟩,
     ⟨some 103, none, .ext 0, [.t 98]⟩,
     ⟨some 104, none, .ext 1, [.t 98]⟩,
     ⟨some 15, none, .alloc 3 2 [.p (.int .i64 0), .ow 4 true []], []⟩,
     ⟨none, none, .store 2, [.t 15, .t 103]⟩,
     ⟨some 16, none, .mov true, [.t 104]⟩])
  (.seq
  (.seq
   (.reg [⟨some 105, none, .fad 1, [.t 13]⟩,
      ⟨some 106, none, .load 1 false false, [.t 105]⟩,
      ⟨some 107, none, .len, [.t 106]⟩,
      ⟨some 108, none, .mov false, [.c (.p (.int .i64 0))]⟩])
   (.block 4
   (.loop [0, 1, 2, 6, 7, 9, 10, 11, 12, 14, 16, 17, 18, 19, 20, 21, 22, 23, 24, 25, 26, 27, 28, 29, 30, 31, 32, 33, 34, 35, 36, 37, 38, 39, 40, 41, 42, 43, 44, 45, 46, 47, 48, 49, 50, 51, 52, 53, 54, 55, 56, 57, 58, 59, 60, 61, 62, 63, 64, 65, 66, 67, 68, 69, 70, 71, 72, 73, 74, 75, 76, 77, 78, 79, 80, 81, 82, 83, 84, 85, 86, 87, 88, 89, 90, 91, 92, 93, 94, 95, 96, 97, 98, 99, 100, 101, 102, 103, 104, 105, 106, 109, 110, 111, 112, 113, 114, 115, 116, 117, 118, 119, 120, 121, 122, 123, 124, 125, 126] []
    (.seq
     (.reg [⟨some 109, none, .bin .lss, [.t 108, .t 107]⟩])
     (.seq
     (.cond (.t 109)
      .skip
      (.exit 4))
     (.seq
     (.block 5
      (.seq
       (.reg [⟨some 110, none, .mov false, [.t 108]⟩,
          ⟨some 17, none, .mov true, [.t 110]⟩])
       (.reg [⟨some 111, none, .fad 1, [.t 13]⟩,
         ⟨some 112, none, .load 1 false false, [.t 111]⟩,
         ⟨some 113, none, .mov false, [.t 17]⟩,
         ⟨some 114, none, .iad 4, [.t 112, .t 113]⟩,
         ⟨some 115, none, .fad 3, [.t 114]⟩,
         ⟨none, none, .store 1, [.t 115, .c (.p (.int .i64 99))]⟩])))
     (.reg [⟨some 116, none, .bin .add, [.t 108, .c (.p (.int .i64 1))]⟩,
       ⟨some 108, none, .mov false, [.t 116]⟩])))))))
  (.seq
  (.reg [⟨some 118, none, .load 5 true false, [.t 3]⟩,
     ⟨some 119, none, .mov false, [.t 8]⟩,
     ⟨some 120, none, .load 4 true false, [.t 5]⟩,
     ⟨some 121, none, .call 28, [.t 118, .t 119, .t 120]⟩,
     ⟨some 117, none, .mov false, [.t 121]⟩,
     ⟨some 122, none, .ext 0, [.t 117]⟩,
     ⟨some 123, none, .ext 1, [.t 117]⟩,
     ⟨some 18, none, .alloc 4 2 [.p (.int .i64 0), .ow 4 true []], []⟩,
     ⟨none, none, .store 2, [.t 18, .t 122]⟩,
     ⟨some 19, none, .mov true, [.t 123]⟩])
  (.seq
  (.reg [⟨some 124, none, .load 2 true false, [.t 15]⟩,
     ⟨some 125, none, .load 2 true false, [.t 18]⟩,
     ⟨some 126, none, .call 37, [.t 124, .t 125]⟩,
     ⟨some 6, none, .mov true, [.t 126]⟩])
  .ret))))))))))))))))⟩
-- a loop, at its head alive: [3, 5, 8, 9, 51, 52]
-- a loop, at its head alive: [3, 5, 8, 9, 11, 51, 52, 70, 71]
-- a loop, at its head alive: [3, 5, 8, 13, 15, 107, 108]
theorem k16 : chkF Tryz.prog 16 F16 = true := by kernel_rfl
def F17 : Fn := ⟨127, 4, [.tmp 8],
 (.seq
  (.reg [⟨some 4, none, .box 0 5, [.t 0]⟩,
     ⟨some 6, none, .box 1 4, [.t 2]⟩,
     ⟨some 8, none, .mov true, [.c (.p (.bool false))]⟩])
  (.seq
  (.reg [⟨some 16, none, .call 18, []⟩,
     ⟨some 9, none, .mov true, [.t 16]⟩])
  (.seq
  (.seq
   (.reg [⟨some 17, none, .mov false, [.t 9]⟩,
      ⟨some 18, none, .un .not, [.t 17]⟩])
   (.cond (.t 18)
   (.seq
    (.reg [⟨some 8, none, .mov true, [.c (.p (.bool false))]⟩])
    .ret)
   .skip))
  (.seq
  (.reg [⟨some 19, none, .load 5 true false, [.t 4]⟩,
     ⟨some 20, none, .call 19, [.t 19]⟩,
     ⟨none, none, .store 5, [.t 4, .t 20]⟩])
  (.seq
  (.reg [⟨some 21, none, .load 5 true false, [.t 4]⟩,
     ⟨some 22, none, .mov false, [.t 1]⟩,
     ⟨some 23, none, .call 20, [.t 21, .t 22]⟩,
     ⟨some 10, none, .mov true, [.t 23]⟩])
  (.seq
  (.reg [⟨some 25, none, .load 5 true false, [.t 4]⟩,
     ⟨some 26, none, .load 4 true false, [.t 6]⟩,
     ⟨some 27, none, .call 21, [.t 25, .t 26]⟩,
     ⟨some 24, none, .mov false, [.t 27]⟩,
     ⟨some 28, none, .ext 0, [.t 24]⟩,
     ⟨some 29, none, .ext 1, [.t 24]⟩,
     ⟨none, none, .store 4, [.t 6, .t 28]⟩,
     ⟨some 11, none, .mov true, [.t 29]⟩])
  (.seq
  (.reg [⟨some 30, none, .mov false, [.t 3]⟩,
     ⟨some 31, none, .bin .and, [.t 30, .c (.p (.int .i64 31))]⟩,
     ⟨some 3, none, .mov true, [.t 31]⟩])
  (.seq
  (.seq
   (.reg [⟨some 32, none, .mov false, [.t 11]⟩,
      ⟨some 33, none, .un .not, [.t 32]⟩])
   (.cond (.t 33)
   (.seq
    (.reg [⟨some 8, none, .mov true, [.c (.p (.bool true))]⟩])
    .ret)
   .skip))
  (.seq
  (.reg [⟨some 35, none, .mov false, [.t 10]⟩,
     ⟨some 36, none, .load 4 true false, [.t 6]⟩,
     ⟨some 37, none, .mov false, [.t 3]⟩,
     ⟨some 38, none, .call 22, [.t 35, .t 36, .t 37]⟩,
     ⟨some 34, none, .mov false, [.t 38]⟩,
     ⟨some 39, none, .ext 0, [.t 34]⟩,
     ⟨some 40, none, .ext 1, [.t 34]⟩,
     ⟨some 12, none, .alloc 2 2 [.p (.int .i64 0), .ow 4 true []], []⟩,
     ⟨none, none, .store 2, [.t 12, .t 39]⟩,
     ⟨some 13, none, .mov true, [.t 40]⟩])
  (.seq
  (.reg [⟨some 42, none, .mov false, [.t 10]⟩,
     ⟨some 43, none, .load 4 true false, [.t 6]⟩,
     ⟨some 44, none, .mov false, [.t 3]⟩,
     ⟨some 45, none, .bin .add, [.t 44, .c (.p (.int .i64 1))]⟩,
     ⟨some 46, none, .call 22, [.t 42, .t 43, .t 45]⟩,
     ⟨some 41, none, .mov false, [.t 46]⟩,
     ⟨some 47, none, .ext 0, [.t 41]⟩,
     ⟨some 48, none, .ext 1, [.t 41]⟩,
     ⟨some 14, none, .alloc 3 2 [.p (.int .i64 0), .ow 4 true []], []⟩,
     ⟨none, none, .store 2, [.t 14, .t 47]⟩,
     ⟨some 15, none, .mov true, [.t 48]⟩])
  (.seq
  (.seq
   (.regd [⟨some 49, none, .mov false, [.t 15]⟩,
      ⟨some 50, none, .mov false, [.t 49]⟩,
      ⟨some 51, (some (50, true)), .mov false, [.t 13]⟩,
      ⟨some 52, (some (50, true)), .un .not, [.t 51]⟩,
      ⟨some 53, (some (50, true)), .mov false, [.t 52]⟩,
      ⟨some 54, (some (53, false)), .fad 1, [.t 12]⟩,
      ⟨some 55, (some (53, false)), .at 2 (.load 1 false false), [.t 54]⟩,
      ⟨some 56, (some (53, false)), .lenD, [.t 55]⟩,
      ⟨some 57, (some (53, false)), .bin .eql, [.t 56, .c (.p (.int .i64 0))]⟩,
      ⟨some 58, (some (50, true)), .pick, [.t 53, .c (.p (.bool true)), .t 57]⟩,
      ⟨some 59, (some (50, true)), .mov false, [.t 58]⟩,
      ⟨some 60, (some (59, false)), .fad 1, [.t 14]⟩,
      ⟨some 61, (some (59, false)), .at 3 (.load 1 false false), [.t 60]⟩,
      ⟨some 62, (some (59, false)), .lenD, [.t 61]⟩,
      ⟨some 63, (some (59, false)), .bin .eql, [.t 62, .c (.p (.int .i64 0))]⟩,
      ⟨some 64, (some (50, true)), .pick, [.t 59, .c (.p (.bool true)), .t 63]⟩,
      ⟨some 65, (some (50, true)), .mov false, [.t 64]⟩,
      ⟨some 66, (some (65, false)), .fad 1, [.t 12]⟩,
      ⟨some 67, (some (65, false)), .at 2 (.load 1 false false), [.t 66]⟩,
      ⟨some 68, (some (65, false)), .iad 4, [.t 67, .c (.p (.int .i64 0))]⟩,
      ⟨some 69, (some (65, false)), .fad 0, [.t 68]⟩,
      ⟨some 70, (some (65, false)), .loadp 1 false, [.t 69]⟩,
      ⟨some 71, (some (65, false)), .fad 1, [.t 14]⟩,
      ⟨some 72, (some (65, false)), .at 3 (.load 1 false false), [.t 71]⟩,
      ⟨some 73, (some (65, false)), .iad 4, [.t 72, .c (.p (.int .i64 0))]⟩,
      ⟨some 74, (some (65, false)), .fad 0, [.t 73]⟩,
      ⟨some 75, (some (65, false)), .loadp 1 false, [.t 74]⟩,
      ⟨some 76, (some (65, false)), .bin .gtr, [.t 70, .t 75]⟩,
      ⟨some 77, (some (50, true)), .pick, [.t 65, .c (.p (.bool true)), .t 76]⟩,
      ⟨some 78, none, .pick, [.t 50, .t 77, .c (.p (.bool false))]⟩])
   (.cond (.t 78)
   (.seq
    (.reg [⟨some 8, none, .mov true, [.c (.p (.bool false))]⟩])
    .ret)
   .skip))
  (.seq
  (.regd [⟨some 79, none, .mov false, [.t 13]⟩,
     ⟨some 80, none, .un .not, [.t 79]⟩,
     ⟨some 81, none, .mov false, [.t 80]⟩,
     ⟨some 82, (some (81, false)), .fad 1, [.t 12]⟩,
     ⟨some 83, (some (81, false)), .at 2 (.load 1 false false), [.t 82]⟩,
     ⟨some 84, (some (81, false)), .lenD, [.t 83]⟩,
     ⟨some 85, (some (81, false)), .bin .eql, [.t 84, .c (.p (.int .i64 1))]⟩,
     ⟨some 86, (some (81, false)), .mov false, [.t 85]⟩,
     ⟨some 87, (some (86, true)), .fad 1, [.t 12]⟩,
     ⟨some 88, (some (86, true)), .at 2 (.load 1 false false), [.t 87]⟩,
     ⟨some 89, (some (86, true)), .iad 4, [.t 88, .c (.p (.int .i64 0))]⟩,
     ⟨some 90, (some (86, true)), .loadp 4 true, [.t 89]⟩,
     ⟨some 91, (some (86, true)), .fad 1, [.t 12]⟩,
     ⟨some 92, (some (86, true)), .at 2 (.load 1 false false), [.t 91]⟩,
     ⟨some 93, (some (86, true)), .iad 4, [.t 92, .c (.p (.int .i64 0))]⟩,
     ⟨some 94, (some (86, true)), .fad 0, [.t 93]⟩,
     ⟨some 95, (some (86, true)), .loadp 1 false, [.t 94]⟩,
     ⟨some 96, (some (86, true)), .fad 1, [.t 6]⟩,
     ⟨some 97, (some (86, true)), .at 1 (.load 1 false false), [.t 96]⟩,
     ⟨some 98, (some (86, true)), .fad 0, [.t 6]⟩,
     ⟨some 99, (some (86, true)), .at 1 (.load 1 false false), [.t 98]⟩,
     ⟨some 100, (some (86, true)), .build [.int .i64 0, .int .i64 0, .int .i64 0, .int .i64 0] [(0, 1), (2, 1), (3, 1)], [.t 95, .t 97, .t 99]⟩,
     ⟨some 101, (some (86, true)), .eqs 4 false, [.t 90, .t 100]⟩,
     ⟨some 102, (some (81, false)), .pick, [.t 86, .t 101, .c (.p (.bool false))]⟩,
     ⟨some 103, (some (81, false)), .mov false, [.t 102]⟩,
     ⟨some 104, (some (103, true)), .mov false, [.t 10]⟩,
     ⟨some 105, (some (103, true)), .fad 1, [.t 12]⟩,
     ⟨some 106, (some (103, true)), .at 2 (.load 1 false false), [.t 105]⟩,
     ⟨some 107, (some (103, true)), .iad 4, [.t 106, .c (.p (.int .i64 0))]⟩,
     ⟨some 108, (some (103, true)), .fad 0, [.t 107]⟩,
     ⟨some 109, (some (103, true)), .loadp 1 false, [.t 108]⟩,
     ⟨some 110, (some (103, true)), .iad 1, [.t 104, .t 109]⟩,
     ⟨some 111, (some (103, true)), .loadp 1 false, [.t 110]⟩,
     ⟨some 112, (some (103, true)), .pl (.call 39), [.t 111]⟩,
     ⟨some 113, (some (103, true)), .fad 0, [.t 6]⟩,
     ⟨some 114, (some (103, true)), .at 1 (.load 1 false false), [.t 113]⟩,
     ⟨some 115, (some (103, true)), .mov false, [.t 3]⟩,
     ⟨some 116, (some (103, true)), .bin .add, [.t 114, .t 115]⟩,
     ⟨some 117, (some (103, true)), .fad 1, [.t 6]⟩,
     ⟨some 118, (some (103, true)), .at 1 (.load 1 false false), [.t 117]⟩,
     ⟨some 119, (some (103, true)), .fad 2, [.t 6]⟩,
     ⟨some 120, (some (103, true)), .at 1 (.load 1 false false), [.t 119]⟩,
     ⟨some 121, (some (103, true)), .build [.int .i64 0, .int .i64 0, .int .i64 0] [(0, 1), (1, 1), (2, 1)], [.t 116, .t 118, .t 120]⟩,
     ⟨some 122, (some (103, true)), .bsl 3 1, [.t 121]⟩,
     ⟨some 123, (some (103, true)), .pl (.app 3 24), [.t 112, .t 122]⟩,
     ⟨some 124, (some (103, true)), .pl (.call 34), [.t 123]⟩,
     ⟨some 125, (some (81, false)), .pick, [.t 103, .t 124, .c (.p (.bool false))]⟩,
     ⟨some 126, none, .pick, [.t 81, .c (.p (.bool true)), .t 125]⟩,
     ⟨some 8, none, .mov true, [.t 126]⟩])
  .ret))))))))))))⟩
theorem k17 : chkF Tryz.prog 17 F17 = true := by kernel_rfl
def F18 : Fn := ⟨107, 6, [.tmp 0],
 (.seq
  (.reg [⟨some 0, none, .mov true, [.c (.p (.bool false))]⟩])
  (.seq
  (.reg [⟨some 12, none, .build [.int .i64 0, .int .i64 0, .int .i64 0, .int .i64 0, .sl 1 true []] [(0, 1), (2, 1), (3, 1)], [.c (.p (.int .i64 2)), .c (.p (.int .i64 1)), .c (.p (.int .i64 1))]⟩,
     ⟨some 1, none, .alloc 0 5 [.p (.int .i64 0), .p (.int .i64 0), .p (.int .i64 0), .p (.int .i64 0), .ow 1 true []], []⟩,
     ⟨none, none, .store 5, [.t 1, .t 12]⟩])
  (.seq
  (.reg [⟨some 13, none, .build [.int .i64 0, .int .i64 0, .int .i64 0] [(0, 1), (1, 1), (2, 1)], [.c (.p (.int .i64 6)), .c (.p (.int .i64 10)), .c (.p (.int .i64 10))]⟩,
     ⟨some 14, none, .bsl 3 1, [.t 13]⟩,
     ⟨some 15, none, .build [.int .i64 0, .int .i64 0, .int .i64 0] [(0, 1), (1, 1), (2, 1)], [.c (.p (.int .i64 6)), .c (.p (.int .i64 10)), .c (.p (.int .i64 10))]⟩,
     ⟨some 16, none, .bsl 3 1, [.t 15]⟩,
     ⟨some 17, none, .bsl 1 2, [.t 14, .t 16]⟩,
     ⟨some 2, none, .mov true, [.t 17]⟩])
  (.seq
  (.reg [⟨some 18, none, .build [.int .i64 0, .int .i64 0, .int .i64 0, .sl 3 true []] [(0, 1), (1, 1), (2, 1)], [.c (.p (.int .i64 5)), .c (.p (.int .i64 10)), .c (.p (.int .i64 10))]⟩,
     ⟨some 3, none, .alloc 1 4 [.p (.int .i64 0), .p (.int .i64 0), .p (.int .i64 0), .ow 3 true []], []⟩,
     ⟨none, none, .store 4, [.t 3, .t 18]⟩])
  (.seq
  (.reg [⟨some 20, none, .mov false, [.t 2]⟩,
     ⟨some 21, none, .load 4 true false, [.t 3]⟩,
     ⟨some 22, none, .call 22, [.t 20, .t 21, .c (.p (.int .i64 0))]⟩,
     ⟨some 19, none, .mov false, [.t 22]⟩,
     ⟨some 23, none, .ext 0, [.t 19]⟩,
     ⟨some 24, none, .ext 1, [.t 19]⟩,
     ⟨some 4, none, .alloc 2 2 [.p (.int .i64 0), .ow 4 true []], []⟩,
     ⟨none, none, .store 2, [.t 4, .t 23]⟩,
     ⟨some 5, none, .mov true, [.t 24]⟩])
  (.seq
  (.reg [⟨some 26, none, .bsl 1 2, [.c (.ow 3 true []), .c (.ow 3 true [])]⟩,
     ⟨some 27, none, .load 4 true false, [.t 3]⟩,
     ⟨some 28, none, .call 22, [.t 26, .t 27, .c (.p (.int .i64 1))]⟩,
     ⟨some 25, none, .mov false, [.t 28]⟩,
     ⟨some 29, none, .ext 0, [.t 25]⟩,
     ⟨some 30, none, .ext 1, [.t 25]⟩,
     ⟨some 6, none, .alloc 3 2 [.p (.int .i64 0), .ow 4 true []], []⟩,
     ⟨none, none, .store 2, [.t 6, .t 29]⟩,
     ⟨some 7, none, .mov true, [.t 30]⟩])
  (.seq
  (.reg [⟨some 32, none, .load 5 true false, [.t 1]⟩,
     ⟨some 33, none, .mov false, [.t 2]⟩,
     ⟨some 34, none, .load 4 true false, [.t 3]⟩,
     ⟨some 35, none, .call 28, [.t 32, .t 33, .t 34]⟩,
     ⟨some 31, none, .mov false, [.t 35]⟩,
     ⟨some 36, none, .ext 0, [.t 31]⟩,
     ⟨some 37, none, .ext 1, [.t 31]⟩,
     ⟨some 8, none, .alloc 4 2 [.p (.int .i64 0), .ow 4 true []], []⟩,
     ⟨none, none, .store 2, [.t 8, .t 36]⟩,
     ⟨some 9, none, .mov true, [.t 37]⟩])
  (.seq
  (.reg [⟨some 39, none, .load 5 true false, [.t 1]⟩,
     ⟨some 40, none, .mov false, [.t 2]⟩,
     ⟨some 41, none, .build [.int .i64 0, .int .i64 0, .int .i64 0, .sl 3 true []] [(0, 1), (1, 1), (2, 1)], [.c (.p (.int .i64 5)), .c (.p (.int .i64 20)), .c (.p (.int .i64 20))]⟩,
     ⟨some 42, none, .call 32, [.t 39, .t 40, .t 41]⟩,
     ⟨some 38, none, .mov false, [.t 42]⟩,
     ⟨some 43, none, .ext 0, [.t 38]⟩,
     ⟨some 44, none, .ext 1, [.t 38]⟩,
     ⟨some 10, none, .alloc 5 2 [.p (.int .i64 0), .ow 4 true []], []⟩,
     ⟨none, none, .store 2, [.t 10, .t 43]⟩,
     ⟨some 11, none, .mov true, [.t 44]⟩])
  (.seq
  (.reg [⟨some 45, none, .call 40, []⟩,
     ⟨some 46, none, .mov false, [.t 45]⟩,
     ⟨some 47, (some (46, true)), .mov false, [.t 5]⟩,
     ⟨some 48, (some (46, true)), .un .not, [.t 47]⟩,
     ⟨some 49, none, .pick, [.t 46, .t 48, .c (.p (.bool false))]⟩,
     ⟨some 50, none, .mov false, [.t 49]⟩,
     ⟨some 51, (some (50, true)), .mov false, [.t 7]⟩,
     ⟨some 52, none, .pick, [.t 50, .t 51, .c (.p (.bool false))]⟩,
     ⟨some 53, none, .mov false, [.t 52]⟩,
     ⟨some 54, (some (53, true)), .fad 0, [.t 6]⟩,
     ⟨some 55, (some (53, true)), .load 1 false false, [.t 54]⟩,
     ⟨some 56, (some (53, true)), .bin .eql, [.t 55, .c (.p (.int .i64 1))]⟩,
     ⟨some 57, none, .pick, [.t 53, .t 56, .c (.p (.bool false))]⟩,
     ⟨some 58, none, .mov false, [.t 57]⟩,
     ⟨some 59, (some (58, true)), .fad 1, [.t 6]⟩,
     ⟨some 60, (some (58, true)), .load 1 false false, [.t 59]⟩,
     ⟨some 61, (some (58, true)), .len, [.t 60]⟩,
     ⟨some 62, (some (58, true)), .bin .eql, [.t 61, .c (.p (.int .i64 1))]⟩,
     ⟨some 63, none, .pick, [.t 58, .t 62, .c (.p (.bool false))]⟩,
     ⟨some 64, none, .mov false, [.t 63]⟩,
     ⟨some 65, (some (64, true)), .mov false, [.t 9]⟩,
     ⟨some 66, (some (64, true)), .load 5 true false, [.t 1]⟩,
     ⟨some 67, (some (64, true)), .load 4 true false, [.t 3]⟩,
     ⟨some 68, (some (64, true)), .load 2 true false, [.t 8]⟩,
     ⟨some 69, (some (64, true)), .call 27, [.t 66, .t 67, .t 68]⟩,
     ⟨some 70, (some (64, true)), .eqb false, [.t 65, .t 69]⟩,
     ⟨some 71, none, .pick, [.t 64, .t 70, .c (.p (.bool false))]⟩,
     ⟨some 72, none, .mov false, [.t 71]⟩,
     ⟨some 73, (some (72, true)), .mov false, [.t 11]⟩,
     ⟨some 74, (some (72, true)), .load 5 true false, [.t 1]⟩,
     ⟨some 75, (some (72, true)), .build [.int .i64 0, .int .i64 0, .int .i64 0, .sl 3 true []] [(0, 1), (1, 1), (2, 1)], [.c (.p (.int .i64 5)), .c (.p (.int .i64 20)), .c (.p (.int .i64 20))]⟩,
     ⟨some 76, (some (72, true)), .load 2 true false, [.t 10]⟩,
     ⟨some 77, (some (72, true)), .call 27, [.t 74, .t 75, .t 76]⟩,
     ⟨some 78, (some (72, true)), .eqb false, [.t 73, .t 77]⟩,
     ⟨some 79, none, .pick, [.t 72, .t 78, .c (.p (.bool false))]⟩,
     ⟨some 80, none, .mov false, [.t 79]⟩,
     ⟨some 81, (some (80, true)), .load 5 true false, [.t 1]⟩,
     ⟨some 82, (some (80, true)), .load 4 true false, [.t 3]⟩,
     ⟨some 83, (some (80, true)), .call 30, [.t 81, .t 82, .c (.p (.int .i64 2))]⟩,
     ⟨some 84, (some (80, true)), .bin .eql, [.t 83, .c (.p (.int .i64 4))]⟩,
     ⟨some 85, none, .pick, [.t 80, .t 84, .c (.p (.bool false))]⟩,
     ⟨some 86, none, .mov false, [.t 85]⟩,
     ⟨some 87, (some (86, true)), .load 2 true false, [.t 6]⟩,
     ⟨some 88, (some (86, true)), .call 35, [.t 87]⟩,
     ⟨some 89, (some (86, true)), .bin .eql, [.t 88, .c (.p (.int .i64 5))]⟩,
     ⟨some 90, none, .pick, [.t 86, .t 89, .c (.p (.bool false))]⟩,
     ⟨some 91, none, .mov false, [.t 90]⟩,
     ⟨some 92, (some (91, true)), .load 2 true false, [.t 6]⟩,
     ⟨some 93, (some (91, true)), .call 38, [.t 92, .c (.p (.int .i64 0)), .c (.p (.int .i64 7))]⟩,
     ⟨some 94, (some (91, true)), .bin .eql, [.t 93, .c (.p (.int .i64 17))]⟩,
     ⟨some 95, none, .pick, [.t 91, .t 94, .c (.p (.bool false))]⟩,
     ⟨some 96, none, .mov false, [.t 95]⟩,
     ⟨some 97, (some (96, true)), .load 2 true false, [.t 6]⟩,
     ⟨some 98, (some (96, true)), .load 2 true false, [.t 6]⟩,
     ⟨some 99, (some (96, true)), .call 37, [.t 97, .t 98]⟩,
     ⟨some 100, none, .pick, [.t 96, .t 99, .c (.p (.bool false))]⟩,
     ⟨some 101, none, .mov false, [.t 100]⟩,
     ⟨some 102, (some (101, true)), .mov false, [.t 2]⟩,
     ⟨some 103, (some (101, true)), .build [.int .i64 0, .int .i64 0, .int .i64 0] [(0, 1), (1, 1), (2, 1)], [.c (.p (.int .i64 1)), .c (.p (.int .i64 10)), .c (.p (.int .i64 10))]⟩,
     ⟨some 104, (some (101, true)), .call 25, [.t 102, .t 103]⟩,
     ⟨some 105, (some (101, true)), .bin .eql, [.t 104, .c (.p (.int .i64 0))]⟩,
     ⟨some 106, none, .pick, [.t 101, .t 105, .c (.p (.bool false))]⟩,
     ⟨some 0, none, .mov true, [.t 106]⟩])
  .ret)))))))))⟩
theorem k18 : chkF Tryz.prog 18 F18 = true := by kernel_rfl
def F19 : Fn := ⟨10, 2, [.cell 2 5],
 (.seq
  (.reg [⟨some 1, none, .box 0 5, [.t 0]⟩,
     ⟨some 2, none, .alloc 1 5 [.p (.int .i64 0), .p (.int .i64 0), .p (.int .i64 0), .p (.int .i64 0), .ow 1 true []], []⟩])
  (.seq
  (.seq
   (.reg [⟨some 3, none, .load 5 true false, [.t 1]⟩,
      ⟨some 4, none, .call 41, [.t 3]⟩,
      ⟨none, none, .store 5, [.t 1, .t 4]⟩])
   (.seq
   (.reg [⟨some 5, none, .load 5 true false, [.t 1]⟩,
      ⟨some 6, none, .call 42, [.t 5]⟩])
   (.cond (.t 6)
   (.seq
    (.reg [⟨some 7, none, .load 5 true false, [.t 1]⟩,
       ⟨none, none, .store 5, [.t 2, .t 7]⟩])
    .ret)
   .skip)))
  (.seq
  (.reg [⟨some 8, none, .bsl 1 1, [.c (.p (.int .i64 0))]⟩,
     ⟨some 9, none, .build [.int .i64 0, .int .i64 0, .int .i64 0, .int .i64 0, .sl 1 true []] [(0, 1), (1, 1), (2, 1), (3, 1), (4, 1)], [.c (.p (.int .i64 2)), .c (.p (.int .i64 1)), .c (.p (.int .i64 1)), .c (.p (.int .i64 1)), .t 8]⟩,
     ⟨none, none, .store 5, [.t 2, .t 9]⟩])
  .ret)))⟩
theorem k19 : chkF Tryz.prog 19 F19 = true := by kernel_rfl
def F20 : Fn := ⟨35, 2, [.tmp 4],
 (.seq
  (.reg [⟨some 2, none, .box 0 5, [.t 0]⟩,
     ⟨some 4, none, .mov true, [.c (.ow 1 true [])]⟩])
  (.seq
  (.reg [⟨some 8, none, .fad 0, [.t 2]⟩,
     ⟨some 9, none, .load 1 false false, [.t 8]⟩,
     ⟨some 10, none, .mksl 1 1 24 false [.ow 3 true []], [.t 9, .t 9]⟩,
     ⟨some 5, none, .mov true, [.t 10]⟩])
  (.seq
  (.seq
   (.reg [⟨some 6, none, .mov true, [.c (.p (.int .i64 0))]⟩])
   (.block 0
   (.loop [0, 4, 7, 8, 9, 10, 11, 12, 13, 14, 15, 16, 17, 18, 19, 20, 21, 22, 23, 24, 25, 26, 27, 28, 29, 30, 31, 32, 33, 34] []
    (.seq
     (.seq
      (.reg [⟨some 11, none, .mov false, [.t 6]⟩,
         ⟨some 12, none, .fad 0, [.t 2]⟩,
         ⟨some 13, none, .load 1 false false, [.t 12]⟩,
         ⟨some 14, none, .bin .lss, [.t 11, .t 13]⟩,
         ⟨some 15, none, .mov false, [.t 14]⟩,
         ⟨some 16, (some (15, true)), .mov false, [.t 6]⟩,
         ⟨some 17, (some (15, true)), .mov false, [.t 1]⟩,
         ⟨some 18, (some (15, true)), .len, [.t 17]⟩,
         ⟨some 19, (some (15, true)), .bin .lss, [.t 16, .t 18]⟩,
         ⟨some 20, none, .pick, [.t 15, .t 19, .c (.p (.bool false))]⟩])
      (.cond (.t 20)
      .skip
      (.exit 0)))
     (.seq
     (.block 1
      (.seq
       (.reg [⟨some 23, none, .mov false, [.t 1]⟩,
          ⟨some 24, none, .mov false, [.t 6]⟩,
          ⟨some 25, none, .iad 1, [.t 23, .t 24]⟩,
          ⟨some 26, none, .load 1 false false, [.t 25]⟩,
          ⟨some 27, none, .call 39, [.t 26]⟩,
          ⟨some 7, none, .mov true, [.t 27]⟩])
       (.seq
       (.reg [⟨some 28, none, .mov false, [.t 7]⟩,
          ⟨some 29, none, .call 34, [.t 28]⟩])
       (.cond (.t 29)
       (.reg [⟨some 30, none, .mov false, [.t 5]⟩,
          ⟨some 31, none, .mov false, [.t 6]⟩,
          ⟨some 32, none, .mov false, [.t 7]⟩,
          ⟨some 33, none, .iad 1, [.t 30, .t 31]⟩,
          ⟨none, none, .store 1, [.t 33, .t 32]⟩])
       .skip))))
     (.reg [⟨some 21, none, .mov false, [.t 6]⟩,
       ⟨some 22, none, .bin .add, [.t 21, .c (.p (.int .i64 1))]⟩,
       ⟨some 6, none, .mov true, [.t 22]⟩]))))))
  (.seq
  (.reg [⟨some 34, none, .mov false, [.t 5]⟩,
     ⟨some 4, none, .mov true, [.t 34]⟩])
  (.pre [] [1] [] .ret)))))⟩
-- a loop, at its head alive: [1, 2, 5, 6]
theorem k20 : chkF Tryz.prog 20 F20 = true := by kernel_rfl
def F21 : Fn := ⟨12, 3, [.cell 4 4, .tmp 5],
 (.seq
  (.reg [⟨some 2, none, .box 0 5, [.t 0]⟩,
     ⟨some 3, none, .box 1 4, [.t 1]⟩,
     ⟨some 4, none, .alloc 2 4 [.p (.int .i64 0), .p (.int .i64 0), .p (.int .i64 0), .ow 3 true []], []⟩,
     ⟨some 5, none, .mov true, [.c (.p (.bool false))]⟩])
  (.seq
  (.reg [⟨some 6, none, .load 4 true false, [.t 3]⟩,
     ⟨some 7, none, .call 43, [.t 6]⟩,
     ⟨none, none, .store 4, [.t 3, .t 7]⟩])
  (.seq
  (.regd [⟨some 8, none, .at 1 (.load 4 true false), [.t 3]⟩,
     ⟨some 9, none, .at 0 (.load 5 true false), [.t 2]⟩,
     ⟨some 10, none, .at 1 (.load 4 true false), [.t 3]⟩,
     ⟨some 11, none, .pl (.call 44), [.t 9, .t 10]⟩,
     ⟨none, none, .at 2 (.store 4), [.t 4, .t 8]⟩,
     ⟨some 5, none, .mov true, [.t 11]⟩])
  .ret)))⟩
theorem k21 : chkF Tryz.prog 21 F21 = true := by kernel_rfl
def F22 : Fn := ⟨31, 2, [.cell 6 2, .tmp 7],
 (.seq
  (.reg [⟨some 4, none, .box 0 4, [.t 1]⟩,
     ⟨some 6, none, .alloc 1 2 [.p (.int .i64 0), .ow 4 true []], []⟩,
     ⟨some 7, none, .mov true, [.c (.p (.bool false))]⟩])
  (.seq
  (.reg [⟨some 9, none, .mov false, [.t 0]⟩,
     ⟨some 10, none, .fad 0, [.t 4]⟩,
     ⟨some 11, none, .load 1 false false, [.t 10]⟩,
     ⟨some 12, none, .mov false, [.t 2]⟩,
     ⟨some 13, none, .bin .add, [.t 11, .t 12]⟩,
     ⟨some 14, none, .fad 1, [.t 4]⟩,
     ⟨some 15, none, .load 1 false false, [.t 14]⟩,
     ⟨some 16, none, .fad 2, [.t 4]⟩,
     ⟨some 17, none, .load 1 false false, [.t 16]⟩,
     ⟨some 18, none, .build [.int .i64 0, .int .i64 0, .int .i64 0] [(0, 1), (1, 1), (2, 1)], [.t 13, .t 15, .t 17]⟩,
     ⟨some 19, none, .call 25, [.t 9, .t 18]⟩,
     ⟨some 8, none, .mov true, [.t 19]⟩])
  (.seq
  (.seq
   (.reg [⟨some 20, none, .mov false, [.t 8]⟩,
      ⟨some 21, none, .bin .lss, [.t 20, .c (.p (.int .i64 0))]⟩])
   (.cond (.t 21)
   (.seq
    (.reg [⟨some 22, none, .build [.int .i64 0, .sl 4 true []] [], []⟩,
       ⟨none, none, .store 2, [.t 6, .t 22]⟩,
       ⟨some 7, none, .mov true, [.c (.p (.bool false))]⟩])
    .ret)
   .skip))
  (.seq
  (.reg [⟨some 23, none, .mov false, [.t 8]⟩,
     ⟨some 24, none, .fad 1, [.t 4]⟩,
     ⟨some 25, none, .load 1 false false, [.t 24]⟩,
     ⟨some 26, none, .fad 0, [.t 4]⟩,
     ⟨some 27, none, .load 1 false false, [.t 26]⟩,
     ⟨some 28, none, .build [.int .i64 0, .int .i64 0, .int .i64 0, .int .i64 0] [(0, 1), (2, 1), (3, 1)], [.t 23, .t 25, .t 27]⟩,
     ⟨some 29, none, .bsl 4 1, [.t 28]⟩,
     ⟨some 30, none, .build [.int .i64 0, .sl 4 true []] [(0, 1), (1, 1)], [.c (.p (.int .i64 1)), .t 29]⟩,
     ⟨none, none, .store 2, [.t 6, .t 30]⟩,
     ⟨some 7, none, .mov true, [.c (.p (.bool true))]⟩])
  .ret))))⟩
theorem k22 : chkF Tryz.prog 22 F22 = true := by kernel_rfl
def F23 : Fn := ⟨31, 2, [.cell 6 2, .tmp 7],
 (.seq
  (.reg [⟨some 4, none, .box 0 4, [.t 1]⟩,
     ⟨some 6, none, .alloc 1 2 [.p (.int .i64 0), .ow 4 true []], []⟩,
     ⟨some 7, none, .mov true, [.c (.p (.bool false))]⟩])
  (.seq
  (.reg [⟨some 9, none, .mov false, [.t 0]⟩,
     ⟨some 10, none, .fad 0, [.t 4]⟩,
     ⟨some 11, none, .load 1 false false, [.t 10]⟩,
     ⟨some 12, none, .mov false, [.t 2]⟩,
     ⟨some 13, none, .bin .add, [.t 11, .t 12]⟩,
     ⟨some 14, none, .fad 1, [.t 4]⟩,
     ⟨some 15, none, .load 1 false false, [.t 14]⟩,
     ⟨some 16, none, .fad 2, [.t 4]⟩,
     ⟨some 17, none, .load 1 false false, [.t 16]⟩,
     ⟨some 18, none, .build [.int .i64 0, .int .i64 0, .int .i64 0] [(0, 1), (1, 1), (2, 1)], [.t 13, .t 15, .t 17]⟩,
     ⟨some 19, none, .call 26, [.t 9, .t 18]⟩,
     ⟨some 8, none, .mov true, [.t 19]⟩])
  (.seq
  (.seq
   (.reg [⟨some 20, none, .mov false, [.t 8]⟩,
      ⟨some 21, none, .bin .lss, [.t 20, .c (.p (.int .i64 0))]⟩])
   (.cond (.t 21)
   (.seq
    (.reg [⟨some 22, none, .build [.int .i64 0, .sl 4 true []] [], []⟩,
       ⟨none, none, .store 2, [.t 6, .t 22]⟩,
       ⟨some 7, none, .mov true, [.c (.p (.bool false))]⟩])
    .ret)
   .skip))
  (.seq
  (.reg [⟨some 23, none, .mov false, [.t 8]⟩,
     ⟨some 24, none, .fad 1, [.t 4]⟩,
     ⟨some 25, none, .load 1 false false, [.t 24]⟩,
     ⟨some 26, none, .fad 0, [.t 4]⟩,
     ⟨some 27, none, .load 1 false false, [.t 26]⟩,
     ⟨some 28, none, .build [.int .i64 0, .int .i64 0, .int .i64 0, .int .i64 0] [(0, 1), (2, 1), (3, 1)], [.t 23, .t 25, .t 27]⟩,
     ⟨some 29, none, .bsl 4 1, [.t 28]⟩,
     ⟨some 30, none, .build [.int .i64 0, .sl 4 true []] [(0, 1), (1, 1)], [.c (.p (.int .i64 1)), .t 29]⟩,
     ⟨none, none, .store 2, [.t 6, .t 30]⟩,
     ⟨some 7, none, .mov true, [.c (.p (.bool true))]⟩])
  .ret))))⟩
theorem k23 : chkF Tryz.prog 23 F23 = true := by kernel_rfl
def F24 : Fn := ⟨38, 2, [.tmp 4],
 (.seq
  (.reg [⟨some 2, none, .box 0 2, [.t 0]⟩,
     ⟨some 3, none, .box 1 2, [.t 1]⟩,
     ⟨some 4, none, .mov true, [.c (.p (.bool false))]⟩])
  (.seq
  (.seq
   (.reg [⟨some 6, none, .fad 0, [.t 2]⟩,
      ⟨some 7, none, .load 1 false false, [.t 6]⟩,
      ⟨some 8, none, .fad 0, [.t 3]⟩,
      ⟨some 9, none, .load 1 false false, [.t 8]⟩,
      ⟨some 10, none, .bin .neq, [.t 7, .t 9]⟩,
      ⟨some 11, none, .mov false, [.t 10]⟩,
      ⟨some 12, (some (11, false)), .fad 1, [.t 2]⟩,
      ⟨some 13, (some (11, false)), .load 1 false false, [.t 12]⟩,
      ⟨some 14, (some (11, false)), .len, [.t 13]⟩,
      ⟨some 15, (some (11, false)), .fad 1, [.t 3]⟩,
      ⟨some 16, (some (11, false)), .load 1 false false, [.t 15]⟩,
      ⟨some 17, (some (11, false)), .len, [.t 16]⟩,
      ⟨some 18, (some (11, false)), .bin .neq, [.t 14, .t 17]⟩,
      ⟨some 19, none, .pick, [.t 11, .c (.p (.bool true)), .t 18]⟩])
   (.cond (.t 19)
   (.seq
    (.reg [⟨some 4, none, .mov true, [.c (.p (.bool false))]⟩])
    .ret)
   .skip))
  (.seq
  (.seq
   (.reg [⟨some 5, none, .mov true, [.c (.p (.int .i64 0))]⟩])
   (.block 0
   (.loop [0, 1, 4, 6, 7, 8, 9, 10, 11, 12, 13, 14, 15, 16, 17, 18, 19, 20, 21, 22, 23, 24, 25, 26, 27, 28, 29, 30, 31, 32, 33, 34, 35, 36, 37] []
    (.seq
     (.seq
      (.reg [⟨some 20, none, .mov false, [.t 5]⟩,
         ⟨some 21, none, .fad 1, [.t 2]⟩,
         ⟨some 22, none, .load 1 false false, [.t 21]⟩,
         ⟨some 23, none, .len, [.t 22]⟩,
         ⟨some 24, none, .bin .lss, [.t 20, .t 23]⟩])
      (.cond (.t 24)
      .skip
      (.exit 0)))
     (.seq
     (.block 1
      (.seq
       (.regd [⟨some 27, none, .fad 1, [.t 2]⟩,
          ⟨some 28, none, .at 0 (.load 1 false false), [.t 27]⟩,
          ⟨some 29, none, .mov false, [.t 5]⟩,
          ⟨some 30, none, .iad 4, [.t 28, .t 29]⟩,
          ⟨some 31, none, .loadp 4 true, [.t 30]⟩,
          ⟨some 32, none, .fad 1, [.t 3]⟩,
          ⟨some 33, none, .at 1 (.load 1 false false), [.t 32]⟩,
          ⟨some 34, none, .mov false, [.t 5]⟩,
          ⟨some 35, none, .iad 4, [.t 33, .t 34]⟩,
          ⟨some 36, none, .loadp 4 true, [.t 35]⟩,
          ⟨some 37, none, .eqs 4 true, [.t 31, .t 36]⟩])
       (.cond (.t 37)
       (.seq
        (.reg [⟨some 4, none, .mov true, [.c (.p (.bool false))]⟩])
        .ret)
       .skip)))
     (.reg [⟨some 25, none, .mov false, [.t 5]⟩,
       ⟨some 26, none, .bin .add, [.t 25, .c (.p (.int .i64 1))]⟩,
       ⟨some 5, none, .mov true, [.t 26]⟩]))))))
  (.seq
  (.reg [⟨some 4, none, .mov true, [.c (.p (.bool true))]⟩])
  .ret))))⟩
-- a loop, at its head alive: [2, 3, 5]
theorem k24 : chkF Tryz.prog 24 F24 = true := by kernel_rfl
def F25 : Fn := ⟨8, 1, [.tmp 4],
 (.seq
  (.reg [⟨some 3, none, .box 0 3, [.t 1]⟩,
     ⟨some 4, none, .mov true, [.c (.p (.int .i64 0))]⟩])
  (.seq
  (.pre [] [0] [] (.reg [⟨some 5, none, .mov false, [.t 0]⟩,
     ⟨some 6, none, .mkfn 46, [.t 3]⟩,
     ⟨some 7, none, .call 45, [.t 5, .t 6]⟩,
     ⟨some 4, none, .mov true, [.t 7]⟩]))
  .ret))⟩
theorem k25 : chkF Tryz.prog 25 F25 = true := by kernel_rfl

end Go.Proofs.YtkjghcbnmipgfaaGreatDoor.Vc
