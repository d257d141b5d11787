/- Short forms of functions, and that they are those functions. No condition. -/
import Derived.Test.YtkjghcbnmipgfaaGreatDoorVcEv
import Derived.Test.YtkjghcbnmipgfaaGreatDoorProg
namespace Go.Proofs.YtkjghcbnmipgfaaGreatDoor.Vc
open Go.RowKit

def F119 : Fn := ⟨25, 0, [.tmp 2],
 (.seq
  (.reg [⟨some 2, none, .mov true, [.c (.p (.int .i64 0))]⟩])
  (.seq
  (.seq
   (.reg [⟨some 3, none, .mov false, [.t 0]⟩,
      ⟨some 4, none, .bin .geq, [.t 3, .c (.p (.int .u64 4294967296))]⟩])
   (.cond (.t 4)
   (.seq
    (.reg [⟨some 5, none, .mov false, [.t 0]⟩,
       ⟨some 6, none, .bin .shr, [.t 5, .c (.p (.int .u64 32))]⟩,
       ⟨some 0, none, .mov true, [.t 6]⟩])
    (.reg [⟨some 2, none, .mov true, [.c (.p (.int .i64 32))]⟩]))
   .skip))
  (.seq
  (.seq
   (.reg [⟨some 7, none, .mov false, [.t 0]⟩,
      ⟨some 8, none, .bin .geq, [.t 7, .c (.p (.int .u64 65536))]⟩])
   (.cond (.t 8)
   (.seq
    (.reg [⟨some 9, none, .mov false, [.t 0]⟩,
       ⟨some 10, none, .bin .shr, [.t 9, .c (.p (.int .u64 16))]⟩,
       ⟨some 0, none, .mov true, [.t 10]⟩])
    (.reg [⟨some 11, none, .mov false, [.t 2]⟩,
      ⟨some 12, none, .bin .add, [.t 11, .c (.p (.int .i64 16))]⟩,
      ⟨some 2, none, .mov true, [.t 12]⟩]))
   .skip))
  (.seq
  (.seq
   (.reg [⟨some 13, none, .mov false, [.t 0]⟩,
      ⟨some 14, none, .bin .geq, [.t 13, .c (.p (.int .u64 256))]⟩])
   (.cond (.t 14)
   (.seq
    (.reg [⟨some 15, none, .mov false, [.t 0]⟩,
       ⟨some 16, none, .bin .shr, [.t 15, .c (.p (.int .u64 8))]⟩,
       ⟨some 0, none, .mov true, [.t 16]⟩])
    (.reg [⟨some 17, none, .mov false, [.t 2]⟩,
      ⟨some 18, none, .bin .add, [.t 17, .c (.p (.int .i64 8))]⟩,
      ⟨some 2, none, .mov true, [.t 18]⟩]))
   .skip))
  (.seq
  (.reg [⟨some 19, none, .mov false, [.t 2]⟩,
     ⟨some 20, none, .mov false, [.t 0]⟩,
     ⟨some 21, none, .conv .u8, [.t 20]⟩,
     ⟨some 22, none, .sidx, [.c (.p (.str ⟨#[0, 1, 2, 2, 3, 3, 3, 3, 4, 4, 4, 4, 4, 4, 4, 4, 5, 5, 5, 5, 5, 5, 5, 5, 5, 5, 5, 5, 5, 5, 5, 5, 6, 6, 6, 6, 6, 6, 6, 6, 6, 6, 6, 6, 6, 6, 6, 6, 6, 6, 6, 6, 6, 6, 6, 6, 6, 6, 6, 6, 6, 6, 6, 6, 7, 7, 7, 7, 7, 7, 7, 7, 7, 7, 7, 7, 7, 7, 7, 7, 7, 7, 7, 7, 7, 7, 7, 7, 7, 7, 7, 7, 7, 7, 7, 7, 7, 7, 7, 7, 7, 7, 7, 7, 7, 7, 7, 7, 7, 7, 7, 7, 7, 7, 7, 7, 7, 7, 7, 7, 7, 7, 7, 7, 7, 7, 7, 7, 8, 8, 8, 8, 8, 8, 8, 8, 8, 8, 8, 8, 8, 8, 8, 8, 8, 8, 8, 8, 8, 8, 8, 8, 8, 8, 8, 8, 8, 8, 8, 8, 8, 8, 8, 8, 8, 8, 8, 8, 8, 8, 8, 8, 8, 8, 8, 8, 8, 8, 8, 8, 8, 8, 8, 8, 8, 8, 8, 8, 8, 8, 8, 8, 8, 8, 8, 8, 8, 8, 8, 8, 8, 8, 8, 8, 8, 8, 8, 8, 8, 8, 8, 8, 8, 8, 8, 8, 8, 8, 8, 8, 8, 8, 8, 8, 8, 8, 8, 8, 8, 8, 8, 8, 8, 8, 8, 8, 8, 8, 8, 8, 8, 8, 8, 8, 8, 8, 8, 8, 8, 8, 8, 8, 8, 8, 8, 8]⟩)), .t 21]⟩,
     ⟨some 23, none, .conv .i64, [.t 22]⟩,
     ⟨some 24, none, .bin .add, [.t 19, .t 23]⟩,
     ⟨some 2, none, .mov true, [.t 24]⟩])
  .ret)))))⟩
theorem k119 : chkF Tryz.prog 119 F119 = true := by kernel_rfl
end Go.Proofs.YtkjghcbnmipgfaaGreatDoor.Vc
