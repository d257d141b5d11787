/-
  DERIVED. GIVEN WITH THE SEED: THE CARDS: each row of YtkjghcbnmipgfaaGreatDoorRows.lean that lists a variable, with what it lists TIED to the program's text (the seventh form; the later family's looks); each row that meets fmt, with fmt's text TOLD by the authors' own Lean function (tested against real Go, not proved from fmt's source: count such statements apart). THE CARD IS WHAT COUNTS. Prove the row's statement (the work); the ties are given (YtkjghcbnmipgfaaGreatDoorTie.lean); close each card by the builder's one call (the guide's Derived/Test/ToyasCard.lean, 'card_holds'). Laid BY PROGRAM, IN A SANDBOX (cutbox-door.mjs). By AI agents, Wed Nov 11 2026. No macro, syntax, notation, axiom, sorry.
-/
import Derived.Test.YtkjghcbnmipgfaaGreatDoorRows
import GoSem.ClaimSeven
namespace Go.Proofs.YtkjghcbnmipgfaaGreatDoor
namespace Rows

/-- THE TIED CARD OF 'hortatorlaw14.WholeAll'. -/
def wholeAllCard : Claim7 := { stood := { row := wholeAllRow, standIns := [], harness := (true, "ec70bed69f1296a58cb1ff10a035590e38e75d8edaed5cbe52e999c3ad5a8b9b"), looks := true }, kinds := [], alts := [], laidByText := true, laidKinds := [.data, .data, .data, .data, .sentinel, .sentinel, .pinned], laidTests := true, laidLooks := .later }
def WholeAllCardSaid : Prop := Claim7.holds Tryz.pinned (.plain (OpenSpec.ofChange wholeAllSpec)) wholeAllCard

/-- THE TIED CARD OF 'hortatorlaw14.WindowAll'. -/
def windowAllCard : Claim7 := { stood := { row := windowAllRow, standIns := [], harness := (true, "ec70bed69f1296a58cb1ff10a035590e38e75d8edaed5cbe52e999c3ad5a8b9b"), looks := true }, kinds := [], alts := [], laidByText := true, laidKinds := [.data, .data, .data, .data, .sentinel, .sentinel, .pinned], laidTests := true, laidLooks := .later }
def WindowAllCardSaid : Prop := Claim7.holds Tryz.pinned (.plain (OpenSpec.ofChange windowAllSpec)) windowAllCard

/-- THE TIED CARD OF 'hortatorlaw14.ZeroAll'. -/
def zeroAllCard : Claim7 := { stood := { row := zeroAllRow, standIns := [], harness := (true, "ec70bed69f1296a58cb1ff10a035590e38e75d8edaed5cbe52e999c3ad5a8b9b"), looks := true }, kinds := [], alts := [], laidByText := true, laidKinds := [.data, .data, .data, .data, .sentinel, .sentinel, .pinned], laidTests := true, laidLooks := .later }
def ZeroAllCardSaid : Prop := Claim7.holds Tryz.pinned (.plain (OpenSpec.ofChange zeroAllSpec)) zeroAllCard

/-- THE TIED CARD OF 'hortatorlaw14.SplitFits'. -/
def splitFitsCard : Claim7 := { stood := { row := splitFitsRow, standIns := [], harness := (true, "ec70bed69f1296a58cb1ff10a035590e38e75d8edaed5cbe52e999c3ad5a8b9b"), looks := true }, kinds := [], alts := [], laidByText := true, laidKinds := [.data, .data, .data, .data, .sentinel, .sentinel, .pinned], laidTests := true, laidLooks := .later }
def SplitFitsCardSaid : Prop := Claim7.holds Tryz.pinned (.plain (OpenSpec.ofChange splitFitsSpec)) splitFitsCard

/-- THE TIED CARD OF 'hortatorlaw14.PlanAll'. -/
def planAllCard : Claim7 := { stood := { row := planAllRow, standIns := [], harness := (true, "ec70bed69f1296a58cb1ff10a035590e38e75d8edaed5cbe52e999c3ad5a8b9b"), looks := true }, kinds := [], alts := [], laidByText := true, laidKinds := [.data, .data, .data, .data, .sentinel, .sentinel, .pinned], laidTests := true, laidLooks := .later }
def PlanAllCardSaid : Prop := Claim7.holds Tryz.pinned (.plain (OpenSpec.ofChange planAllSpec)) planAllCard

/-- THE TIED CARD OF 'hortatorlaw14.PlanTurn'. -/
def planTurnCard : Claim7 := { stood := { row := planTurnRow, standIns := [], harness := (true, "ec70bed69f1296a58cb1ff10a035590e38e75d8edaed5cbe52e999c3ad5a8b9b"), looks := true }, kinds := [], alts := [], laidByText := true, laidKinds := [.data, .data, .data, .data, .sentinel, .sentinel, .pinned], laidTests := true, laidLooks := .later }
def PlanTurnCardSaid : Prop := Claim7.holds Tryz.pinned (.plain (OpenSpec.ofChange planTurnSpec)) planTurnCard

/-- THE TIED CARD OF 'hortatorlaw14.WholeFirst'. -/
def wholeFirstCard : Claim7 := { stood := { row := wholeFirstRow, standIns := [], harness := (true, "ec70bed69f1296a58cb1ff10a035590e38e75d8edaed5cbe52e999c3ad5a8b9b"), looks := true }, kinds := [], alts := [], laidByText := true, laidKinds := [.data, .data, .data, .data, .sentinel, .sentinel, .pinned], laidTests := true, laidLooks := .later }
def WholeFirstCardSaid : Prop := Claim7.holds Tryz.pinned (.plain (OpenSpec.ofChange wholeFirstSpec)) wholeFirstCard

/-- THE TIED CARD OF 'hortatorlaw14.WindowShape'. -/
def windowShapeCard : Claim7 := { stood := { row := windowShapeRow, standIns := [], harness := (true, "ec70bed69f1296a58cb1ff10a035590e38e75d8edaed5cbe52e999c3ad5a8b9b"), looks := true }, kinds := [], alts := [], laidByText := true, laidKinds := [.data, .data, .data, .data, .sentinel, .sentinel, .pinned], laidTests := true, laidLooks := .later }
def WindowShapeCardSaid : Prop := Claim7.holds Tryz.pinned (.plain (OpenSpec.ofChange windowShapeSpec)) windowShapeCard

/-- THE TIED CARD OF 'hortatorlaw14.WindowSize'. -/
def windowSizeCard : Claim7 := { stood := { row := windowSizeRow, standIns := [], harness := (true, "ec70bed69f1296a58cb1ff10a035590e38e75d8edaed5cbe52e999c3ad5a8b9b"), looks := true }, kinds := [], alts := [], laidByText := true, laidKinds := [.data, .data, .data, .data, .sentinel, .sentinel, .pinned], laidTests := true, laidLooks := .later }
def WindowSizeCardSaid : Prop := Claim7.holds Tryz.pinned (.plain (OpenSpec.ofChange windowSizeSpec)) windowSizeCard

/-- THE TIED CARD OF 'hortatorlaw14.ZeroShape'. -/
def zeroShapeCard : Claim7 := { stood := { row := zeroShapeRow, standIns := [], harness := (true, "ec70bed69f1296a58cb1ff10a035590e38e75d8edaed5cbe52e999c3ad5a8b9b"), looks := true }, kinds := [], alts := [], laidByText := true, laidKinds := [.data, .data, .data, .data, .sentinel, .sentinel, .pinned], laidTests := true, laidLooks := .later }
def ZeroShapeCardSaid : Prop := Claim7.holds Tryz.pinned (.plain (OpenSpec.ofChange zeroShapeSpec)) zeroShapeCard

/-- THE TIED CARD OF 'hortatorlaw14.SplitNone'. -/
def splitNoneCard : Claim7 := { stood := { row := splitNoneRow, standIns := [], harness := (true, "ec70bed69f1296a58cb1ff10a035590e38e75d8edaed5cbe52e999c3ad5a8b9b"), looks := true }, kinds := [], alts := [], laidByText := true, laidKinds := [.data, .data, .data, .data, .sentinel, .sentinel, .pinned], laidTests := true, laidLooks := .later }
def SplitNoneCardSaid : Prop := Claim7.holds Tryz.pinned (.plain (OpenSpec.ofChange splitNoneSpec)) splitNoneCard

/-- THE TIED CARD OF 'hortatorlaw14.PlanTimes'. -/
def planTimesCard : Claim7 := { stood := { row := planTimesRow, standIns := [], harness := (true, "ec70bed69f1296a58cb1ff10a035590e38e75d8edaed5cbe52e999c3ad5a8b9b"), looks := true }, kinds := [], alts := [], laidByText := true, laidKinds := [.data, .data, .data, .data, .sentinel, .sentinel, .pinned], laidTests := true, laidLooks := .later }
def PlanTimesCardSaid : Prop := Claim7.holds Tryz.pinned (.plain (OpenSpec.ofChange planTimesSpec)) planTimesCard

/-- THE TIED CARD OF 'hortatorlaw14.WindowOrder'. -/
def windowOrderCard : Claim7 := { stood := { row := windowOrderRow, standIns := [], harness := (true, "ec70bed69f1296a58cb1ff10a035590e38e75d8edaed5cbe52e999c3ad5a8b9b"), looks := true }, kinds := [], alts := [], laidByText := true, laidKinds := [.data, .data, .data, .data, .sentinel, .sentinel, .pinned], laidTests := true, laidLooks := .later }
def WindowOrderCardSaid : Prop := Claim7.holds Tryz.pinned (.plain (OpenSpec.ofChange windowOrderSpec)) windowOrderCard

/-- THE TIED CARD OF 'hortatorlaw14.SplitOwn'. -/
def splitOwnCard : Claim7 := { stood := { row := splitOwnRow, standIns := [], harness := (true, "ec70bed69f1296a58cb1ff10a035590e38e75d8edaed5cbe52e999c3ad5a8b9b"), looks := true }, kinds := [], alts := [], laidByText := true, laidKinds := [.data, .data, .data, .data, .sentinel, .sentinel, .pinned], laidTests := true, laidLooks := .later }
def SplitOwnCardSaid : Prop := Claim7.holds Tryz.pinned (.plain (OpenSpec.ofChange splitOwnSpec)) splitOwnCard

/-- THE TIED CARD OF 'hortatorlaw14.WholeWaits'. -/
def wholeWaitsCard : Claim7 := { stood := { row := wholeWaitsRow, standIns := [], harness := (true, "ec70bed69f1296a58cb1ff10a035590e38e75d8edaed5cbe52e999c3ad5a8b9b"), looks := true }, kinds := [], alts := [], laidByText := true, laidKinds := [.data, .data, .data, .data, .sentinel, .sentinel, .pinned], laidTests := true, laidLooks := .later }
def WholeWaitsCardSaid : Prop := Claim7.holds Tryz.pinned (.plain (OpenSpec.ofChange wholeWaitsSpec)) wholeWaitsCard

/-- THE SECOND FORM's CARD OF 'hortatorlaw14.WholeAll'. -/
def wholeAllUptoCard : Claim7 := { stood := { row := wholeAllUptoRow, standIns := [], harness := (true, "ec70bed69f1296a58cb1ff10a035590e38e75d8edaed5cbe52e999c3ad5a8b9b"), looks := true }, kinds := [], alts := [], laidByText := true, laidKinds := [.data, .data, .data, .data, .sentinel, .sentinel, .pinned], laidTests := true, laidLooks := .later }
def WholeAllUptoCardSaid : Prop := Claim7.holds Tryz.pinned (.plain (OpenSpec.upto wholeAllSpec)) wholeAllUptoCard

/-- THE SECOND FORM's CARD OF 'hortatorlaw14.WindowAll'. -/
def windowAllUptoCard : Claim7 := { stood := { row := windowAllUptoRow, standIns := [], harness := (true, "ec70bed69f1296a58cb1ff10a035590e38e75d8edaed5cbe52e999c3ad5a8b9b"), looks := true }, kinds := [], alts := [], laidByText := true, laidKinds := [.data, .data, .data, .data, .sentinel, .sentinel, .pinned], laidTests := true, laidLooks := .later }
def WindowAllUptoCardSaid : Prop := Claim7.holds Tryz.pinned (.plain (OpenSpec.upto windowAllSpec)) windowAllUptoCard

/-- THE SECOND FORM's CARD OF 'hortatorlaw14.ZeroAll'. -/
def zeroAllUptoCard : Claim7 := { stood := { row := zeroAllUptoRow, standIns := [], harness := (true, "ec70bed69f1296a58cb1ff10a035590e38e75d8edaed5cbe52e999c3ad5a8b9b"), looks := true }, kinds := [], alts := [], laidByText := true, laidKinds := [.data, .data, .data, .data, .sentinel, .sentinel, .pinned], laidTests := true, laidLooks := .later }
def ZeroAllUptoCardSaid : Prop := Claim7.holds Tryz.pinned (.plain (OpenSpec.upto zeroAllSpec)) zeroAllUptoCard

/-- THE SECOND FORM's CARD OF 'hortatorlaw14.SplitFits'. -/
def splitFitsUptoCard : Claim7 := { stood := { row := splitFitsUptoRow, standIns := [], harness := (true, "ec70bed69f1296a58cb1ff10a035590e38e75d8edaed5cbe52e999c3ad5a8b9b"), looks := true }, kinds := [], alts := [], laidByText := true, laidKinds := [.data, .data, .data, .data, .sentinel, .sentinel, .pinned], laidTests := true, laidLooks := .later }
def SplitFitsUptoCardSaid : Prop := Claim7.holds Tryz.pinned (.plain (OpenSpec.upto splitFitsSpec)) splitFitsUptoCard

/-- THE SECOND FORM's CARD OF 'hortatorlaw14.PlanAll'. -/
def planAllUptoCard : Claim7 := { stood := { row := planAllUptoRow, standIns := [], harness := (true, "ec70bed69f1296a58cb1ff10a035590e38e75d8edaed5cbe52e999c3ad5a8b9b"), looks := true }, kinds := [], alts := [], laidByText := true, laidKinds := [.data, .data, .data, .data, .sentinel, .sentinel, .pinned], laidTests := true, laidLooks := .later }
def PlanAllUptoCardSaid : Prop := Claim7.holds Tryz.pinned (.plain (OpenSpec.upto planAllSpec)) planAllUptoCard

/-- THE SECOND FORM's CARD OF 'hortatorlaw14.PlanTurn'. -/
def planTurnUptoCard : Claim7 := { stood := { row := planTurnUptoRow, standIns := [], harness := (true, "ec70bed69f1296a58cb1ff10a035590e38e75d8edaed5cbe52e999c3ad5a8b9b"), looks := true }, kinds := [], alts := [], laidByText := true, laidKinds := [.data, .data, .data, .data, .sentinel, .sentinel, .pinned], laidTests := true, laidLooks := .later }
def PlanTurnUptoCardSaid : Prop := Claim7.holds Tryz.pinned (.plain (OpenSpec.upto planTurnSpec)) planTurnUptoCard

/-- THE SECOND FORM's CARD OF 'hortatorlaw14.WholeFirst'. -/
def wholeFirstUptoCard : Claim7 := { stood := { row := wholeFirstUptoRow, standIns := [], harness := (true, "ec70bed69f1296a58cb1ff10a035590e38e75d8edaed5cbe52e999c3ad5a8b9b"), looks := true }, kinds := [], alts := [], laidByText := true, laidKinds := [.data, .data, .data, .data, .sentinel, .sentinel, .pinned], laidTests := true, laidLooks := .later }
def WholeFirstUptoCardSaid : Prop := Claim7.holds Tryz.pinned (.plain (OpenSpec.upto wholeFirstSpec)) wholeFirstUptoCard

/-- THE SECOND FORM's CARD OF 'hortatorlaw14.WindowShape'. -/
def windowShapeUptoCard : Claim7 := { stood := { row := windowShapeUptoRow, standIns := [], harness := (true, "ec70bed69f1296a58cb1ff10a035590e38e75d8edaed5cbe52e999c3ad5a8b9b"), looks := true }, kinds := [], alts := [], laidByText := true, laidKinds := [.data, .data, .data, .data, .sentinel, .sentinel, .pinned], laidTests := true, laidLooks := .later }
def WindowShapeUptoCardSaid : Prop := Claim7.holds Tryz.pinned (.plain (OpenSpec.upto windowShapeSpec)) windowShapeUptoCard

/-- THE SECOND FORM's CARD OF 'hortatorlaw14.WindowSize'. -/
def windowSizeUptoCard : Claim7 := { stood := { row := windowSizeUptoRow, standIns := [], harness := (true, "ec70bed69f1296a58cb1ff10a035590e38e75d8edaed5cbe52e999c3ad5a8b9b"), looks := true }, kinds := [], alts := [], laidByText := true, laidKinds := [.data, .data, .data, .data, .sentinel, .sentinel, .pinned], laidTests := true, laidLooks := .later }
def WindowSizeUptoCardSaid : Prop := Claim7.holds Tryz.pinned (.plain (OpenSpec.upto windowSizeSpec)) windowSizeUptoCard

/-- THE SECOND FORM's CARD OF 'hortatorlaw14.ZeroShape'. -/
def zeroShapeUptoCard : Claim7 := { stood := { row := zeroShapeUptoRow, standIns := [], harness := (true, "ec70bed69f1296a58cb1ff10a035590e38e75d8edaed5cbe52e999c3ad5a8b9b"), looks := true }, kinds := [], alts := [], laidByText := true, laidKinds := [.data, .data, .data, .data, .sentinel, .sentinel, .pinned], laidTests := true, laidLooks := .later }
def ZeroShapeUptoCardSaid : Prop := Claim7.holds Tryz.pinned (.plain (OpenSpec.upto zeroShapeSpec)) zeroShapeUptoCard

/-- THE SECOND FORM's CARD OF 'hortatorlaw14.SplitNone'. -/
def splitNoneUptoCard : Claim7 := { stood := { row := splitNoneUptoRow, standIns := [], harness := (true, "ec70bed69f1296a58cb1ff10a035590e38e75d8edaed5cbe52e999c3ad5a8b9b"), looks := true }, kinds := [], alts := [], laidByText := true, laidKinds := [.data, .data, .data, .data, .sentinel, .sentinel, .pinned], laidTests := true, laidLooks := .later }
def SplitNoneUptoCardSaid : Prop := Claim7.holds Tryz.pinned (.plain (OpenSpec.upto splitNoneSpec)) splitNoneUptoCard

/-- THE SECOND FORM's CARD OF 'hortatorlaw14.PlanTimes'. -/
def planTimesUptoCard : Claim7 := { stood := { row := planTimesUptoRow, standIns := [], harness := (true, "ec70bed69f1296a58cb1ff10a035590e38e75d8edaed5cbe52e999c3ad5a8b9b"), looks := true }, kinds := [], alts := [], laidByText := true, laidKinds := [.data, .data, .data, .data, .sentinel, .sentinel, .pinned], laidTests := true, laidLooks := .later }
def PlanTimesUptoCardSaid : Prop := Claim7.holds Tryz.pinned (.plain (OpenSpec.upto planTimesSpec)) planTimesUptoCard

/-- THE SECOND FORM's CARD OF 'hortatorlaw14.WindowOrder'. -/
def windowOrderUptoCard : Claim7 := { stood := { row := windowOrderUptoRow, standIns := [], harness := (true, "ec70bed69f1296a58cb1ff10a035590e38e75d8edaed5cbe52e999c3ad5a8b9b"), looks := true }, kinds := [], alts := [], laidByText := true, laidKinds := [.data, .data, .data, .data, .sentinel, .sentinel, .pinned], laidTests := true, laidLooks := .later }
def WindowOrderUptoCardSaid : Prop := Claim7.holds Tryz.pinned (.plain (OpenSpec.upto windowOrderSpec)) windowOrderUptoCard

/-- THE SECOND FORM's CARD OF 'hortatorlaw14.SplitOwn'. -/
def splitOwnUptoCard : Claim7 := { stood := { row := splitOwnUptoRow, standIns := [], harness := (true, "ec70bed69f1296a58cb1ff10a035590e38e75d8edaed5cbe52e999c3ad5a8b9b"), looks := true }, kinds := [], alts := [], laidByText := true, laidKinds := [.data, .data, .data, .data, .sentinel, .sentinel, .pinned], laidTests := true, laidLooks := .later }
def SplitOwnUptoCardSaid : Prop := Claim7.holds Tryz.pinned (.plain (OpenSpec.upto splitOwnSpec)) splitOwnUptoCard

/-- THE SECOND FORM's CARD OF 'hortatorlaw14.WholeWaits'. -/
def wholeWaitsUptoCard : Claim7 := { stood := { row := wholeWaitsUptoRow, standIns := [], harness := (true, "ec70bed69f1296a58cb1ff10a035590e38e75d8edaed5cbe52e999c3ad5a8b9b"), looks := true }, kinds := [], alts := [], laidByText := true, laidKinds := [.data, .data, .data, .data, .sentinel, .sentinel, .pinned], laidTests := true, laidLooks := .later }
def WholeWaitsUptoCardSaid : Prop := Claim7.holds Tryz.pinned (.plain (OpenSpec.upto wholeWaitsSpec)) wholeWaitsUptoCard
end Rows
end Go.Proofs.YtkjghcbnmipgfaaGreatDoor
